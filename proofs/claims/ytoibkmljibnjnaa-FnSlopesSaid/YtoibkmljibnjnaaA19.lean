/- A single as a double is no infinity where it was none. -/
import Derived.Test.YtoibkmljibnjnaaA18
set_option linter.unusedVariables false
set_option linter.unusedSimpArgs false
namespace Go.Ab
open Go.RowKit
theorem aux {a k:Nat} (h:a≤1300) (hk:k < 2 ^ 53):min (a * 4503599627370496 + k) (2047 * 4503599627370496) < 2047 * 4503599627370496:=by
 have h4:a * 4503599627370496≤1300 * 4503599627370496:=Nat.mul_le_mul_right _ h
 have h5:k < 9007199254740992:=hk
 refine Nat.lt_of_le_of_lt (Nat.min_le_left _ _) ?_
 omega
theorem X63 (neg:Bool) (m:Nat) (e:Int) (hm:m < 2 ^ 24) (h1:-149≤e) (h2:e≤200):((Ieee.Format.read Ieee.double (Ieee.Format.nearest Ieee.double neg m e)).isInfinity)=false:=by
 have key:∃ rung,rung < Ieee.double.infRung∧Ieee.Format.nearest Ieee.double neg m e=Ieee.double.word neg rung:=by
  unfold Ieee.Format.nearest
  by_cases h0:m=0
  ·rw [if_pos h0];exact ⟨0,by decide +kernel,rfl⟩
  ·rw [if_neg h0]
   refine ⟨_,?_,rfl⟩
   have hl:m.log2 < 24:=(Nat.log2_lt h0).2 hm
   have hb:Ieee.double.fractionBits=52:=rfl
   have hp:Ieee.double.leastPlace=-1074:=by decide +kernel
   have hbin:Ieee.double.binade=4503599627370496:=by decide +kernel
   have hinf:Ieee.double.infRung=2047 * 4503599627370496:=by decide +kernel
   have hlast:max (e + (m.log2:Int) - (Ieee.double.fractionBits:Int)) Ieee.double.leastPlace=e + m.log2 - 52:=by rw [hb,hp];omega
   simp only [hlast]
   rw [show (e + (m.log2:Int) - 52 - e).toNat=0 from by omega,hp,hbin,hinf]
   have hcut:∀ n,Ieee.Toward.even.cut neg n 0=n:=by
    intro n
    simp [Ieee.Toward.cut]
    omega
   rw [hcut]
   have hs:m <<< (e - (e + (m.log2:Int) - 52)).toNat < 2 ^ 53:=by
    rw [show (e - (e + (m.log2:Int) - 52)).toNat=52 - m.log2 from by omega,Nat.shiftLeft_eq]
    have:m < 2 ^ (m.log2 + 1):=Nat.lt_log2_self
    calc m * 2 ^ (52 - m.log2) < 2 ^ (m.log2 + 1) * 2 ^ (52 - m.log2):=Nat.mul_lt_mul_of_pos_right this (Nat.two_pow_pos _)
     _=2 ^ 53:=by rw [← Nat.pow_add];congr 1;omega
   refine aux ?_ hs
   omega
 obtain ⟨rung,hr,e1⟩:=key
 rw [e1]
 have hw:Ieee.double.word neg rung % Ieee.double.signWeight=rung:=by
  have:Ieee.double.infRung < Ieee.double.signWeight:=by decide +kernel
  unfold Ieee.Format.word
  split
  ·rw [Nat.add_mod_left];exact Nat.mod_eq_of_lt (by omega)
  ·exact Nat.mod_eq_of_lt (by omega)
 unfold Ieee.Format.read
 simp only [hw]
 split
 ·rfl
 ·rfl
theorem X1N (x:Nat):X1Q .f32 .f64 x=true:=by
 unfold X1Q
 simp only [Bool.or_eq_true]
 right
 have hd:FloatKind.f32.decode x=Ieee.Format.read Ieee.single x:=rfl
 split
 ·rename_i neg m e hx
  rw [hd] at hx
  have h:m < 2 ^ 24∧-149≤e∧e≤200:=by
   unfold Ieee.Format.read at hx
   have hp:Ieee.single.leastPlace=-149:=by decide +kernel
   have hbin:Ieee.single.binade=8388608:=by decide +kernel
   have hinf:Ieee.single.infRung=255 * 8388608:=by decide +kernel
   rw [hp,hbin,hinf] at hx
   simp only at hx
   split at hx
   ·cases hx;simp only [Nat.reducePow];omega
   ·split at hx
    ·rename_i h1 h2
     cases hx
     have:x % Ieee.single.signWeight % 8388608 < 8388608:=Nat.mod_lt _ (by omega)
     have:x % Ieee.single.signWeight / 8388608 < 255:=Nat.div_lt_of_lt_mul (by omega)
     simp only [Nat.reducePow];omega
    ·split at hx<;>cases hx
  have:=X63 neg m e h.1 h.2.1 h.2.2
  have h2:(FloatKind.f64.decode (FloatKind.f64.encode (Ieee.Datum.number neg m e))).isInfinity=false:=this
  rw [h2];rfl
 ·rfl
end Go.Ab
