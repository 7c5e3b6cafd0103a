/- Bounds on the sizes of floats. -/
import Derived.Test.YtiddhiepmakopaaA21
set_option linter.unusedVariables false
set_option linter.unusedSimpArgs false
namespace Go.Ab
open Go.RowKit Ieee
def X3z (d:Datum) (S:Int):Prop:=∀ s m e,d = .number s m e→m=0∨e + (m.log2:Int)≤S
theorem X7x (neg:Bool) (n drop:Nat):Toward.even.cut neg n drop≤n / 2 ^ drop + 1:=by
 have hb:∀ b:Bool,b.toNat≤1:=by intro b;cases b<;>decide
 unfold Toward.cut
 simp only [Nat.shiftLeft_eq,Nat.one_mul]
 rcases Nat.le_total drop (n.log2 + 2) with h | h
 ·rw [Nat.min_eq_left h]
  exact Nat.add_le_add_left (hb _) _
 ·rw [Nat.min_eq_right h]
  have:n / 2 ^ (n.log2 + 2)=0:=Nat.div_eq_of_lt (Nat.lt_trans Nat.lt_log2_self (Nat.pow_lt_pow_right (by omega) (by omega)))
  rw [this]
  exact Nat.add_le_add (Nat.zero_le _) (hb _)
theorem X6n (f:Format) (neg:Bool) (m:Nat) (e S:Int) (h0:m≠0) (hS:e + (m.log2:Int)≤S) (hl:f.leastPlace≤S - f.fractionBits) :
  ∃ r,r≤(S - f.fractionBits - f.leastPlace).toNat * 2 ^ f.fractionBits + 2 ^ (f.fractionBits + 1) + 1∧r≤f.infRung∧f.nearest neg m e=f.word neg r:=by
 unfold Format.nearest
 rw [if_neg h0]
 refine ⟨_,?_,Nat.min_le_right _ _,rfl⟩
 refine Nat.le_trans (Nat.min_le_left _ _) ?_
 generalize hlast:max (e + (m.log2:Int) - (f.fractionBits:Int)) f.leastPlace=last
 have h1:last≤S - f.fractionBits:=by omega
 have h2:e + (m.log2:Int) - f.fractionBits≤last:=by omega
 have hkept:Toward.even.cut neg (m <<< (e - last).toNat) (last - e).toNat≤2 ^ (f.fractionBits + 1) + 1:=by
  refine Nat.le_trans (X7x _ _ _) (Nat.add_le_add_right ?_ 1)
  have hm:m < 2 ^ (m.log2 + 1):=Nat.lt_log2_self
  refine Nat.le_of_lt (Nat.div_lt_of_lt_mul ?_)
  rw [Nat.shiftLeft_eq,← Nat.pow_add]
  refine Nat.lt_of_lt_of_le (Nat.mul_lt_mul_of_pos_right hm (Nat.two_pow_pos _)) ?_
  rw [← Nat.pow_add]
  exact Nat.pow_le_pow_right (by omega) (by omega)
 have hb:f.binade=2 ^ f.fractionBits:=rfl
 rw [hb,Nat.add_assoc]
 refine Nat.add_le_add (Nat.mul_le_mul_right _ ?_) hkept
 omega
theorem X45 (f:Format) (neg:Bool) {r:Nat} (hr:r < f.signWeight):(f.word neg r) % f.signWeight=r:=by
 unfold Format.word
 split
 ·rw [Nat.add_mod_left];exact Nat.mod_eq_of_lt hr
 ·exact Nat.mod_eq_of_lt hr
theorem X6K {x:Nat} {S:Int} (h:X3z (FloatKind.f64.decode x) S) (hS:S≤120):XB .f64 .f32 x=true:=by
 unfold XB
 simp only [Bool.or_eq_true]
 right
 split
 ·rename_i neg m e hx
  have hm:=h neg m e hx
  have hp:single.leastPlace=-149:=by decide +kernel
  have hb:single.binade=8388608:=by decide +kernel
  have hi:single.infRung=255 * 8388608:=by decide +kernel
  have hw:single.infRung < single.signWeight:=by decide +kernel
  have key:∃ r:Nat,r < single.infRung∧single.nearest neg m e=single.word neg r:=by
   by_cases h0:m=0
   ·exact ⟨0,by decide +kernel,by unfold Format.nearest;rw [if_pos h0]⟩
   ·have hfb:single.fractionBits=23:=rfl
    obtain ⟨r,h1,h2,h3⟩:=X6n single neg m e 120 h0 (by have:=hm.resolve_left h0;omega) (by rw [hp,hfb];omega)
    refine ⟨r,?_,h3⟩
    rw [hp,hfb] at h1
    rw [hi]
    have e1:((120:Int) - ((23:Nat):Int) - -149).toNat=246:=by decide
    rw [e1] at h1
    simp only [Nat.reducePow,Nat.reduceMul,Nat.reduceAdd] at h1
    omega
  obtain ⟨r,h1,h2⟩:=key
  have:(FloatKind.f32.decode (FloatKind.f32.encode (Datum.number neg m e))).isInfinity=false:=by
   show (single.read (single.nearest neg m e)).isInfinity=false
   rw [h2]
   unfold Format.read
   simp only [X45 single neg (Nat.lt_trans h1 hw)]
   split
   ·rfl
   ·rfl
  rw [this];rfl
 ·rfl
theorem X3z.mono {d:Datum} {S T:Int} (h:X3z d S) (hS:S≤T):X3z d T:=fun s m e he=>(h s m e he).imp id fun h=>Int.le_trans h hS
theorem X1v {x:Nat} {neg:Bool} {m:Nat} {e:Int} (hx:single.read x = .number neg m e):m < 2 ^ 24∧-149≤e∧e≤104:=by
 unfold Format.read at hx
 have hp:single.leastPlace=-149:=by decide +kernel
 have hbin:single.binade=8388608:=by decide +kernel
 have hinf:single.infRung=255 * 8388608:=by decide +kernel
 rw [hp,hbin,hinf] at hx
 simp only at hx
 split at hx
 ·cases hx;simp only [Nat.reducePow];omega
 ·split at hx
  ·rename_i h1 h2
   cases hx
   have:x % single.signWeight % 8388608 < 8388608:=Nat.mod_lt _ (by omega)
   have:x % single.signWeight / 8388608 < 255:=Nat.div_lt_of_lt_mul (by omega)
   simp only [Nat.reducePow];omega
  ·split at hx<;>cases hx
theorem X1Y (x:Nat):fcv .f32 .f64 x=match single.read x with
  | .nan .. => Xj .f64
  | y=>double.write y:=rfl
end Go.Ab
