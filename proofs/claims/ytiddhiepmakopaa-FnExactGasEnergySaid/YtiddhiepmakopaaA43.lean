/- A positive finite single, widened, is a normal double. -/
import Derived.Test.YtiddhiepmakopaaA42
import Derived.Test.YtiddhiepmakopaaA38
set_option linter.unusedVariables false
set_option linter.unusedSimpArgs false
namespace Go.Ab
open Ieee
theorem X5u {m:Nat} (h0:m≠0) (hl:m.log2≤52) {p:Int} (hp:-1022≤p + (m.log2:Int)) (hp2:p + (m.log2:Int)≤1023) :
  double.nearest false m p=(p + (m.log2:Int) + 1022).toNat * 4503599627370496 + m * 2 ^ (52 - m.log2):=by
 have b1:2 ^ 52≤m * 2 ^ (52 - m.log2):=by
  have:=Nat.mul_le_mul_right (2 ^ (52 - m.log2)) (Nat.log2_self_le h0)
  rwa [← Nat.pow_add,show m.log2 + (52 - m.log2)=52 from by omega] at this
 have b2:m * 2 ^ (52 - m.log2) < 2 ^ 53:=by
  have:=Nat.mul_lt_mul_of_pos_right (X3e m) (Nat.two_pow_pos (52 - m.log2))
  rwa [← Nat.pow_add,show m.log2 + 1 + (52 - m.log2)=53 from by omega] at this
 unfold Format.nearest
 rw [if_neg h0,show double.leastPlace=-1074 from rfl,show double.fractionBits=52 from rfl,show double.binade=4503599627370496 from rfl,show double.infRung=9218868437227405312 from rfl]
 have hlast:max (p + (m.log2:Int) - ((52:Nat):Int)) (-1074)=p + (m.log2:Int) - 52:=by omega
 simp only [hlast]
 rw [show (p - (p + (m.log2:Int) - 52)).toNat=52 - m.log2 from by omega,show (p + (m.log2:Int) - 52 - p).toNat=0 from by omega,show (p + (m.log2:Int) - 52 - -1074).toNat=(p + (m.log2:Int) + 1022).toNat from by omega,Nat.shiftLeft_eq]
 generalize m * 2 ^ (52 - m.log2)=M at *
 have hcut:Toward.even.cut false M 0=M:=by
  unfold Toward.cut
  simp [Nat.mod_one]
 rw [hcut]
 unfold Format.word
 rw [if_neg (by simp)]
 have hE:(p + (m.log2:Int) + 1022).toNat≤2045:=by omega
 have:(p + (m.log2:Int) + 1022).toNat * 4503599627370496≤2045 * 4503599627370496:=Nat.mul_le_mul_right _ hE
 have e:(2:Nat) ^ 53=9007199254740992:=by decide +kernel
 rw [e] at b2
 omega
theorem X3k {m:Nat} (h0:m≠0) (hl:m.log2≤52) {p:Int} (hp:-1022≤p + (m.log2:Int)) (hp2:p + (m.log2:Int)≤1023) :
  Nw (double.nearest false m p)∧(fld (double.nearest false m p):Int)=p + (m.log2:Int) + 1023:=by
 have b1:2 ^ 52≤m * 2 ^ (52 - m.log2):=by
  have:=Nat.mul_le_mul_right (2 ^ (52 - m.log2)) (Nat.log2_self_le h0)
  rwa [← Nat.pow_add,show m.log2 + (52 - m.log2)=52 from by omega] at this
 have b2:m * 2 ^ (52 - m.log2) < 2 ^ 53:=by
  have:=Nat.mul_lt_mul_of_pos_right (X3e m) (Nat.two_pow_pos (52 - m.log2))
  rwa [← Nat.pow_add,show m.log2 + 1 + (52 - m.log2)=53 from by omega] at this
 rw [X5u h0 hl hp hp2]
 generalize m * 2 ^ (52 - m.log2)=M at *
 have e:(2:Nat) ^ 53=9007199254740992:=by decide +kernel
 have e2:(2:Nat) ^ 52=4503599627370496:=by decide +kernel
 rw [e] at b2
 rw [e2] at b1
 clear e e2
 generalize hE:(p + (m.log2:Int) + 1022).toNat=E
 have:E≤2045:=by omega
 unfold Nw fld
 omega
theorem X3B {x:Nat} (h1:fcmp .gtr .f32 x 0=true) (h2:fcmp .eql .f32 (fop .sub .f32 x x) 0=true):Nw (fcv .f32 .f64 x)∧800≤fld (fcv .f32 .f64 x)∧fld (fcv .f32 .f64 x)≤1200:=by
 have r0:FloatKind.f32.format.read 0 = .number false 0 (-149):=by decide +kernel
 have h1':((FloatKind.f32.format.read x).order (FloatKind.f32.format.read 0) == some .gt)=true:=h1
 rw [beq_iff_eq,r0] at h1'
 cases hr:FloatKind.f32.format.read x with
 | nan s t=>rw [hr] at h1';cases h1'
 | infinity s =>
  exfalso
  have hs:fop .sub .f32 x x=Xj .f32:=by
   show (((FloatKind.f32.format.read x).sum (FloatKind.f32.format.read x).opposite).map FloatKind.f32.format.write).getD _=_
   rw [hr]
   cases s<;>rfl
  rw [hs] at h2
  revert h2
  decide +kernel
 | number s m e =>
  rw [hr] at h1'
  simp only [Datum.order,Option.some.injEq] at h1'
  rw [Int.compare_eq_gt] at h1'
  unfold signed at h1'
  rw [Nat.shiftLeft_eq,Nat.shiftLeft_eq,Nat.zero_mul] at h1'
  have hs:s=false:=by
   cases s with
   | false=>rfl
   | true =>
    exfalso
    simp only [if_true,Bool.false_eq_true,if_false] at h1'
    generalize m * 2 ^ (e - min e (-149)).toNat=z at h1'
    omega
  subst hs
  have m0:m≠0:=by intro h;subst h;simp at h1'
  obtain ⟨p1,p2,p3⟩:=X1v (x:=x) hr
  have hf:fcv .f32 .f64 x=double.nearest false m e:=by
   rw [X1Y]
   have hr':single.read x = .number false m e:=hr
   rw [hr']
   rfl
  have hl:m.log2≤23:=X1K p1 m0
  rw [hf]
  obtain ⟨q1,q2⟩:=X3k (p:=e) m0 (by omega) (by omega) (by omega)
  exact ⟨q1,by omega,by omega⟩
end Go.Ab
