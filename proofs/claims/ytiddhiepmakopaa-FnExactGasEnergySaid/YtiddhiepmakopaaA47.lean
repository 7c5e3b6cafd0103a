/- Values of quotients, comparisons and conversions of floats. -/
import Derived.Test.YtiddhiepmakopaaA46
set_option linter.unusedVariables false
set_option linter.unusedSimpArgs false
namespace Go.Ab
open Ieee
theorem qa1 {X N I:Rat} (h:I * N=1):X * N * I=X:=by grind
theorem qa2 {M P N I:Rat} (h:I * N=1):(2 * (M * P) + N) * I=2 * (M * P * I) + 1:=by grind
theorem qa3 {M P I:Rat}:2 * (M * P) * I=2 * (M * P * I):=by grind
theorem qa4 {X N I:Rat} (h:I * N=1):(X * N + N) * I=X + 1:=by grind
theorem qa5 {A d z:Rat} (h:d * (2 * A)=1):2 * (A * z * d)=z:=by grind
theorem qa6 {A B d:Rat} (h:2 * A=B):2 * (A * d)=B * d:=by grind
theorem qa7 {A B C D E:Rat} (h:A≤B) (h1:2 * A=C) (h2:2 * B=D):C≤D:=by grind
theorem qa8 {X Y z B:Rat} (h:X * z≤(Y + 1) * z) (h1:Y * z=B):X * z≤B + z:=by grind
theorem qa9 {X Y z B:Rat} (h:Y * z≤(X + 1) * z) (h1:Y * z=B):B≤X * z + z:=by grind
theorem qa10 {X z y d:Rat} {b:Bool} (k1:X * z≤y + z) (k2:y≤X * z + z) (h:z≤d):Nr (sg b * (X * z)) (sg b * y) d:=by
 unfold Nr
 cases b<;>simp only [sg,if_true,if_false,Bool.false_eq_true]<;>grind
theorem X6W {D:Nat} {d e:Datum} {a b:Rat} (hd:vl d=some a) (he:vl e=some b) (hb:b≠0) :
  ∃ r v,d.quotient (D + 1) e=some r∧vl r=some v∧∃ w,w * b=a∧(∀ B,-B≤w→w≤B→Nr v w (B * (2:Rat) ^ (-(D:Int) - 1))):=by
 cases d with
 | nan s t=>simp [vl] at hd
 | infinity s=>simp [vl] at hd
 | number s m i =>
  cases e with
  | nan s t=>simp [vl] at he
  | infinity s=>simp [vl] at he
  | number t n j =>
   simp only [vl,Option.some.injEq] at hd he
   have hn:n≠0:=by
    intro h;subst h;apply hb;rw [← he];simp
   simp only [Datum.quotient,if_neg hn]
   generalize hmore:D + 1 + n.log2 - m.log2=more
   refine ⟨_,_,rfl,rfl,?_⟩
   have npos:0 < n:=by omega
   generalize hq:m <<< more / n=Q
   generalize hr:m <<< more % n=R
   have hdm:n * Q + R=m <<< more:=by rw [← hq,← hr];exact Nat.div_add_mod _ _
   have hR:R < n:=by rw [← hr];exact Nat.mod_lt _ npos
   rw [Nat.shiftLeft_eq] at hdm
   have nq:(0:Rat) < (n:Rat):=Rat.natCast_pos.2 npos
   refine ⟨sg (s ^^ t) * ((m:Rat) * (n:Rat)⁻¹ * (2:Rat)^(i - j)),?_,?_⟩
   ·rw [← hd,← he,X6v,show i=(i - j) + j from by omega,Xf,show (i - j) + j - j=i - j from by omega]
    have h1:=Rat.inv_mul_cancel (n:Rat) (by grind)
    have h2:=X7I t
    grind
   ·intro B hB1 hB2
    by_cases hm:m=0
    ·subst hm
     have hz:n * Q + R=0:=by rw [hdm];simp
     have hR0:R=0:=by omega
     have hQ0:Q=0:=by
      rcases Nat.mul_eq_zero.1 (show n * Q=0 by omega) with h | h
      ·omega
      ·exact h
     subst hQ0 hR0
     have h0:(0:Rat)≤B:=by simp at hB1 hB2;grind
     have:=Rat.mul_nonneg h0 (Rat.le_of_lt (Xi (-(D:Int) - 1)))
     unfold Nr
     simp
     grind
    have hE:(2:Rat)^(i - j - (more:Int) - 1) * (2 * ((2 ^ more:Nat):Rat))=(2:Rat)^(i - j):=by
     rw [show i - j=(i - j - (more:Int) - 1) + 1 + (more:Int) from by omega,Xf,Xf,X17,Rat.zpow_one,show i - j - (more:Int) - 1 + 1 + more - more - 1=i - j - (more:Int) - 1 from by omega]
     grind
    generalize hz:(2:Rat)^(i - j - (more:Int) - 1)=z at *
    have zpos:0 < z:=by rw [← hz];exact Xi _
    generalize hst:(R != 0).toNat=st
    have hst1:(st=0∧R=0)∨(st=1∧1≤R):=by
     rw [← hst]
     by_cases h0:R=0
     ·left;subst h0;exact ⟨rfl,rfl⟩
     ·right;exact ⟨by simp [h0],by omega⟩
    have c1:(2 * Q + st) * n≤2 * (m * 2 ^ more) + n:=by
     rw [← hdm,Nat.add_mul,Nat.mul_add,Nat.mul_assoc,Nat.mul_comm Q n]
     rcases hst1 with ⟨h1,h2⟩ | ⟨h1,h2⟩<;>subst h1<;>omega
    have c2:2 * (m * 2 ^ more)≤(2 * Q + st) * n + n:=by
     rw [← hdm,Nat.add_mul,Nat.mul_add,Nat.mul_assoc,Nat.mul_comm Q n]
     rcases hst1 with ⟨h1,h2⟩ | ⟨h1,h2⟩<;>subst h1<;>omega
    have c3:2 ^ D * n≤m * 2 ^ more:=by
     have h1:2 ^ m.log2 * 2 ^ more≤m * 2 ^ more:=Nat.mul_le_mul_right _ (Nat.log2_self_le hm)
     have h2:n < 2 ^ (n.log2 + 1):=Nat.lt_log2_self
     have h3:2 ^ D * n≤2 ^ D * 2 ^ (n.log2 + 1):=Nat.mul_le_mul_left _ (by omega)
     rw [← Nat.pow_add] at h1 h3
     have h4:2 ^ (D + (n.log2 + 1))≤2 ^ (m.log2 + more):=Nat.pow_le_pow_right (by omega) (by omega)
     omega
    have d1:(((2 * Q + st) * n:Nat):Rat)≤((2 * (m * 2 ^ more) + n:Nat):Rat):=Rat.natCast_le_natCast.2 c1
    have d2:((2 * (m * 2 ^ more):Nat):Rat)≤(((2 * Q + st) * n + n:Nat):Rat):=Rat.natCast_le_natCast.2 c2
    have d3:((2 ^ D * n:Nat):Rat)≤((m * 2 ^ more:Nat):Rat):=Rat.natCast_le_natCast.2 c3
    simp only [Rat.natCast_mul (2 * Q + st),Rat.natCast_mul _ n,Rat.natCast_mul m,Rat.natCast_mul 2 (m * 2 ^ more),Rat.natCast_add _ n,Rat.natCast_ofNat] at d1 d2 d3
    have ninv:(n:Rat)⁻¹ * (n:Rat)=1:=Rat.inv_mul_cancel (n:Rat) (by grind)
    have ninv0:0≤(n:Rat)⁻¹:=Rat.le_of_lt (Rat.inv_pos.2 nq)
    generalize hX:((2 * Q + st:Nat):Rat)=X at *
    generalize hP:((2 ^ more:Nat):Rat)=P at *
    generalize hI:(n:Rat)⁻¹=I at *
    generalize hN:(n:Rat)=N at *
    generalize hM:(m:Rat)=M at *
    generalize hDD:((2 ^ D:Nat):Rat)=DD at *
    have e1:=Rat.mul_le_mul_of_nonneg_right d1 ninv0
    have e2:=Rat.mul_le_mul_of_nonneg_right d2 ninv0
    have e3:=Rat.mul_le_mul_of_nonneg_right d3 ninv0
    have t1:X * N * I=X:=qa1 ninv
    have t2:(2 * (M * P) + N) * I=2 * (M * P * I) + 1:=qa2 ninv
    have t3:2 * (M * P) * I=2 * (M * P * I):=qa3
    have t4:(X * N + N) * I=X + 1:=qa4 ninv
    have t5:DD * N * I=DD:=qa1 ninv
    have f1:X≤2 * (M * P * I) + 1:=by rw [← t1,← t2];exact e1
    have f2:2 * (M * P * I)≤X + 1:=by rw [← t3,← t4];exact e2
    have f3:DD≤M * P * I:=by rw [← t5];exact e3
    have g1:=Rat.mul_le_mul_of_nonneg_right f1 (Rat.le_of_lt zpos)
    have g2:=Rat.mul_le_mul_of_nonneg_right f2 (Rat.le_of_lt zpos)
    have g3:=Rat.mul_le_mul_of_nonneg_right f3 (Rat.le_of_lt zpos)
    have hw:2 * (M * P * I) * z=M * I * (2:Rat)^(i - j):=by rw [← hE];grind
    have hDz:(2:Rat) ^ (-(D:Int) - 1) * (2 * DD)=1:=by
     rw [← hDD,← X17,show (-(D:Int) - 1)=-((D:Int) + 1) from by omega,Rat.zpow_neg]
     have:(2:Rat) ^ ((D:Int) + 1)=2 * (2:Rat)^(D:Int):=by rw [Xf,Rat.zpow_one];grind
     rw [this]
     exact Rat.inv_mul_cancel _ (by have:=Xi (D:Int);grind)
    have hdz:=Xi (-(D:Int) - 1)
    generalize (2:Rat) ^ (-(D:Int) - 1)=dz at *
    generalize (2:Rat)^(i - j)=y at *
    have hz1:z≤M * I * y * dz:=by
     have h3:=Rat.mul_le_mul_of_nonneg_right g3 (Rat.le_of_lt hdz)
     have h4:2 * (DD * z * dz)=z:=qa5 hDz
     have h5:2 * (M * P * I * z * dz)=M * I * y * dz:=qa6 (by rw [← hw];exact (Rat.mul_assoc ..).symm)
     exact qa7 (E:=0) h3 h4 h5
    have hMB:M * I * y≤B:=by
     cases hs:(s ^^ t)<;>simp only [hs,sg,if_true,if_false,Bool.false_eq_true] at hB1 hB2<;>grind
    have hz2:z≤B * dz:=by
     have:=Rat.mul_le_mul_of_nonneg_right hMB (Rat.le_of_lt hdz)
     exact Rat.le_trans hz1 this
    have k1:X * z≤M * I * y + z:=qa8 g1 hw
    have k2:M * I * y≤X * z + z:=qa9 g2 hw
    exact qa10 k1 k2 hz2
theorem quoV {k:FloatKind} {x y:Nat} {a b:Rat} (hx:Vl k x a) (hy:Vl k y b) (hb:b≠0) {B w:Rat} (hw:w * b=a) (h1:-B≤w) (h2:w≤B) (hB:2 * B < (2:Rat)^(topE k)) :
  ∃ q,Vl k (fop .quo k x y) q∧Nr q w (3 * B * uK k + tK k):=by
 obtain ⟨r,v,r1,r2,w',hw',r3⟩:=X6W (D:=k.format.fractionBits + 1) hx hy hb
 have hww:w'=w:=by
  have h:=Rat.mul_inv_cancel b hb
  have e1:w' * b * b⁻¹=w * b * b⁻¹:=by rw [hw',hw]
  rw [Rat.mul_assoc,Rat.mul_assoc,h,Rat.mul_one,Rat.mul_one] at e1
  exact e1
 subst hww
 have r3:=r3 B h1 h2
 have B0:0≤B:=by grind
 have he:(2:Rat) ^ (-((k.format.fractionBits + 1:Nat):Int) - 1)≤uK k:=by cases k<;>decide +kernel
 have hu:uK k≤1 / 4:=by cases k<;>decide +kernel
 have he2:=Rat.mul_le_mul_of_nonneg_left he B0
 have hu2:=Rat.mul_le_mul_of_nonneg_left hu B0
 generalize B * (2:Rat) ^ (-((k.format.fractionBits + 1:Nat):Int) - 1)=z at *
 unfold Nr at r3
 obtain ⟨q,q1,q2⟩:=X2F k (B:=2 * B) r2 (by grind) (by grind) hB
 rw [X7l,r1]
 refine ⟨q,q1,?_⟩
 unfold Nr at *
 grind
theorem X49 {a b e:Rat} (he:0 < e):a * e < b * e↔a < b:=Rat.mul_lt_mul_right he
theorem X2b {d e:Datum} {a b:Rat} (hd:vl d=some a) (he:vl e=some b):d.order e=some (if a < b then .lt else if a=b then .eq else .gt):=by
 cases d with
 | nan s t=>simp [vl] at hd
 | infinity s=>simp [vl] at hd
 | number s m i =>
  cases e with
  | nan s t=>simp [vl] at he
  | infinity s=>simp [vl] at he
  | number t n j =>
   simp only [vl,Option.some.injEq] at hd he
   simp only [Datum.order]
   have hz:=Xi (min i j)
   have ha:((signed s m (i - min i j).toNat:Int):Rat) * (2:Rat)^(min i j)=a:=by
    rw [X1N,← hd]
    have e1:(2:Rat)^i=(2:Rat)^(((i - min i j).toNat:Nat):Int) * (2:Rat)^(min i j):=by rw [← Xf];congr 1;omega
    rw [e1];grind
   have hb:((signed t n (j - min i j).toNat:Int):Rat) * (2:Rat)^(min i j)=b:=by
    rw [X1N,← he]
    have e1:(2:Rat)^j=(2:Rat)^(((j - min i j).toNat:Nat):Int) * (2:Rat)^(min i j):=by rw [← Xf];congr 1;omega
    rw [e1];grind
   generalize signed s m (i - min i j).toNat=A at *
   generalize signed t n (j - min i j).toNat=B at *
   generalize (2:Rat)^(min i j)=z at *
   congr 1
   rcases Int.lt_trichotomy A B with h | h | h
   ·have hc:compare A B = .lt:=Int.compare_eq_lt.2 h
    have:a < b:=by rw [← ha,← hb,X49 hz];exact Rat.intCast_lt_intCast.2 h
    rw [hc,if_pos this]
   ·subst h
    have hc:compare A A = .eq:=by simp
    have:a=b:=by rw [← ha,← hb]
    rw [hc,if_neg (by grind),if_pos this]
   ·have hc:compare A B = .gt:=Int.compare_eq_gt.2 h
    have:b < a:=by rw [← ha,← hb,X49 hz];exact Rat.intCast_lt_intCast.2 h
    rw [hc,if_neg (by grind),if_neg (by grind)]
theorem lssV {k:FloatKind} {x y:Nat} {a b:Rat} (hx:Vl k x a) (hy:Vl k y b):fcmp .lss k x y=decide (a < b):=by
 show ((k.format.read x).order (k.format.read y) == some .lt)=_
 rw [X2b hx hy]
 by_cases h:a < b
 ·simp [h]
 ·by_cases h2:a=b
  ·subst h2;simp
  ·simp [h,h2]
theorem gtrV {k:FloatKind} {x y:Nat} {a b:Rat} (hx:Vl k x a) (hy:Vl k y b):fcmp .gtr k x y=decide (b < a):=by
 show ((k.format.read x).order (k.format.read y) == some .gt)=_
 rw [X2b hx hy]
 by_cases h:a < b
 ·have:¬ b < a:=by grind
  simp [h,this]
 ·by_cases h2:a=b
  ·subst h2;simp
  ·have:b < a:=by grind
   simp [h,h2,this]
theorem eqlV {k:FloatKind} {x y:Nat} {a b:Rat} (hx:Vl k x a) (hy:Vl k y b):fcmp .eql k x y=decide (a=b):=by
 show ((k.format.read x).order (k.format.read y) == some .eq)=_
 rw [X2b hx hy]
 by_cases h:a < b
 ·have:¬ a=b:=by grind
  simp [h,this]
 ·by_cases h2:a=b
  ·subst h2;simp
  ·simp [h,h2]
theorem geqV {k:FloatKind} {x y:Nat} {a b:Rat} (hx:Vl k x a) (hy:Vl k y b):fcmp .geq k x y=decide (b≤a):=by
 show ((k.format.read x).order (k.format.read y) == some .gt || (k.format.read x).order (k.format.read y) == some .eq)=_
 rw [X2b hx hy]
 by_cases h:a < b
 ·have:¬ b≤a:=by grind
  simp [h,this]
 ·by_cases h2:a=b
  ·subst h2;simp
  ·have:b≤a:=by grind
   simp [h,h2,this]
theorem X6X {d:Datum} {v:Rat} {S:Int} (h:vl d=some v) (h1:-(2:Rat)^(S+1) < v) (h2:v < (2:Rat)^(S+1)):X3z d S:=by
 intro s m e hd
 subst hd
 simp only [vl,Option.some.injEq] at h
 by_cases h0:m=0
 ·exact .inl h0
 ·right
  have:=X6w (K:=S + 1) (e:=e) h0 (by
   subst h
   cases s<;>simp only [sg,if_true,if_false,Bool.false_eq_true] at h1 h2<;>grind)
  omega
theorem X5D {x:Nat} {v:Rat} (h:Vl .f64 x v) (h1:-1329227995784915872903807060280344576≤v) (h2:v≤1329227995784915872903807060280344576):XB .f64 .f32 x=true:=by
 have e:(1329227995784915872903807060280344576:Rat) < (2:Rat)^((120:Int) + 1):=by decide +kernel
 exact X6K (S:=120) (X6X h (by grind) (by grind)) (by omega)
end Go.Ab
