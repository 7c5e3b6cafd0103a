/- Values of sums, products, quotients and conversions of floats, with their errors. -/
import Derived.Test.YtiddhiepmakopaaA45
set_option linter.unusedVariables false
set_option linter.unusedSimpArgs false
namespace Go.Ab
open Ieee
def uK:FloatKind→Rat
 | .f32=>1 / 16777216
 | .f64=>1 / 9007199254740992
def tK:FloatKind→Rat
 | .f32=>(2:Rat) ^ (-150:Int)
 | .f64=>(2:Rat) ^ (-1075:Int)
def topE:FloatKind→Int
 | .f32=>127
 | .f64=>1023
def Vl (k:FloatKind) (w:Nat) (q:Rat):Prop:=vl (k.format.read w)=some q
def Nr (x y d:Rat):Prop:=y - d≤x∧x≤y + d
theorem X6v (s t:Bool):sg (s ^^ t)=sg s * sg t:=by cases s<;>cases t<;>decide +kernel
theorem X7I (s:Bool):sg s * sg s=1:=by cases s<;>decide +kernel
theorem X5f (k:FloatKind):0 < tK k:=by cases k<;>exact Xi _
theorem X7J (k:FloatKind):tK k≤1 / 1000000000000000000000000000000:=by cases k<;>decide +kernel
theorem X2E (m:Nat) (e:Int):(0:Rat)≤(m:Rat) * (2:Rat)^e:=Rat.mul_nonneg Rat.natCast_nonneg (Rat.le_of_lt (Xi e))
theorem X6w {m:Nat} {e K:Int} (h0:m≠0) (h:(m:Rat) * (2:Rat)^e < (2:Rat)^K):e + (m.log2:Int) < K:=by
 refine X7H (Rat.not_le.1 fun hc => ?_)
 have h1:((2 ^ m.log2:Nat):Rat)≤(m:Rat):=Rat.natCast_le_natCast.2 (Nat.log2_self_le h0)
 have h2:=Rat.mul_le_mul_of_nonneg_right h1 (Rat.le_of_lt (Xi e))
 rw [← X17,← Xf,Int.add_comm] at h2
 grind
theorem X6T (k:FloatKind) (neg:Bool) (m:Nat) (e:Int) (h:(m:Rat) * (2:Rat)^e < (2:Rat)^(topE k)) :
  ∃ q,vl (k.format.read (k.format.nearest neg m e))=some (sg neg * q)∧Nr q ((m:Rat) * (2:Rat)^e) ((m:Rat) * (2:Rat)^e * uK k + tK k):=by
 have hu:∀ x:Rat,0≤x→0≤x * uK k:=fun x hx=>Rat.mul_nonneg hx (by cases k<;>decide +kernel)
 have hfb:1≤k.format.fractionBits:=by cases k<;>decide
 by_cases h0:m=0
 ·subst h0
  have hn:k.format.nearest neg 0 e=k.format.nearest neg 0 0:=by unfold Format.nearest;rw [if_pos rfl,if_pos rfl]
  obtain ⟨q,q1,q2,q3,-⟩:=X3l k.format neg 0 (k.format.leastPlace) hfb (by cases k<;>decide +kernel)
  have hn2:k.format.nearest neg 0 k.format.leastPlace=k.format.nearest neg 0 e:=by unfold Format.nearest;rw [if_pos rfl,if_pos rfl]
  rw [hn2] at q1
  refine ⟨q,q1,?_⟩
  have e1:(2:Rat) ^ (max (k.format.leastPlace + (Nat.log2 0:Nat) - k.format.fractionBits) k.format.leastPlace)=2 * tK k:=by cases k<;>decide +kernel
  rw [e1] at q2 q3
  have:=X5f k
  simp at q2 q3
  unfold Nr
  simp
  grind
 ·have hl:=X6w h0 h
  obtain ⟨q,q1,q2,q3,-⟩:=X3l k.format neg m e hfb (by
   cases k
   ·have e1:FloatKind.f32.format.leastPlace=-149:=by decide +kernel
    have e2:FloatKind.f32.format.fractionBits=23:=rfl
    have e3:2 ^ FloatKind.f32.format.exponentBits=256:=rfl
    rw [e1,e2,e3];unfold topE at hl;simp only at hl;omega
   ·have e1:FloatKind.f64.format.leastPlace=-1074:=by decide +kernel
    have e2:FloatKind.f64.format.fractionBits=52:=rfl
    have e3:2 ^ FloatKind.f64.format.exponentBits=2048:=rfl
    rw [e1,e2,e3];unfold topE at hl;simp only at hl;omega)
  refine ⟨q,q1,?_⟩
  have hb:(2:Rat) ^ (max (e + m.log2 - k.format.fractionBits) k.format.leastPlace)≤2 * ((m:Rat) * (2:Rat)^e * uK k + tK k):=by
   have ht:=X5f k
   rcases Int.le_total (e + m.log2 - k.format.fractionBits) k.format.leastPlace with hm | hm
   ·rw [Int.max_eq_right hm]
    have e1:(2:Rat) ^ k.format.leastPlace=2 * tK k:=by cases k<;>decide +kernel
    have:=hu _ (X2E m e)
    rw [e1];grind
   ·rw [Int.max_eq_left hm,show e + (m.log2:Int) - k.format.fractionBits=-(k.format.fractionBits:Int) + ((m.log2:Int) + e) from by omega,Xf,Xf,X17]
    have e1:(2:Rat) ^ (-(k.format.fractionBits:Int))=2 * uK k:=by cases k<;>decide +kernel
    rw [e1]
    have h1:((2 ^ m.log2:Nat):Rat)≤(m:Rat):=Rat.natCast_le_natCast.2 (Nat.log2_self_le h0)
    have h2:=Rat.mul_le_mul_of_nonneg_right h1 (Rat.le_of_lt (Xi e))
    have h3:=Rat.mul_le_mul_of_nonneg_right h2 (show 0≤uK k by cases k<;>decide +kernel)
    grind
  generalize (2:Rat) ^ (max (e + m.log2 - k.format.fractionBits) k.format.leastPlace)=z at *
  unfold Nr
  grind
theorem X2F (k:FloatKind) {d:Datum} {v B:Rat} (hd:vl d=some v) (h1:-B≤v) (h2:v≤B) (hB:B < (2:Rat)^(topE k)) :
  ∃ q,Vl k (k.format.write d) q∧Nr q v (B * uK k + tK k):=by
 cases d with
 | nan s t=>simp [vl] at hd
 | infinity s=>simp [vl] at hd
 | number s m e =>
  simp only [vl,Option.some.injEq] at hd
  have hn:=X2E m e
  have hle:(m:Rat) * (2:Rat)^e≤B:=by
   subst hd;cases s<;>simp only [sg,if_true,if_false,Bool.false_eq_true] at h1 h2<;>grind
  obtain ⟨q,q1,q2⟩:=X6T k s m e (by grind)
  refine ⟨_,q1,?_⟩
  have hu:(m:Rat) * (2:Rat)^e * uK k≤B * uK k:=Rat.mul_le_mul_of_nonneg_right hle (by cases k<;>decide +kernel)
  subst hd
  unfold Nr at *
  cases s<;>simp only [sg,if_true,if_false,Bool.false_eq_true]<;>grind
theorem X1N (s:Bool) (m u:Nat):((signed s m u:Int):Rat)=sg s * ((m:Rat) * (2:Rat)^(u:Int)):=by
 unfold signed sg
 rw [X17,← Rat.natCast_mul,Nat.shiftLeft_eq]
 cases s
 ·simp only [Bool.false_eq_true,if_false,Rat.one_mul,Rat.intCast_natCast]
 ·simp only [if_true];rw [Rat.intCast_neg,Rat.intCast_natCast];grind
theorem X3R {d e:Datum} {a b:Rat} (hd:vl d=some a) (he:vl e=some b):∃ r,d.sum e=some r∧vl r=some (a + b):=by
 cases d with
 | nan s t=>simp [vl] at hd
 | infinity s=>simp [vl] at hd
 | number s m i =>
  cases e with
  | nan s t=>simp [vl] at he
  | infinity s=>simp [vl] at he
  | number t n j =>
   simp only [vl,Option.some.injEq] at hd he
   refine ⟨_,rfl,?_⟩
   simp only [vl,Option.some.injEq]
   generalize hT:signed s m (i - min i j).toNat + signed t n (j - min i j).toNat=T
   have hv:(T:Rat) * (2:Rat)^(min i j)=a + b:=by
    rw [← hT,Rat.intCast_add,X1N,X1N,← hd,← he]
    have e1:(2:Rat)^i=(2:Rat)^(((i - min i j).toNat:Nat):Int) * (2:Rat)^(min i j):=by rw [← Xf];congr 1;omega
    have e2:(2:Rat)^j=(2:Rat)^(((j - min i j).toNat:Nat):Int) * (2:Rat)^(min i j):=by rw [← Xf];congr 1;omega
    rw [e1,e2];grind
   rw [← hv]
   by_cases h0:T=0
   ·subst h0;simp
   ·rw [if_neg h0]
    by_cases h1:T < 0
    ·simp only [h1,decide_true,sg,if_true]
     have:((T.natAbs:Nat):Rat)=-(T:Rat):=by
      have e:((T.natAbs:Nat):Int)=-T:=by omega
      rw [← Rat.intCast_neg,← e];rfl
     rw [this];grind
    ·simp only [h1,decide_false,sg,Bool.false_eq_true,if_false]
     have:((T.natAbs:Nat):Rat)=(T:Rat):=by
      have e:((T.natAbs:Nat):Int)=T:=by omega
      rw [← Rat.intCast_natCast,e]
     rw [this];grind
theorem X3S {d:Datum} {a:Rat} (hd:vl d=some a):vl d.opposite=some (-a):=by
 cases d with
 | nan s t=>simp [vl] at hd
 | infinity s=>simp [vl] at hd
 | number s m i =>
  simp only [vl,Option.some.injEq,Datum.opposite] at hd ⊢
  subst hd
  cases s<;>simp [sg]<;>grind
theorem X6U {d e:Datum} {a b:Rat} (hd:vl d=some a) (he:vl e=some b):∃ r,d.product e=some r∧vl r=some (a * b):=by
 cases d with
 | nan s t=>simp [vl] at hd
 | infinity s=>simp [vl] at hd
 | number s m i =>
  cases e with
  | nan s t=>simp [vl] at he
  | infinity s=>simp [vl] at he
  | number t n j =>
   simp only [vl,Option.some.injEq] at hd he
   refine ⟨_,rfl,?_⟩
   simp only [vl,Option.some.injEq]
   rw [← hd,← he,X6v,Rat.natCast_mul,Xf]
   grind
theorem X7k (k:FloatKind) (x y:Nat):fop .add k x y=(((k.format.read x).sum (k.format.read y)).map k.format.write).getD (Xj k):=by cases k<;>rfl
theorem X3T (k:FloatKind) (x y:Nat):fop .sub k x y=(((k.format.read x).sum (k.format.read y).opposite).map k.format.write).getD (Xj k):=by cases k<;>rfl
theorem X6V (k:FloatKind) (x y:Nat):fop .mul k x y=(((k.format.read x).product (k.format.read y)).map k.format.write).getD (Xj k):=by cases k<;>rfl
theorem X7l (k:FloatKind) (x y:Nat):fop .quo k x y=(((k.format.read x).quotient (k.format.fractionBits + 2) (k.format.read y)).map k.format.write).getD (Xj k):=by cases k<;>rfl
theorem addV {k:FloatKind} {x y:Nat} {a b:Rat} (hx:Vl k x a) (hy:Vl k y b) {B:Rat} (h1:-B≤a + b) (h2:a + b≤B) (hB:B < (2:Rat)^(topE k)) :
  ∃ q,Vl k (fop .add k x y) q∧Nr q (a + b) (B * uK k + tK k):=by
 obtain ⟨r,r1,r2⟩:=X3R hx hy
 rw [X7k,r1]
 exact X2F k r2 h1 h2 hB
theorem subV {k:FloatKind} {x y:Nat} {a b:Rat} (hx:Vl k x a) (hy:Vl k y b) {B:Rat} (h1:-B≤a - b) (h2:a - b≤B) (hB:B < (2:Rat)^(topE k)) :
  ∃ q,Vl k (fop .sub k x y) q∧Nr q (a - b) (B * uK k + tK k):=by
 obtain ⟨r,r1,r2⟩:=X3R hx (X3S hy)
 rw [X3T,r1]
 rw [← Rat.sub_eq_add_neg] at r2
 exact X2F k r2 h1 h2 hB
theorem mulV {k:FloatKind} {x y:Nat} {a b:Rat} (hx:Vl k x a) (hy:Vl k y b) {B:Rat} (h1:-B≤a * b) (h2:a * b≤B) (hB:B < (2:Rat)^(topE k)) :
  ∃ q,Vl k (fop .mul k x y) q∧Nr q (a * b) (B * uK k + tK k):=by
 obtain ⟨r,r1,r2⟩:=X6U hx hy
 rw [X6V,r1]
 exact X2F k r2 h1 h2 hB
end Go.Ab
