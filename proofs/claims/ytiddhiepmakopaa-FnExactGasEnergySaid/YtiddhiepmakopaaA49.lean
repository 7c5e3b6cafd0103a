/- Widening is exact; narrowing rounds once. -/
import Derived.Test.YtiddhiepmakopaaA48
set_option linter.unusedVariables false
set_option linter.unusedSimpArgs false
namespace Go.Ab
open Ieee
theorem X6z {x:Nat} {a:Rat} (h:Vl .f32 x a):Vl .f64 (fcv .f32 .f64 x) a:=by
 have h':vl (single.read x)=some a:=h
 have hf:=X1Y x
 cases hr:single.read x with
 | nan s t=>rw [hr] at h';simp [vl] at h'
 | infinity s=>rw [hr] at h';simp [vl] at h'
 | number s m e =>
  obtain ⟨p1,p2,p3⟩:=X1v hr
  rw [hr] at hf h'
  have hf:fcv .f32 .f64 x=double.nearest s m e:=hf
  have e1:double.leastPlace=-1074:=by decide +kernel
  have e2:double.fractionBits=52:=rfl
  have e3:2 ^ double.exponentBits=2048:=rfl
  have hl:m.log2≤23:=by
   by_cases m0:m=0
   ·subst m0;simp
   ·exact X1K p1 m0
  obtain ⟨q,q1,-,-,q4⟩:=X3l double s m e (by decide) (by rw [e1,e2,e3];omega)
  have q4:=q4 (by rw [e1,e2];omega)
  unfold Vl
  show vl (double.read (fcv .f32 .f64 x))=some a
  rw [hf,q1,q4,← h']
  rfl
theorem X7B {x:Nat} {a:Rat} (h:Vl .f32 x a):-(2:Rat)^(128:Int) < a∧a < (2:Rat)^(128:Int):=by
 have h':vl (single.read x)=some a:=h
 cases hr:single.read x with
 | nan s t=>rw [hr] at h';simp [vl] at h'
 | infinity s=>rw [hr] at h';simp [vl] at h'
 | number s m e =>
  obtain ⟨p1,p2,p3⟩:=X1v hr
  rw [hr] at h'
  simp only [vl,Option.some.injEq] at h'
  have h1:(m:Rat) < ((2 ^ 24:Nat):Rat):=Rat.natCast_lt_natCast.2 p1
  have h2:=Rat.mul_lt_mul_of_pos_right h1 (Xi e)
  rw [← X17,← Xf] at h2
  have h3:=X37 (a:=((24:Nat):Int) + e) (b:=128) (by omega)
  have h4:=X2E m e
  subst h'
  cases s<;>simp only [sg,if_true,if_false,Bool.false_eq_true]<;>constructor<;>grind
theorem X7C:Vl .f64 9218868437227405311 ((9007199254740991:Rat) * (2:Rat)^(971:Int)):=by unfold Vl;decide +kernel
theorem X5i {x:Nat} (h:fcmp .gtr .f64 (fcv .f32 .f64 x) 9218868437227405311=true):fcv .f32 .f64 x=9218868437227405312∧single.read x = .infinity false:=by
 have hf:=X1Y x
 cases hr:single.read x with
 | nan s t =>
  exfalso
  rw [hr] at hf
  have:fcv .f32 .f64 x=Xj .f64:=hf
  rw [this] at h
  revert h;decide +kernel
 | infinity s =>
  rw [hr] at hf
  cases s with
  | false=>exact ⟨hf,rfl⟩
  | true =>
   exfalso
   have:fcv .f32 .f64 x=18442240474082181120:=hf
   rw [this] at h
   revert h;decide +kernel
 | number s m e =>
  exfalso
  have hv:Vl .f32 x (sg s * ((m:Rat) * (2:Rat) ^ e)):=by
   show vl (single.read x)=_
   rw [hr];rfl
  have h2:=X7B hv
  rw [gtrV (X6z hv) X7C] at h
  have h:=of_decide_eq_true h
  have:(2:Rat)^(128:Int)≤(9007199254740991:Rat) * (2:Rat)^(971:Int):=by decide +kernel
  grind
theorem X7o {d:Datum} (h:vl d=some 0):∃ s e,d = .number s 0 e:=by
 cases d with
 | nan s t=>simp [vl] at h
 | infinity s=>simp [vl] at h
 | number s m e =>
  simp only [vl,Option.some.injEq] at h
  have hz:=Xi e
  have:m=0:=by
   by_cases h0:m=0
   ·exact h0
   ·exfalso
    have:=Rat.mul_pos (Rat.natCast_pos.2 (show 0 < m by omega)) hz
    cases s<;>simp only [sg,if_true,if_false,Bool.false_eq_true] at h<;>grind
  subst this
  exact ⟨s,e,rfl⟩
theorem X7D (k:FloatKind) {d:Datum} (h:vl d=some 0):Vl k (k.format.write d) 0:=by
 obtain ⟨s,e,rfl⟩:=X7o h
 have:k.format.write (.number s 0 e)=k.format.word s 0:=by
  show k.format.nearest s 0 e=_
  unfold Format.nearest
  rw [if_pos rfl]
 rw [this]
 unfold Vl
 cases k<;>cases s<;>decide +kernel
theorem X6A {k:FloatKind} {x:Nat} {a:Rat} (hx:Vl k x a):Vl k (fop .sub k x x) 0:=by
 obtain ⟨r,r1,r2⟩:=X3R hx (X3S hx)
 rw [X3T,r1]
 exact X7D k (by rw [r2];congr 1;grind)
end Go.Ab
