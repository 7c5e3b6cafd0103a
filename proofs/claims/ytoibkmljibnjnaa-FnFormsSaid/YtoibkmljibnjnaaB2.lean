/- The functions of this seat as plain Lean, and that the program's are these. Printed by a program of the prover's own. -/
import Derived.Test.YtoibkmljibnjnaaB1
set_option linter.unusedVariables false
set_option linter.unusedSimpArgs false
set_option maxRecDepth 100000
namespace Go.Ab
open Go.RowKit Go.Proofs.Try
def Z2V:List Nat:=[4620693217682128896,4619567317775286272,4618441417868443648,4617315517961601024,4616189618054758400,4613937818241073152,4611686018427387904,4607182418800017408,0]
def Z3c (k:Nat):Nat:=9 - Z2V.findIdx (· == k)
theorem Z2S:∀ k∈Z2V,fcmp .geq .f64 k 4607182418800017408=true→fop .sub .f64 k 4607182418800017408∈Z2V∧Z3c (fop .sub .f64 k 4607182418800017408) < Z3c k:=by decide +kernel
def Z3D (Yj:Nat):Nat:=(fop .mul .f64 (fop .mul .f64 (fop .sub .f64 4602678819172646912 (fop .sub .f64 (Zb Yj) 4602678819172646912)) 4618760256179416344) (fop .mul .f64 (fop .sub .f64 4602678819172646912 (fop .sub .f64 (Zb Yj) 4602678819172646912)) 4618760256179416344))
def Z4D (Yj:Nat) (Yq:Nat) (Yn:Nat):Nat:=(fop .quo .f64 (fop .mul .f64 (Z3D Yj) Yq) (fop .mul .f64 (fop .mul .f64 4611686018427387904 Yn) (fop .add .f64 (fop .mul .f64 4611686018427387904 Yn) 4607182418800017408)))
def Z1L (Yj:Nat):Nat→Nat→Nat→Nat
  | 0,_,_=>default
  | k + 1,Yq,Yn=>(cond (fcmp .geq .f64 Yn 4607182418800017408)
    (Z1L Yj k (fop .sub .f64 4607182418800017408 (Z4D Yj Yq Yn)) (fop .sub .f64 Yn 4607182418800017408))
    Yq)
def Z4E (Yj:Nat) (r:Nat):Ex × St:=((.exit 0),⟨.f .f64 Yj :: .any :: .f .f64 0 :: .f .f64 (fop .sub .f64 4602678819172646912 (fop .sub .f64 (Zb Yj) 4602678819172646912)) :: .b (fcmp .geq .f64 (Zb Yj) 4602678819172646912) :: .f .f64 (fop .mul .f64 (fop .sub .f64 4602678819172646912 (fop .sub .f64 (Zb Yj) 4602678819172646912)) 4618760256179416344) :: .any :: .f .f64 r :: .any :: .f .f64 Yj :: .f .f64 (Zb Yj) :: .f .f64 (Zb Yj) :: .b (fcmp .geq .f64 (Zb Yj) 4602678819172646912) :: .b (fcmp .geq .f64 (Zb Yj) 4602678819172646912) :: .f .f64 (Zb Yj) :: .f .f64 (fop .sub .f64 (Zb Yj) 4602678819172646912) :: .f .f64 (fop .sub .f64 (Zb Yj) 4602678819172646912) :: .b (fcmp .gtr .f64 (fop .sub .f64 (Zb Yj) 4602678819172646912) 4598175219545276416) :: .f .f64 (fop .sub .f64 (Zb Yj) 4602678819172646912) :: .f .f64 (fop .sub .f64 4602678819172646912 (fop .sub .f64 (Zb Yj) 4602678819172646912)) :: .f .f64 (fop .sub .f64 4602678819172646912 (fop .sub .f64 (Zb Yj) 4602678819172646912)) :: .f .f64 (fop .mul .f64 (fop .sub .f64 4602678819172646912 (fop .sub .f64 (Zb Yj) 4602678819172646912)) 4618760256179416344) :: .f .f64 (fop .mul .f64 (fop .sub .f64 4602678819172646912 (fop .sub .f64 (Zb Yj) 4602678819172646912)) 4618760256179416344) :: .f .f64 (fop .mul .f64 (fop .sub .f64 4602678819172646912 (fop .sub .f64 (Zb Yj) 4602678819172646912)) 4618760256179416344) :: .f .f64 (Z3D Yj) :: an 23 [],[]⟩)
def Z6H (Yj:Nat) (Yq:Nat) (Yn:Nat):St:=⟨.f .f64 Yj :: .any :: .f .f64 0 :: .f .f64 (fop .sub .f64 4602678819172646912 (fop .sub .f64 (Zb Yj) 4602678819172646912)) :: .b (fcmp .geq .f64 (Zb Yj) 4602678819172646912) :: .f .f64 (fop .mul .f64 (fop .sub .f64 4602678819172646912 (fop .sub .f64 (Zb Yj) 4602678819172646912)) 4618760256179416344) :: .f .f64 (Z3D Yj) :: .f .f64 Yq :: .f .f64 Yn :: .f .f64 Yj :: .f .f64 (Zb Yj) :: .f .f64 (Zb Yj) :: .b (fcmp .geq .f64 (Zb Yj) 4602678819172646912) :: .b (fcmp .geq .f64 (Zb Yj) 4602678819172646912) :: .f .f64 (Zb Yj) :: .f .f64 (fop .sub .f64 (Zb Yj) 4602678819172646912) :: .f .f64 (fop .sub .f64 (Zb Yj) 4602678819172646912) :: .b (fcmp .gtr .f64 (fop .sub .f64 (Zb Yj) 4602678819172646912) 4598175219545276416) :: .f .f64 (fop .sub .f64 (Zb Yj) 4602678819172646912) :: .f .f64 (fop .sub .f64 4602678819172646912 (fop .sub .f64 (Zb Yj) 4602678819172646912)) :: .f .f64 (fop .sub .f64 4602678819172646912 (fop .sub .f64 (Zb Yj) 4602678819172646912)) :: .f .f64 (fop .mul .f64 (fop .sub .f64 4602678819172646912 (fop .sub .f64 (Zb Yj) 4602678819172646912)) 4618760256179416344) :: .f .f64 (fop .mul .f64 (fop .sub .f64 4602678819172646912 (fop .sub .f64 (Zb Yj) 4602678819172646912)) 4618760256179416344) :: .f .f64 (fop .mul .f64 (fop .sub .f64 4602678819172646912 (fop .sub .f64 (Zb Yj) 4602678819172646912)) 4618760256179416344) :: .f .f64 (Z3D Yj) :: an 23 [],[]⟩
def Z6u:List Bool:=(mR false [0,1,1,4,1,1,1,16,23])
theorem Z6I (Yj:Nat) (hp0:(floatToIntVal .f64 Yj .i64).isSome=true):∀ (k:Nat) (Yq:Nat) (Yn:Nat) (Z58:Yn∈Z2V) (hk:Z3c Yn < k),Lp prog 0 (sub (X1 f118) [1,1,1,1,1,1,1,1,0,1,0,0]) (Z6H Yj Yq Yn) (Z4E Yj (Z1L Yj k Yq Yn)).1 (Z4E Yj (Z1L Yj k Yq Yn)).2:=by
 intro k
 induction k with
 | zero=>intro Yq Yn Z58 hk;exact absurd hk (Nat.not_lt_zero _)
 | succ k ih =>
  intro Yq Yn Z58 hk
  cases Yp:(fcmp .geq .f64 Yn 4607182418800017408) with
  | true =>
   have e:Z1L Yj (k + 1) Yq Yn=(Z1L Yj k (fop .sub .f64 4607182418800017408 (Z4D Yj Yq Yn)) (fop .sub .f64 Yn 4607182418800017408)):=by simp only [Z1L,Yp,cond_true]
   rw [e]
   exact Xb E0Ok Zo [] (mR false [0,1,1,23,23]) [] (ih (fop .sub .f64 4607182418800017408 (Z4D Yj Yq Yn)) (fop .sub .f64 Yn 4607182418800017408) (show (fop .sub .f64 Yn 4607182418800017408)∈Z2V from (by exact (Z2S _ (by assumption) (by assumption)).1)) (by have q:=(Z2S _ (by assumption) (by assumption)).2;omega)) (sB Yp<|sN) (by kernel_rfl)
  | false =>
   have e:Z1L Yj (k + 1) Yq Yn=Yq:=by simp only [Z1L,Yp,cond_false]
   rw [e]
   exact outR (e:=(.exit 0)) E0Ok Zo [] Z6u [] (sB Yp<|sN) (by kernel_rfl) (by intro h;cases h)
def Z59 (Yj:Nat):Nat:=(Z1L Yj (Z3c 4620693217682128896 + 1) 4607182418800017408 4620693217682128896)
def Z5o (Yj:Nat):Nat:=(fop .mul .f64 (fop .mul .f64 (fop .sub .f64 4602678819172646912 (fop .sub .f64 (Zb Yj) 4602678819172646912)) 4618760256179416344) (Z59 Yj))
def Z3E (Yj:Nat):Nat:=(fop .mul .f64 (fop .mul .f64 (fop .sub .f64 (Zb Yj) 4602678819172646912) 4618760256179416344) (fop .mul .f64 (fop .sub .f64 (Zb Yj) 4602678819172646912) 4618760256179416344))
def Z4F (Yj:Nat) (Yq:Nat) (Yn:Nat):Nat:=(fop .quo .f64 (fop .mul .f64 (Z3E Yj) Yq) (fop .mul .f64 (fop .mul .f64 4611686018427387904 Yn) (fop .add .f64 (fop .mul .f64 4611686018427387904 Yn) 4607182418800017408)))
def Z1M (Yj:Nat):Nat→Nat→Nat→Nat
  | 0,_,_=>default
  | k + 1,Yq,Yn=>(cond (fcmp .geq .f64 Yn 4607182418800017408)
    (Z1M Yj k (fop .sub .f64 4607182418800017408 (Z4F Yj Yq Yn)) (fop .sub .f64 Yn 4607182418800017408))
    Yq)
def Z4G (Yj:Nat) (r:Nat):Ex × St:=((.exit 0),⟨.f .f64 Yj :: .any :: .f .f64 0 :: .f .f64 (fop .sub .f64 (Zb Yj) 4602678819172646912) :: .b (fcmp .geq .f64 (Zb Yj) 4602678819172646912) :: .f .f64 (fop .mul .f64 (fop .sub .f64 (Zb Yj) 4602678819172646912) 4618760256179416344) :: .any :: .f .f64 r :: .any :: .f .f64 Yj :: .f .f64 (Zb Yj) :: .f .f64 (Zb Yj) :: .b (fcmp .geq .f64 (Zb Yj) 4602678819172646912) :: .b (fcmp .geq .f64 (Zb Yj) 4602678819172646912) :: .f .f64 (Zb Yj) :: .f .f64 (fop .sub .f64 (Zb Yj) 4602678819172646912) :: .f .f64 (fop .sub .f64 (Zb Yj) 4602678819172646912) :: .b (fcmp .gtr .f64 (fop .sub .f64 (Zb Yj) 4602678819172646912) 4598175219545276416) :: .any :: .any :: .f .f64 (fop .sub .f64 (Zb Yj) 4602678819172646912) :: .f .f64 (fop .mul .f64 (fop .sub .f64 (Zb Yj) 4602678819172646912) 4618760256179416344) :: .f .f64 (fop .mul .f64 (fop .sub .f64 (Zb Yj) 4602678819172646912) 4618760256179416344) :: .f .f64 (fop .mul .f64 (fop .sub .f64 (Zb Yj) 4602678819172646912) 4618760256179416344) :: .f .f64 (Z3E Yj) :: an 23 [],[]⟩)
def Z6J (Yj:Nat) (Yq:Nat) (Yn:Nat):St:=⟨.f .f64 Yj :: .any :: .f .f64 0 :: .f .f64 (fop .sub .f64 (Zb Yj) 4602678819172646912) :: .b (fcmp .geq .f64 (Zb Yj) 4602678819172646912) :: .f .f64 (fop .mul .f64 (fop .sub .f64 (Zb Yj) 4602678819172646912) 4618760256179416344) :: .f .f64 (Z3E Yj) :: .f .f64 Yq :: .f .f64 Yn :: .f .f64 Yj :: .f .f64 (Zb Yj) :: .f .f64 (Zb Yj) :: .b (fcmp .geq .f64 (Zb Yj) 4602678819172646912) :: .b (fcmp .geq .f64 (Zb Yj) 4602678819172646912) :: .f .f64 (Zb Yj) :: .f .f64 (fop .sub .f64 (Zb Yj) 4602678819172646912) :: .f .f64 (fop .sub .f64 (Zb Yj) 4602678819172646912) :: .b (fcmp .gtr .f64 (fop .sub .f64 (Zb Yj) 4602678819172646912) 4598175219545276416) :: .any :: .any :: .f .f64 (fop .sub .f64 (Zb Yj) 4602678819172646912) :: .f .f64 (fop .mul .f64 (fop .sub .f64 (Zb Yj) 4602678819172646912) 4618760256179416344) :: .f .f64 (fop .mul .f64 (fop .sub .f64 (Zb Yj) 4602678819172646912) 4618760256179416344) :: .f .f64 (fop .mul .f64 (fop .sub .f64 (Zb Yj) 4602678819172646912) 4618760256179416344) :: .f .f64 (Z3E Yj) :: an 23 [],[]⟩
def Z6v:List Bool:=(mR false [0,1,1,4,1,1,1,9,2,5,23])
theorem Z6K (Yj:Nat) (hp0:(floatToIntVal .f64 Yj .i64).isSome=true):∀ (k:Nat) (Yq:Nat) (Yn:Nat) (Z5a:Yn∈Z2V) (hk:Z3c Yn < k),Lp prog 0 (sub (X1 f118) [1,1,1,1,1,1,1,1,0,1,0,0]) (Z6J Yj Yq Yn) (Z4G Yj (Z1M Yj k Yq Yn)).1 (Z4G Yj (Z1M Yj k Yq Yn)).2:=by
 intro k
 induction k with
 | zero=>intro Yq Yn Z5a hk;exact absurd hk (Nat.not_lt_zero _)
 | succ k ih =>
  intro Yq Yn Z5a hk
  cases Yp:(fcmp .geq .f64 Yn 4607182418800017408) with
  | true =>
   have e:Z1M Yj (k + 1) Yq Yn=(Z1M Yj k (fop .sub .f64 4607182418800017408 (Z4F Yj Yq Yn)) (fop .sub .f64 Yn 4607182418800017408)):=by simp only [Z1M,Yp,cond_true]
   rw [e]
   exact Xb E0Ok Zo [] (mR false [0,1,1,16,2,5,23]) [] (ih (fop .sub .f64 4607182418800017408 (Z4F Yj Yq Yn)) (fop .sub .f64 Yn 4607182418800017408) (show (fop .sub .f64 Yn 4607182418800017408)∈Z2V from (by exact (Z2S _ (by assumption) (by assumption)).1)) (by have q:=(Z2S _ (by assumption) (by assumption)).2;omega)) (sB Yp<|sN) (by kernel_rfl)
  | false =>
   have e:Z1M Yj (k + 1) Yq Yn=Yq:=by simp only [Z1M,Yp,cond_false]
   rw [e]
   exact outR (e:=(.exit 0)) E0Ok Zo [] Z6v [] (sB Yp<|sN) (by kernel_rfl) (by intro h;cases h)
def Z3U (Yj:Nat):Nat:=(Z1M Yj (Z3c 4620693217682128896 + 1) 4607182418800017408 4620693217682128896)
def Z3F (Yj:Nat):Nat:=(fop .mul .f64 (fop .mul .f64 (fop .sub .f64 4602678819172646912 (Zb Yj)) 4618760256179416344) (fop .mul .f64 (fop .sub .f64 4602678819172646912 (Zb Yj)) 4618760256179416344))
def Z4H (Yj:Nat) (Yq:Nat) (Yn:Nat):Nat:=(fop .quo .f64 (fop .mul .f64 (Z3F Yj) Yq) (fop .mul .f64 (fop .mul .f64 4611686018427387904 Yn) (fop .add .f64 (fop .mul .f64 4611686018427387904 Yn) 4607182418800017408)))
def Z1N (Yj:Nat):Nat→Nat→Nat→Nat
  | 0,_,_=>default
  | k + 1,Yq,Yn=>(cond (fcmp .geq .f64 Yn 4607182418800017408)
    (Z1N Yj k (fop .sub .f64 4607182418800017408 (Z4H Yj Yq Yn)) (fop .sub .f64 Yn 4607182418800017408))
    Yq)
def Z4I (Yj:Nat) (r:Nat):Ex × St:=((.exit 0),⟨.f .f64 Yj :: .any :: .f .f64 0 :: .f .f64 (fop .sub .f64 4602678819172646912 (Zb Yj)) :: .b (fcmp .geq .f64 (Zb Yj) 4602678819172646912) :: .f .f64 (fop .mul .f64 (fop .sub .f64 4602678819172646912 (Zb Yj)) 4618760256179416344) :: .any :: .f .f64 r :: .any :: .f .f64 Yj :: .f .f64 (Zb Yj) :: .f .f64 (Zb Yj) :: .b (fcmp .geq .f64 (Zb Yj) 4602678819172646912) :: .b (fcmp .geq .f64 (Zb Yj) 4602678819172646912) :: .any :: .any :: .f .f64 (Zb Yj) :: .b (fcmp .gtr .f64 (Zb Yj) 4598175219545276416) :: .f .f64 (Zb Yj) :: .f .f64 (fop .sub .f64 4602678819172646912 (Zb Yj)) :: .f .f64 (fop .sub .f64 4602678819172646912 (Zb Yj)) :: .f .f64 (fop .mul .f64 (fop .sub .f64 4602678819172646912 (Zb Yj)) 4618760256179416344) :: .f .f64 (fop .mul .f64 (fop .sub .f64 4602678819172646912 (Zb Yj)) 4618760256179416344) :: .f .f64 (fop .mul .f64 (fop .sub .f64 4602678819172646912 (Zb Yj)) 4618760256179416344) :: .f .f64 (Z3F Yj) :: an 23 [],[]⟩)
def Z6L (Yj:Nat) (Yq:Nat) (Yn:Nat):St:=⟨.f .f64 Yj :: .any :: .f .f64 0 :: .f .f64 (fop .sub .f64 4602678819172646912 (Zb Yj)) :: .b (fcmp .geq .f64 (Zb Yj) 4602678819172646912) :: .f .f64 (fop .mul .f64 (fop .sub .f64 4602678819172646912 (Zb Yj)) 4618760256179416344) :: .f .f64 (Z3F Yj) :: .f .f64 Yq :: .f .f64 Yn :: .f .f64 Yj :: .f .f64 (Zb Yj) :: .f .f64 (Zb Yj) :: .b (fcmp .geq .f64 (Zb Yj) 4602678819172646912) :: .b (fcmp .geq .f64 (Zb Yj) 4602678819172646912) :: .any :: .any :: .f .f64 (Zb Yj) :: .b (fcmp .gtr .f64 (Zb Yj) 4598175219545276416) :: .f .f64 (Zb Yj) :: .f .f64 (fop .sub .f64 4602678819172646912 (Zb Yj)) :: .f .f64 (fop .sub .f64 4602678819172646912 (Zb Yj)) :: .f .f64 (fop .mul .f64 (fop .sub .f64 4602678819172646912 (Zb Yj)) 4618760256179416344) :: .f .f64 (fop .mul .f64 (fop .sub .f64 4602678819172646912 (Zb Yj)) 4618760256179416344) :: .f .f64 (fop .mul .f64 (fop .sub .f64 4602678819172646912 (Zb Yj)) 4618760256179416344) :: .f .f64 (Z3F Yj) :: an 23 [],[]⟩
def Z6w:List Bool:=(mR false [0,1,1,4,1,1,1,5,2,9,23])
theorem Z6M (Yj:Nat) (hp0:(floatToIntVal .f64 Yj .i64).isSome=true):∀ (k:Nat) (Yq:Nat) (Yn:Nat) (Z5b:Yn∈Z2V) (hk:Z3c Yn < k),Lp prog 0 (sub (X1 f118) [1,1,1,1,1,1,1,1,0,1,0,0]) (Z6L Yj Yq Yn) (Z4I Yj (Z1N Yj k Yq Yn)).1 (Z4I Yj (Z1N Yj k Yq Yn)).2:=by
 intro k
 induction k with
 | zero=>intro Yq Yn Z5b hk;exact absurd hk (Nat.not_lt_zero _)
 | succ k ih =>
  intro Yq Yn Z5b hk
  cases Yp:(fcmp .geq .f64 Yn 4607182418800017408) with
  | true =>
   have e:Z1N Yj (k + 1) Yq Yn=(Z1N Yj k (fop .sub .f64 4607182418800017408 (Z4H Yj Yq Yn)) (fop .sub .f64 Yn 4607182418800017408)):=by simp only [Z1N,Yp,cond_true]
   rw [e]
   exact Xb E0Ok Zo [] (mR false [0,1,1,12,2,9,23]) [] (ih (fop .sub .f64 4607182418800017408 (Z4H Yj Yq Yn)) (fop .sub .f64 Yn 4607182418800017408) (show (fop .sub .f64 Yn 4607182418800017408)∈Z2V from (by exact (Z2S _ (by assumption) (by assumption)).1)) (by have q:=(Z2S _ (by assumption) (by assumption)).2;omega)) (sB Yp<|sN) (by kernel_rfl)
  | false =>
   have e:Z1N Yj (k + 1) Yq Yn=Yq:=by simp only [Z1N,Yp,cond_false]
   rw [e]
   exact outR (e:=(.exit 0)) E0Ok Zo [] Z6w [] (sB Yp<|sN) (by kernel_rfl) (by intro h;cases h)
def Z3V (Yj:Nat):Nat:=(Z1N Yj (Z3c 4620693217682128896 + 1) 4607182418800017408 4620693217682128896)
def Z49 (Yj:Nat) (Yq:Nat) (Yn:Nat):Nat:=(fop .quo .f64 (fop .mul .f64 (fop .mul .f64 (fop .mul .f64 (Zb Yj) 4618760256179416344) (fop .mul .f64 (Zb Yj) 4618760256179416344)) Yq) (fop .mul .f64 (fop .mul .f64 4611686018427387904 Yn) (fop .add .f64 (fop .mul .f64 4611686018427387904 Yn) 4607182418800017408)))
def Z1O (Yj:Nat):Nat→Nat→Nat→Nat
  | 0,_,_=>default
  | k + 1,Yq,Yn=>(cond (fcmp .geq .f64 Yn 4607182418800017408)
    (Z1O Yj k (fop .sub .f64 4607182418800017408 (Z49 Yj Yq Yn)) (fop .sub .f64 Yn 4607182418800017408))
    Yq)
def Z4J (Yj:Nat) (r:Nat):Ex × St:=((.exit 0),⟨.f .f64 Yj :: .any :: .f .f64 0 :: .f .f64 (Zb Yj) :: .b (fcmp .geq .f64 (Zb Yj) 4602678819172646912) :: .f .f64 (fop .mul .f64 (Zb Yj) 4618760256179416344) :: .any :: .f .f64 r :: .any :: .f .f64 Yj :: .f .f64 (Zb Yj) :: .f .f64 (Zb Yj) :: .b (fcmp .geq .f64 (Zb Yj) 4602678819172646912) :: .b (fcmp .geq .f64 (Zb Yj) 4602678819172646912) :: .any :: .any :: .f .f64 (Zb Yj) :: .b (fcmp .gtr .f64 (Zb Yj) 4598175219545276416) :: .any :: .any :: .f .f64 (Zb Yj) :: .f .f64 (fop .mul .f64 (Zb Yj) 4618760256179416344) :: .f .f64 (fop .mul .f64 (Zb Yj) 4618760256179416344) :: .f .f64 (fop .mul .f64 (Zb Yj) 4618760256179416344) :: .f .f64 (fop .mul .f64 (fop .mul .f64 (Zb Yj) 4618760256179416344) (fop .mul .f64 (Zb Yj) 4618760256179416344)) :: an 23 [],[]⟩)
def Z6N (Yj:Nat) (Yq:Nat) (Yn:Nat):St:=⟨.f .f64 Yj :: .any :: .f .f64 0 :: .f .f64 (Zb Yj) :: .b (fcmp .geq .f64 (Zb Yj) 4602678819172646912) :: .f .f64 (fop .mul .f64 (Zb Yj) 4618760256179416344) :: .f .f64 (fop .mul .f64 (fop .mul .f64 (Zb Yj) 4618760256179416344) (fop .mul .f64 (Zb Yj) 4618760256179416344)) :: .f .f64 Yq :: .f .f64 Yn :: .f .f64 Yj :: .f .f64 (Zb Yj) :: .f .f64 (Zb Yj) :: .b (fcmp .geq .f64 (Zb Yj) 4602678819172646912) :: .b (fcmp .geq .f64 (Zb Yj) 4602678819172646912) :: .any :: .any :: .f .f64 (Zb Yj) :: .b (fcmp .gtr .f64 (Zb Yj) 4598175219545276416) :: .any :: .any :: .f .f64 (Zb Yj) :: .f .f64 (fop .mul .f64 (Zb Yj) 4618760256179416344) :: .f .f64 (fop .mul .f64 (Zb Yj) 4618760256179416344) :: .f .f64 (fop .mul .f64 (Zb Yj) 4618760256179416344) :: .f .f64 (fop .mul .f64 (fop .mul .f64 (Zb Yj) 4618760256179416344) (fop .mul .f64 (Zb Yj) 4618760256179416344)) :: an 23 [],[]⟩
def Z5c:List Bool:=(mR false [0,1,1,12,2,2,2,5,23])
def Z6x:List Bool:=(mR false [0,1,1,4,1,1,1,5,2,2,2,5,23])
theorem Z6O (Yj:Nat) (hp0:(floatToIntVal .f64 Yj .i64).isSome=true):∀ (k:Nat) (Yq:Nat) (Yn:Nat) (Z5d:Yn∈Z2V) (hk:Z3c Yn < k),Lp prog 0 (sub (X1 f118) [1,1,1,1,1,1,1,1,0,1,0,0]) (Z6N Yj Yq Yn) (Z4J Yj (Z1O Yj k Yq Yn)).1 (Z4J Yj (Z1O Yj k Yq Yn)).2:=by
 intro k
 induction k with
 | zero=>intro Yq Yn Z5d hk;exact absurd hk (Nat.not_lt_zero _)
 | succ k ih =>
  intro Yq Yn Z5d hk
  cases Yp:(fcmp .geq .f64 Yn 4607182418800017408) with
  | true =>
   have e:Z1O Yj (k + 1) Yq Yn=(Z1O Yj k (fop .sub .f64 4607182418800017408 (Z49 Yj Yq Yn)) (fop .sub .f64 Yn 4607182418800017408)):=by simp only [Z1O,Yp,cond_true]
   rw [e]
   exact Xb E0Ok Zo [] Z5c [] (ih (fop .sub .f64 4607182418800017408 (Z49 Yj Yq Yn)) (fop .sub .f64 Yn 4607182418800017408) (show (fop .sub .f64 Yn 4607182418800017408)∈Z2V from (by exact (Z2S _ (by assumption) (by assumption)).1)) (by have q:=(Z2S _ (by assumption) (by assumption)).2;omega)) (sB Yp<|sN) (by kernel_rfl)
  | false =>
   have e:Z1O Yj (k + 1) Yq Yn=Yq:=by simp only [Z1O,Yp,cond_false]
   rw [e]
   exact outR (e:=(.exit 0)) E0Ok Zo [] Z6x [] (sB Yp<|sN) (by kernel_rfl) (by intro h;cases h)
def Z3W (Yj:Nat):Nat:=(Z1O Yj (Z3c 4620693217682128896 + 1) 4607182418800017408 4620693217682128896)
def Z1R (Yj:Nat):Nat:=(cond (fcmp .geq .f64 (Zb Yj) 4602678819172646912)
  (cond (fcmp .gtr .f64 (fop .sub .f64 (Zb Yj) 4602678819172646912) 4598175219545276416)
    (fneg .f64 (Z5o Yj))
    (fneg .f64 (fop .mul .f64 (fop .mul .f64 (fop .sub .f64 (Zb Yj) 4602678819172646912) 4618760256179416344) (Z3U Yj))))
  (cond (fcmp .gtr .f64 (Zb Yj) 4598175219545276416)
    (fop .mul .f64 (fop .mul .f64 (fop .sub .f64 4602678819172646912 (Zb Yj)) 4618760256179416344) (Z3V Yj))
    (fop .mul .f64 (fop .mul .f64 (Zb Yj) 4618760256179416344) (Z3W Yj))))
theorem Z79 (Yj:Nat) (hp0:(floatToIntVal .f64 Yj .i64).isSome=true)  : Fn prog 118 [.f .f64 Yj] (.f .f64 (Z1R Yj)) []:=by
 have p {a C} (s:Scr a C):=sF (Z6B Yj hp0)<|s
 cases h0:(fcmp .geq .f64 (Zb Yj) 4602678819172646912) with
 | true =>
  have q {a C} (s:Scr a C):=p (sB h0<|s)
  clear p
  cases h1:(fcmp .gtr .f64 (fop .sub .f64 (Zb Yj) 4602678819172646912) 4598175219545276416) with
  | true =>
   refine fnS E0Ok Zo (c:=X1 f118) [] (.f .f64 (fneg .f64 (Z5o Yj))) [] func118 (q (sB h1<|sL (mR false [0,1,1,23,23]) 0 (X7 (Z4E Yj) (x:=(Z59 Yj)) (Z6I Yj hp0 (Z3c 4620693217682128896 + 1) 4607182418800017408 4620693217682128896 (show 4620693217682128896∈Z2V from (by decide)) (Nat.lt_succ_self _)) rfl)<|sB h0<|sK [] sN)) rfl (by kernel_rfl) (by kernel_rfl) rfl ?_ ?_
   · simp only [Z1R,h0,h1,cond_true]
   · rfl
  | false =>
   refine fnS E0Ok Zo (c:=X1 f118) [] (.f .f64 (fneg .f64 (fop .mul .f64 (fop .mul .f64 (fop .sub .f64 (Zb Yj) 4602678819172646912) 4618760256179416344) (Z3U Yj)))) [] func118 (q (sB h1<|sL (mR false [0,1,1,16,2,5,23]) 0 (X7 (Z4G Yj) (x:=(Z3U Yj)) (Z6K Yj hp0 (Z3c 4620693217682128896 + 1) 4607182418800017408 4620693217682128896 (show 4620693217682128896∈Z2V from (by decide)) (Nat.lt_succ_self _)) rfl)<|sB h0<|sK [] sN)) rfl (by kernel_rfl) (by kernel_rfl) rfl ?_ ?_
   · simp only [Z1R,h0,h1,cond_true,cond_false]
   · rfl
 | false =>
  have q {a C} (s:Scr a C):=p (sB h0<|s)
  clear p
  cases h1:(fcmp .gtr .f64 (Zb Yj) 4598175219545276416) with
  | true =>
   refine fnS E0Ok Zo (c:=X1 f118) [] (.f .f64 (fop .mul .f64 (fop .mul .f64 (fop .sub .f64 4602678819172646912 (Zb Yj)) 4618760256179416344) (Z3V Yj))) [] func118 (q (sB h1<|sL (mR false [0,1,1,12,2,9,23]) 0 (X7 (Z4I Yj) (x:=(Z3V Yj)) (Z6M Yj hp0 (Z3c 4620693217682128896 + 1) 4607182418800017408 4620693217682128896 (show 4620693217682128896∈Z2V from (by decide)) (Nat.lt_succ_self _)) rfl)<|sB h0<|sK [] sN)) rfl (by kernel_rfl) (by kernel_rfl) rfl ?_ ?_
   · simp only [Z1R,h0,h1,cond_true,cond_false]
   · rfl
  | false =>
   refine fnS E0Ok Zo (c:=X1 f118) [] (.f .f64 (fop .mul .f64 (fop .mul .f64 (Zb Yj) 4618760256179416344) (Z3W Yj))) [] func118 (q (sB h1<|sL Z5c 0 (X7 (Z4J Yj) (x:=(Z3W Yj)) (Z6O Yj hp0 (Z3c 4620693217682128896 + 1) 4607182418800017408 4620693217682128896 (show 4620693217682128896∈Z2V from (by decide)) (Nat.lt_succ_self _)) rfl)<|sB h0<|sK [] sN)) rfl (by kernel_rfl) (by kernel_rfl) rfl ?_ ?_
   · simp only [Z1R,h0,h1,cond_false]
   · rfl
def Z2W  : Nat:=(cn .f64 (Int.toNat 9221120237041090561))
theorem Z7n    : Fn prog 115 [] (.f .f64 (Z2W)) []:=by
 have y0:Int.toNat 9221120237041090561 < 2 ^ 64:=(by omega)
 refine fnS E0Ok Zo (c:=X1 f115) [] (.f .f64 (cn .f64 (Int.toNat 9221120237041090561))) [] func115 (sC y0<|sK [] sN) rfl (by kernel_rfl) (by kernel_rfl) rfl ?_ ?_
 · rfl
 · rfl
def Z4a (x:Nat):Bool:=!(Xg .f64 (fcv .f32 .f64 x)) && (floatToIntVal .f64 (fcv .f32 .f64 x) .i64).isSome && XX .f64 .f32 (Z1R (fcv .f32 .f64 x)) && XX .f64 .f32 Z2W
theorem Z4L {x:Nat} (h:Z4a x=true):Xg .f64 (fcv .f32 .f64 x)=false∧(floatToIntVal .f64 (fcv .f32 .f64 x) .i64).isSome=true∧XX .f64 .f32 (Z1R (fcv .f32 .f64 x))=true∧XX .f64 .f32 Z2W=true:=by
  unfold Z4a at h
  simp only [Bool.and_eq_true,Bool.not_eq_true'] at h
  exact ⟨h.1.1.1,h.1.1.2,h.1.2,h.2⟩
def Zz (Yj:Nat):Nat:=(cond (Z2I Yj)
  (cond (fcmp .geq .f64 (Z5w (fcv .f32 .f64 Yj)) 4841369599423283200)
    0
    (fcv .f64 .f32 (Z1R (fcv .f32 .f64 Yj))))
  (fcv .f64 .f32 (Z2W)))
theorem Z5e (Yj:Nat) (hp0:Z4a Yj=true)  : Fn prog 81 [.f .f32 Yj] (.f .f32 (Zz Yj)) []:=by
 have p {a C} (s:Scr a C):=sF (Z5j Yj)<|s
 cases h0:(Z2I Yj) with
 | true =>
  have y0:Xg .f64 (fcv .f32 .f64 Yj)=false:=by clear p;exact (by exact (Z4L hp0).1)
  have q {a C} (s:Scr a C):=p (sB' h0<|sC (X4a Yj)<|sF (Z7m (fcv .f32 .f64 Yj) y0)<|s)
  clear p
  cases h1:(fcmp .geq .f64 (Z5w (fcv .f32 .f64 Yj)) 4841369599423283200) with
  | true =>
   have hv:Zz Yj=0:=by unfold Zz;rw [h0,cond_true,h1,cond_true]
   refine fnS E0Ok Zo (c:=X1 f81) [] (.f .f32 0) [] func81 (q (sB h1<|sK [] sN)) rfl (by kernel_rfl) (by kernel_rfl) rfl ?_ ?_
   · rw [hv]
   · rfl
  | false =>
   have y1:(floatToIntVal .f64 (fcv .f32 .f64 Yj) .i64).isSome=true:=by clear q;exact (by exact (Z4L hp0).2.1)
   have y2:XX .f64 .f32 (Z1R (fcv .f32 .f64 Yj))=true:=by clear q;exact (by exact (Z4L hp0).2.2.1)
   have hv:Zz Yj=(fcv .f64 .f32 (Z1R (fcv .f32 .f64 Yj))):=by unfold Zz;rw [h0,cond_true,h1,cond_false]
   refine fnS E0Ok Zo (c:=X1 f81) [] (.f .f32 (fcv .f64 .f32 (Z1R (fcv .f32 .f64 Yj)))) [] func81 (q (sB h1<|sC (X4a Yj)<|sF (Z79 (fcv .f32 .f64 Yj) y1)<|sC y2<|sK [] sN)) rfl (by kernel_rfl) (by kernel_rfl) rfl ?_ ?_
   · rw [hv]
   · rfl
 | false =>
  have y0:XX .f64 .f32 (Z2W)=true:=by clear p;exact (by exact (Z4L hp0).2.2.2)
  have hv:Zz Yj=(fcv .f64 .f32 (Z2W)):=by unfold Zz;rw [h0,cond_false]
  refine fnS E0Ok Zo (c:=X1 f81) [] (.f .f32 (fcv .f64 .f32 (Z2W))) [] func81 (p (sB' h0<|sF (Z7n )<|sC y0<|sK [] sN)) rfl (by kernel_rfl) (by kernel_rfl) rfl ?_ ?_
  · rw [hv]
  · rfl
theorem Z5W {a s:Int} (h0:0≤a) (h1:0 < s):0≤Int.tmod a s∧Int.tmod a s < s:=⟨Int.tmod_nonneg _ h0,Int.tmod_lt_of_pos _ h1⟩
theorem Z7A:∀ s∈List.range 9,∀ k∈List.range s,Z4a (fop .quo .f32 (X0 .f32 (k:Int)) (X0 .f32 (s:Int)))=true∧Z4a (fop .add .f32 (fop .quo .f32 (X0 .f32 (k:Int)) (X0 .f32 (s:Int))) 1048576000)=true:=by decide +kernel
theorem Z6C {s k:Int} (h0:0≤k) (h1:k < s) (h2:s≤8):Z4a (fop .quo .f32 (X0 .f32 k) (X0 .f32 s))=true∧Z4a (fop .add .f32 (fop .quo .f32 (X0 .f32 k) (X0 .f32 s)) 1048576000)=true:=by
  obtain ⟨a,rfl⟩:=Int.eq_ofNat_of_zero_le h0
  obtain ⟨b,rfl⟩:=Int.eq_ofNat_of_zero_le (by omega:0≤s)
  exact Z7A b (List.mem_range.2 (by omega)) a (List.mem_range.2 (by omega))
def ZE (Y6:Int) (Yd:Int) (Y8:Nat) (Ye:Nat) (Y1:Int) (Yh:(List Gv)) (Yl:(List (List Int))):Nat→Int→(List Gv)→(List (List Int))→(List Gv) × (List (List Int))
  | 0,_,_,_=>default
  | k + 1,Y2,Ya,Ys=>(cond (decide (Y2 < Y6))
    (cond (decide (Y1 < Yd))
      (ZE Y6 Yd Y8 Ye Y1 Yh Yl k (Y2 + 1) (Ya ++ [(⟨(fop .mul .f32 Y8 (Zz (fop .add .f32 (fop .quo .f32 (X0 .f32 Y2) (X0 .f32 Y6)) 1048576000))),(fop .mul .f32 Y8 (Zz (fop .quo .f32 (X0 .f32 Y2) (X0 .f32 Y6)))),(fop .mul .f32 (X0 .f32 Y1) Ye)⟩:Gv)]) (Ys ++ [[(Y2 + (Y6 * Y1)),((Int.tmod (Y2 + 1) Y6) + (Y6 * Y1)),(((Int.tmod (Y2 + 1) Y6) + (Y6 * Y1)) + Y6)],[(Y2 + (Y6 * Y1)),(((Int.tmod (Y2 + 1) Y6) + (Y6 * Y1)) + Y6),((Y2 + (Y6 * Y1)) + Y6)]]))
      (ZE Y6 Yd Y8 Ye Y1 Yh Yl k (Y2 + 1) (Ya ++ [(⟨(fop .mul .f32 Y8 (Zz (fop .add .f32 (fop .quo .f32 (X0 .f32 Y2) (X0 .f32 Y6)) 1048576000))),(fop .mul .f32 Y8 (Zz (fop .quo .f32 (X0 .f32 Y2) (X0 .f32 Y6)))),(fop .mul .f32 (X0 .f32 Y1) Ye)⟩:Gv)]) Ys))
    (Ya,Ys))
def Z3p (Y6:Int) (Yd:Int) (Y8:Nat) (Ye:Nat) (Y1:Int) (Yh:(List Gv)) (Yl:(List (List Int))) (r:(List Gv) × (List (List Int))):Ex × St:=((.exit 2),⟨.i .i64 Y6 :: .i .i64 Yd :: .f .f32 Y8 :: .f .f32 Ye :: an 4 (.ptr 0 0 0 :: .b false :: .ptr 1 0 0 :: .i .i64 Y1 :: an 4 (.i .i64 Y6 :: .b (Z4 Y6 3 16) :: .b (!(Z4 Y6 3 16)) :: .b (!(Z4 Y6 3 16)) :: .i .i64 Yd :: .b (Z4 Yd 1 64) :: .b (!(Z4 Yd 1 64)) :: .b (!(Z4 Yd 1 64)) :: .b (!(Z4 Yd 1 64)) :: .f .f32 Y8 :: .b (Z6 Y8) :: .b (!(Z6 Y8)) :: .b (!(Z6 Y8)) :: .b (!(Z6 Y8)) :: .f .f32 Ye :: .b (Z6 Ye) :: .b (!(Z6 Ye)) :: .b (!(Z6 Ye)) :: .any :: .agg [.nils, .nils] :: .i .i64 Yd :: .i .i64 (Yd + 1) :: .i .i64 Y1 :: .b (decide (Y1 < (Yd + 1))) :: .i .i64 Y1 :: .i .i64 Y6 :: an 68 [])),[.box 27 [.nils, .nils], .box 27 [.own 2, .own 3], .vec 32 3 (r.1.map Gv.c) false, .nest 60 (r.2.map fun l=>l.map (cI .i64)) false]⟩)
def Z3q (Y6:Int) (Yd:Int) (Y8:Nat) (Ye:Nat) (Y1:Int) (Yh:(List Gv)) (Yl:(List (List Int))) (Y2:Int) (Ya:(List Gv)) (Ys:(List (List Int))):St:=⟨.i .i64 Y6 :: .i .i64 Yd :: .f .f32 Y8 :: .f .f32 Ye :: an 4 (.ptr 0 0 0 :: .b false :: .ptr 1 0 0 :: .i .i64 Y1 :: an 4 (.i .i64 Y6 :: .b (Z4 Y6 3 16) :: .b (!(Z4 Y6 3 16)) :: .b (!(Z4 Y6 3 16)) :: .i .i64 Yd :: .b (Z4 Yd 1 64) :: .b (!(Z4 Yd 1 64)) :: .b (!(Z4 Yd 1 64)) :: .b (!(Z4 Yd 1 64)) :: .f .f32 Y8 :: .b (Z6 Y8) :: .b (!(Z6 Y8)) :: .b (!(Z6 Y8)) :: .b (!(Z6 Y8)) :: .f .f32 Ye :: .b (Z6 Ye) :: .b (!(Z6 Ye)) :: .b (!(Z6 Ye)) :: .any :: .agg [.nils, .nils] :: .i .i64 Yd :: .i .i64 (Yd + 1) :: .i .i64 Y1 :: .b (decide (Y1 < (Yd + 1))) :: .i .i64 Y1 :: .i .i64 Y6 :: .i .i64 Y2 :: an 67 [])),[.box 27 [.nils, .nils], .box 27 [.own 2, .own 3], .vec 32 3 (Ya.map Gv.c) false, .nest 60 (Ys.map fun l=>l.map (cI .i64)) false]⟩
def Z2X:List Bool:=(mR false [0,4,4,4,4,18,1,8,67])
def Z5x:List Bool:=(mR false [0,4,4,4,4,18,1,7,68])
set_option maxHeartbeats 1000000 in
theorem Z5X (Y6:Int) (Yd:Int) (Y8:Nat) (Ye:Nat) (Y1:Int) (Yh:(List Gv)) (Yl:(List (List Int))) (hp0:3≤Y6) (hp1:Y6≤8) (hp2:1≤Yd) (hp3:Yd≤5) (Z2n:0≤Y1) (Z2o:(Yh.length:Int)≤8 * Y1) (Z2p:(Yl.length:Int)≤16 * Y1) (Z2q:Y1≤Yd + 1):∀ (k:Nat) (Y2:Int) (Ya:(List Gv)) (Ys:(List (List Int))) (Z4b:0≤Y2) (Z4c:(Ya.length:Int)=(Yh.length:Int) + Y2) (Z4d:(Ys.length:Int)≤(Yl.length:Int) + 2 * Y2) (hk:(Y6 - Y2).toNat < k),Lp prog 0 (sub (X1 f30) [1,1,1,0,1,0,0,1,1,0,0,1,1,0,0]) (Z3q Y6 Yd Y8 Ye Y1 Yh Yl Y2 Ya Ys) (Z3p Y6 Yd Y8 Ye Y1 Yh Yl (ZE Y6 Yd Y8 Ye Y1 Yh Yl k Y2 Ya Ys)).1 (Z3p Y6 Yd Y8 Ye Y1 Yh Yl (ZE Y6 Yd Y8 Ye Y1 Yh Yl k Y2 Ya Ys)).2:=by
 intro k
 induction k with
 | zero=>intro Y2 Ya Ys Z4b Z4c Z4d hk;exact absurd hk (Nat.not_lt_zero _)
 | succ k ih =>
  intro Y2 Ya Ys Z4b Z4c Z4d hk
  cases Yr:(decide (Y2 < Y6)) with
  | true =>
   have YM:=odt Yr
   have YW:Z4a (fop .add .f32 (fop .quo .f32 (X0 .f32 Y2) (X0 .f32 Y6)) 1048576000)=true:=(by with_reducible exact (Z6C (by omega) (by omega) (by omega)).2)
   have YX:Z4a (fop .quo .f32 (X0 .f32 Y2) (X0 .f32 Y6))=true:=(by with_reducible exact (Z6C (by omega) (by omega) (by omega)).1)
   have YQ:Ya.length + ([(⟨(fop .mul .f32 Y8 (Zz (fop .add .f32 (fop .quo .f32 (X0 .f32 Y2) (X0 .f32 Y6)) 1048576000))),(fop .mul .f32 Y8 (Zz (fop .quo .f32 (X0 .f32 Y2) (X0 .f32 Y6)))),(fop .mul .f32 (X0 .f32 Y1) Ye)⟩:Gv)]).length≤1073741824:=(by ((have q:=Z1Y (a:=Y6) (b:=Y1) (by omega) (by omega) (by omega) (by omega);(simp only [List.length_append,List.length_cons,List.length_nil];omega))))
   have p {a C} (s:Scr a C):=sB Yr<|sK [17,17]<|sF (Z5e (fop .add .f32 (fop .quo .f32 (X0 .f32 Y2) (X0 .f32 Y6)) 1048576000) YW)<|sF (Z5e (fop .quo .f32 (X0 .f32 Y2) (X0 .f32 Y6)) YX)<|sC (show (Ya.map Gv.c).length + ([[.f .f32 (fop .mul .f32 Y8 (Zz (fop .add .f32 (fop .quo .f32 (X0 .f32 Y2) (X0 .f32 Y6)) 1048576000))), .f .f32 (fop .mul .f32 Y8 (Zz (fop .quo .f32 (X0 .f32 Y2) (X0 .f32 Y6)))), .f .f32 (fop .mul .f32 (X0 .f32 Y1) Ye)]]:List (List AV)).length≤1073741824 from (by simpa using YQ))<|s
   cases YD:(decide (Y1 < Yd)) with
   | true =>
    have Y1i:=odt YD
    have YN:(-9223372036854775808:Int)≤(Y6 * Y1):=by clear p;exact (by ((have q:=Z1Y (a:=Y6) (b:=Y1) (by omega) (by omega) (by omega) (by omega);omega)))
    have YY:(Y6 * Y1)≤(9223372036854775807:Int):=by clear p;exact (by ((have q:=Z1Y (a:=Y6) (b:=Y1) (by omega) (by omega) (by omega) (by omega);omega)))
    have Y13:(-9223372036854775808:Int)≤(Y2 + (Y6 * Y1)):=by clear p;exact (by omega)
    have Y10:(Y2 + (Y6 * Y1))≤(9223372036854775807:Int):=by clear p;exact (by ((have q:=Z1Y (a:=Y6) (b:=Y1) (by omega) (by omega) (by omega) (by omega);omega)))
    have Y14:(-9223372036854775808:Int)≤(Y2 + 1):=by clear p;exact (by omega)
    have Y19:(Y2 + 1)≤(9223372036854775807:Int):=by clear p;exact (by omega)
    have Y1e:Y6≠0:=by clear p;exact (by omega)
    have Y1a:(-9223372036854775808:Int)≤((Int.tmod (Y2 + 1) Y6) + (Y6 * Y1)):=by clear p;exact (by ((have q:=Z1Y (a:=Y6) (b:=Y1) (by omega) (by omega) (by omega) (by omega);(have q2:=Z5W (a:=Y2 + 1) (s:=Y6) (by omega) (by omega);omega))))
    have Y1b:((Int.tmod (Y2 + 1) Y6) + (Y6 * Y1))≤(9223372036854775807:Int):=by clear p;exact (by ((have q:=Z1Y (a:=Y6) (b:=Y1) (by omega) (by omega) (by omega) (by omega);(have q2:=Z5W (a:=Y2 + 1) (s:=Y6) (by omega) (by omega);omega))))
    have Y15:(-9223372036854775808:Int)≤(((Int.tmod (Y2 + 1) Y6) + (Y6 * Y1)) + Y6):=by clear p;exact (by omega)
    have Y16:(((Int.tmod (Y2 + 1) Y6) + (Y6 * Y1)) + Y6)≤(9223372036854775807:Int):=by clear p;exact (by ((have q:=Z1Y (a:=Y6) (b:=Y1) (by omega) (by omega) (by omega) (by omega);(have q2:=Z5W (a:=Y2 + 1) (s:=Y6) (by omega) (by omega);omega))))
    have Y1f:(-9223372036854775808:Int)≤((Y2 + (Y6 * Y1)) + Y6):=by clear p;exact (by omega)
    have Y1g:((Y2 + (Y6 * Y1)) + Y6)≤(9223372036854775807:Int):=by clear p;exact (by ((have q:=Z1Y (a:=Y6) (b:=Y1) (by omega) (by omega) (by omega) (by omega);omega)))
    have Y1h:Ys.length + [[(Y2 + (Y6 * Y1)),((Int.tmod (Y2 + 1) Y6) + (Y6 * Y1)),(((Int.tmod (Y2 + 1) Y6) + (Y6 * Y1)) + Y6)],[(Y2 + (Y6 * Y1)),(((Int.tmod (Y2 + 1) Y6) + (Y6 * Y1)) + Y6),((Y2 + (Y6 * Y1)) + Y6)]].length≤1073741824:=by clear p;exact (by ((have q:=Z1Y (a:=Y6) (b:=Y1) (by omega) (by omega) (by omega) (by omega);(simp only [List.length_append,List.length_cons,List.length_nil];omega))))
    have e:ZE Y6 Yd Y8 Ye Y1 Yh Yl (k + 1) Y2 Ya Ys=(ZE Y6 Yd Y8 Ye Y1 Yh Yl k (Y2 + 1) (Ya ++ [(⟨(fop .mul .f32 Y8 (Zz (fop .add .f32 (fop .quo .f32 (X0 .f32 Y2) (X0 .f32 Y6)) 1048576000))),(fop .mul .f32 Y8 (Zz (fop .quo .f32 (X0 .f32 Y2) (X0 .f32 Y6)))),(fop .mul .f32 (X0 .f32 Y1) Ye)⟩:Gv)]) (Ys ++ [[(Y2 + (Y6 * Y1)),((Int.tmod (Y2 + 1) Y6) + (Y6 * Y1)),(((Int.tmod (Y2 + 1) Y6) + (Y6 * Y1)) + Y6)],[(Y2 + (Y6 * Y1)),(((Int.tmod (Y2 + 1) Y6) + (Y6 * Y1)) + Y6),((Y2 + (Y6 * Y1)) + Y6)]])):=by simp only [ZE,Yr,YD,cond_true]
    rw [e]
    exact XQ E0Ok Zo [] Z2X [0,1,2,3] (⟨.i .i64 Y6 :: .i .i64 Yd :: .f .f32 Y8 :: .f .f32 Ye :: an 4 (.ptr 0 0 0 :: .b false :: .ptr 1 0 0 :: .i .i64 Y1 :: an 4 (.i .i64 Y6 :: .b (Z4 Y6 3 16) :: .b (!(Z4 Y6 3 16)) :: .b (!(Z4 Y6 3 16)) :: .i .i64 Yd :: .b (Z4 Yd 1 64) :: .b (!(Z4 Yd 1 64)) :: .b (!(Z4 Yd 1 64)) :: .b (!(Z4 Yd 1 64)) :: .f .f32 Y8 :: .b (Z6 Y8) :: .b (!(Z6 Y8)) :: .b (!(Z6 Y8)) :: .b (!(Z6 Y8)) :: .f .f32 Ye :: .b (Z6 Ye) :: .b (!(Z6 Ye)) :: .b (!(Z6 Ye)) :: .any :: .agg [.nils, .nils] :: .i .i64 Yd :: .i .i64 (Yd + 1) :: .i .i64 Y1 :: .b (decide (Y1 < (Yd + 1))) :: .i .i64 Y1 :: .i .i64 Y6 :: .i .i64 (Y2 + 1) :: an 67 [])),[.box 27 [.nils, .nils], .box 27 [.own 2, .own 3], .vec 32 3 ((Ya.map Gv.c) ++ ([[.f .f32 (fop .mul .f32 Y8 (Zz (fop .add .f32 (fop .quo .f32 (X0 .f32 Y2) (X0 .f32 Y6)) 1048576000))), .f .f32 (fop .mul .f32 Y8 (Zz (fop .quo .f32 (X0 .f32 Y2) (X0 .f32 Y6)))), .f .f32 (fop .mul .f32 (X0 .f32 Y1) Ye)]]:List (List AV))) false, .nest 60 ((Ys.map fun l=>l.map (cI .i64)) ++ [([[.i .i64 (Y2 + (Y6 * Y1))],[.i .i64 ((Int.tmod (Y2 + 1) Y6) + (Y6 * Y1))],[.i .i64 (((Int.tmod (Y2 + 1) Y6) + (Y6 * Y1)) + Y6)]]:List (List AV)),([[.i .i64 (Y2 + (Y6 * Y1))],[.i .i64 (((Int.tmod (Y2 + 1) Y6) + (Y6 * Y1)) + Y6)],[.i .i64 ((Y2 + (Y6 * Y1)) + Y6)]]:List (List AV))]) false]⟩) (p (sB YD<|sK [14,14]<|sI (Y6 * Y1) YN YY<|sI (Y2 + (Y6 * Y1)) Y13 Y10<|sI (Y2 + 1) Y14 Y19<|sC Y1e<|sQ (Int.tmod (Y2 + 1) Y6)<|sI (Y6 * Y1) YN YY<|sI ((Int.tmod (Y2 + 1) Y6) + (Y6 * Y1)) Y1a Y1b<|sI (((Int.tmod (Y2 + 1) Y6) + (Y6 * Y1)) + Y6) Y15 Y16<|sI (((Int.tmod (Y2 + 1) Y6) + (Y6 * Y1)) + Y6) Y15 Y16<|sI ((Y2 + (Y6 * Y1)) + Y6) Y1f Y1g<|sC (show (Ys.map fun l=>l.map (cI .i64)).length + [([[.i .i64 (Y2 + (Y6 * Y1))],[.i .i64 ((Int.tmod (Y2 + 1) Y6) + (Y6 * Y1))],[.i .i64 (((Int.tmod (Y2 + 1) Y6) + (Y6 * Y1)) + Y6)]]:List (List AV)),([[.i .i64 (Y2 + (Y6 * Y1))],[.i .i64 (((Int.tmod (Y2 + 1) Y6) + (Y6 * Y1)) + Y6)],[.i .i64 ((Y2 + (Y6 * Y1)) + Y6)]]:List (List AV))].length≤1073741824 from (by simpa using Y1h))<|sI (Y2 + 1) Y14 Y19<|sN)) (by kernel_rfl) (by simp [Z3q,Gv.c,cL,cI]) (ih (Y2 + 1) (Ya ++ [(⟨(fop .mul .f32 Y8 (Zz (fop .add .f32 (fop .quo .f32 (X0 .f32 Y2) (X0 .f32 Y6)) 1048576000))),(fop .mul .f32 Y8 (Zz (fop .quo .f32 (X0 .f32 Y2) (X0 .f32 Y6)))),(fop .mul .f32 (X0 .f32 Y1) Ye)⟩:Gv)]) (Ys ++ [[(Y2 + (Y6 * Y1)),((Int.tmod (Y2 + 1) Y6) + (Y6 * Y1)),(((Int.tmod (Y2 + 1) Y6) + (Y6 * Y1)) + Y6)],[(Y2 + (Y6 * Y1)),(((Int.tmod (Y2 + 1) Y6) + (Y6 * Y1)) + Y6),((Y2 + (Y6 * Y1)) + Y6)]]) (show 0≤(Y2 + 1) from (by omega)) (show ((Ya ++ [(⟨(fop .mul .f32 Y8 (Zz (fop .add .f32 (fop .quo .f32 (X0 .f32 Y2) (X0 .f32 Y6)) 1048576000))),(fop .mul .f32 Y8 (Zz (fop .quo .f32 (X0 .f32 Y2) (X0 .f32 Y6)))),(fop .mul .f32 (X0 .f32 Y1) Ye)⟩:Gv)]).length:Int)=(Yh.length:Int) + (Y2 + 1) from (by simp only [List.length_append,List.length_cons,List.length_nil];omega)) (show ((Ys ++ [[(Y2 + (Y6 * Y1)),((Int.tmod (Y2 + 1) Y6) + (Y6 * Y1)),(((Int.tmod (Y2 + 1) Y6) + (Y6 * Y1)) + Y6)],[(Y2 + (Y6 * Y1)),(((Int.tmod (Y2 + 1) Y6) + (Y6 * Y1)) + Y6),((Y2 + (Y6 * Y1)) + Y6)]]).length:Int)≤(Yl.length:Int) + 2 * (Y2 + 1) from (by simp only [List.length_append,List.length_cons,List.length_nil];omega)) (by omega))
   | false =>
    have Y1i:=odf YD
    have YN:(-9223372036854775808:Int)≤(Y2 + 1):=by clear p;exact (by omega)
    have YY:(Y2 + 1)≤(9223372036854775807:Int):=by clear p;exact (by omega)
    have e:ZE Y6 Yd Y8 Ye Y1 Yh Yl (k + 1) Y2 Ya Ys=(ZE Y6 Yd Y8 Ye Y1 Yh Yl k (Y2 + 1) (Ya ++ [(⟨(fop .mul .f32 Y8 (Zz (fop .add .f32 (fop .quo .f32 (X0 .f32 Y2) (X0 .f32 Y6)) 1048576000))),(fop .mul .f32 Y8 (Zz (fop .quo .f32 (X0 .f32 Y2) (X0 .f32 Y6)))),(fop .mul .f32 (X0 .f32 Y1) Ye)⟩:Gv)]) Ys):=by simp only [ZE,Yr,YD,cond_true,cond_false]
    rw [e]
    exact XQ E0Ok Zo [] Z2X [0,1,2,3] (⟨.i .i64 Y6 :: .i .i64 Yd :: .f .f32 Y8 :: .f .f32 Ye :: an 4 (.ptr 0 0 0 :: .b false :: .ptr 1 0 0 :: .i .i64 Y1 :: an 4 (.i .i64 Y6 :: .b (Z4 Y6 3 16) :: .b (!(Z4 Y6 3 16)) :: .b (!(Z4 Y6 3 16)) :: .i .i64 Yd :: .b (Z4 Yd 1 64) :: .b (!(Z4 Yd 1 64)) :: .b (!(Z4 Yd 1 64)) :: .b (!(Z4 Yd 1 64)) :: .f .f32 Y8 :: .b (Z6 Y8) :: .b (!(Z6 Y8)) :: .b (!(Z6 Y8)) :: .b (!(Z6 Y8)) :: .f .f32 Ye :: .b (Z6 Ye) :: .b (!(Z6 Ye)) :: .b (!(Z6 Ye)) :: .any :: .agg [.nils, .nils] :: .i .i64 Yd :: .i .i64 (Yd + 1) :: .i .i64 Y1 :: .b (decide (Y1 < (Yd + 1))) :: .i .i64 Y1 :: .i .i64 Y6 :: .i .i64 (Y2 + 1) :: an 67 [])),[.box 27 [.nils, .nils], .box 27 [.own 2, .own 3], .vec 32 3 ((Ya.map Gv.c) ++ ([[.f .f32 (fop .mul .f32 Y8 (Zz (fop .add .f32 (fop .quo .f32 (X0 .f32 Y2) (X0 .f32 Y6)) 1048576000))), .f .f32 (fop .mul .f32 Y8 (Zz (fop .quo .f32 (X0 .f32 Y2) (X0 .f32 Y6)))), .f .f32 (fop .mul .f32 (X0 .f32 Y1) Ye)]]:List (List AV))) false, .nest 60 (Ys.map fun l=>l.map (cI .i64)) false]⟩) (p (sB YD<|sI (Y2 + 1) YN YY<|sN)) (by kernel_rfl) (by simp [Z3q,Gv.c]) (ih (Y2 + 1) (Ya ++ [(⟨(fop .mul .f32 Y8 (Zz (fop .add .f32 (fop .quo .f32 (X0 .f32 Y2) (X0 .f32 Y6)) 1048576000))),(fop .mul .f32 Y8 (Zz (fop .quo .f32 (X0 .f32 Y2) (X0 .f32 Y6)))),(fop .mul .f32 (X0 .f32 Y1) Ye)⟩:Gv)]) Ys (show 0≤(Y2 + 1) from (by omega)) (show ((Ya ++ [(⟨(fop .mul .f32 Y8 (Zz (fop .add .f32 (fop .quo .f32 (X0 .f32 Y2) (X0 .f32 Y6)) 1048576000))),(fop .mul .f32 Y8 (Zz (fop .quo .f32 (X0 .f32 Y2) (X0 .f32 Y6)))),(fop .mul .f32 (X0 .f32 Y1) Ye)⟩:Gv)]).length:Int)=(Yh.length:Int) + (Y2 + 1) from (by simp only [List.length_append,List.length_cons,List.length_nil];omega)) (show (Ys.length:Int)≤(Yl.length:Int) + 2 * (Y2 + 1) from (by omega)) (by omega))
  | false =>
   have YM:=odf Yr
   have e:ZE Y6 Yd Y8 Ye Y1 Yh Yl (k + 1) Y2 Ya Ys=(Ya,Ys):=by simp only [ZE,Yr,cond_false]
   rw [e]
   exact outR (e:=(.exit 2)) E0Ok Zo [] Z5x [0,1,2,3] (sB Yr<|sN) (by kernel_rfl) (by intro h;cases h)
def ZK (Y6:Int) (Yd:Int) (Y8:Nat) (Ye:Nat) (Y1:Int) (Yh:(List Gv)) (Yl:(List (List Int))):(List Gv) × (List (List Int)):=(ZE Y6 Yd Y8 Ye Y1 Yh Yl ((Y6 - 0).toNat + 1) 0 Yh Yl)
theorem Z81 (S R:Int) (u v:Nat) (x:Int) (a0:List Gv) (b0:List (List Int)):∀ (k:Nat) (i:Int) (a:List Gv) (b:List (List Int)),0≤i→(∀ t∈b,t.length=3)→(ZE S R u v x a0 b0 k i a b).1.length≤a.length + (S - i).toNat∧(ZE S R u v x a0 b0 k i a b).2.length≤b.length + 2 * (S - i).toNat∧∀ t∈(ZE S R u v x a0 b0 k i a b).2,t.length=3:=by
  intro k
  induction k with
  | zero=>intro i a b _ _;exact ⟨Nat.zero_le _,Nat.zero_le _,fun t ht=>by cases ht⟩
  | succ k ih =>
    intro i a b h0 hb
    rw [ZE]
    by_cases hi:i < S
    · rw [decide_eq_true hi,cond_true]
      cases decide (x < R) with
      | true =>
        rw [cond_true]
        refine ⟨Nat.le_trans (ih (i + 1) _ _ (by omega) ?_).1 ?_,Nat.le_trans (ih (i + 1) _ _ (by omega) ?_).2.1 ?_,(ih (i + 1) _ _ (by omega) ?_).2.2⟩
        any_goals (simp only [List.length_append,List.length_cons,List.length_nil];omega)
        all_goals
          intro t ht
          rcases List.mem_append.1 ht with ht | ht
          · exact hb t ht
          · simp only [List.mem_cons,List.not_mem_nil,or_false] at ht
            rcases ht with rfl | rfl<;>rfl
      | false =>
        rw [cond_false]
        refine ⟨Nat.le_trans (ih (i + 1) _ _ (by omega) hb).1 ?_,Nat.le_trans (ih (i + 1) _ _ (by omega) hb).2.1 ?_,(ih (i + 1) _ _ (by omega) hb).2.2⟩
        all_goals (first | omega | (simp only [List.length_append,List.length_cons,List.length_nil];omega))
    · rw [decide_eq_false hi,cond_false];exact ⟨by show a.length≤_;omega,by show b.length≤_;omega,hb⟩
theorem Z72 (S R:Int) (u v:Nat) (x:Int) (a:List Gv) (b:List (List Int)):(ZK S R u v x a b).1.length≤a.length + S.toNat∧(ZK S R u v x a b).2.length≤b.length + 2 * S.toNat:=by
  unfold ZK
  have key:∀ (k:Nat) (i:Int) (a':List Gv) (b':List (List Int)),0≤i→(ZE S R u v x a b k i a' b').1.length≤a'.length + (S - i).toNat∧(ZE S R u v x a b k i a' b').2.length≤b'.length + 2 * (S - i).toNat:=by
    intro k
    induction k with
    | zero=>intro i a' b' _;exact ⟨Nat.zero_le _,Nat.zero_le _⟩
    | succ k ih =>
      intro i a' b' h0
      rw [ZE]
      by_cases hi:i < S
      · rw [decide_eq_true hi,cond_true]
        cases decide (x < R) with
        | true =>
          rw [cond_true]
          refine ⟨Nat.le_trans (ih (i + 1) _ _ (by omega)).1 ?_,Nat.le_trans (ih (i + 1) _ _ (by omega)).2 ?_⟩
          all_goals ((simp only [List.length_append,List.length_cons,List.length_nil];omega))
        | false =>
          rw [cond_false]
          refine ⟨Nat.le_trans (ih (i + 1) _ _ (by omega)).1 ?_,Nat.le_trans (ih (i + 1) _ _ (by omega)).2 ?_⟩
          all_goals (first | omega | (simp only [List.length_append,List.length_cons,List.length_nil];omega))
      · rw [decide_eq_false hi,cond_false];exact ⟨by show a'.length≤_;omega,by show b'.length≤_;omega⟩
  have:=key ((S - 0).toNat + 1) 0 a b (Int.le_refl 0)
  omega
def Z16 (Y6:Int) (Yd:Int) (Y8:Nat) (Ye:Nat):Nat→Int→(List Gv)→(List (List Int))→(List Gv) × (List (List Int))
  | 0,_,_,_=>default
  | k + 1,Y1,Yh,Yl=>(cond (decide (Y1 < (Yd + 1)))
    (Z16 Y6 Yd Y8 Ye k (Y1 + 1) ((ZK Y6 Yd Y8 Ye Y1 Yh Yl).1) ((ZK Y6 Yd Y8 Ye Y1 Yh Yl).2))
    (Yh,Yl))
def Z3r (Y6:Int) (Yd:Int) (Y8:Nat) (Ye:Nat) (r:(List Gv) × (List (List Int))):Ex × St:=((.exit 0),⟨.i .i64 Y6 :: .i .i64 Yd :: .f .f32 Y8 :: .f .f32 Ye :: an 4 (.ptr 0 0 0 :: .b false :: .ptr 1 0 0 :: an 5 (.i .i64 Y6 :: .b (Z4 Y6 3 16) :: .b (!(Z4 Y6 3 16)) :: .b (!(Z4 Y6 3 16)) :: .i .i64 Yd :: .b (Z4 Yd 1 64) :: .b (!(Z4 Yd 1 64)) :: .b (!(Z4 Yd 1 64)) :: .b (!(Z4 Yd 1 64)) :: .f .f32 Y8 :: .b (Z6 Y8) :: .b (!(Z6 Y8)) :: .b (!(Z6 Y8)) :: .b (!(Z6 Y8)) :: .f .f32 Ye :: .b (Z6 Ye) :: .b (!(Z6 Ye)) :: .b (!(Z6 Ye)) :: .any :: .agg [.nils, .nils] :: .i .i64 Yd :: an 73 [])),[.box 27 [.nils, .nils], .box 27 [.own 2, .own 3], .vec 32 3 (r.1.map Gv.c) false, .nest 60 (r.2.map fun l=>l.map (cI .i64)) false]⟩)
def Z4R (Y6:Int) (Yd:Int) (Y8:Nat) (Ye:Nat) (Y1:Int) (Yh:(List Gv)) (Yl:(List (List Int))):St:=⟨.i .i64 Y6 :: .i .i64 Yd :: .f .f32 Y8 :: .f .f32 Ye :: an 4 (.ptr 0 0 0 :: .b false :: .ptr 1 0 0 :: an 5 (.i .i64 Y6 :: .b (Z4 Y6 3 16) :: .b (!(Z4 Y6 3 16)) :: .b (!(Z4 Y6 3 16)) :: .i .i64 Yd :: .b (Z4 Yd 1 64) :: .b (!(Z4 Yd 1 64)) :: .b (!(Z4 Yd 1 64)) :: .b (!(Z4 Yd 1 64)) :: .f .f32 Y8 :: .b (Z6 Y8) :: .b (!(Z6 Y8)) :: .b (!(Z6 Y8)) :: .b (!(Z6 Y8)) :: .f .f32 Ye :: .b (Z6 Ye) :: .b (!(Z6 Ye)) :: .b (!(Z6 Ye)) :: .any :: .agg [.nils, .nils] :: .i .i64 Yd :: .i .i64 (Yd + 1) :: .i .i64 Y1 :: an 71 [])),[.box 27 [.nils, .nils], .box 27 [.own 2, .own 3], .vec 32 3 (Yh.map Gv.c) false, .nest 60 (Yl.map fun l=>l.map (cI .i64)) false]⟩
def Z4e:List Bool:=(mR false [0,4,4,3,5,18,1,4,71])
def Z5y:List Bool:=(mR false [0,4,4,3,5,18,1,2,73])
theorem Z5Y (Y6:Int) (Yd:Int) (Y8:Nat) (Ye:Nat) (hp0:3≤Y6) (hp1:Y6≤8) (hp2:1≤Yd) (hp3:Yd≤5):∀ (k:Nat) (Y1:Int) (Yh:(List Gv)) (Yl:(List (List Int))) (Z2n:0≤Y1) (Z2o:(Yh.length:Int)≤8 * Y1) (Z2p:(Yl.length:Int)≤16 * Y1) (Z2q:Y1≤Yd + 1) (hk:((Yd + 1) - Y1).toNat < k),Lp prog 0 (sub (X1 f30) [1,1,1,0,1,0,0]) (Z4R Y6 Yd Y8 Ye Y1 Yh Yl) (Z3r Y6 Yd Y8 Ye (Z16 Y6 Yd Y8 Ye k Y1 Yh Yl)).1 (Z3r Y6 Yd Y8 Ye (Z16 Y6 Yd Y8 Ye k Y1 Yh Yl)).2:=by
 intro k
 induction k with
 | zero=>intro Y1 Yh Yl Z2n Z2o Z2p Z2q hk;exact absurd hk (Nat.not_lt_zero _)
 | succ k ih =>
  intro Y1 Yh Yl Z2n Z2o Z2p Z2q hk
  cases Yp:(decide (Y1 < (Yd + 1))) with
  | true =>
   have YF:=odt Yp
   have YO:(-9223372036854775808:Int)≤(Y1 + 1):=(by omega)
   have YL:(Y1 + 1)≤(9223372036854775807:Int):=(by omega)
   have e:Z16 Y6 Yd Y8 Ye (k + 1) Y1 Yh Yl=(Z16 Y6 Yd Y8 Ye k (Y1 + 1) ((ZK Y6 Yd Y8 Ye Y1 Yh Yl).1) ((ZK Y6 Yd Y8 Ye Y1 Yh Yl).2)):=by simp only [Z16,Yp,cond_true]
   rw [e]
   exact Xb E0Ok Zo [] Z4e [0,1,2,3] (ih (Y1 + 1) ((ZK Y6 Yd Y8 Ye Y1 Yh Yl).1) ((ZK Y6 Yd Y8 Ye Y1 Yh Yl).2) (show 0≤(Y1 + 1) from (by omega)) (show (((ZK Y6 Yd Y8 Ye Y1 Yh Yl).1).length:Int)≤8 * (Y1 + 1) from (by have q:=Z72 Y6 Yd Y8 Ye Y1 Yh Yl;omega)) (show (((ZK Y6 Yd Y8 Ye Y1 Yh Yl).2).length:Int)≤16 * (Y1 + 1) from (by have q:=Z72 Y6 Yd Y8 Ye Y1 Yh Yl;omega)) (show (Y1 + 1)≤Yd + 1 from (by assumption)) (by omega)) (sB Yp<|sL Z2X 4 (X7 (Z3p Y6 Yd Y8 Ye Y1 Yh Yl) (x:=(ZK Y6 Yd Y8 Ye Y1 Yh Yl)) (Z5X Y6 Yd Y8 Ye Y1 Yh Yl hp0 hp1 hp2 hp3 Z2n Z2o Z2p Z2q ((Y6 - 0).toNat + 1) 0 Yh Yl (show 0≤0 from (by omega)) (show (Yh.length:Int)=(Yh.length:Int) + 0 from (by omega)) (show (Yl.length:Int)≤(Yl.length:Int) + 2 * 0 from (by omega)) (Nat.lt_succ_self _)) rfl)<|sI (Y1 + 1) YO YL<|sN) (by kernel_rfl)
  | false =>
   have YF:=odf Yp
   have e:Z16 Y6 Yd Y8 Ye (k + 1) Y1 Yh Yl=(Yh,Yl):=by simp only [Z16,Yp,cond_false]
   rw [e]
   exact outR (e:=(.exit 0)) E0Ok Zo [] Z5y [0,1,2,3] (sB Yp<|sN) (by kernel_rfl) (by intro h;cases h)
def Zj (Y6:Int) (Yd:Int) (Y8:Nat) (Ye:Nat):(List Gv) × (List (List Int)):=(Z16 Y6 Yd Y8 Ye (((Yd + 1) - 0).toNat + 1) 0 ([]:List Gv) ([]:List (List Int)))
theorem Z82 (S R:Int) (u v:Nat) (hS:S≤8):∀ (k:Nat) (i:Int) (a:List Gv) (b:List (List Int)),0≤i→(∀ t∈b,t.length=3)→(Z16 S R u v k i a b).1.length≤a.length + 8 * (R + 1 - i).toNat∧(Z16 S R u v k i a b).2.length≤b.length + 16 * (R + 1 - i).toNat∧∀ t∈(Z16 S R u v k i a b).2,t.length=3:=by
  intro k
  induction k with
  | zero=>intro i a b _ _;exact ⟨Nat.zero_le _,Nat.zero_le _,fun t ht=>by cases ht⟩
  | succ k ih =>
    intro i a b h0 hb
    rw [Z16]
    by_cases hi:i < R + 1
    · rw [decide_eq_true hi,cond_true]
      have q1:=Z72 S R u v i a b
      have q3:∀ t∈(ZK S R u v i a b).2,t.length=3:=by unfold ZK;exact (Z81 S R u v i a b _ _ _ _ (Int.le_refl 0) hb).2.2
      have q2:=ih (i + 1) (ZK S R u v i a b).1 (ZK S R u v i a b).2 (by omega) q3
      refine ⟨by omega,by omega,q2.2.2⟩
    · rw [decide_eq_false hi,cond_false];exact ⟨by show a.length≤_;omega,by show b.length≤_;omega,hb⟩
theorem Z5p (S R:Int) (u v:Nat) (hS:S≤8) (hR:R≤5):(Zj S R u v).1.length≤48∧(Zj S R u v).2.length≤96∧∀ t∈(Zj S R u v).2,t.length=3:=by
  unfold Zj
  have q:=Z82 S R u v hS (((R + 1) - 0).toNat + 1) 0 [] [] (Int.le_refl 0) (fun t ht=>by cases ht)
  rw [List.length_nil,List.length_nil] at q
  exact ⟨by omega,by omega,q.2.2⟩
def Z2 (Y6:Int) (Yd:Int) (Y8:Nat) (Ye:Nat):Gm × Bool:=(cond (Z4 Y6 3 16)
  (cond (Z4 Yd 1 64)
    (cond (Z6 Y8)
      (cond (Z6 Ye)
        (cond (ZA (⟨(Zj Y6 Yd Y8 Ye).1,(Zj Y6 Yd Y8 Ye).2⟩:Gm))
          ((Zm (⟨(Zj Y6 Yd Y8 Ye).1,(Zj Y6 Yd Y8 Ye).2⟩:Gm)).1,(Zm (⟨(Zj Y6 Yd Y8 Ye).1,(Zj Y6 Yd Y8 Ye).2⟩:Gm)).2.1)
          ((⟨(Zm (⟨(Zj Y6 Yd Y8 Ye).1,(Zj Y6 Yd Y8 Ye).2⟩:Gm)).2.2.1,(Zm (⟨(Zj Y6 Yd Y8 Ye).1,(Zj Y6 Yd Y8 Ye).2⟩:Gm)).2.2.2⟩:Gm),(Zm (⟨(Zj Y6 Yd Y8 Ye).1,(Zj Y6 Yd Y8 Ye).2⟩:Gm)).2.1))
        ((⟨([]:List Gv),([]:List (List Int))⟩:Gm),false))
      ((⟨([]:List Gv),([]:List (List Int))⟩:Gm),false))
    ((⟨([]:List Gv),([]:List (List Int))⟩:Gm),false))
  ((⟨([]:List Gv),([]:List (List Int))⟩:Gm),false))
set_option maxHeartbeats 1000000 in
theorem Z6D (Y6:Int) (Yd:Int) (Y8:Nat) (Ye:Nat) (hp0:3≤Y6) (hp1:Y6≤8) (hp2:1≤Yd) (hp3:Yd≤5)  : Fn prog 30 [.i .i64 Y6, .i .i64 Yd, .f .f32 Y8, .f .f32 Ye] (.tup [.agg [.own 0, .own 1], .b ((Z2 Y6 Yd Y8 Ye).2)]) [.vec 32 3 (((Z2 Y6 Yd Y8 Ye).1.Pq).map Gv.c) false, .nest 60 (((Z2 Y6 Yd Y8 Ye).1.Tr).map fun l=>l.map (cI .i64)) false]:=by
 have p {a C} (s:Scr a C):=sF (Z2H Y6 3 16)<|s
 cases h0:(Z4 Y6 3 16) with
 | true =>
  have q {a C} (s:Scr a C):=p (sB' h0<|sB' h0<|sF (Z2H Yd 1 64)<|sB' h0<|sB' h0<|s)
  clear p
  cases h1:(Z4 Yd 1 64) with
  | true =>
   have p {a C} (s:Scr a C):=q (sB' h1<|sB' h1<|sF (Z35 Y8)<|sB' h1<|sB' h1<|s)
   clear q
   cases h2:(Z6 Y8) with
   | true =>
    have q {a C} (s:Scr a C):=p (sB' h2<|sB' h2<|sF (Z35 Ye)<|sB' h2<|sB' h2<|s)
    clear p
    cases h3:(Z6 Ye) with
    | true =>
     have y0:(-9223372036854775808:Int)≤(Yd + 1):=by clear q;exact (by omega)
     have y1:(Yd + 1)≤(9223372036854775807:Int):=by clear q;exact (by omega)
     have p {a C} (s:Scr a C):=q (sB' h3<|sI (Yd + 1) y0 y1<|sL Z4e 2 (Lp.nil (st:=⟨.i .i64 Y6 :: .i .i64 Yd :: .f .f32 Y8 :: .f .f32 Ye :: an 4 (.ptr 0 0 0 :: .b false :: .ptr 1 0 0 :: an 5 (.i .i64 Y6 :: .b (Z4 Y6 3 16) :: .b (!(Z4 Y6 3 16)) :: .b (!(Z4 Y6 3 16)) :: .i .i64 Yd :: .b (Z4 Yd 1 64) :: .b (!(Z4 Yd 1 64)) :: .b (!(Z4 Yd 1 64)) :: .b (!(Z4 Yd 1 64)) :: .f .f32 Y8 :: .b (Z6 Y8) :: .b (!(Z6 Y8)) :: .b (!(Z6 Y8)) :: .b (!(Z6 Y8)) :: .f .f32 Ye :: .b (Z6 Ye) :: .b (!(Z6 Ye)) :: .b (!(Z6 Ye)) :: .any :: .agg [.nils, .nils] :: .i .i64 Yd :: .i .i64 (Yd + 1) :: .i .i64 0 :: an 71 [])),[.box 27 [.nils, .nils], .box 27 [.nils, .nils]]⟩) (st2:=⟨.i .i64 Y6 :: .i .i64 Yd :: .f .f32 Y8 :: .f .f32 Ye :: an 4 (.ptr 0 0 0 :: .b false :: .ptr 1 0 0 :: an 5 (.i .i64 Y6 :: .b (Z4 Y6 3 16) :: .b (!(Z4 Y6 3 16)) :: .b (!(Z4 Y6 3 16)) :: .i .i64 Yd :: .b (Z4 Yd 1 64) :: .b (!(Z4 Yd 1 64)) :: .b (!(Z4 Yd 1 64)) :: .b (!(Z4 Yd 1 64)) :: .f .f32 Y8 :: .b (Z6 Y8) :: .b (!(Z6 Y8)) :: .b (!(Z6 Y8)) :: .b (!(Z6 Y8)) :: .f .f32 Ye :: .b (Z6 Ye) :: .b (!(Z6 Ye)) :: .b (!(Z6 Ye)) :: .any :: .agg [.nils, .nils] :: .i .i64 Yd :: .i .i64 (Yd + 1) :: .i .i64 0 :: an 71 [])),[.box 27 [.nils, .nils], .box 27 [.own 2, .own 3], .vec 32 3 [] false, .nest 60 [] false]⟩) (ps:=[(.row 1 0, .vec 32 3 [] false),(.row 1 1, .nest 60 [] false)]) rfl (XI (st2:=⟨.i .i64 Y6 :: .i .i64 Yd :: .f .f32 Y8 :: .f .f32 Ye :: an 4 (.ptr 0 0 0 :: .b false :: .ptr 1 0 0 :: an 5 (.i .i64 Y6 :: .b (Z4 Y6 3 16) :: .b (!(Z4 Y6 3 16)) :: .b (!(Z4 Y6 3 16)) :: .i .i64 Yd :: .b (Z4 Yd 1 64) :: .b (!(Z4 Yd 1 64)) :: .b (!(Z4 Yd 1 64)) :: .b (!(Z4 Yd 1 64)) :: .f .f32 Y8 :: .b (Z6 Y8) :: .b (!(Z6 Y8)) :: .b (!(Z6 Y8)) :: .b (!(Z6 Y8)) :: .f .f32 Ye :: .b (Z6 Ye) :: .b (!(Z6 Ye)) :: .b (!(Z6 Ye)) :: .any :: .agg [.nils, .nils] :: .i .i64 Yd :: .i .i64 (Yd + 1) :: .i .i64 0 :: an 71 [])),[.box 27 [.nils, .nils], .box 27 [.own 2, .own 3], .vec 32 3 [] false, .nest 60 [] false]⟩) (X7 (Z3r Y6 Yd Y8 Ye) (x:=(Zj Y6 Yd Y8 Ye)) (Z5Y Y6 Yd Y8 Ye hp0 hp1 hp2 hp3 (((Yd + 1) - 0).toNat + 1) 0 ([]:List Gv) ([]:List (List Int)) (show 0≤0 from (by omega)) (show (([]:List Gv).length:Int)≤8 * 0 from (by simp;done)) (show (([]:List (List Int)).length:Int)≤16 * 0 from (by simp;done)) (show 0≤Yd + 1 from (by omega)) (Nat.lt_succ_self _)) rfl) (by simp [Z4R,Gv.c,cL,cI])))<|s)
     clear q
     cases h4:(ZA (⟨(Zj Y6 Yd Y8 Ye).1,(Zj Y6 Yd Y8 Ye).2⟩:Gm)) with
     | true =>
      have y2:(⟨(Zj Y6 Yd Y8 Ye).1,(Zj Y6 Yd Y8 Ye).2⟩:Gm).Pq.length≤1073741824:=by clear p;exact (by exact Nat.le_trans (Z5p Y6 Yd Y8 Ye (by omega) (by omega)).1 (by omega))
      have y3:(⟨(Zj Y6 Yd Y8 Ye).1,(Zj Y6 Yd Y8 Ye).2⟩:Gm).Tr.length≤1073741824:=by clear p;exact (by exact Nat.le_trans (Z5p Y6 Yd Y8 Ye (by omega) (by omega)).2.1 (by omega))
      have y4:∀ t∈(⟨(Zj Y6 Yd Y8 Ye).1,(Zj Y6 Yd Y8 Ye).2⟩:Gm).Tr,t.length≤1073741824:=by clear p;exact (by (intro t ht;have q:=(Z5p Y6 Yd Y8 Ye (by omega) (by omega)).2.2 t ht;omega))
      refine fnS E0Ok Zo (c:=X1 f30) [] (.tup [.agg [.own 0, .own 1], .b ((Zm (⟨(Zj Y6 Yd Y8 Ye).1,(Zj Y6 Yd Y8 Ye).2⟩:Gm)).2.1)]) [.vec 32 3 (((Zm (⟨(Zj Y6 Yd Y8 Ye).1,(Zj Y6 Yd Y8 Ye).2⟩:Gm)).1.Pq).map Gv.c) false, .nest 60 (((Zm (⟨(Zj Y6 Yd Y8 Ye).1,(Zj Y6 Yd Y8 Ye).2⟩:Gm)).1.Tr).map fun l=>l.map (cI .i64)) false] func30 (p (sS (Xj.frame (Z2z (⟨(Zj Y6 Yd Y8 Ye).1,(Zj Y6 Yd Y8 Ye).2⟩:Gm) y2 y3 y4 h4) [2,3] (R:=[.box 27 [.nils, .nils], .box 27 [.own 2, .own 3], .vec 32 3 (((Zj Y6 Yd Y8 Ye).1).map Gv.c) false, .nest 60 (((Zj Y6 Yd Y8 Ye).2).map fun l=>l.map (cI .i64)) false]) (args':=[.agg [.own 2, .own 3]]) rfl rfl rfl rfl rfl rfl)<|sK [4,5] sN)) rfl (by kernel_rfl) (by kernel_rfl) rfl ?_ ?_
      · simp only [Z2,h0,h1,h2,h3,h4,cond_true]
      · simp [Z2,h0,h1,h2,h3,h4]
     | false =>
      have y2:(⟨(Zj Y6 Yd Y8 Ye).1,(Zj Y6 Yd Y8 Ye).2⟩:Gm).Pq.length≤1073741824:=by clear p;exact (by exact Nat.le_trans (Z5p Y6 Yd Y8 Ye (by omega) (by omega)).1 (by omega))
      have y3:(⟨(Zj Y6 Yd Y8 Ye).1,(Zj Y6 Yd Y8 Ye).2⟩:Gm).Tr.length≤1073741824:=by clear p;exact (by exact Nat.le_trans (Z5p Y6 Yd Y8 Ye (by omega) (by omega)).2.1 (by omega))
      have y4:∀ t∈(⟨(Zj Y6 Yd Y8 Ye).1,(Zj Y6 Yd Y8 Ye).2⟩:Gm).Tr,t.length≤1073741824:=by clear p;exact (by (intro t ht;have q:=(Z5p Y6 Yd Y8 Ye (by omega) (by omega)).2.2 t ht;omega))
      refine fnS E0Ok Zo (c:=X1 f30) [] (.tup [.agg [.own 0, .own 1], .b ((Zm (⟨(Zj Y6 Yd Y8 Ye).1,(Zj Y6 Yd Y8 Ye).2⟩:Gm)).2.1)]) [.vec 32 3 (((Zm (⟨(Zj Y6 Yd Y8 Ye).1,(Zj Y6 Yd Y8 Ye).2⟩:Gm)).2.2.1).map Gv.c) false, .nest 60 (((Zm (⟨(Zj Y6 Yd Y8 Ye).1,(Zj Y6 Yd Y8 Ye).2⟩:Gm)).2.2.2).map fun l=>l.map (cI .i64)) false] func30 (p (sS (Xj.frame (Z2y (⟨(Zj Y6 Yd Y8 Ye).1,(Zj Y6 Yd Y8 Ye).2⟩:Gm) y2 y3 y4 h4) [2,3] (R:=[.box 27 [.nils, .nils], .box 27 [.own 2, .own 3], .vec 32 3 (((Zj Y6 Yd Y8 Ye).1).map Gv.c) false, .nest 60 (((Zj Y6 Yd Y8 Ye).2).map fun l=>l.map (cI .i64)) false]) (args':=[.agg [.own 2, .own 3]]) rfl rfl rfl rfl rfl rfl)<|sK [2,3] sN)) rfl (by kernel_rfl) (by kernel_rfl) rfl ?_ ?_
      · simp only [Z2,h0,h1,h2,h3,h4,cond_true,cond_false]
      · simp [Z2,h0,h1,h2,h3,h4]
    | false =>
     refine fnS E0Ok Zo (c:=X1 f30) [(.row 0 0, .vec 32 3 [] false),(.row 0 1, .nest 60 [] false)] (.tup [.agg [.own 0, .own 1], .b false]) [.vec 32 3 [] false, .nest 60 [] false] func30 (q (sB' h3<|sK [1,2] sN)) rfl (by kernel_rfl) (by kernel_rfl) rfl ?_ ?_
     · simp only [Z2,h0,h1,h2,h3,cond_true,cond_false]
     · simp [Z2,h0,h1,h2,h3,Gv.c,cL,cI]
   | false =>
    refine fnS E0Ok Zo (c:=X1 f30) [(.row 0 0, .vec 32 3 [] false),(.row 0 1, .nest 60 [] false)] (.tup [.agg [.own 0, .own 1], .b false]) [.vec 32 3 [] false, .nest 60 [] false] func30 (p (sB' h2<|sB' h2<|sB' h2<|sB' h2<|sB (show true=true from rfl)<|sK [1,2] sN)) rfl (by kernel_rfl) (by kernel_rfl) rfl ?_ ?_
    · simp only [Z2,h0,h1,h2,cond_true,cond_false]
    · simp [Z2,h0,h1,h2,Gv.c,cL,cI]
  | false =>
   refine fnS E0Ok Zo (c:=X1 f30) [(.row 0 0, .vec 32 3 [] false),(.row 0 1, .nest 60 [] false)] (.tup [.agg [.own 0, .own 1], .b false]) [.vec 32 3 [] false, .nest 60 [] false] func30 (q (sB' h1<|sB' h1<|sB' h1<|sB' h1<|sB (show true=true from rfl)<|sB (show true=true from rfl)<|sB (show true=true from rfl)<|sB (show true=true from rfl)<|sB (show true=true from rfl)<|sK [1,2] sN)) rfl (by kernel_rfl) (by kernel_rfl) rfl ?_ ?_
   · simp only [Z2,h0,h1,cond_true,cond_false]
   · simp [Z2,h0,h1,Gv.c,cL,cI]
 | false =>
  refine fnS E0Ok Zo (c:=X1 f30) [(.row 0 0, .vec 32 3 [] false),(.row 0 1, .nest 60 [] false)] (.tup [.agg [.own 0, .own 1], .b false]) [.vec 32 3 [] false, .nest 60 [] false] func30 (p (sB' h0<|sB' h0<|sB' h0<|sB' h0<|sB (show true=true from rfl)<|sB (show true=true from rfl)<|sB (show true=true from rfl)<|sB (show true=true from rfl)<|sB (show true=true from rfl)<|sB (show true=true from rfl)<|sB (show true=true from rfl)<|sB (show true=true from rfl)<|sB (show true=true from rfl)<|sK [1,2] sN)) rfl (by kernel_rfl) (by kernel_rfl) rfl ?_ ?_
  · simp only [Z2,h0,cond_false]
  · simp [Z2,h0,Gv.c,cL,cI]
def Z1g (Yg:(List Int)):Nat→Int→(List (List Int))→(List (List Int))
  | 0,_,_=>default
  | k + 1,Yu,Yv=>(cond (decide ((Yu + 2) < (Yg.length:Int)))
    (Z1g Yg k (Yu + 3) (Yv ++ [[(Yg.getD Yu.toNat default),(Yg.getD (Yu + 1).toNat default),(Yg.getD (Yu + 2).toNat default)]]))
    Yv)
def Z2E (Yg:(List Int)) (r:(List (List Int))):Ex × St:=((.exit 0),⟨.any :: .any :: .nils :: .own 0 :: an 28 [],[.nest 60 (r.map fun l=>l.map (cI .i64)) false]⟩)
def Z2F (Yg:(List Int)) (Yu:Int) (Yv:(List (List Int))):St:=⟨.sl (Yg.map (cI .i64)) :: .any :: .nils :: .own 0 :: .i .i64 Yu :: an 27 [],[.nest 60 (Yv.map fun l=>l.map (cI .i64)) false]⟩
theorem Z5i (Yg:(List Int)) (hp0:Yg.length≤1073741824) (hp1:Yg.length≤100000):∀ (k:Nat) (Yu:Int) (Yv:(List (List Int))) (Z3d:0≤Yu) (Z3e:Yu≤(Yg.length:Int) + 3) (Z3f:(Yv.length:Int)≤Yu) (hk:((Yg.length:Int) - Yu).toNat < k),Lp prog 0 (sub (X1 f79) [1,1,0,1,0,0]) (Z2F Yg Yu Yv) (Z2E Yg (Z1g Yg k Yu Yv)).1 (Z2E Yg (Z1g Yg k Yu Yv)).2:=by
 intro k
 induction k with
 | zero=>intro Yu Yv Z3d Z3e Z3f hk;exact absurd hk (Nat.not_lt_zero _)
 | succ k ih =>
  intro Yu Yv Z3d Z3e Z3f hk
  have YO:(-9223372036854775808:Int)≤(Yu + 2):=(by omega)
  have YL:(Yu + 2)≤(9223372036854775807:Int):=(by omega)
  have p {a C} (s:Scr a C):=sI (Yu + 2) YO YL<|sZ (cI .i64) Yg<|s
  cases Yp:(decide ((Yu + 2) < (Yg.length:Int))) with
  | true =>
   have YF:=odt Yp
   have YU:(0:Int)≤Yu:=by clear p;exact (by assumption)
   have YR:Yu < (Yg.length:Int):=by clear p;exact (by omega)
   have YZ:(-9223372036854775808:Int)≤(Yu + 1):=by clear p;exact (by omega)
   have y_5:(Yu + 1)≤(9223372036854775807:Int):=by clear p;exact (by omega)
   have y_6:(0:Int)≤(Yu + 1):=by clear p;exact (by omega)
   have y_7:(Yu + 1) < (Yg.length:Int):=by clear p;exact (by omega)
   have y_8:(0:Int)≤(Yu + 2):=by clear p;exact (by omega)
   have y_9:(Yu + 2) < (Yg.length:Int):=by clear p;exact (by assumption)
   have Y1j:Yv.length + [[(Yg.getD Yu.toNat default),(Yg.getD (Yu + 1).toNat default),(Yg.getD (Yu + 2).toNat default)]].length≤1073741824:=by clear p;exact (by (simp only [List.length_append,List.length_cons,List.length_nil];omega))
   have Y1k:(-9223372036854775808:Int)≤(Yu + 3):=by clear p;exact (by omega)
   have Y1m:(Yu + 3)≤(9223372036854775807:Int):=by clear p;exact (by omega)
   have e:Z1g Yg (k + 1) Yu Yv=(Z1g Yg k (Yu + 3) (Yv ++ [[(Yg.getD Yu.toNat default),(Yg.getD (Yu + 1).toNat default),(Yg.getD (Yu + 2).toNat default)]])):=by simp only [Z1g,Yp,cond_true]
   rw [e]
   exact XQ E0Ok Zo [] (mR false [0,1,1,3,27]) [0] (⟨.sl (Yg.map (cI .i64)) :: .any :: .nils :: .own 0 :: .i .i64 (Yu + 3) :: an 27 [],[.nest 60 ((Yv.map fun l=>l.map (cI .i64)) ++ [([[.i .i64 (Yg.getD Yu.toNat default)],[.i .i64 (Yg.getD (Yu + 1).toNat default)],[.i .i64 (Yg.getD (Yu + 2).toNat default)]]:List (List AV))]) false]⟩) (p (sB Yp<|sK [17,17]<|sG (cI .i64) Yg Yu YU YR<|sI (Yu + 1) YZ y_5<|sG (cI .i64) Yg (Yu + 1) y_6 y_7<|sI (Yu + 2) YO YL<|sG (cI .i64) Yg (Yu + 2) y_8 y_9<|sC (show (Yv.map fun l=>l.map (cI .i64)).length + [([[.i .i64 (Yg.getD Yu.toNat default)],[.i .i64 (Yg.getD (Yu + 1).toNat default)],[.i .i64 (Yg.getD (Yu + 2).toNat default)]]:List (List AV))].length≤1073741824 from (by simpa using Y1j))<|sI (Yu + 3) Y1k Y1m<|sN)) (by kernel_rfl) (by simp [Z2F,cL,cI]) (ih (Yu + 3) (Yv ++ [[(Yg.getD Yu.toNat default),(Yg.getD (Yu + 1).toNat default),(Yg.getD (Yu + 2).toNat default)]]) (show 0≤(Yu + 3) from (by omega)) (show (Yu + 3)≤(Yg.length:Int) + 3 from (by omega)) (show ((Yv ++ [[(Yg.getD Yu.toNat default),(Yg.getD (Yu + 1).toNat default),(Yg.getD (Yu + 2).toNat default)]]).length:Int)≤(Yu + 3) from (by simp only [List.length_append,List.length_cons,List.length_nil];omega)) (by omega))
  | false =>
   have YF:=odf Yp
   have e:Z1g Yg (k + 1) Yu Yv=Yv:=by simp only [Z1g,Yp,cond_false]
   rw [e]
   exact outR (e:=(.exit 0)) E0Ok Zo [] (mR false [2,2,28]) [0] (p (sB Yp<|sN)) (by kernel_rfl) (by intro h;cases h)
def Z2r (Yg:(List Int)):(List (List Int)):=(Z1g Yg (((Yg.length:Int) - 0).toNat + 1) 0 ([]:List (List Int)))
def Zd (Yg:(List Int)):(List (List Int)):=(Z2r Yg)
theorem Z4f (Yg:(List Int)) (hp0:Yg.length≤1073741824) (hp1:Yg.length≤100000)  : Fn prog 79 [.sl (Yg.map (cI .i64))] (.own 0) [.nest 60 ((Zd Yg).map fun l=>l.map (cI .i64)) false]:=by
 refine fnS E0Ok Zo (c:=X1 f79) [] (.own 0) [.nest 60 ((Z2r Yg).map fun l=>l.map (cI .i64)) false] func79 (sL (mR false [0,1,1,3,27]) 1 (XI (st2:=⟨.sl (Yg.map (cI .i64)) :: .any :: .nils :: .own 0 :: .i .i64 0 :: an 27 [],[.nest 60 [] false]⟩) (X7 (Z2E Yg) (x:=(Z2r Yg)) (Z5i Yg hp0 hp1 (((Yg.length:Int) - 0).toNat + 1) 0 ([]:List (List Int)) (show 0≤0 from (by omega)) (show 0≤(Yg.length:Int) + 3 from (by omega)) (show (([]:List (List Int)).length:Int)≤0 from (by simp)) (Nat.lt_succ_self _)) rfl) (by simp [Z2F,cL,cI]))<|sK [0] sN) rfl (by kernel_rfl) (by kernel_rfl) rfl ?_ ?_
 · rfl
 · simp [Zd]
def Z2d (Y7:Nat):Nat→Unit
  | 0=>default
  | k + 1=>()
def Z3J (Y7:Nat) (r:Unit):Ex × St:=((.exit 0),⟨.f .f32 Y7 :: .any :: .ptr 0 0 0 :: .b false :: .ptr 1 0 0 :: .ptr 2 0 0 :: .any :: .f .f32 Y7 :: .b (Z6 Y7) :: .b (!(Z6 Y7)) :: .any :: .agg [.nils, .nils] :: .f .f32 Y7 :: .agg [.f .f32 0, .f .f32 Y7] :: an 27 [],[.box 27 [.nils, .nils], .box 27 [.own 3, .nils], .box 103 [.f .f32 0, .f .f32 Y7], .vec 32 3 (((((((([[.f .f32 0, .f .f32 0, .f .f32 0]]:List (List AV)) ++ ([[.f .f32 Y7, .f .f32 0, .f .f32 0]]:List (List AV))) ++ ([[.f .f32 0, .f .f32 Y7, .f .f32 0]]:List (List AV))) ++ ([[.f .f32 Y7, .f .f32 Y7, .f .f32 0]]:List (List AV))) ++ ([[.f .f32 0, .f .f32 0, .f .f32 Y7]]:List (List AV))) ++ ([[.f .f32 Y7, .f .f32 0, .f .f32 Y7]]:List (List AV))) ++ ([[.f .f32 0, .f .f32 Y7, .f .f32 Y7]]:List (List AV))) ++ ([[.f .f32 Y7, .f .f32 Y7, .f .f32 Y7]]:List (List AV))) false]⟩)
def Z6e (Y7:Nat)  : St:=⟨.f .f32 Y7 :: .any :: .ptr 0 0 0 :: .b false :: .ptr 1 0 0 :: .ptr 2 0 0 :: .any :: .f .f32 Y7 :: .b (Z6 Y7) :: .b (!(Z6 Y7)) :: .any :: .agg [.nils, .nils] :: .f .f32 Y7 :: .agg [.f .f32 0, .f .f32 Y7] :: .i .i64 8 :: an 26 [],[.box 27 [.nils, .nils], .box 27 [.own 3, .nils], .box 103 [.f .f32 0, .f .f32 Y7], .vec 32 3 (((((((([[.f .f32 0, .f .f32 0, .f .f32 0]]:List (List AV)) ++ ([[.f .f32 Y7, .f .f32 0, .f .f32 0]]:List (List AV))) ++ ([[.f .f32 0, .f .f32 Y7, .f .f32 0]]:List (List AV))) ++ ([[.f .f32 Y7, .f .f32 Y7, .f .f32 0]]:List (List AV))) ++ ([[.f .f32 0, .f .f32 0, .f .f32 Y7]]:List (List AV))) ++ ([[.f .f32 Y7, .f .f32 0, .f .f32 Y7]]:List (List AV))) ++ ([[.f .f32 0, .f .f32 Y7, .f .f32 Y7]]:List (List AV))) ++ ([[.f .f32 Y7, .f .f32 Y7, .f .f32 Y7]]:List (List AV))) false]⟩
theorem Z6f (Y7:Nat)  : ∀ (k:Nat)   (hk:0 < k),Lp prog 0 (sub (X1 f26) [1,1,1,1,0,1,0,0]) (Z6e Y7) (Z3J Y7 (Z2d Y7 k)).1 (Z3J Y7 (Z2d Y7 k)).2:=by
 intro k
 induction k with
 | zero=>intro hk;exact absurd hk (Nat.not_lt_zero _)
 | succ k ih =>
  intro hk
  have e:Z2d Y7 (k + 1)=():=by simp only [Z2d]
  rw [e]
  exact outR (e:=(.exit 0)) E0Ok Zo [] (mR false [0,1,1,4,1,3,1,3,27]) [0,1,2,3] (sB (show (decide (8 < 8))=false from rfl)<|sN) (by kernel_rfl) (by intro h;cases h)
def Z5O (Y7:Nat):Unit:=(Z2d Y7 (0 + 1))
def Z3 (Y7:Nat):Gm × Bool:=(cond (Z6 Y7)
  ((⟨((((((([(⟨0,0,0⟩:Gv)] ++ [(⟨Y7,0,0⟩:Gv)]) ++ [(⟨0,Y7,0⟩:Gv)]) ++ [(⟨Y7,Y7,0⟩:Gv)]) ++ [(⟨0,0,Y7⟩:Gv)]) ++ [(⟨Y7,0,Y7⟩:Gv)]) ++ [(⟨0,Y7,Y7⟩:Gv)]) ++ [(⟨Y7,Y7,Y7⟩:Gv)]),(Zd ([0,2,3,0,3,1,4,5,7,4,7,6,0,1,5,0,5,4,2,6,7,2,7,3,0,4,6,0,6,2,1,3,7,1,7,5]))⟩:Gm),true)
  ((⟨([]:List Gv),([]:List (List Int))⟩:Gm),false))
set_option maxHeartbeats 1000000 in
theorem Z6P (Y7:Nat)   : Fn prog 26 [.f .f32 Y7] (.tup [.agg [.own 0, .own 1], .b ((Z3 Y7).2)]) [.vec 32 3 (((Z3 Y7).1.Pq).map Gv.c) false, .nest 60 (((Z3 Y7).1.Tr).map fun l=>l.map (cI .i64)) false]:=by
 have p {a C} (s:Scr a C):=sF (Z35 Y7)<|s
 cases h0:(Z6 Y7) with
 | true =>
  have ypp0:([(⟨0,0,0⟩:Gv)]).length + ([(⟨Y7,0,0⟩:Gv)]).length≤1073741824:=by clear p;exact (by simp_all<;>omega)
  have yppp0:([(⟨0,0,0⟩:Gv)] ++ [(⟨Y7,0,0⟩:Gv)]).length + ([(⟨0,Y7,0⟩:Gv)]).length≤1073741824:=by clear p;exact (by simp_all<;>omega)
  have ypppp0:(([(⟨0,0,0⟩:Gv)] ++ [(⟨Y7,0,0⟩:Gv)]) ++ [(⟨0,Y7,0⟩:Gv)]).length + ([(⟨Y7,Y7,0⟩:Gv)]).length≤1073741824:=by clear p;exact (by simp_all<;>omega)
  have yppppp0:((([(⟨0,0,0⟩:Gv)] ++ [(⟨Y7,0,0⟩:Gv)]) ++ [(⟨0,Y7,0⟩:Gv)]) ++ [(⟨Y7,Y7,0⟩:Gv)]).length + ([(⟨0,0,Y7⟩:Gv)]).length≤1073741824:=by clear p;exact (by simp_all<;>omega)
  have ypppppp0:(((([(⟨0,0,0⟩:Gv)] ++ [(⟨Y7,0,0⟩:Gv)]) ++ [(⟨0,Y7,0⟩:Gv)]) ++ [(⟨Y7,Y7,0⟩:Gv)]) ++ [(⟨0,0,Y7⟩:Gv)]).length + ([(⟨Y7,0,Y7⟩:Gv)]).length≤1073741824:=by clear p;exact (by simp_all<;>omega)
  have yppppppp0:((((([(⟨0,0,0⟩:Gv)] ++ [(⟨Y7,0,0⟩:Gv)]) ++ [(⟨0,Y7,0⟩:Gv)]) ++ [(⟨Y7,Y7,0⟩:Gv)]) ++ [(⟨0,0,Y7⟩:Gv)]) ++ [(⟨Y7,0,Y7⟩:Gv)]).length + ([(⟨0,Y7,Y7⟩:Gv)]).length≤1073741824:=by clear p;exact (by simp_all<;>omega)
  have ypppppppp0:(((((([(⟨0,0,0⟩:Gv)] ++ [(⟨Y7,0,0⟩:Gv)]) ++ [(⟨0,Y7,0⟩:Gv)]) ++ [(⟨Y7,Y7,0⟩:Gv)]) ++ [(⟨0,0,Y7⟩:Gv)]) ++ [(⟨Y7,0,Y7⟩:Gv)]) ++ [(⟨0,Y7,Y7⟩:Gv)]).length + ([(⟨Y7,Y7,Y7⟩:Gv)]).length≤1073741824:=by clear p;exact (by simp_all<;>omega)
  have y7:([0,2,3,0,3,1,4,5,7,4,7,6,0,1,5,0,5,4,2,6,7,2,7,3,0,4,6,0,6,2,1,3,7,1,7,5]).length≤1073741824:=by clear p;exact (by simp_all<;>omega)
  have y8:([0,2,3,0,3,1,4,5,7,4,7,6,0,1,5,0,5,4,2,6,7,2,7,3,0,4,6,0,6,2,1,3,7,1,7,5]).length≤100000:=by clear p;exact (by simp_all<;>omega)
  refine fnS E0Ok Zo (c:=X1 f26) [] (.tup [.agg [.own 0, .own 1], .b true]) [.vec 32 3 (((((((([[.f .f32 0, .f .f32 0, .f .f32 0]]:List (List AV)) ++ ([[.f .f32 Y7, .f .f32 0, .f .f32 0]]:List (List AV))) ++ ([[.f .f32 0, .f .f32 Y7, .f .f32 0]]:List (List AV))) ++ ([[.f .f32 Y7, .f .f32 Y7, .f .f32 0]]:List (List AV))) ++ ([[.f .f32 0, .f .f32 0, .f .f32 Y7]]:List (List AV))) ++ ([[.f .f32 Y7, .f .f32 0, .f .f32 Y7]]:List (List AV))) ++ ([[.f .f32 0, .f .f32 Y7, .f .f32 Y7]]:List (List AV))) ++ ([[.f .f32 Y7, .f .f32 Y7, .f .f32 Y7]]:List (List AV))) false, .nest 60 ((Zd ([0,2,3,0,3,1,4,5,7,4,7,6,0,1,5,0,5,4,2,6,7,2,7,3,0,4,6,0,6,2,1,3,7,1,7,5])).map fun l=>l.map (cI .i64)) false] func26 (p (sB' h0<|sL [] 0 (Xb (st:=⟨.f .f32 Y7 :: .any :: .ptr 0 0 0 :: .b false :: .ptr 1 0 0 :: .ptr 2 0 0 :: .any :: .f .f32 Y7 :: .b (Z6 Y7) :: .b (!(Z6 Y7)) :: .any :: .agg [.nils, .nils] :: .f .f32 Y7 :: .agg [.f .f32 0, .f .f32 Y7] :: .i .i64 0 :: an 26 [],[.box 27 [.nils, .nils], .box 27 [.nils, .nils], .box 103 [.f .f32 0, .f .f32 Y7]]⟩) E0Ok Zo [] (mR false [0,41]) [0,1,2,3,4] (Xb (st:=⟨.f .f32 Y7 :: .any :: .ptr 0 0 0 :: .b false :: .ptr 1 0 0 :: .ptr 2 0 0 :: .i .i64 0 :: .f .f32 Y7 :: .b (Z6 Y7) :: .b (!(Z6 Y7)) :: .any :: .agg [.nils, .nils] :: .f .f32 Y7 :: .agg [.f .f32 0, .f .f32 Y7] :: .i .i64 1 :: .b (decide (0 < 8)) :: .i .i64 0 :: .ptr 1 0 0 :: .nils :: .i .i64 0 :: .i .i64 0 :: .ptr 2 0 0 :: .f .f32 0 :: .i .i64 0 :: .i .i64 0 :: .i .i64 0 :: .ptr 2 0 0 :: .f .f32 0 :: .i .i64 0 :: .i .i64 0 :: .ptr 2 0 0 :: .f .f32 0 :: .agg [.f .f32 0, .f .f32 0, .f .f32 0] :: .own 3 :: .own 4 :: .ptr 1 0 0 :: .i .i64 1 :: an 4 [],[.box 27 [.nils, .nils], .box 27 [.own 4, .nils], .box 103 [.f .f32 0, .f .f32 Y7], .vec 32 3 ([[.f .f32 0, .f .f32 0, .f .f32 0]]:List (List AV)) false, .vec 32 3 ([[.f .f32 0, .f .f32 0, .f .f32 0]]:List (List AV)) false]⟩) E0Ok Zo [] (mR false [0,41]) [0,1,2,3,4,5] (Xb (st:=⟨.f .f32 Y7 :: .any :: .ptr 0 0 0 :: .b false :: .ptr 1 0 0 :: .ptr 2 0 0 :: .i .i64 1 :: .f .f32 Y7 :: .b (Z6 Y7) :: .b (!(Z6 Y7)) :: .any :: .agg [.nils, .nils] :: .f .f32 Y7 :: .agg [.f .f32 0, .f .f32 Y7] :: .i .i64 2 :: .b (decide (1 < 8)) :: .i .i64 1 :: .ptr 1 0 0 :: .any :: .i .i64 1 :: .i .i64 1 :: .ptr 2 0 1 :: .f .f32 Y7 :: .i .i64 1 :: .i .i64 0 :: .i .i64 0 :: .ptr 2 0 0 :: .f .f32 0 :: .i .i64 1 :: .i .i64 0 :: .ptr 2 0 0 :: .f .f32 0 :: .agg [.f .f32 Y7, .f .f32 0, .f .f32 0] :: .own 5 :: .own 4 :: .ptr 1 0 0 :: .i .i64 2 :: an 4 [],[.box 27 [.nils, .nils], .box 27 [.own 4, .nils], .box 103 [.f .f32 0, .f .f32 Y7], .vec 32 3 ([[.f .f32 0, .f .f32 0, .f .f32 0]]:List (List AV)) false, .vec 32 3 (([[.f .f32 0, .f .f32 0, .f .f32 0]]:List (List AV)) ++ ([[.f .f32 Y7, .f .f32 0, .f .f32 0]]:List (List AV))) false, .vec 32 3 ([[.f .f32 Y7, .f .f32 0, .f .f32 0]]:List (List AV)) false]⟩) E0Ok Zo [] (mR false [0,41]) [0,1,2,3,4,5,6] (Xb (st:=⟨.f .f32 Y7 :: .any :: .ptr 0 0 0 :: .b false :: .ptr 1 0 0 :: .ptr 2 0 0 :: .i .i64 2 :: .f .f32 Y7 :: .b (Z6 Y7) :: .b (!(Z6 Y7)) :: .any :: .agg [.nils, .nils] :: .f .f32 Y7 :: .agg [.f .f32 0, .f .f32 Y7] :: .i .i64 3 :: .b (decide (2 < 8)) :: .i .i64 2 :: .ptr 1 0 0 :: .any :: .i .i64 2 :: .i .i64 0 :: .ptr 2 0 0 :: .f .f32 0 :: .i .i64 2 :: .i .i64 1 :: .i .i64 1 :: .ptr 2 0 1 :: .f .f32 Y7 :: .i .i64 2 :: .i .i64 0 :: .ptr 2 0 0 :: .f .f32 0 :: .agg [.f .f32 0, .f .f32 Y7, .f .f32 0] :: .own 6 :: .own 4 :: .ptr 1 0 0 :: .i .i64 3 :: an 4 [],[.box 27 [.nils, .nils], .box 27 [.own 4, .nils], .box 103 [.f .f32 0, .f .f32 Y7], .vec 32 3 ([[.f .f32 0, .f .f32 0, .f .f32 0]]:List (List AV)) false, .vec 32 3 ((([[.f .f32 0, .f .f32 0, .f .f32 0]]:List (List AV)) ++ ([[.f .f32 Y7, .f .f32 0, .f .f32 0]]:List (List AV))) ++ ([[.f .f32 0, .f .f32 Y7, .f .f32 0]]:List (List AV))) false, .vec 32 3 ([[.f .f32 Y7, .f .f32 0, .f .f32 0]]:List (List AV)) false, .vec 32 3 ([[.f .f32 0, .f .f32 Y7, .f .f32 0]]:List (List AV)) false]⟩) E0Ok Zo [] (mR false [0,41]) [0,1,2,3,4,5,6,7] (Xb (st:=⟨.f .f32 Y7 :: .any :: .ptr 0 0 0 :: .b false :: .ptr 1 0 0 :: .ptr 2 0 0 :: .i .i64 3 :: .f .f32 Y7 :: .b (Z6 Y7) :: .b (!(Z6 Y7)) :: .any :: .agg [.nils, .nils] :: .f .f32 Y7 :: .agg [.f .f32 0, .f .f32 Y7] :: .i .i64 4 :: .b (decide (3 < 8)) :: .i .i64 3 :: .ptr 1 0 0 :: .any :: .i .i64 3 :: .i .i64 1 :: .ptr 2 0 1 :: .f .f32 Y7 :: .i .i64 3 :: .i .i64 1 :: .i .i64 1 :: .ptr 2 0 1 :: .f .f32 Y7 :: .i .i64 3 :: .i .i64 0 :: .ptr 2 0 0 :: .f .f32 0 :: .agg [.f .f32 Y7, .f .f32 Y7, .f .f32 0] :: .own 7 :: .own 4 :: .ptr 1 0 0 :: .i .i64 4 :: an 4 [],[.box 27 [.nils, .nils], .box 27 [.own 4, .nils], .box 103 [.f .f32 0, .f .f32 Y7], .vec 32 3 ([[.f .f32 0, .f .f32 0, .f .f32 0]]:List (List AV)) false, .vec 32 3 (((([[.f .f32 0, .f .f32 0, .f .f32 0]]:List (List AV)) ++ ([[.f .f32 Y7, .f .f32 0, .f .f32 0]]:List (List AV))) ++ ([[.f .f32 0, .f .f32 Y7, .f .f32 0]]:List (List AV))) ++ ([[.f .f32 Y7, .f .f32 Y7, .f .f32 0]]:List (List AV))) false, .vec 32 3 ([[.f .f32 Y7, .f .f32 0, .f .f32 0]]:List (List AV)) false, .vec 32 3 ([[.f .f32 0, .f .f32 Y7, .f .f32 0]]:List (List AV)) false, .vec 32 3 ([[.f .f32 Y7, .f .f32 Y7, .f .f32 0]]:List (List AV)) false]⟩) E0Ok Zo [] (mR false [0,41]) [0,1,2,3,4,5,6,7,8] (Xb (st:=⟨.f .f32 Y7 :: .any :: .ptr 0 0 0 :: .b false :: .ptr 1 0 0 :: .ptr 2 0 0 :: .i .i64 4 :: .f .f32 Y7 :: .b (Z6 Y7) :: .b (!(Z6 Y7)) :: .any :: .agg [.nils, .nils] :: .f .f32 Y7 :: .agg [.f .f32 0, .f .f32 Y7] :: .i .i64 5 :: .b (decide (4 < 8)) :: .i .i64 4 :: .ptr 1 0 0 :: .any :: .i .i64 4 :: .i .i64 0 :: .ptr 2 0 0 :: .f .f32 0 :: .i .i64 4 :: .i .i64 2 :: .i .i64 0 :: .ptr 2 0 0 :: .f .f32 0 :: .i .i64 4 :: .i .i64 1 :: .ptr 2 0 1 :: .f .f32 Y7 :: .agg [.f .f32 0, .f .f32 0, .f .f32 Y7] :: .own 8 :: .own 4 :: .ptr 1 0 0 :: .i .i64 5 :: an 4 [],[.box 27 [.nils, .nils], .box 27 [.own 4, .nils], .box 103 [.f .f32 0, .f .f32 Y7], .vec 32 3 ([[.f .f32 0, .f .f32 0, .f .f32 0]]:List (List AV)) false, .vec 32 3 ((((([[.f .f32 0, .f .f32 0, .f .f32 0]]:List (List AV)) ++ ([[.f .f32 Y7, .f .f32 0, .f .f32 0]]:List (List AV))) ++ ([[.f .f32 0, .f .f32 Y7, .f .f32 0]]:List (List AV))) ++ ([[.f .f32 Y7, .f .f32 Y7, .f .f32 0]]:List (List AV))) ++ ([[.f .f32 0, .f .f32 0, .f .f32 Y7]]:List (List AV))) false, .vec 32 3 ([[.f .f32 Y7, .f .f32 0, .f .f32 0]]:List (List AV)) false, .vec 32 3 ([[.f .f32 0, .f .f32 Y7, .f .f32 0]]:List (List AV)) false, .vec 32 3 ([[.f .f32 Y7, .f .f32 Y7, .f .f32 0]]:List (List AV)) false, .vec 32 3 ([[.f .f32 0, .f .f32 0, .f .f32 Y7]]:List (List AV)) false]⟩) E0Ok Zo [] (mR false [0,41]) [0,1,2,3,4,5,6,7,8,9] (Xb (st:=⟨.f .f32 Y7 :: .any :: .ptr 0 0 0 :: .b false :: .ptr 1 0 0 :: .ptr 2 0 0 :: .i .i64 5 :: .f .f32 Y7 :: .b (Z6 Y7) :: .b (!(Z6 Y7)) :: .any :: .agg [.nils, .nils] :: .f .f32 Y7 :: .agg [.f .f32 0, .f .f32 Y7] :: .i .i64 6 :: .b (decide (5 < 8)) :: .i .i64 5 :: .ptr 1 0 0 :: .any :: .i .i64 5 :: .i .i64 1 :: .ptr 2 0 1 :: .f .f32 Y7 :: .i .i64 5 :: .i .i64 2 :: .i .i64 0 :: .ptr 2 0 0 :: .f .f32 0 :: .i .i64 5 :: .i .i64 1 :: .ptr 2 0 1 :: .f .f32 Y7 :: .agg [.f .f32 Y7, .f .f32 0, .f .f32 Y7] :: .own 9 :: .own 4 :: .ptr 1 0 0 :: .i .i64 6 :: an 4 [],[.box 27 [.nils, .nils], .box 27 [.own 4, .nils], .box 103 [.f .f32 0, .f .f32 Y7], .vec 32 3 ([[.f .f32 0, .f .f32 0, .f .f32 0]]:List (List AV)) false, .vec 32 3 (((((([[.f .f32 0, .f .f32 0, .f .f32 0]]:List (List AV)) ++ ([[.f .f32 Y7, .f .f32 0, .f .f32 0]]:List (List AV))) ++ ([[.f .f32 0, .f .f32 Y7, .f .f32 0]]:List (List AV))) ++ ([[.f .f32 Y7, .f .f32 Y7, .f .f32 0]]:List (List AV))) ++ ([[.f .f32 0, .f .f32 0, .f .f32 Y7]]:List (List AV))) ++ ([[.f .f32 Y7, .f .f32 0, .f .f32 Y7]]:List (List AV))) false, .vec 32 3 ([[.f .f32 Y7, .f .f32 0, .f .f32 0]]:List (List AV)) false, .vec 32 3 ([[.f .f32 0, .f .f32 Y7, .f .f32 0]]:List (List AV)) false, .vec 32 3 ([[.f .f32 Y7, .f .f32 Y7, .f .f32 0]]:List (List AV)) false, .vec 32 3 ([[.f .f32 0, .f .f32 0, .f .f32 Y7]]:List (List AV)) false, .vec 32 3 ([[.f .f32 Y7, .f .f32 0, .f .f32 Y7]]:List (List AV)) false]⟩) E0Ok Zo [] (mR false [0,41]) [0,1,2,3,4,5,6,7,8,9,10] (Xb (st:=⟨.f .f32 Y7 :: .any :: .ptr 0 0 0 :: .b false :: .ptr 1 0 0 :: .ptr 2 0 0 :: .i .i64 6 :: .f .f32 Y7 :: .b (Z6 Y7) :: .b (!(Z6 Y7)) :: .any :: .agg [.nils, .nils] :: .f .f32 Y7 :: .agg [.f .f32 0, .f .f32 Y7] :: .i .i64 7 :: .b (decide (6 < 8)) :: .i .i64 6 :: .ptr 1 0 0 :: .any :: .i .i64 6 :: .i .i64 0 :: .ptr 2 0 0 :: .f .f32 0 :: .i .i64 6 :: .i .i64 3 :: .i .i64 1 :: .ptr 2 0 1 :: .f .f32 Y7 :: .i .i64 6 :: .i .i64 1 :: .ptr 2 0 1 :: .f .f32 Y7 :: .agg [.f .f32 0, .f .f32 Y7, .f .f32 Y7] :: .own 10 :: .own 4 :: .ptr 1 0 0 :: .i .i64 7 :: an 4 [],[.box 27 [.nils, .nils], .box 27 [.own 4, .nils], .box 103 [.f .f32 0, .f .f32 Y7], .vec 32 3 ([[.f .f32 0, .f .f32 0, .f .f32 0]]:List (List AV)) false, .vec 32 3 ((((((([[.f .f32 0, .f .f32 0, .f .f32 0]]:List (List AV)) ++ ([[.f .f32 Y7, .f .f32 0, .f .f32 0]]:List (List AV))) ++ ([[.f .f32 0, .f .f32 Y7, .f .f32 0]]:List (List AV))) ++ ([[.f .f32 Y7, .f .f32 Y7, .f .f32 0]]:List (List AV))) ++ ([[.f .f32 0, .f .f32 0, .f .f32 Y7]]:List (List AV))) ++ ([[.f .f32 Y7, .f .f32 0, .f .f32 Y7]]:List (List AV))) ++ ([[.f .f32 0, .f .f32 Y7, .f .f32 Y7]]:List (List AV))) false, .vec 32 3 ([[.f .f32 Y7, .f .f32 0, .f .f32 0]]:List (List AV)) false, .vec 32 3 ([[.f .f32 0, .f .f32 Y7, .f .f32 0]]:List (List AV)) false, .vec 32 3 ([[.f .f32 Y7, .f .f32 Y7, .f .f32 0]]:List (List AV)) false, .vec 32 3 ([[.f .f32 0, .f .f32 0, .f .f32 Y7]]:List (List AV)) false, .vec 32 3 ([[.f .f32 Y7, .f .f32 0, .f .f32 Y7]]:List (List AV)) false, .vec 32 3 ([[.f .f32 0, .f .f32 Y7, .f .f32 Y7]]:List (List AV)) false]⟩) E0Ok Zo [] (mR false [0,1,1,4,1,3,1,4,26]) [0,1,2,4] (X7 (Z3J Y7) (x:=(Z5O Y7)) (Z6f Y7 (0 + 1) (Nat.lt_succ_self _)) rfl) (sB (show (decide (7 < 8))=true from rfl)<|sK [17,17]<|sM (show (bitsOf .and .i64 7 1)=1 from (by decide))<|sC (show (0:Int)≤1∧1 < ((2:Nat):Int) from (by decide))<|sC (show (0:Int)≤1 from (by decide))<|sM (show (Int.fdiv 7 (2 ^ (min (Int.toNat 1) (IntKind.bits .i64))))=3 from (by decide))<|sM (show (bitsOf .and .i64 3 1)=1 from (by decide))<|sC (show (0:Int)≤1∧1 < ((2:Nat):Int) from (by decide))<|sC (show (0:Int)≤2 from (by decide))<|sM (show (Int.fdiv 7 (2 ^ (min (Int.toNat 2) (IntKind.bits .i64))))=1 from (by decide))<|sC (show (0:Int)≤1∧1 < ((2:Nat):Int) from (by decide))<|sC (show ((((((([[.f .f32 0, .f .f32 0, .f .f32 0]]:List (List AV)) ++ ([[.f .f32 Y7, .f .f32 0, .f .f32 0]]:List (List AV))) ++ ([[.f .f32 0, .f .f32 Y7, .f .f32 0]]:List (List AV))) ++ ([[.f .f32 Y7, .f .f32 Y7, .f .f32 0]]:List (List AV))) ++ ([[.f .f32 0, .f .f32 0, .f .f32 Y7]]:List (List AV))) ++ ([[.f .f32 Y7, .f .f32 0, .f .f32 Y7]]:List (List AV))) ++ ([[.f .f32 0, .f .f32 Y7, .f .f32 Y7]]:List (List AV))).length + ([[.f .f32 Y7, .f .f32 Y7, .f .f32 Y7]]:List (List AV)).length≤1073741824 from (by simp))<|sM (show IntKind.wrap .i64 (7 + 1)=8 from rfl)<|sN) (by kernel_rfl)) (sB (show (decide (6 < 8))=true from rfl)<|sK [17,17]<|sM (show (bitsOf .and .i64 6 1)=0 from (by decide))<|sC (show (0:Int)≤0∧0 < ((2:Nat):Int) from (by decide))<|sC (show (0:Int)≤1 from (by decide))<|sM (show (Int.fdiv 6 (2 ^ (min (Int.toNat 1) (IntKind.bits .i64))))=3 from (by decide))<|sM (show (bitsOf .and .i64 3 1)=1 from (by decide))<|sC (show (0:Int)≤1∧1 < ((2:Nat):Int) from (by decide))<|sC (show (0:Int)≤2 from (by decide))<|sM (show (Int.fdiv 6 (2 ^ (min (Int.toNat 2) (IntKind.bits .i64))))=1 from (by decide))<|sC (show (0:Int)≤1∧1 < ((2:Nat):Int) from (by decide))<|sC (show (((((([[.f .f32 0, .f .f32 0, .f .f32 0]]:List (List AV)) ++ ([[.f .f32 Y7, .f .f32 0, .f .f32 0]]:List (List AV))) ++ ([[.f .f32 0, .f .f32 Y7, .f .f32 0]]:List (List AV))) ++ ([[.f .f32 Y7, .f .f32 Y7, .f .f32 0]]:List (List AV))) ++ ([[.f .f32 0, .f .f32 0, .f .f32 Y7]]:List (List AV))) ++ ([[.f .f32 Y7, .f .f32 0, .f .f32 Y7]]:List (List AV))).length + ([[.f .f32 0, .f .f32 Y7, .f .f32 Y7]]:List (List AV)).length≤1073741824 from (by simp))<|sM (show IntKind.wrap .i64 (6 + 1)=7 from rfl)<|sN) (by kernel_rfl)) (sB (show (decide (5 < 8))=true from rfl)<|sK [17,17]<|sM (show (bitsOf .and .i64 5 1)=1 from (by decide))<|sC (show (0:Int)≤1∧1 < ((2:Nat):Int) from (by decide))<|sC (show (0:Int)≤1 from (by decide))<|sM (show (Int.fdiv 5 (2 ^ (min (Int.toNat 1) (IntKind.bits .i64))))=2 from (by decide))<|sM (show (bitsOf .and .i64 2 1)=0 from (by decide))<|sC (show (0:Int)≤0∧0 < ((2:Nat):Int) from (by decide))<|sC (show (0:Int)≤2 from (by decide))<|sM (show (Int.fdiv 5 (2 ^ (min (Int.toNat 2) (IntKind.bits .i64))))=1 from (by decide))<|sC (show (0:Int)≤1∧1 < ((2:Nat):Int) from (by decide))<|sC (show ((((([[.f .f32 0, .f .f32 0, .f .f32 0]]:List (List AV)) ++ ([[.f .f32 Y7, .f .f32 0, .f .f32 0]]:List (List AV))) ++ ([[.f .f32 0, .f .f32 Y7, .f .f32 0]]:List (List AV))) ++ ([[.f .f32 Y7, .f .f32 Y7, .f .f32 0]]:List (List AV))) ++ ([[.f .f32 0, .f .f32 0, .f .f32 Y7]]:List (List AV))).length + ([[.f .f32 Y7, .f .f32 0, .f .f32 Y7]]:List (List AV)).length≤1073741824 from (by simp))<|sM (show IntKind.wrap .i64 (5 + 1)=6 from rfl)<|sN) (by kernel_rfl)) (sB (show (decide (4 < 8))=true from rfl)<|sK [17,17]<|sM (show (bitsOf .and .i64 4 1)=0 from (by decide))<|sC (show (0:Int)≤0∧0 < ((2:Nat):Int) from (by decide))<|sC (show (0:Int)≤1 from (by decide))<|sM (show (Int.fdiv 4 (2 ^ (min (Int.toNat 1) (IntKind.bits .i64))))=2 from (by decide))<|sM (show (bitsOf .and .i64 2 1)=0 from (by decide))<|sC (show (0:Int)≤0∧0 < ((2:Nat):Int) from (by decide))<|sC (show (0:Int)≤2 from (by decide))<|sM (show (Int.fdiv 4 (2 ^ (min (Int.toNat 2) (IntKind.bits .i64))))=1 from (by decide))<|sC (show (0:Int)≤1∧1 < ((2:Nat):Int) from (by decide))<|sC (show (((([[.f .f32 0, .f .f32 0, .f .f32 0]]:List (List AV)) ++ ([[.f .f32 Y7, .f .f32 0, .f .f32 0]]:List (List AV))) ++ ([[.f .f32 0, .f .f32 Y7, .f .f32 0]]:List (List AV))) ++ ([[.f .f32 Y7, .f .f32 Y7, .f .f32 0]]:List (List AV))).length + ([[.f .f32 0, .f .f32 0, .f .f32 Y7]]:List (List AV)).length≤1073741824 from (by simp))<|sM (show IntKind.wrap .i64 (4 + 1)=5 from rfl)<|sN) (by kernel_rfl)) (sB (show (decide (3 < 8))=true from rfl)<|sK [17,17]<|sM (show (bitsOf .and .i64 3 1)=1 from (by decide))<|sC (show (0:Int)≤1∧1 < ((2:Nat):Int) from (by decide))<|sC (show (0:Int)≤1 from (by decide))<|sM (show (Int.fdiv 3 (2 ^ (min (Int.toNat 1) (IntKind.bits .i64))))=1 from (by decide))<|sM (show (bitsOf .and .i64 1 1)=1 from (by decide))<|sC (show (0:Int)≤1∧1 < ((2:Nat):Int) from (by decide))<|sC (show (0:Int)≤2 from (by decide))<|sM (show (Int.fdiv 3 (2 ^ (min (Int.toNat 2) (IntKind.bits .i64))))=0 from (by decide))<|sC (show (0:Int)≤0∧0 < ((2:Nat):Int) from (by decide))<|sC (show ((([[.f .f32 0, .f .f32 0, .f .f32 0]]:List (List AV)) ++ ([[.f .f32 Y7, .f .f32 0, .f .f32 0]]:List (List AV))) ++ ([[.f .f32 0, .f .f32 Y7, .f .f32 0]]:List (List AV))).length + ([[.f .f32 Y7, .f .f32 Y7, .f .f32 0]]:List (List AV)).length≤1073741824 from (by simp))<|sM (show IntKind.wrap .i64 (3 + 1)=4 from rfl)<|sN) (by kernel_rfl)) (sB (show (decide (2 < 8))=true from rfl)<|sK [17,17]<|sM (show (bitsOf .and .i64 2 1)=0 from (by decide))<|sC (show (0:Int)≤0∧0 < ((2:Nat):Int) from (by decide))<|sC (show (0:Int)≤1 from (by decide))<|sM (show (Int.fdiv 2 (2 ^ (min (Int.toNat 1) (IntKind.bits .i64))))=1 from (by decide))<|sM (show (bitsOf .and .i64 1 1)=1 from (by decide))<|sC (show (0:Int)≤1∧1 < ((2:Nat):Int) from (by decide))<|sC (show (0:Int)≤2 from (by decide))<|sM (show (Int.fdiv 2 (2 ^ (min (Int.toNat 2) (IntKind.bits .i64))))=0 from (by decide))<|sC (show (0:Int)≤0∧0 < ((2:Nat):Int) from (by decide))<|sC (show (([[.f .f32 0, .f .f32 0, .f .f32 0]]:List (List AV)) ++ ([[.f .f32 Y7, .f .f32 0, .f .f32 0]]:List (List AV))).length + ([[.f .f32 0, .f .f32 Y7, .f .f32 0]]:List (List AV)).length≤1073741824 from (by simp))<|sM (show IntKind.wrap .i64 (2 + 1)=3 from rfl)<|sN) (by kernel_rfl)) (sB (show (decide (1 < 8))=true from rfl)<|sK [17,17]<|sM (show (bitsOf .and .i64 1 1)=1 from (by decide))<|sC (show (0:Int)≤1∧1 < ((2:Nat):Int) from (by decide))<|sC (show (0:Int)≤1 from (by decide))<|sM (show (Int.fdiv 1 (2 ^ (min (Int.toNat 1) (IntKind.bits .i64))))=0 from (by decide))<|sM (show (bitsOf .and .i64 0 1)=0 from (by decide))<|sC (show (0:Int)≤0∧0 < ((2:Nat):Int) from (by decide))<|sC (show (0:Int)≤2 from (by decide))<|sM (show (Int.fdiv 1 (2 ^ (min (Int.toNat 2) (IntKind.bits .i64))))=0 from (by decide))<|sC (show (0:Int)≤0∧0 < ((2:Nat):Int) from (by decide))<|sC (show ([[.f .f32 0, .f .f32 0, .f .f32 0]]:List (List AV)).length + ([[.f .f32 Y7, .f .f32 0, .f .f32 0]]:List (List AV)).length≤1073741824 from (by simp))<|sM (show IntKind.wrap .i64 (1 + 1)=2 from rfl)<|sN) (by kernel_rfl)) (sB (show (decide (0 < 8))=true from rfl)<|sK [17,17]<|sM (show (bitsOf .and .i64 0 1)=0 from (by decide))<|sC (show (0:Int)≤0∧0 < ((2:Nat):Int) from (by decide))<|sC (show (0:Int)≤1 from (by decide))<|sM (show (Int.fdiv 0 (2 ^ (min (Int.toNat 1) (IntKind.bits .i64))))=0 from (by decide))<|sM (show (bitsOf .and .i64 0 1)=0 from (by decide))<|sC (show (0:Int)≤0∧0 < ((2:Nat):Int) from (by decide))<|sC (show (0:Int)≤2 from (by decide))<|sM (show (Int.fdiv 0 (2 ^ (min (Int.toNat 2) (IntKind.bits .i64))))=0 from (by decide))<|sC (show (0:Int)≤0∧0 < ((2:Nat):Int) from (by decide))<|sC (show ([[.f .f32 0, .f .f32 0, .f .f32 0]]:List (List AV))≠[] from (by simp))<|sC (show ([[.f .f32 0, .f .f32 0, .f .f32 0]]:List (List AV)).length≤1073741824 from (by simp))<|sM (show IntKind.wrap .i64 (0 + 1)=1 from rfl)<|sN) (by kernel_rfl))<|sF (Fn.castA (args':=[.sl ([[.i .i64 0],[.i .i64 2],[.i .i64 3],[.i .i64 0],[.i .i64 3],[.i .i64 1],[.i .i64 4],[.i .i64 5],[.i .i64 7],[.i .i64 4],[.i .i64 7],[.i .i64 6],[.i .i64 0],[.i .i64 1],[.i .i64 5],[.i .i64 0],[.i .i64 5],[.i .i64 4],[.i .i64 2],[.i .i64 6],[.i .i64 7],[.i .i64 2],[.i .i64 7],[.i .i64 3],[.i .i64 0],[.i .i64 4],[.i .i64 6],[.i .i64 0],[.i .i64 6],[.i .i64 2],[.i .i64 1],[.i .i64 3],[.i .i64 7],[.i .i64 1],[.i .i64 7],[.i .i64 5]]:List (List AV))]) (Z4f ([0,2,3,0,3,1,4,5,7,4,7,6,0,1,5,0,5,4,2,6,7,2,7,3,0,4,6,0,6,2,1,3,7,1,7,5]) y7 y8) (by simp [cI];done))<|sK [3,5] sN)) rfl (by kernel_rfl) (by kernel_rfl) rfl ?_ ?_
  · simp only [Z3,h0,cond_true]
  · simp [Z3,h0,Gv.c]
 | false =>
  refine fnS E0Ok Zo (c:=X1 f26) [(.row 0 0, .vec 32 3 [] false),(.row 0 1, .nest 60 [] false)] (.tup [.agg [.own 0, .own 1], .b false]) [.vec 32 3 [] false, .nest 60 [] false] func26 (p (sB' h0<|sK [1,2] sN)) rfl (by kernel_rfl) (by kernel_rfl) rfl ?_ ?_
  · simp only [Z3,h0,cond_false]
  · simp [Z3,h0,Gv.c,cL,cI]
end Go.Ab
