/- The functions of this seat as plain Lean, and that the program's are these. Printed by a program of the prover's own. -/
import Derived.Test.YtiddhiepmakopaaB4
set_option linter.unusedVariables false
set_option linter.unusedSimpArgs false
set_option maxRecDepth 100000
namespace Go.Ab
open Go.RowKit Go.Proofs.Try
def ZV (Y7:Nat) (Ye:Nat):Bool:=(cond (fcmp .neq .f64 Y7 Y7)
  (fcmp .neq .f64 Ye Ye)
  (cond (fcmp .neq .f64 Ye Ye)
    false
    (cond (fcmp .eql .f64 Y7 0)
      (cond (fcmp .eql .f64 Ye 0)
        ((fcmp .gtr .f64 (fop .quo .f64 4607182418800017408 Y7) 0) == (fcmp .gtr .f64 (fop .quo .f64 4607182418800017408 Ye) 0))
        (fcmp .eql .f64 Y7 Ye))
      (fcmp .eql .f64 Y7 Ye))))
theorem Z3l (Y7:Nat) (Ye:Nat)   : Fn prog 11 [.f .f64 Y7, .f .f64 Ye] (.b (ZV Y7 Ye)) []:=by
 cases h0:(fcmp .neq .f64 Y7 Y7) with
 | true =>
  refine fnS E0Ok Z5 (c:=X0 f11) [] (.b (fcmp .neq .f64 Ye Ye)) [] func11 (sB h0<|sB h0<|sB h0<|sB h0<|sB (show true=true from rfl)<|sB h0<|sB h0<|sB h0<|sB h0<|sK [] sN) rfl (by kernel_rfl) (by kernel_rfl) rfl ?_ ?_
  · simp only [ZV,h0,cond_true]
  · rfl
 | false =>
  have p {a C} (s:Scr a C):=sB h0<|sB h0<|sB h0<|sB h0<|s
  cases h1:(fcmp .neq .f64 Ye Ye) with
  | true =>
   refine fnS E0Ok Z5 (c:=X0 f11) [] (.b false) [] func11 (p (sB h1<|sB h0<|sB h0<|sB h0<|sB h0<|sK [] sN)) rfl (by kernel_rfl) (by kernel_rfl) rfl ?_ ?_
   · simp only [ZV,h0,h1,cond_true,cond_false]
   · rfl
  | false =>
   have q {a C} (s:Scr a C):=p (sB h1<|s)
   clear p
   cases h2:(fcmp .eql .f64 Y7 0) with
   | true =>
    have p {a C} (s:Scr a C):=q (sB h2<|sB h2<|sB h2<|s)
    clear q
    cases h3:(fcmp .eql .f64 Ye 0) with
    | true =>
     refine fnS E0Ok Z5 (c:=X0 f11) [] (.b ((fcmp .gtr .f64 (fop .quo .f64 4607182418800017408 Y7) 0) == (fcmp .gtr .f64 (fop .quo .f64 4607182418800017408 Ye) 0))) [] func11 (p (sB h3<|sK [] sN)) rfl (by kernel_rfl) (by kernel_rfl) rfl ?_ ?_
     · simp only [ZV,h0,h1,h2,h3,cond_true,cond_false]
     · rfl
    | false =>
     refine fnS E0Ok Z5 (c:=X0 f11) [] (.b (fcmp .eql .f64 Y7 Ye)) [] func11 (p (sB h3<|sK [] sN)) rfl (by kernel_rfl) (by kernel_rfl) rfl ?_ ?_
     · simp only [ZV,h0,h1,h2,h3,cond_true,cond_false]
     · rfl
   | false =>
    refine fnS E0Ok Z5 (c:=X0 f11) [] (.b (fcmp .eql .f64 Y7 Ye)) [] func11 (q (sB h2<|sB h2<|sB h2<|sB (show false=false from rfl)<|sK [] sN)) rfl (by kernel_rfl) (by kernel_rfl) rfl ?_ ?_
    · simp only [ZV,h0,h1,h2,cond_false]
    · rfl
theorem Z63 (x:Nat):ZV x x=true:=by
  unfold ZV
  cases h:fcmp .neq .f64 x x
  · simp only [cond_false]
    have h2:fcmp .eql .f64 x x=true:=by
      unfold fcmp at h ⊢
      simpa using h
    cases fcmp .eql .f64 x 0<;>simp [h2]
  · rfl
def Z1k (Y7:Gv) (Ye:Gv):Bool:=(cond (ZV (fcv .f32 .f64 Y7.X) (fcv .f32 .f64 Ye.X))
  (cond (ZV (fcv .f32 .f64 Y7.Y) (fcv .f32 .f64 Ye.Y))
    (cond (ZV (fcv .f32 .f64 Y7.Z) (fcv .f32 .f64 Ye.Z))
      true
      false)
    false)
  false)
theorem Z5M (Y7:Gv) (Ye:Gv)   : Fn prog 104 [.agg [.f .f32 Y7.X, .f .f32 Y7.Y, .f .f32 Y7.Z], .agg [.f .f32 Ye.X, .f .f32 Ye.Y, .f .f32 Ye.Z]] (.b (Z1k Y7 Ye)) []:=by
 have p {a C} (s:Scr a C):=sC (X1r Y7.X)<|sC (X1r Ye.X)<|sF (Z3l (fcv .f32 .f64 Y7.X) (fcv .f32 .f64 Ye.X))<|s
 cases h0:(ZV (fcv .f32 .f64 Y7.X) (fcv .f32 .f64 Ye.X)) with
 | true =>
  have q {a C} (s:Scr a C):=p (sB' h0<|sC (X1r Y7.Y)<|sC (X1r Ye.Y)<|sF (Z3l (fcv .f32 .f64 Y7.Y) (fcv .f32 .f64 Ye.Y))<|s)
  clear p
  cases h1:(ZV (fcv .f32 .f64 Y7.Y) (fcv .f32 .f64 Ye.Y)) with
  | true =>
   have p {a C} (s:Scr a C):=q (sB' h1<|sC (X1r Y7.Z)<|sC (X1r Ye.Z)<|sF (Z3l (fcv .f32 .f64 Y7.Z) (fcv .f32 .f64 Ye.Z))<|s)
   clear q
   cases h2:(ZV (fcv .f32 .f64 Y7.Z) (fcv .f32 .f64 Ye.Z)) with
   | true =>
    refine fnS E0Ok Z5 (c:=X0 f104) [] (.b true) [] func104 (p (sB' h2<|sK [] sN)) rfl (by kernel_rfl) (by kernel_rfl) rfl ?_ ?_
    · simp only [Z1k,h0,h1,h2,cond_true]
    · rfl
   | false =>
    refine fnS E0Ok Z5 (c:=X0 f104) [] (.b false) [] func104 (p (sB' h2<|sK [] sN)) rfl (by kernel_rfl) (by kernel_rfl) rfl ?_ ?_
    · simp only [Z1k,h0,h1,h2,cond_true,cond_false]
    · rfl
  | false =>
   refine fnS E0Ok Z5 (c:=X0 f104) [] (.b false) [] func104 (q (sB' h1<|sK [] sN)) rfl (by kernel_rfl) (by kernel_rfl) rfl ?_ ?_
   · simp only [Z1k,h0,h1,cond_true,cond_false]
   · rfl
 | false =>
  refine fnS E0Ok Z5 (c:=X0 f104) [] (.b false) [] func104 (p (sB' h0<|sK [] sN)) rfl (by kernel_rfl) (by kernel_rfl) rfl ?_ ?_
  · simp only [Z1k,h0,cond_false]
  · rfl
theorem Z6a (a:Gv):Z1k a a=true:=by
  simp [Z1k,Z63]
def ZS (Y7:(List Gv)) (Ye:(List Gv)):Nat→Int→(Unit) ⊕ (Unit)
  | 0,_ => .inl default
  | k + 1,Y5=>(cond (decide (Y5 < (Y7.length:Int)))
    (cond (Z1k (Y7.getD Y5.toNat default) (Ye.getD Y5.toNat default))
      (ZS Y7 Ye k (Y5 + 1))
      (.inl ()))
    (.inr ()))
def Z2j (Y7:(List Gv)) (Ye:(List Gv)):(Unit) ⊕ (Unit)→Ex × St
  | .inl r=>(.ret,⟨an 4 (.b false :: an 22 []),[]⟩)
  | .inr r=>((.exit 0),⟨.sl (Y7.map Gv.c) :: .sl (Ye.map Gv.c) :: an 4 (.sl (Y7.map Gv.c) :: .i .i64 (Y7.length:Int) :: .sl (Ye.map Gv.c) :: .i .i64 (Ye.length:Int) :: .b ((Y7.length:Int) != (Ye.length:Int)) :: an 16 []),[]⟩)
def Z58 (Y7:(List Gv)) (Ye:(List Gv)) (Y5:Int):St:=⟨.sl (Y7.map Gv.c) :: .sl (Ye.map Gv.c) :: .any :: .any :: .any :: .i .i64 Y5 :: .sl (Y7.map Gv.c) :: .i .i64 (Y7.length:Int) :: .sl (Ye.map Gv.c) :: .i .i64 (Ye.length:Int) :: .b ((Y7.length:Int) != (Ye.length:Int)) :: an 16 [],[]⟩
theorem Z3K (Y7:(List Gv)) (Ye:(List Gv)) (hp0:Y7.length≤1073741824) (hp1:Ye.length≤1073741824) (Z6A:((Y7.length:Int) != (Ye.length:Int))=false):∀ (k:Nat) (Y5:Int) (Z3n:0≤Y5) (hk:((Y7.length:Int) - Y5).toNat < k),Lp prog 0 (sub (X0 f60) [1,1,0,1,0,0]) (Z58 Y7 Ye Y5) (Z2j Y7 Ye (ZS Y7 Ye k Y5)).1 (Z2j Y7 Ye (ZS Y7 Ye k Y5)).2:=by
 intro k
 induction k with
 | zero=>intro Y5 Z3n hk;exact absurd hk (Nat.not_lt_zero _)
 | succ k ih =>
  intro Y5 Z3n hk
  have p {a C} (s:Scr a C):=sZ Gv.c Y7<|s
  cases Yj:(decide (Y5 < (Y7.length:Int))) with
  | true =>
   have Yt:=odt Yj
   have YE:(0:Int)≤Y5:=by clear p;exact (by assumption)
   have YC:Y5 < (Y7.length:Int):=by clear p;exact (by assumption)
   have YI:Y5 < (Ye.length:Int):=by clear p;exact (by simp_all<;>omega)
   have q {a C} (s:Scr a C):=p (sB Yj<|sK [8,8]<|sG Gv.c Y7 Y5 YE YC<|sG Gv.c Ye Y5 YE YI<|sF (Z5M (Y7.getD Y5.toNat default) (Ye.getD Y5.toNat default))<|s)
   clear p
   cases Yq:(Z1k (Y7.getD Y5.toNat default) (Ye.getD Y5.toNat default)) with
   | true =>
    have YL:(-9223372036854775808:Int)≤(Y5 + 1):=by clear q;exact (by omega)
    have YO:(Y5 + 1)≤(9223372036854775807:Int):=by clear q;exact (by omega)
    have e:ZS Y7 Ye (k + 1) Y5=(ZS Y7 Ye k (Y5 + 1)):=by simp only [ZS,Yj,Yq,cond_true]
    rw [e]
    exact XM E0Ok Z5 [] (mR false [0,2,3,6,16]) [] (ih (Y5 + 1) (show 0≤(Y5 + 1) from (by omega)) (by omega)) (q (sB' Yq<|sI (Y5 + 1) YL YO<|sN)) (by kernel_rfl)
   | false =>
    have e:ZS Y7 Ye (k + 1) Y5=(.inl ()):=by simp only [ZS,Yj,Yq,cond_true,cond_false]
    rw [e]
    exact outR (e := .ret) E0Ok Z5 [] (mR false [4,1,22]) [] (q (sB' Yq<|sN)) (by kernel_rfl) (by intro h;cases h)
  | false =>
   have Yt:=odf Yj
   have e:ZS Y7 Ye (k + 1) Y5=(.inr ()):=by simp only [ZS,Yj,cond_false]
   rw [e]
   exact outR (e:=(.exit 0)) E0Ok Z5 [] (mR false [0,2,4,5,16]) [] (p (sB Yj<|sN)) (by kernel_rfl) (by intro h;cases h)
def Z1K (Y7:(List Gv)) (Ye:(List Gv)):(Unit) ⊕ (Unit):=(ZS Y7 Ye (((Y7.length:Int) - 0).toNat + 1) 0)
def Z1A (Y7:(List Gv)) (Ye:(List Gv)):Bool:=(cond ((Y7.length:Int) != (Ye.length:Int))
  false
  (match (Z1K Y7 Ye) with
    | .inl r2=>false
    | .inr r2=>true))
theorem Z5B (Y7:(List Gv)) (Ye:(List Gv)) (hp0:Y7.length≤1073741824) (hp1:Ye.length≤1073741824)  : Fn prog 60 [.sl (Y7.map Gv.c), .sl (Ye.map Gv.c)] (.b (Z1A Y7 Ye)) []:=by
 have p {a C} (s:Scr a C):=sZ Gv.c Y7<|sZ Gv.c Ye<|s
 cases h0:((Y7.length:Int) != (Ye.length:Int)) with
 | true =>
  have gh0:=bne_iff_ne.1 h0
  refine fnS E0Ok Z5 (c:=X0 f60) [] (.b false) [] func60 (p (sB h0<|sK [] sN)) rfl (by kernel_rfl) (by kernel_rfl) rfl ?_ ?_
  · simp only [Z1A,h0,cond_true]
  · rfl
 | false =>
  have gh0:=bne_eq_false_iff_eq.1 h0
  have q {a C} (s:Scr a C):=p (sB h0<|s)
  clear p
  cases h1:(Z1K Y7 Ye) with
  | inl r2 =>
   refine fnS E0Ok Z5 (c:=X0 f60) [] (.b false) [] func60 (q (sL (mR false [0,2,3,6,16]) 0 (X7 (Z2j Y7 Ye) (x:=(Z1K Y7 Ye)) (Z3K Y7 Ye hp0 hp1 h0 (((Y7.length:Int) - 0).toNat + 1) 0 (show 0≤0 from (by omega)) (Nat.lt_succ_self _)) h1)<|sK [] sN)) rfl (by kernel_rfl) (by kernel_rfl) rfl ?_ ?_
   · simp only [Z1A,h0,h1,cond_false]
   · rfl
  | inr r2 =>
   refine fnS E0Ok Z5 (c:=X0 f60) [] (.b true) [] func60 (q (sL (mR false [0,2,3,6,16]) 0 (X7 (Z2j Y7 Ye) (x:=(Z1K Y7 Ye)) (Z3K Y7 Ye hp0 hp1 h0 (((Y7.length:Int) - 0).toNat + 1) 0 (show 0≤0 from (by omega)) (Nat.lt_succ_self _)) h1)<|sK [] sN)) rfl (by kernel_rfl) (by kernel_rfl) rfl ?_ ?_
   · simp only [Z1A,h0,h1,cond_false]
   · rfl
theorem Z5V (a:List Gv):Z1A a a=true:=by
  unfold Z1A Z1K
  rw [X7k (a:=a) (p:=fun v=>Z1k v v) (lo:=ZS a a) (x:=()) (y:=()) (fun k i=>rfl) (fun v _=>Z6a v) _ _ (Int.le_refl 0) (Nat.lt_succ_self _)]
  simp
def ZP (Y7:(List Int)) (Ye:(List Int)):Nat→Int→(Unit) ⊕ (Unit)
  | 0,_ => .inl default
  | k + 1,Y5=>(cond (decide (Y5 < (Y7.length:Int)))
    (cond ((Y7.getD Y5.toNat default) != (Ye.getD Y5.toNat default))
      (.inl ())
      (ZP Y7 Ye k (Y5 + 1)))
    (.inr ()))
def Z2r (Y7:(List Int)) (Ye:(List Int)):(Unit) ⊕ (Unit)→Ex × St
  | .inl r=>(.ret,⟨an 4 (.b false :: an 21 []),[]⟩)
  | .inr r=>((.exit 0),⟨.sl (Y7.map (cI .i64)) :: .sl (Ye.map (cI .i64)) :: an 4 (.sl (Y7.map (cI .i64)) :: .i .i64 (Y7.length:Int) :: .sl (Ye.map (cI .i64)) :: .i .i64 (Ye.length:Int) :: .b ((Y7.length:Int) != (Ye.length:Int)) :: an 15 []),[]⟩)
def Z5k (Y7:(List Int)) (Ye:(List Int)) (Y5:Int):St:=⟨.sl (Y7.map (cI .i64)) :: .sl (Ye.map (cI .i64)) :: .any :: .any :: .any :: .i .i64 Y5 :: .sl (Y7.map (cI .i64)) :: .i .i64 (Y7.length:Int) :: .sl (Ye.map (cI .i64)) :: .i .i64 (Ye.length:Int) :: .b ((Y7.length:Int) != (Ye.length:Int)) :: an 15 [],[]⟩
theorem Z3Y (Y7:(List Int)) (Ye:(List Int)) (hp0:Y7.length≤1073741824) (hp1:Ye.length≤1073741824) (Z6D:((Y7.length:Int) != (Ye.length:Int))=false):∀ (k:Nat) (Y5:Int) (Z3C:0≤Y5) (hk:((Y7.length:Int) - Y5).toNat < k),Lp prog 0 (sub (X0 f70) [1,1,0,1,0,0]) (Z5k Y7 Ye Y5) (Z2r Y7 Ye (ZP Y7 Ye k Y5)).1 (Z2r Y7 Ye (ZP Y7 Ye k Y5)).2:=by
 intro k
 induction k with
 | zero=>intro Y5 Z3C hk;exact absurd hk (Nat.not_lt_zero _)
 | succ k ih =>
  intro Y5 Z3C hk
  have p {a C} (s:Scr a C):=sZ (cI .i64) Y7<|s
  cases Yj:(decide (Y5 < (Y7.length:Int))) with
  | true =>
   have Yt:=odt Yj
   have YE:(0:Int)≤Y5:=by clear p;exact (by assumption)
   have YC:Y5 < (Y7.length:Int):=by clear p;exact (by assumption)
   have YI:Y5 < (Ye.length:Int):=by clear p;exact (by simp_all<;>omega)
   have q {a C} (s:Scr a C):=p (sB Yj<|sK [8,8]<|sG (cI .i64) Y7 Y5 YE YC<|sG (cI .i64) Ye Y5 YE YI<|s)
   clear p
   cases Yq:((Y7.getD Y5.toNat default) != (Ye.getD Y5.toNat default)) with
   | true =>
    have YV:=bne_iff_ne.1 Yq
    have e:ZP Y7 Ye (k + 1) Y5=(.inl ()):=by simp only [ZP,Yj,Yq,cond_true]
    rw [e]
    exact outR (e := .ret) E0Ok Z5 [] (mR false [4,1,21]) [] (q (sB Yq<|sN)) (by kernel_rfl) (by intro h;cases h)
   | false =>
    have YV:=bne_eq_false_iff_eq.1 Yq
    have YL:(-9223372036854775808:Int)≤(Y5 + 1):=by clear q;exact (by omega)
    have YO:(Y5 + 1)≤(9223372036854775807:Int):=by clear q;exact (by omega)
    have e:ZP Y7 Ye (k + 1) Y5=(ZP Y7 Ye k (Y5 + 1)):=by simp only [ZP,Yj,Yq,cond_true,cond_false]
    rw [e]
    exact XM E0Ok Z5 [] (mR false [0,2,3,6,15]) [] (ih (Y5 + 1) (show 0≤(Y5 + 1) from (by omega)) (by omega)) (q (sB Yq<|sI (Y5 + 1) YL YO<|sN)) (by kernel_rfl)
  | false =>
   have Yt:=odf Yj
   have e:ZP Y7 Ye (k + 1) Y5=(.inr ()):=by simp only [ZP,Yj,cond_false]
   rw [e]
   exact outR (e:=(.exit 0)) E0Ok Z5 [] (mR false [0,2,4,5,15]) [] (p (sB Yj<|sN)) (by kernel_rfl) (by intro h;cases h)
def Z1M (Y7:(List Int)) (Ye:(List Int)):(Unit) ⊕ (Unit):=(ZP Y7 Ye (((Y7.length:Int) - 0).toNat + 1) 0)
def Z1l (Y7:(List Int)) (Ye:(List Int)):Bool:=(cond ((Y7.length:Int) != (Ye.length:Int))
  false
  (match (Z1M Y7 Ye) with
    | .inl r2=>false
    | .inr r2=>true))
theorem Z5N (Y7:(List Int)) (Ye:(List Int)) (hp0:Y7.length≤1073741824) (hp1:Ye.length≤1073741824)  : Fn prog 70 [.sl (Y7.map (cI .i64)), .sl (Ye.map (cI .i64))] (.b (Z1l Y7 Ye)) []:=by
 have p {a C} (s:Scr a C):=sZ (cI .i64) Y7<|sZ (cI .i64) Ye<|s
 cases h0:((Y7.length:Int) != (Ye.length:Int)) with
 | true =>
  have gh0:=bne_iff_ne.1 h0
  refine fnS E0Ok Z5 (c:=X0 f70) [] (.b false) [] func70 (p (sB h0<|sK [] sN)) rfl (by kernel_rfl) (by kernel_rfl) rfl ?_ ?_
  · simp only [Z1l,h0,cond_true]
  · rfl
 | false =>
  have gh0:=bne_eq_false_iff_eq.1 h0
  have q {a C} (s:Scr a C):=p (sB h0<|s)
  clear p
  cases h1:(Z1M Y7 Ye) with
  | inl r2 =>
   refine fnS E0Ok Z5 (c:=X0 f70) [] (.b false) [] func70 (q (sL (mR false [0,2,3,6,15]) 0 (X7 (Z2r Y7 Ye) (x:=(Z1M Y7 Ye)) (Z3Y Y7 Ye hp0 hp1 h0 (((Y7.length:Int) - 0).toNat + 1) 0 (show 0≤0 from (by omega)) (Nat.lt_succ_self _)) h1)<|sK [] sN)) rfl (by kernel_rfl) (by kernel_rfl) rfl ?_ ?_
   · simp only [Z1l,h0,h1,cond_false]
   · rfl
  | inr r2 =>
   refine fnS E0Ok Z5 (c:=X0 f70) [] (.b true) [] func70 (q (sL (mR false [0,2,3,6,15]) 0 (X7 (Z2r Y7 Ye) (x:=(Z1M Y7 Ye)) (Z3Y Y7 Ye hp0 hp1 h0 (((Y7.length:Int) - 0).toNat + 1) 0 (show 0≤0 from (by omega)) (Nat.lt_succ_self _)) h1)<|sK [] sN)) rfl (by kernel_rfl) (by kernel_rfl) rfl ?_ ?_
   · simp only [Z1l,h0,h1,cond_false]
   · rfl
theorem Z6b (a:List Int):Z1l a a=true:=by
  unfold Z1l Z1M
  rw [X5C (a:=a) (p:=fun v => !(v != v)) (lo:=ZP a a) (x:=()) (y:=()) (fun k i=>by rw [ZP];cases (a.getD i.toNat default != a.getD i.toNat default)<;>rfl)]
  rw [show (a.all fun v => !(v != v))=true from by rw [List.all_eq_true];intro v _;simp]
  simp
def ZT (Y7:(List (List Int))) (Ye:(List (List Int))):Nat→Int→(Unit) ⊕ (Unit)
  | 0,_ => .inl default
  | k + 1,Y5=>(cond (decide (Y5 < (Y7.length:Int)))
    (cond (Z1l (Y7.getD Y5.toNat default) (Ye.getD Y5.toNat default))
      (ZT Y7 Ye k (Y5 + 1))
      (.inl ()))
    (.inr ()))
def Z2k (Y7:(List (List Int))) (Ye:(List (List Int))):(Unit) ⊕ (Unit)→Ex × St
  | .inl r=>(.ret,⟨an 4 (.b false :: an 22 []),[]⟩)
  | .inr r=>((.exit 0),⟨.sl (Y7.map (cL (cI .i64))) :: .sl (Ye.map (cL (cI .i64))) :: an 4 (.sl (Y7.map (cL (cI .i64))) :: .i .i64 (Y7.length:Int) :: .sl (Ye.map (cL (cI .i64))) :: .i .i64 (Ye.length:Int) :: .b ((Y7.length:Int) != (Ye.length:Int)) :: an 16 []),[]⟩)
def Z59 (Y7:(List (List Int))) (Ye:(List (List Int))) (Y5:Int):St:=⟨.sl (Y7.map (cL (cI .i64))) :: .sl (Ye.map (cL (cI .i64))) :: .any :: .any :: .any :: .i .i64 Y5 :: .sl (Y7.map (cL (cI .i64))) :: .i .i64 (Y7.length:Int) :: .sl (Ye.map (cL (cI .i64))) :: .i .i64 (Ye.length:Int) :: .b ((Y7.length:Int) != (Ye.length:Int)) :: an 16 [],[]⟩
theorem Z3L (Y7:(List (List Int))) (Ye:(List (List Int))) (hp0:Y7.length≤1073741824) (hp1:∀ t∈Y7,t.length≤1073741824) (hp2:Ye.length≤1073741824) (hp3:∀ t∈Ye,t.length≤1073741824) (Z6B:((Y7.length:Int) != (Ye.length:Int))=false):∀ (k:Nat) (Y5:Int) (Z3o:0≤Y5) (hk:((Y7.length:Int) - Y5).toNat < k),Lp prog 0 (sub (X0 f23) [1,1,0,1,0,0]) (Z59 Y7 Ye Y5) (Z2k Y7 Ye (ZT Y7 Ye k Y5)).1 (Z2k Y7 Ye (ZT Y7 Ye k Y5)).2:=by
 intro k
 induction k with
 | zero=>intro Y5 Z3o hk;exact absurd hk (Nat.not_lt_zero _)
 | succ k ih =>
  intro Y5 Z3o hk
  have p {a C} (s:Scr a C):=sZ (cL (cI .i64)) Y7<|s
  cases Yj:(decide (Y5 < (Y7.length:Int))) with
  | true =>
   have Yt:=odt Yj
   have YE:(0:Int)≤Y5:=by clear p;exact (by assumption)
   have YC:Y5 < (Y7.length:Int):=by clear p;exact (by assumption)
   have YI:Y5 < (Ye.length:Int):=by clear p;exact (by simp_all<;>omega)
   have YL:(Y7.getD Y5.toNat default).length≤1073741824:=by clear p;exact (by simp_all<;>omega)
   have YO:(Ye.getD Y5.toNat default).length≤1073741824:=by clear p;exact (by simp_all<;>omega)
   have q {a C} (s:Scr a C):=p (sB Yj<|sK [8,8]<|sG (cL (cI .i64)) Y7 Y5 YE YC<|sG (cL (cI .i64)) Ye Y5 YE YI<|sF (Z5N (Y7.getD Y5.toNat default) (Ye.getD Y5.toNat default) YL YO)<|s)
   clear p
   cases Yq:(Z1l (Y7.getD Y5.toNat default) (Ye.getD Y5.toNat default)) with
   | true =>
    have YS:(-9223372036854775808:Int)≤(Y5 + 1):=by clear q;exact (by omega)
    have YY:(Y5 + 1)≤(9223372036854775807:Int):=by clear q;exact (by omega)
    have e:ZT Y7 Ye (k + 1) Y5=(ZT Y7 Ye k (Y5 + 1)):=by simp only [ZT,Yj,Yq,cond_true]
    rw [e]
    exact XM E0Ok Z5 [] (mR false [0,2,3,6,16]) [] (ih (Y5 + 1) (show 0≤(Y5 + 1) from (by omega)) (by omega)) (q (sB' Yq<|sI (Y5 + 1) YS YY<|sN)) (by kernel_rfl)
   | false =>
    have e:ZT Y7 Ye (k + 1) Y5=(.inl ()):=by simp only [ZT,Yj,Yq,cond_true,cond_false]
    rw [e]
    exact outR (e := .ret) E0Ok Z5 [] (mR false [4,1,22]) [] (q (sB' Yq<|sN)) (by kernel_rfl) (by intro h;cases h)
  | false =>
   have Yt:=odf Yj
   have e:ZT Y7 Ye (k + 1) Y5=(.inr ()):=by simp only [ZT,Yj,cond_false]
   rw [e]
   exact outR (e:=(.exit 0)) E0Ok Z5 [] (mR false [0,2,4,5,16]) [] (p (sB Yj<|sN)) (by kernel_rfl) (by intro h;cases h)
def Z1L (Y7:(List (List Int))) (Ye:(List (List Int))):(Unit) ⊕ (Unit):=(ZT Y7 Ye (((Y7.length:Int) - 0).toNat + 1) 0)
def Z1B (Y7:(List (List Int))) (Ye:(List (List Int))):Bool:=(cond ((Y7.length:Int) != (Ye.length:Int))
  false
  (match (Z1L Y7 Ye) with
    | .inl r2=>false
    | .inr r2=>true))
theorem Z5C (Y7:(List (List Int))) (Ye:(List (List Int))) (hp0:Y7.length≤1073741824) (hp1:∀ t∈Y7,t.length≤1073741824) (hp2:Ye.length≤1073741824) (hp3:∀ t∈Ye,t.length≤1073741824)  : Fn prog 23 [.sl (Y7.map (cL (cI .i64))), .sl (Ye.map (cL (cI .i64)))] (.b (Z1B Y7 Ye)) []:=by
 have p {a C} (s:Scr a C):=sZ (cL (cI .i64)) Y7<|sZ (cL (cI .i64)) Ye<|s
 cases h0:((Y7.length:Int) != (Ye.length:Int)) with
 | true =>
  have gh0:=bne_iff_ne.1 h0
  refine fnS E0Ok Z5 (c:=X0 f23) [] (.b false) [] func23 (p (sB h0<|sK [] sN)) rfl (by kernel_rfl) (by kernel_rfl) rfl ?_ ?_
  · simp only [Z1B,h0,cond_true]
  · rfl
 | false =>
  have gh0:=bne_eq_false_iff_eq.1 h0
  have q {a C} (s:Scr a C):=p (sB h0<|s)
  clear p
  cases h1:(Z1L Y7 Ye) with
  | inl r2 =>
   refine fnS E0Ok Z5 (c:=X0 f23) [] (.b false) [] func23 (q (sL (mR false [0,2,3,6,16]) 0 (X7 (Z2k Y7 Ye) (x:=(Z1L Y7 Ye)) (Z3L Y7 Ye hp0 hp1 hp2 hp3 h0 (((Y7.length:Int) - 0).toNat + 1) 0 (show 0≤0 from (by omega)) (Nat.lt_succ_self _)) h1)<|sK [] sN)) rfl (by kernel_rfl) (by kernel_rfl) rfl ?_ ?_
   · simp only [Z1B,h0,h1,cond_false]
   · rfl
  | inr r2 =>
   refine fnS E0Ok Z5 (c:=X0 f23) [] (.b true) [] func23 (q (sL (mR false [0,2,3,6,16]) 0 (X7 (Z2k Y7 Ye) (x:=(Z1L Y7 Ye)) (Z3L Y7 Ye hp0 hp1 hp2 hp3 h0 (((Y7.length:Int) - 0).toNat + 1) 0 (show 0≤0 from (by omega)) (Nat.lt_succ_self _)) h1)<|sK [] sN)) rfl (by kernel_rfl) (by kernel_rfl) rfl ?_ ?_
   · simp only [Z1B,h0,h1,cond_false]
   · rfl
theorem Z5W (a:List (List Int)):Z1B a a=true:=by
  unfold Z1B Z1L
  rw [X5C (a:=a) (p:=fun v=>Z1l v v) (lo:=ZT a a) (x:=()) (y:=()) (fun k i=>rfl)]
  rw [show (a.all fun v=>Z1l v v)=true from by rw [List.all_eq_true];intro v _;exact Z6b v]
  simp
def Z1P (Y7:Gm) (Ye:Gm):Bool:=(cond (Z1A Y7.Pl Ye.Pl)
  (cond (Z1B Y7.Tr Ye.Tr)
    true
    false)
  false)
theorem Z53 (Y7:Gm) (Ye:Gm) (hp0:Y7.Pl.length≤1073741824) (hp1:Y7.Tr.length≤1073741824) (hp2:∀ t∈Y7.Tr,t.length≤1073741824) (hp3:Ye.Pl.length≤1073741824) (hp4:Ye.Tr.length≤1073741824) (hp5:∀ t∈Ye.Tr,t.length≤1073741824)  : Fn prog 16 [.agg [.sl (Y7.Pl.map Gv.c), .sl (Y7.Tr.map (cL (cI .i64)))], .agg [.sl (Ye.Pl.map Gv.c), .sl (Ye.Tr.map (cL (cI .i64)))]] (.b (Z1P Y7 Ye)) []:=by
 have p {a C} (s:Scr a C):=sF (Z5B Y7.Pl Ye.Pl hp0 hp3)<|s
 cases h0:(Z1A Y7.Pl Ye.Pl) with
 | true =>
  have q {a C} (s:Scr a C):=p (sB' h0<|sF (Z5C Y7.Tr Ye.Tr hp1 hp2 hp4 hp5)<|s)
  clear p
  cases h1:(Z1B Y7.Tr Ye.Tr) with
  | true =>
   refine fnS E0Ok Z5 (c:=X0 f16) [] (.b true) [] func16 (q (sB' h1<|sK [] sN)) rfl (by kernel_rfl) (by kernel_rfl) rfl ?_ ?_
   · simp only [Z1P,h0,h1,cond_true]
   · rfl
  | false =>
   refine fnS E0Ok Z5 (c:=X0 f16) [] (.b false) [] func16 (q (sB' h1<|sK [] sN)) rfl (by kernel_rfl) (by kernel_rfl) rfl ?_ ?_
   · simp only [Z1P,h0,h1,cond_true,cond_false]
   · rfl
 | false =>
  refine fnS E0Ok Z5 (c:=X0 f16) [] (.b false) [] func16 (p (sB' h0<|sK [] sN)) rfl (by kernel_rfl) (by kernel_rfl) rfl ?_ ?_
  · simp only [Z1P,h0,cond_false]
  · rfl
theorem Z6o (a:Gm):Z1P a a=true:=by
  simp [Z1P,Z5V,Z5W]
def Zn (Y7:(List Gv)) (Yi:Int):Nat→Int→Int→(List Gv)→Int × (List Gv)
  | 0,_,_,_=>default
  | k + 1,Y9,Y8,Ya=>(cond (decide (Y8 < (Ya.length:Int)))
    (Zn Y7 Yi k (IntKind.wrap .i64 ((IntKind.wrap .i64 ((IntKind.wrap .i64 (Y9 + 1)) + 1)) + 1)) (Y8 + 1) (Ya.set Y8.toNat (⟨(X2 .f32 Y9),(X2 .f32 (IntKind.wrap .i64 (Y9 + 1))),(X2 .f32 (IntKind.wrap .i64 ((IntKind.wrap .i64 (Y9 + 1)) + 1)))⟩:Gv)))
    (Y9,Ya))
def Z2c (Y7:(List Gv)) (Yi:Int) (r:Int × (List Gv)):Ex × St:=((.exit 0),⟨.any :: .i .i64 r.1 :: .any :: .any :: .i .i64 0 :: an 32 [],[.vec 62 3 (r.2.map Gv.c) false]⟩)
def Z2P (Y7:(List Gv)) (Yi:Int) (Y9:Int) (Y8:Int) (Ya:(List Gv)):St:=⟨.own 0 :: .i .i64 Y9 :: .any :: .any :: .i .i64 0 :: .i .i64 Y8 :: an 31 [],[.vec 62 3 (Ya.map Gv.c) false]⟩
theorem Z4f (Y7:(List Gv)) (Yi:Int) (hp0:Y7.length≤1073741824):∀ (k:Nat) (Y9:Int) (Y8:Int) (Ya:(List Gv)) (Z2w:0≤Y8) (Z2x:Ya.length=Y7.length) (hk:((Y7.length:Int) - Y8).toNat < k),Lp prog 1 (sub (X0 f61) [1,0,1,0,0]) (Z2P Y7 Yi Y9 Y8 Ya) (Z2c Y7 Yi (Zn Y7 Yi k Y9 Y8 Ya)).1 (Z2c Y7 Yi (Zn Y7 Yi k Y9 Y8 Ya)).2:=by
 intro k
 induction k with
 | zero=>intro Y9 Y8 Ya Z2w Z2x hk;exact absurd hk (Nat.not_lt_zero _)
 | succ k ih =>
  intro Y9 Y8 Ya Z2w Z2x hk
  have p {a C} (s:Scr a C):=sZ Gv.c Ya<|s
  cases Yj:(decide (Y8 < (Ya.length:Int))) with
  | true =>
   have Yt:=odt Yj
   have YE:(0:Int)≤Y8:=by clear p;exact (by assumption)
   have YC:Y8 < (Ya.length:Int):=by clear p;exact (by assumption)
   have YI:Y8.toNat < Ya.length:=by clear p;exact (by omega)
   have YL:Y8 < ((Ya.set Y8.toNat (⟨(X2 .f32 Y9),(Ya.getD Y8.toNat default).Y,(Ya.getD Y8.toNat default).Z⟩:Gv)).length:Int):=by clear p;exact (by simp_all<;>omega)
   have YO:Y8 < ((Ya.set Y8.toNat (⟨(X2 .f32 Y9),(X2 .f32 (IntKind.wrap .i64 (Y9 + 1))),(Ya.getD Y8.toNat default).Z⟩:Gv)).length:Int):=by clear p;exact (by simp_all<;>omega)
   have YS:(-9223372036854775808:Int)≤(Y8 + 1):=by clear p;exact (by omega)
   have YY:(Y8 + 1)≤(9223372036854775807:Int):=by clear p;exact (by omega)
   have e:Zn Y7 Yi (k + 1) Y9 Y8 Ya=(Zn Y7 Yi k (IntKind.wrap .i64 ((IntKind.wrap .i64 ((IntKind.wrap .i64 (Y9 + 1)) + 1)) + 1)) (Y8 + 1) (Ya.set Y8.toNat (⟨(X2 .f32 Y9),(X2 .f32 (IntKind.wrap .i64 (Y9 + 1))),(X2 .f32 (IntKind.wrap .i64 ((IntKind.wrap .i64 (Y9 + 1)) + 1)))⟩:Gv))):=by simp only [Zn,Yj,cond_true]
   rw [e]
   exact XZ (EpOk 1) Z5 [] (mR false [0,2,2,2,31]) [] (⟨.own 0 :: .i .i64 (IntKind.wrap .i64 ((IntKind.wrap .i64 ((IntKind.wrap .i64 (Y9 + 1)) + 1)) + 1)) :: .any :: .any :: .i .i64 0 :: .i .i64 (Y8 + 1) :: an 31 [],[.vec 62 3 ((((Ya.map Gv.c).set Y8.toNat [.f .f32 (X2 .f32 Y9), .f .f32 ((Ya.getD Y8.toNat default).Y), .f .f32 ((Ya.getD Y8.toNat default).Z)]).set Y8.toNat [.f .f32 (X2 .f32 Y9), .f .f32 (X2 .f32 (IntKind.wrap .i64 (Y9 + 1))), .f .f32 ((Ya.getD Y8.toNat default).Z)]).set Y8.toNat [.f .f32 (X2 .f32 Y9), .f .f32 (X2 .f32 (IntKind.wrap .i64 (Y9 + 1))), .f .f32 (X2 .f32 (IntKind.wrap .i64 ((IntKind.wrap .i64 (Y9 + 1)) + 1)))]) false]⟩) (p (sB Yj<|sX Gv.c Ya Y8 YE YC<|sV Gv.c Ya Y8.toNat YI<|sW .i64 (Y9 + 1)<|sC (show 0≤Y8∧Int.toNat Y8 < ((Ya.map Gv.c).set Y8.toNat [.f .f32 (X2 .f32 Y9), .f .f32 ((Ya.getD Y8.toNat default).Y), .f .f32 ((Ya.getD Y8.toNat default).Z)]).length from (by simpa using X1e (c:=Gv.c) (l:=(Ya.set Y8.toNat (⟨(X2 .f32 Y9),(Ya.getD Y8.toNat default).Y,(Ya.getD Y8.toNat default).Z⟩:Gv))) (i:=Y8) YE YL))<|sE (show ((Ya.map Gv.c).set Y8.toNat [.f .f32 (X2 .f32 Y9), .f .f32 ((Ya.getD Y8.toNat default).Y), .f .f32 ((Ya.getD Y8.toNat default).Z)])[Y8.toNat]? = some [.f .f32 (X2 .f32 Y9), .f .f32 ((Ya.getD Y8.toNat default).Y), .f .f32 ((Ya.getD Y8.toNat default).Z)] from List.getElem?_set_self (by simpa using YI))<|sW .i64 ((IntKind.wrap .i64 (Y9 + 1)) + 1)<|sC (show 0≤Y8∧Int.toNat Y8 < (((Ya.map Gv.c).set Y8.toNat [.f .f32 (X2 .f32 Y9), .f .f32 ((Ya.getD Y8.toNat default).Y), .f .f32 ((Ya.getD Y8.toNat default).Z)]).set Y8.toNat [.f .f32 (X2 .f32 Y9), .f .f32 (X2 .f32 (IntKind.wrap .i64 (Y9 + 1))), .f .f32 ((Ya.getD Y8.toNat default).Z)]).length from (by simpa using X1e (c:=Gv.c) (l:=(Ya.set Y8.toNat (⟨(X2 .f32 Y9),(X2 .f32 (IntKind.wrap .i64 (Y9 + 1))),(Ya.getD Y8.toNat default).Z⟩:Gv))) (i:=Y8) YE YO))<|sE (show (((Ya.map Gv.c).set Y8.toNat [.f .f32 (X2 .f32 Y9), .f .f32 ((Ya.getD Y8.toNat default).Y), .f .f32 ((Ya.getD Y8.toNat default).Z)]).set Y8.toNat [.f .f32 (X2 .f32 Y9), .f .f32 (X2 .f32 (IntKind.wrap .i64 (Y9 + 1))), .f .f32 ((Ya.getD Y8.toNat default).Z)])[Y8.toNat]? = some [.f .f32 (X2 .f32 Y9), .f .f32 (X2 .f32 (IntKind.wrap .i64 (Y9 + 1))), .f .f32 ((Ya.getD Y8.toNat default).Z)] from List.getElem?_set_self (by simpa using YI))<|sW .i64 ((IntKind.wrap .i64 ((IntKind.wrap .i64 (Y9 + 1)) + 1)) + 1)<|sI (Y8 + 1) YS YY<|sN)) (by kernel_rfl) (by simp [Z2P,List.map_set,Gv.c]) (ih (IntKind.wrap .i64 ((IntKind.wrap .i64 ((IntKind.wrap .i64 (Y9 + 1)) + 1)) + 1)) (Y8 + 1) (Ya.set Y8.toNat (⟨(X2 .f32 Y9),(X2 .f32 (IntKind.wrap .i64 (Y9 + 1))),(X2 .f32 (IntKind.wrap .i64 ((IntKind.wrap .i64 (Y9 + 1)) + 1)))⟩:Gv)) (show 0≤(Y8 + 1) from (by omega)) (show (Ya.set Y8.toNat (⟨(X2 .f32 Y9),(X2 .f32 (IntKind.wrap .i64 (Y9 + 1))),(X2 .f32 (IntKind.wrap .i64 ((IntKind.wrap .i64 (Y9 + 1)) + 1)))⟩:Gv)).length=Y7.length from (by simp_all<;>omega)) (by omega))
  | false =>
   have Yt:=odf Yj
   have e:Zn Y7 Yi (k + 1) Y9 Y8 Ya=(Y9,Ya):=by simp only [Zn,Yj,cond_false]
   rw [e]
   exact outR (e:=(.exit 0)) (EpOk 1) Z5 [] (mR false [1,1,2,1,32]) [] (p (sB Yj<|sN)) (by kernel_rfl) (by intro h;cases h)
theorem Z3Z (Y7:(List Gv)) (Yi:Int):∀ (k:Nat) (Y9:Int) (Y8:Int) (Ya:(List Gv)) (hk:((Ya.length:Int) - Y8).toNat < k),(Zn Y7 Yi k Y9 Y8 Ya).2.length=Ya.length:=by
  intro k
  induction k with
  | zero=>intro Y9 Y8 Ya hk;exact absurd hk (Nat.not_lt_zero _)
  | succ k ih =>
    intro Y9 Y8 Ya hk
    cases Yj:(decide (Y8 < (Ya.length:Int))) with
    | true =>
      have e:Zn Y7 Yi (k + 1) Y9 Y8 Ya=(Zn Y7 Yi k (IntKind.wrap .i64 ((IntKind.wrap .i64 ((IntKind.wrap .i64 (Y9 + 1)) + 1)) + 1)) (Y8 + 1) (Ya.set Y8.toNat (⟨(X2 .f32 Y9),(X2 .f32 (IntKind.wrap .i64 (Y9 + 1))),(X2 .f32 (IntKind.wrap .i64 ((IntKind.wrap .i64 (Y9 + 1)) + 1)))⟩:Gv))):=by simp only [Zn,Yj,cond_true]
      rw [e,ih (IntKind.wrap .i64 ((IntKind.wrap .i64 ((IntKind.wrap .i64 (Y9 + 1)) + 1)) + 1)) (Y8 + 1) (Ya.set Y8.toNat (⟨(X2 .f32 Y9),(X2 .f32 (IntKind.wrap .i64 (Y9 + 1))),(X2 .f32 (IntKind.wrap .i64 ((IntKind.wrap .i64 (Y9 + 1)) + 1)))⟩:Gv)) (by simp_all<;>omega)];simp
    | false =>
      have e:Zn Y7 Yi (k + 1) Y9 Y8 Ya=(Y9,Ya):=by simp only [Zn,Yj,cond_false]
      first | (rw [e];done) | (rw [e];rfl)
def Z12 (Y7:(List Gv)) (Yi:Int):Int × (List Gv):=(Zn Y7 Yi (((Y7.length:Int) - 0).toNat + 1) Yi 0 Y7)
@[simp] theorem Z5v (Y7:(List Gv)) (Yi:Int):(Z12 Y7 Yi).2.length=(Y7:(List Gv)).length:=Z3Z Y7 Yi (((Y7.length:Int) - 0).toNat + 1) Yi 0 Y7 (by exact Nat.lt_succ_self _)
def Zl (Y7:(List Gv)) (Yi:Int):Int × (List Gv):=((Z12 Y7 Yi).1,(Z12 Y7 Yi).2)
@[simp] theorem Z5X (Y7:(List Gv)) (Yi:Int):(Zl Y7 Yi).2.length=Y7.length:=by
  first | (simp [Zl];done)
theorem Z4C (Y7:(List Gv)) (Yi:Int) (hp0:Y7.length≤1073741824)  : X8 prog 61 [.vec 62 3 (Y7.map Gv.c) false] [.own 0, .i .i64 Yi] (.i .i64 ((Zl Y7 Yi).1)) [.vec 62 3 (((Zl Y7 Yi).2).map Gv.c) false]:=by
 refine X3l (EpOk 1) Z5 (c:=X0 f61) [.vec 62 3 (Y7.map Gv.c) false] [] (.i .i64 ((Z12 Y7 Yi).1)) [.vec 62 3 (((Z12 Y7 Yi).2).map Gv.c) false] func61 (sL (mR false [0,2,2,2,31]) 1 (X7 (Z2c Y7 Yi) (x:=(Z12 Y7 Yi)) (Z4f Y7 Yi hp0 (((Y7.length:Int) - 0).toNat + 1) Yi 0 Y7 (show 0≤0 from (by omega)) (show Y7.length=Y7.length from (by simp)) (Nat.lt_succ_self _)) rfl)<|sK [] sN) rfl (by kernel_rfl) (by kernel_rfl) ?_ ?_
 · rfl
 · simp [Zl]
def Z2F (_:Gv) (c:Int):Int × Gv:=((IntKind.wrap .i64 ((IntKind.wrap .i64 ((IntKind.wrap .i64 (c + 1)) + 1)) + 1)),⟨X2 .f32 c,X2 .f32 (IntKind.wrap .i64 (c + 1)),X2 .f32 (IntKind.wrap .i64 ((IntKind.wrap .i64 (c + 1)) + 1))⟩)
theorem Z4y (a:List Gv) (c:Int):Zl a c=mkL Z2F a c:=by
  unfold Zl Z12
  rw [X3a (f:=Z2F) (lo:=Zn a c) (fun k c i r=>rfl) _ _ _ _ (Int.le_refl 0) (Nat.lt_succ_self _)]
  simp
theorem Z4b (a:List Gv) (c:Int) (g0:a.length≤1073741824) (h0:0≤c) (h1:c≤4611686018427387904):c≤(Zl a c).1∧(Zl a c).1≤c + 3221225472:=by
  rw [Z4y]
  have q:=X75 (f:=Z2F) (W:=3) a c (fun x _ c k0 k1=>by simp only [Z2F];rw [X1b (n:=c + 1) (by omega) (by omega),show c + 1 + 1=c + 2 from by omega,X1b (n:=c + 2) (by omega) (by omega),show c + 2 + 1=c + 3 from by omega,X1b (n:=c + 3) (by omega) (by omega)];omega) h0 (by omega)
  omega
def Zq (Y7:(List Int)) (Yi:Int):Nat→Int→Int→(List Int)→Int × (List Int)
  | 0,_,_,_=>default
  | k + 1,Y9,Y8,Ya=>(cond (decide (Y8 < (Ya.length:Int)))
    (Zq Y7 Yi k (IntKind.wrap .i64 (Y9 + 1)) (Y8 + 1) (Ya.set Y8.toNat Y9))
    (Y9,Ya))
def Z2g (ty:Nat) (Y7:(List Int)) (Yi:Int) (r:Int × (List Int)):Ex × St:=((.exit 0),⟨.any :: .i .i64 r.1 :: .any :: .any :: .i .i64 0 :: an 14 [],[.vec ty 1 (r.2.map (cI .i64)) false]⟩)
def Z30 (ty:Nat) (Y7:(List Int)) (Yi:Int) (Y9:Int) (Y8:Int) (Ya:(List Int)):St:=⟨.own 0 :: .i .i64 Y9 :: .any :: .any :: .i .i64 0 :: .i .i64 Y8 :: an 13 [],[.vec ty 1 (Ya.map (cI .i64)) false]⟩
theorem Z4r (ty:Nat) (Y7:(List Int)) (Yi:Int) (hp0:Y7.length≤1073741824):∀ (k:Nat) (Y9:Int) (Y8:Int) (Ya:(List Int)) (Z2G:0≤Y8) (Z2H:Ya.length=Y7.length) (hk:((Y7.length:Int) - Y8).toNat < k),Lp prog 1 (sub (X0 f71) [1,0,1,0,0]) (Z30 ty Y7 Yi Y9 Y8 Ya) (Z2g ty Y7 Yi (Zq Y7 Yi k Y9 Y8 Ya)).1 (Z2g ty Y7 Yi (Zq Y7 Yi k Y9 Y8 Ya)).2:=by
 intro k
 induction k with
 | zero=>intro Y9 Y8 Ya Z2G Z2H hk;exact absurd hk (Nat.not_lt_zero _)
 | succ k ih =>
  intro Y9 Y8 Ya Z2G Z2H hk
  have p {a C} (s:Scr a C):=sZ (cI .i64) Ya<|s
  cases Yj:(decide (Y8 < (Ya.length:Int))) with
  | true =>
   have Yt:=odt Yj
   have YE:(0:Int)≤Y8:=by clear p;exact (by assumption)
   have YC:Y8 < (Ya.length:Int):=by clear p;exact (by assumption)
   have YI:Y8.toNat < Ya.length:=by clear p;exact (by omega)
   have YL:(-9223372036854775808:Int)≤(Y8 + 1):=by clear p;exact (by omega)
   have YO:(Y8 + 1)≤(9223372036854775807:Int):=by clear p;exact (by omega)
   have e:Zq Y7 Yi (k + 1) Y9 Y8 Ya=(Zq Y7 Yi k (IntKind.wrap .i64 (Y9 + 1)) (Y8 + 1) (Ya.set Y8.toNat Y9)):=by simp only [Zq,Yj,cond_true]
   rw [e]
   exact XZ (EpOk 1) Z5 [] (mR false [0,2,2,2,13]) [] (⟨.own 0 :: .i .i64 (IntKind.wrap .i64 (Y9 + 1)) :: .any :: .any :: .i .i64 0 :: .i .i64 (Y8 + 1) :: an 13 [],[.vec ty 1 ((Ya.map (cI .i64)).set Y8.toNat [.i .i64 Y9]) false]⟩) (p (sB Yj<|sX (cI .i64) Ya Y8 YE YC<|sC (X7D (c:=(cI .i64)) (l:=Ya) YI)<|sW .i64 (Y9 + 1)<|sI (Y8 + 1) YL YO<|sN)) (by kernel_rfl) (by simp [Z30,List.map_set,cI]) (ih (IntKind.wrap .i64 (Y9 + 1)) (Y8 + 1) (Ya.set Y8.toNat Y9) (show 0≤(Y8 + 1) from (by omega)) (show (Ya.set Y8.toNat Y9).length=Y7.length from (by simp_all<;>omega)) (by omega))
  | false =>
   have Yt:=odf Yj
   have e:Zq Y7 Yi (k + 1) Y9 Y8 Ya=(Y9,Ya):=by simp only [Zq,Yj,cond_false]
   rw [e]
   exact outR (e:=(.exit 0)) (EpOk 1) Z5 [] (mR false [1,1,2,1,14]) [] (p (sB Yj<|sN)) (by kernel_rfl) (by intro h;cases h)
theorem Z45 (Y7:(List Int)) (Yi:Int):∀ (k:Nat) (Y9:Int) (Y8:Int) (Ya:(List Int)) (hk:((Ya.length:Int) - Y8).toNat < k),(Zq Y7 Yi k Y9 Y8 Ya).2.length=Ya.length:=by
  intro k
  induction k with
  | zero=>intro Y9 Y8 Ya hk;exact absurd hk (Nat.not_lt_zero _)
  | succ k ih =>
    intro Y9 Y8 Ya hk
    cases Yj:(decide (Y8 < (Ya.length:Int))) with
    | true =>
      have e:Zq Y7 Yi (k + 1) Y9 Y8 Ya=(Zq Y7 Yi k (IntKind.wrap .i64 (Y9 + 1)) (Y8 + 1) (Ya.set Y8.toNat Y9)):=by simp only [Zq,Yj,cond_true]
      rw [e,ih (IntKind.wrap .i64 (Y9 + 1)) (Y8 + 1) (Ya.set Y8.toNat Y9) (by simp_all<;>omega)];simp
    | false =>
      have e:Zq Y7 Yi (k + 1) Y9 Y8 Ya=(Y9,Ya):=by simp only [Zq,Yj,cond_false]
      first | (rw [e];done) | (rw [e];rfl)
def Z14 (Y7:(List Int)) (Yi:Int):Int × (List Int):=(Zq Y7 Yi (((Y7.length:Int) - 0).toNat + 1) Yi 0 Y7)
@[simp] theorem Z5D (Y7:(List Int)) (Yi:Int):(Z14 Y7 Yi).2.length=(Y7:(List Int)).length:=Z45 Y7 Yi (((Y7.length:Int) - 0).toNat + 1) Yi 0 Y7 (by exact Nat.lt_succ_self _)
def Ze (Y7:(List Int)) (Yi:Int):Int × (List Int):=((Z14 Y7 Yi).1,(Z14 Y7 Yi).2)
@[simp] theorem Z2y (Y7:(List Int)) (Yi:Int):(Ze Y7 Yi).2.length=Y7.length:=by
  first | (simp [Ze];done)
theorem Z4I (ty:Nat) (Y7:(List Int)) (Yi:Int) (hp0:Y7.length≤1073741824)  : X8 prog 71 [.vec ty 1 (Y7.map (cI .i64)) false] [.own 0, .i .i64 Yi] (.i .i64 ((Ze Y7 Yi).1)) [.vec ty 1 (((Ze Y7 Yi).2).map (cI .i64)) false]:=by
 refine X3l (EpOk 1) Z5 (c:=X0 f71) [.vec ty 1 (Y7.map (cI .i64)) false] [] (.i .i64 ((Z14 Y7 Yi).1)) [.vec ty 1 (((Z14 Y7 Yi).2).map (cI .i64)) false] func71 (sL (mR false [0,2,2,2,13]) 1 (X7 (Z2g ty Y7 Yi) (x:=(Z14 Y7 Yi)) (Z4r ty Y7 Yi hp0 (((Y7.length:Int) - 0).toNat + 1) Yi 0 Y7 (show 0≤0 from (by omega)) (show Y7.length=Y7.length from (by simp)) (Nat.lt_succ_self _)) rfl)<|sK [] sN) rfl (by kernel_rfl) (by kernel_rfl) ?_ ?_
 · rfl
 · simp [Ze]
def Z31 (_:Int) (c:Int):Int × Int:=((IntKind.wrap .i64 (c + 1)),c)
theorem Z4J (a:List Int) (c:Int):Ze a c=mkL Z31 a c:=by
  unfold Ze Z14
  rw [X3a (f:=Z31) (lo:=Zq a c) (fun k c i r=>rfl) _ _ _ _ (Int.le_refl 0) (Nat.lt_succ_self _)]
  simp
theorem Z4s (a:List Int) (c:Int) (g0:a.length≤1073741824) (h0:0≤c) (h1:c≤4611686018427387904):c≤(Ze a c).1∧(Ze a c).1≤c + 1073741824:=by
  rw [Z4J]
  have q:=X75 (f:=Z31) (W:=1) a c (fun x _ c k0 k1=>by simp only [Z31];rw [X1b (n:=c + 1) (by omega) (by omega)];omega) h0 (by omega)
  omega
def Zo (Y7:(List (List Int))) (Yi:Int):Nat→Int→Int→(List (List Int))→Int × (List (List Int))
  | 0,_,_,_=>default
  | k + 1,Y9,Y8,Ya=>(cond (decide (Y8 < (Ya.length:Int)))
    (Zo Y7 Yi k ((Ze (Ya.getD Y8.toNat default) Y9).1) (Y8 + 1) (Ya.set Y8.toNat ((Ze (Ya.getD Y8.toNat default) Y9).2)))
    (Y9,Ya))
def Z2d (Y7:(List (List Int))) (Yi:Int) (r:Int × (List (List Int))):Ex × St:=((.exit 0),⟨.any :: .i .i64 r.1 :: .any :: .any :: .i .i64 0 :: an 14 [],[.nest 79 (r.2.map fun l=>l.map (cI .i64)) false]⟩)
def Z2Q (Y7:(List (List Int))) (Yi:Int) (Y9:Int) (Y8:Int) (Ya:(List (List Int))):St:=⟨.own 0 :: .i .i64 Y9 :: .any :: .any :: .i .i64 0 :: .i .i64 Y8 :: an 13 [],[.nest 79 (Ya.map fun l=>l.map (cI .i64)) false]⟩
theorem Z4g (Y7:(List (List Int))) (Yi:Int) (hp0:Y7.length≤1073741824) (hp1:∀ t∈Y7,t.length≤1073741824):∀ (k:Nat) (Y9:Int) (Y8:Int) (Ya:(List (List Int))) (Z2z:0≤Y8) (Z2A:Ya.length=Y7.length) (Z1o:∀ t∈Ya,t.length≤1073741824) (hk:((Y7.length:Int) - Y8).toNat < k),Lp prog 1 (sub (X0 f24) [1,0,1,0,0]) (Z2Q Y7 Yi Y9 Y8 Ya) (Z2d Y7 Yi (Zo Y7 Yi k Y9 Y8 Ya)).1 (Z2d Y7 Yi (Zo Y7 Yi k Y9 Y8 Ya)).2:=by
 intro k
 induction k with
 | zero=>intro Y9 Y8 Ya Z2z Z2A Z1o hk;exact absurd hk (Nat.not_lt_zero _)
 | succ k ih =>
  intro Y9 Y8 Ya Z2z Z2A Z1o hk
  have p {a C} (s:Scr a C):=sM (X3k (l:=Ya) (f:=fun l=>l.map (cI .i64)))<|s
  cases Yj:(decide (Y8 < (Ya.length:Int))) with
  | true =>
   have Yt:=odt Yj
   have YE:(0:Int)≤Y8:=by clear p;exact (by assumption)
   have YC:Int.toNat Y8 < Ya.length:=by clear p;exact (by omega)
   have YI:Y8.toNat < Ya.length:=by clear p;exact (by assumption)
   have YL:(Ya.getD Y8.toNat default).length≤1073741824:=by clear p;exact (by exact X76 Z1o)
   have YO:(-9223372036854775808:Int)≤(Y8 + 1):=by clear p;exact (by omega)
   have YS:(Y8 + 1)≤(9223372036854775807:Int):=by clear p;exact (by omega)
   have e:Zo Y7 Yi (k + 1) Y9 Y8 Ya=(Zo Y7 Yi k ((Ze (Ya.getD Y8.toNat default) Y9).1) (Y8 + 1) (Ya.set Y8.toNat ((Ze (Ya.getD Y8.toNat default) Y9).2))):=by simp only [Zo,Yj,cond_true]
   rw [e]
   exact XZ (EpOk 1) Z5 [] (mR false [0,2,2,2,13]) [] (⟨.own 0 :: .i .i64 ((Ze (Ya.getD Y8.toNat default) Y9).1) :: .any :: .any :: .i .i64 0 :: .i .i64 (Y8 + 1) :: an 13 [],[.nest 79 ((Ya.map fun l=>l.map (cI .i64)).set Y8.toNat (((Ze (Ya.getD Y8.toNat default) Y9).2).map (cI .i64))) false]⟩) (p (sB Yj<|sC (X3d (c:=(cI .i64)) (l:=Ya) (i:=Y8) YE YC)<|sC (X3c (c:=(cI .i64)) (l:=Ya) YI)<|sS (X8.frameInn (R:=[.nest 79 (Ya.map fun l=>l.map (cI .i64)) false]) (q:=0) (j:=Y8.toNat) (args:=[.i .i64 Y9]) (fun ty=>Z4I ty (Ya.getD Y8.toNat default) Y9 YL) rfl rfl (by simp) rfl (X6E YI))<|sI (Y8 + 1) YO YS<|sN)) (by kernel_rfl) (by simp [Z2Q,List.map_set,cL,cI]) (ih ((Ze (Ya.getD Y8.toNat default) Y9).1) (Y8 + 1) (Ya.set Y8.toNat ((Ze (Ya.getD Y8.toNat default) Y9).2)) (show 0≤(Y8 + 1) from (by omega)) (show (Ya.set Y8.toNat ((Ze (Ya.getD Y8.toNat default) Y9).2)).length=Y7.length from (by simp;assumption)) (show ∀ t∈(Ya.set Y8.toNat ((Ze (Ya.getD Y8.toNat default) Y9).2)),t.length≤1073741824 from (by intro t ht;rcases List.mem_or_eq_of_mem_set ht with h | h;(exact Z1o t h);(rw [h];simp only [Z2y];exact X76 Z1o))) (by omega))
  | false =>
   have Yt:=odf Yj
   have e:Zo Y7 Yi (k + 1) Y9 Y8 Ya=(Y9,Ya):=by simp only [Zo,Yj,cond_false]
   rw [e]
   exact outR (e:=(.exit 0)) (EpOk 1) Z5 [] (mR false [1,1,2,1,14]) [] (p (sB Yj<|sN)) (by kernel_rfl) (by intro h;cases h)
theorem Z40 (Y7:(List (List Int))) (Yi:Int):∀ (k:Nat) (Y9:Int) (Y8:Int) (Ya:(List (List Int))) (hk:((Ya.length:Int) - Y8).toNat < k),(Zo Y7 Yi k Y9 Y8 Ya).2.length=Ya.length:=by
  intro k
  induction k with
  | zero=>intro Y9 Y8 Ya hk;exact absurd hk (Nat.not_lt_zero _)
  | succ k ih =>
    intro Y9 Y8 Ya hk
    cases Yj:(decide (Y8 < (Ya.length:Int))) with
    | true =>
      have e:Zo Y7 Yi (k + 1) Y9 Y8 Ya=(Zo Y7 Yi k ((Ze (Ya.getD Y8.toNat default) Y9).1) (Y8 + 1) (Ya.set Y8.toNat ((Ze (Ya.getD Y8.toNat default) Y9).2))):=by simp only [Zo,Yj,cond_true]
      rw [e,ih ((Ze (Ya.getD Y8.toNat default) Y9).1) (Y8 + 1) (Ya.set Y8.toNat ((Ze (Ya.getD Y8.toNat default) Y9).2)) (by simp_all<;>omega)];simp
    | false =>
      have e:Zo Y7 Yi (k + 1) Y9 Y8 Ya=(Y9,Ya):=by simp only [Zo,Yj,cond_false]
      first | (rw [e];done) | (rw [e];rfl)
def Z13 (Y7:(List (List Int))) (Yi:Int):Int × (List (List Int)):=(Zo Y7 Yi (((Y7.length:Int) - 0).toNat + 1) Yi 0 Y7)
@[simp] theorem Z5w (Y7:(List (List Int))) (Yi:Int):(Z13 Y7 Yi).2.length=(Y7:(List (List Int))).length:=Z40 Y7 Yi (((Y7.length:Int) - 0).toNat + 1) Yi 0 Y7 (by exact Nat.lt_succ_self _)
def Zx (Y7:(List (List Int))) (Yi:Int):Int × (List (List Int)):=((Z13 Y7 Yi).1,(Z13 Y7 Yi).2)
@[simp] theorem Z5Y (Y7:(List (List Int))) (Yi:Int):(Zx Y7 Yi).2.length=Y7.length:=by
  first | (simp [Zx];done)
theorem Z4D (Y7:(List (List Int))) (Yi:Int) (hp0:Y7.length≤1073741824) (hp1:∀ t∈Y7,t.length≤1073741824)  : X8 prog 24 [.nest 79 (Y7.map fun l=>l.map (cI .i64)) false] [.own 0, .i .i64 Yi] (.i .i64 ((Zx Y7 Yi).1)) [.nest 79 (((Zx Y7 Yi).2).map fun l=>l.map (cI .i64)) false]:=by
 refine X3l (EpOk 1) Z5 (c:=X0 f24) [.nest 79 (Y7.map fun l=>l.map (cI .i64)) false] [] (.i .i64 ((Z13 Y7 Yi).1)) [.nest 79 (((Z13 Y7 Yi).2).map fun l=>l.map (cI .i64)) false] func24 (sL (mR false [0,2,2,2,13]) 1 (X7 (Z2d Y7 Yi) (x:=(Z13 Y7 Yi)) (Z4g Y7 Yi hp0 hp1 (((Y7.length:Int) - 0).toNat + 1) Yi 0 Y7 (show 0≤0 from (by simp)) (show Y7.length=Y7.length from (by simp)) (show ∀ t∈Y7,t.length≤1073741824 from (by assumption)) (Nat.lt_succ_self _)) rfl)<|sK [] sN) rfl (by kernel_rfl) (by kernel_rfl) ?_ ?_
 · rfl
 · simp [Zx]
theorem Z4t (a:List (List Int)) (c:Int):Zx a c=mkL Ze a c:=by
  unfold Zx Z13
  rw [X3a (f:=Ze) (lo:=Zo a c) (fun k c i r=>rfl) _ _ _ _ (Int.le_refl 0) (Nat.lt_succ_self _)]
  simp
theorem Z5E (a:List (List Int)) (c:Int) (N:Nat) (h:∀ t∈a,t.length≤N):∀ t∈(Zx a c).2,t.length≤N:=by
  rw [Z4t]
  exact X69 (p:=fun t:List Int=>t.length≤N) (fun x c hx=>by rw [Z2y];exact hx) a c h
theorem Z41 (a:List (List Int)) (c:Int) (g0:a.length≤1073741824) (g1:∀ t∈a,t.length≤1073741824) (h0:0≤c) (h1:c≤3458764513820540928):c≤(Zx a c).1∧(Zx a c).1≤c + 1152921504606846976:=by
  rw [Z4t]
  have hm:(a.length:Int) * 1073741824≤1152921504606846976:=by omega
  have q:=X3z (f:=Ze) (W:=1073741824) (M:=4611686018427387904) a c (fun x hx c k0 k1=>by have q:=Z4s x c (g1 x hx) k0 (by omega);omega) h0 (by omega)
  omega
def Za (Y7:Gm) (Yi:Int):Int × (List Gv) × (List (List Int)):=((Zx Y7.Tr ((Zl Y7.Pl Yi).1)).1,(Zl Y7.Pl Yi).2,(Zx Y7.Tr ((Zl Y7.Pl Yi).1)).2)
@[simp] theorem Z5Z (Y7:Gm) (Yi:Int):(Za Y7 Yi).2.1.length=Y7.Pl.length:=by
  first | (simp [Za];done)
@[simp] theorem Z60 (Y7:Gm) (Yi:Int):(Za Y7 Yi).2.2.length=Y7.Tr.length:=by
  first | (simp [Za];done)
theorem Z4E (Y7:Gm) (Yi:Int) (hp0:Y7.Pl.length≤1073741824) (hp1:Y7.Tr.length≤1073741824) (hp2:∀ t∈Y7.Tr,t.length≤1073741824)  : X8 prog 17 [.vec 62 3 (Y7.Pl.map Gv.c) false, .nest 79 (Y7.Tr.map fun l=>l.map (cI .i64)) false] [.agg [.own 0, .own 1], .i .i64 Yi] (.i .i64 ((Za Y7 Yi).1)) [.vec 62 3 (((Za Y7 Yi).2.1).map Gv.c) false, .nest 79 (((Za Y7 Yi).2.2).map fun l=>l.map (cI .i64)) false]:=by
 refine X3l (EpOk 2) Z5 (c:=X0 f17) [.vec 62 3 (Y7.Pl.map Gv.c) false, .nest 79 (Y7.Tr.map fun l=>l.map (cI .i64)) false] [] (.i .i64 ((Zx Y7.Tr ((Zl Y7.Pl Yi).1)).1)) [.vec 62 3 (((Zl Y7.Pl Yi).2).map Gv.c) false, .nest 79 (((Zx Y7.Tr ((Zl Y7.Pl Yi).1)).2).map fun l=>l.map (cI .i64)) false] func17 (sS (X8.frame (Z4C Y7.Pl Yi hp0) [0] (R:=[.vec 62 3 (Y7.Pl.map Gv.c) false, .nest 79 (Y7.Tr.map fun l=>l.map (cI .i64)) false, .box 35 [.own 0, .own 1]]) (args':=[.own 0, .i .i64 Yi]) rfl rfl rfl rfl rfl rfl)<|sS (X8.frame (Z4D Y7.Tr ((Zl Y7.Pl Yi).1) hp1 hp2) [1] (R:=[.vec 62 3 (((Zl Y7.Pl Yi).2).map Gv.c) false, .nest 79 (Y7.Tr.map fun l=>l.map (cI .i64)) false, .box 35 [.own 0, .own 1]]) (args':=[.own 1, .i .i64 ((Zl Y7.Pl Yi).1)]) rfl rfl rfl rfl rfl rfl)<|sK [] sN) rfl (by kernel_rfl) (by kernel_rfl) ?_ ?_
 · rfl
 · simp [Za]
theorem Z5l (a:Gm) (c:Int) (g0:a.Pl.length≤1073741824) (g1:a.Tr.length≤1073741824) (g2:∀ t∈a.Tr,t.length≤1073741824) (h0:0≤c) (h1:c≤2305843009213693952):c≤(Za a c).1∧(Za a c).1≤c + 1152921507828072448:=by
  unfold Za
  have p0:=Z4b a.Pl c g0 (by omega) (by omega)
  have p1:=Z41 a.Tr ((Zl a.Pl c).1) g1 g2 (by omega) (by omega)
  simp only
  omega
theorem Z5F (a:Gm) (c:Int) (N:Nat) (h:∀ t∈a.Tr,t.length≤N):∀ t∈(Za a c).2.2,t.length≤N:=by
  unfold Za
  exact Z5E _ _ N h
def Zv (Y7:(List Gv)) (Yi:Int):Nat→Int→Int→(Unit) ⊕ (Int)
  | 0,_,_ => .inl default
  | k + 1,Y9,Y8=>(cond (decide (Y8 < (Y7.length:Int)))
    (cond (fcmp .neq .f32 ((Y7.getD Y8.toNat default).X) (X2 .f32 Y9))
      (.inl ())
      (cond (fcmp .neq .f32 ((Y7.getD Y8.toNat default).Y) (X2 .f32 (IntKind.wrap .i64 (Y9 + 1))))
        (.inl ())
        (cond (fcmp .neq .f32 ((Y7.getD Y8.toNat default).Z) (X2 .f32 (IntKind.wrap .i64 ((IntKind.wrap .i64 (Y9 + 1)) + 1))))
          (.inl ())
          (Zv Y7 Yi k (IntKind.wrap .i64 ((IntKind.wrap .i64 ((IntKind.wrap .i64 (Y9 + 1)) + 1)) + 1)) (Y8 + 1)))))
    (.inr Y9))
def Z1Y (Y7:(List Gv)) (Yi:Int):(Unit) ⊕ (Int)→Ex × St
  | .inl r=>(.ret,⟨an 4 (.i .i64 (-1) :: an 38 []),[]⟩)
  | .inr r=>((.exit 0),⟨.any :: .i .i64 r :: an 41 [],[]⟩)
def Z4K (Y7:(List Gv)) (Yi:Int) (Y9:Int) (Y8:Int):St:=⟨.sl (Y7.map Gv.c) :: .i .i64 Y9 :: .any :: .any :: .any :: .i .i64 Y8 :: an 37 [],[]⟩
theorem Z3p (Y7:(List Gv)) (Yi:Int) (hp0:Y7.length≤1073741824):∀ (k:Nat) (Y9:Int) (Y8:Int) (Z33:0≤Y8) (hk:((Y7.length:Int) - Y8).toNat < k),Lp prog 0 (sub (X0 f62) [1,0,1,0,0]) (Z4K Y7 Yi Y9 Y8) (Z1Y Y7 Yi (Zv Y7 Yi k Y9 Y8)).1 (Z1Y Y7 Yi (Zv Y7 Yi k Y9 Y8)).2:=by
 intro k
 induction k with
 | zero=>intro Y9 Y8 Z33 hk;exact absurd hk (Nat.not_lt_zero _)
 | succ k ih =>
  intro Y9 Y8 Z33 hk
  have p {a C} (s:Scr a C):=sZ Gv.c Y7<|s
  cases Yj:(decide (Y8 < (Y7.length:Int))) with
  | true =>
   have Yt:=odt Yj
   have YE:(0:Int)≤Y8:=by clear p;exact (by assumption)
   have YC:Y8 < (Y7.length:Int):=by clear p;exact (by assumption)
   have q {a C} (s:Scr a C):=p (sB Yj<|sG Gv.c Y7 Y8 YE YC<|s)
   clear p
   cases Yq:(fcmp .neq .f32 ((Y7.getD Y8.toNat default).X) (X2 .f32 Y9)) with
   | true =>
    have e:Zv Y7 Yi (k + 1) Y9 Y8=(.inl ()):=by simp only [Zv,Yj,Yq,cond_true]
    rw [e]
    exact outR (e := .ret) E0Ok Z5 [] (mR false [4,1,38]) [] (q (sB Yq<|sN)) (by kernel_rfl) (by intro h;cases h)
   | false =>
    have p {a C} (s:Scr a C):=q (sB Yq<|sW .i64 (Y9 + 1)<|sG Gv.c Y7 Y8 YE YC<|s)
    clear q
    cases YK:(fcmp .neq .f32 ((Y7.getD Y8.toNat default).Y) (X2 .f32 (IntKind.wrap .i64 (Y9 + 1)))) with
    | true =>
     have e:Zv Y7 Yi (k + 1) Y9 Y8=(.inl ()):=by simp only [Zv,Yj,Yq,YK,cond_true,cond_false]
     rw [e]
     exact outR (e := .ret) E0Ok Z5 [] (mR false [4,1,38]) [] (p (sB YK<|sN)) (by kernel_rfl) (by intro h;cases h)
    | false =>
     have q {a C} (s:Scr a C):=p (sB YK<|sW .i64 ((IntKind.wrap .i64 (Y9 + 1)) + 1)<|sG Gv.c Y7 Y8 YE YC<|s)
     clear p
     cases YR:(fcmp .neq .f32 ((Y7.getD Y8.toNat default).Z) (X2 .f32 (IntKind.wrap .i64 ((IntKind.wrap .i64 (Y9 + 1)) + 1)))) with
     | true =>
      have e:Zv Y7 Yi (k + 1) Y9 Y8=(.inl ()):=by simp only [Zv,Yj,Yq,YK,YR,cond_true,cond_false]
      rw [e]
      exact outR (e := .ret) E0Ok Z5 [] (mR false [4,1,38]) [] (q (sB YR<|sN)) (by kernel_rfl) (by intro h;cases h)
     | false =>
      have YI:(-9223372036854775808:Int)≤(Y8 + 1):=by clear q;exact (by omega)
      have YL:(Y8 + 1)≤(9223372036854775807:Int):=by clear q;exact (by omega)
      have e:Zv Y7 Yi (k + 1) Y9 Y8=(Zv Y7 Yi k (IntKind.wrap .i64 ((IntKind.wrap .i64 ((IntKind.wrap .i64 (Y9 + 1)) + 1)) + 1)) (Y8 + 1)):=by simp only [Zv,Yj,Yq,YK,YR,cond_true,cond_false]
      rw [e]
      exact XM E0Ok Z5 [] (mR false [0,2,3,1,37]) [] (ih (IntKind.wrap .i64 ((IntKind.wrap .i64 ((IntKind.wrap .i64 (Y9 + 1)) + 1)) + 1)) (Y8 + 1) (show 0≤(Y8 + 1) from (by omega)) (by omega)) (q (sB YR<|sW .i64 ((IntKind.wrap .i64 ((IntKind.wrap .i64 (Y9 + 1)) + 1)) + 1)<|sI (Y8 + 1) YI YL<|sN)) (by kernel_rfl)
  | false =>
   have Yt:=odf Yj
   have e:Zv Y7 Yi (k + 1) Y9 Y8=(.inr Y9):=by simp only [Zv,Yj,cond_false]
   rw [e]
   exact outR (e:=(.exit 0)) E0Ok Z5 [] (mR false [1,1,41]) [] (p (sB Yj<|sN)) (by kernel_rfl) (by intro h;cases h)
def Z1C (Y7:(List Gv)) (Yi:Int):(Unit) ⊕ (Int):=(Zv Y7 Yi (((Y7.length:Int) - 0).toNat + 1) Yi 0)
def ZQ (Y7:(List Gv)) (Yi:Int):Int:=(match (Z1C Y7 Yi) with
  | .inl r1=>(-1)
  | .inr r1=>r1)
theorem Z5m (Y7:(List Gv)) (Yi:Int) (hp0:Y7.length≤1073741824)  : Fn prog 62 [.sl (Y7.map Gv.c), .i .i64 Yi] (.i .i64 (ZQ Y7 Yi)) []:=by
 cases h0:(Z1C Y7 Yi) with
 | inl r1 =>
  refine fnS E0Ok Z5 (c:=X0 f62) [] (.i .i64 (-1)) [] func62 (sL (mR false [0,2,3,1,37]) 0 (X7 (Z1Y Y7 Yi) (x:=(Z1C Y7 Yi)) (Z3p Y7 Yi hp0 (((Y7.length:Int) - 0).toNat + 1) Yi 0 (show 0≤0 from (by omega)) (Nat.lt_succ_self _)) h0)<|sK [] sN) rfl (by kernel_rfl) (by kernel_rfl) rfl ?_ ?_
  · simp only [ZQ,h0]
  · rfl
 | inr r1 =>
  refine fnS E0Ok Z5 (c:=X0 f62) [] (.i .i64 r1) [] func62 (sL (mR false [0,2,3,1,37]) 0 (X7 (Z1Y Y7 Yi) (x:=(Z1C Y7 Yi)) (Z3p Y7 Yi hp0 (((Y7.length:Int) - 0).toNat + 1) Yi 0 (show 0≤0 from (by omega)) (Nat.lt_succ_self _)) h0)<|sK [] sN) rfl (by kernel_rfl) (by kernel_rfl) rfl ?_ ?_
  · simp only [ZQ,h0]
  · rfl
def Z42 (x:Gv) (c:Int):Bool:=(!(fcmp .neq .f32 x.X (X2 .f32 c))) && (!(fcmp .neq .f32 x.Y (X2 .f32 (IntKind.wrap .i64 (c + 1))))) && (!(fcmp .neq .f32 x.Z (X2 .f32 (IntKind.wrap .i64 ((IntKind.wrap .i64 (c + 1)) + 1)))))
def Z4z (_:Gv) (c:Int):Int:=(IntKind.wrap .i64 ((IntKind.wrap .i64 ((IntKind.wrap .i64 (c + 1)) + 1)) + 1))
theorem Z6p (a:List Gv) (c:Int):ZQ a c=match hdL Z42 Z4z a c with
    | some c'=>c'
    | none => -1:=by
  unfold ZQ Z1C
  rw [X3b (p:=Z42) (q:=Z4z) (a:=a) (x:=()) (lo:=Zv a c) (fun k c i=>by
    rw [Zv]
    unfold Z42 Z4z
    generalize a.getD i.toNat default=x
    cases decide (i < (a.length:Int))<;>cases fcmp .neq .f32 x.X (X2 .f32 c)<;>cases fcmp .neq .f32 x.Y (X2 .f32 (IntKind.wrap .i64 (c + 1)))<;>cases fcmp .neq .f32 x.Z (X2 .f32 (IntKind.wrap .i64 ((IntKind.wrap .i64 (c + 1)) + 1)))<;>rfl) _ _ _ (Int.le_refl 0) (Nat.lt_succ_self _)]
  simp only [Int.toNat_zero,List.drop_zero]
  cases hdL Z42 Z4z a c<;>rfl
def ZL (Y7:(List Int)) (Yi:Int):Nat→Int→Int→(Unit) ⊕ (Int)
  | 0,_,_ => .inl default
  | k + 1,Y9,Y8=>(cond (decide (Y8 < (Y7.length:Int)))
    (cond ((Y7.getD Y8.toNat default) != Y9)
      (.inl ())
      (ZL Y7 Yi k (IntKind.wrap .i64 (Y9 + 1)) (Y8 + 1)))
    (.inr Y9))
def Z2e (Y7:(List Int)) (Yi:Int):(Unit) ⊕ (Int)→Ex × St
  | .inl r=>(.ret,⟨an 4 (.i .i64 (-1) :: an 16 []),[]⟩)
  | .inr r=>((.exit 0),⟨.any :: .i .i64 r :: an 19 [],[]⟩)
def Z4X (Y7:(List Int)) (Yi:Int) (Y9:Int) (Y8:Int):St:=⟨.sl (Y7.map (cI .i64)) :: .i .i64 Y9 :: .any :: .any :: .any :: .i .i64 Y8 :: an 15 [],[]⟩
theorem Z3D (Y7:(List Int)) (Yi:Int) (hp0:Y7.length≤1073741824):∀ (k:Nat) (Y9:Int) (Y8:Int) (Z3c:0≤Y8) (hk:((Y7.length:Int) - Y8).toNat < k),Lp prog 0 (sub (X0 f72) [1,0,1,0,0]) (Z4X Y7 Yi Y9 Y8) (Z2e Y7 Yi (ZL Y7 Yi k Y9 Y8)).1 (Z2e Y7 Yi (ZL Y7 Yi k Y9 Y8)).2:=by
 intro k
 induction k with
 | zero=>intro Y9 Y8 Z3c hk;exact absurd hk (Nat.not_lt_zero _)
 | succ k ih =>
  intro Y9 Y8 Z3c hk
  have p {a C} (s:Scr a C):=sZ (cI .i64) Y7<|s
  cases Yj:(decide (Y8 < (Y7.length:Int))) with
  | true =>
   have Yt:=odt Yj
   have YE:(0:Int)≤Y8:=by clear p;exact (by assumption)
   have YC:Y8 < (Y7.length:Int):=by clear p;exact (by assumption)
   have q {a C} (s:Scr a C):=p (sB Yj<|sG (cI .i64) Y7 Y8 YE YC<|s)
   clear p
   cases Yq:((Y7.getD Y8.toNat default) != Y9) with
   | true =>
    have YV:=bne_iff_ne.1 Yq
    have e:ZL Y7 Yi (k + 1) Y9 Y8=(.inl ()):=by simp only [ZL,Yj,Yq,cond_true]
    rw [e]
    exact outR (e := .ret) E0Ok Z5 [] (mR false [4,1,16]) [] (q (sB Yq<|sN)) (by kernel_rfl) (by intro h;cases h)
   | false =>
    have YV:=bne_eq_false_iff_eq.1 Yq
    have YI:(-9223372036854775808:Int)≤(Y8 + 1):=by clear q;exact (by omega)
    have YL:(Y8 + 1)≤(9223372036854775807:Int):=by clear q;exact (by omega)
    have e:ZL Y7 Yi (k + 1) Y9 Y8=(ZL Y7 Yi k (IntKind.wrap .i64 (Y9 + 1)) (Y8 + 1)):=by simp only [ZL,Yj,Yq,cond_true,cond_false]
    rw [e]
    exact XM E0Ok Z5 [] (mR false [0,2,3,1,15]) [] (ih (IntKind.wrap .i64 (Y9 + 1)) (Y8 + 1) (show 0≤(Y8 + 1) from (by omega)) (by omega)) (q (sB Yq<|sW .i64 (Y9 + 1)<|sI (Y8 + 1) YI YL<|sN)) (by kernel_rfl)
  | false =>
   have Yt:=odf Yj
   have e:ZL Y7 Yi (k + 1) Y9 Y8=(.inr Y9):=by simp only [ZL,Yj,cond_false]
   rw [e]
   exact outR (e:=(.exit 0)) E0Ok Z5 [] (mR false [1,1,19]) [] (p (sB Yj<|sN)) (by kernel_rfl) (by intro h;cases h)
def Z1G (Y7:(List Int)) (Yi:Int):(Unit) ⊕ (Int):=(ZL Y7 Yi (((Y7.length:Int) - 0).toNat + 1) Yi 0)
def ZE (Y7:(List Int)) (Yi:Int):Int:=(match (Z1G Y7 Yi) with
  | .inl r1=>(-1)
  | .inr r1=>r1)
theorem Z5t (Y7:(List Int)) (Yi:Int) (hp0:Y7.length≤1073741824)  : Fn prog 72 [.sl (Y7.map (cI .i64)), .i .i64 Yi] (.i .i64 (ZE Y7 Yi)) []:=by
 cases h0:(Z1G Y7 Yi) with
 | inl r1 =>
  refine fnS E0Ok Z5 (c:=X0 f72) [] (.i .i64 (-1)) [] func72 (sL (mR false [0,2,3,1,15]) 0 (X7 (Z2e Y7 Yi) (x:=(Z1G Y7 Yi)) (Z3D Y7 Yi hp0 (((Y7.length:Int) - 0).toNat + 1) Yi 0 (show 0≤0 from (by omega)) (Nat.lt_succ_self _)) h0)<|sK [] sN) rfl (by kernel_rfl) (by kernel_rfl) rfl ?_ ?_
  · simp only [ZE,h0]
  · rfl
 | inr r1 =>
  refine fnS E0Ok Z5 (c:=X0 f72) [] (.i .i64 r1) [] func72 (sL (mR false [0,2,3,1,15]) 0 (X7 (Z2e Y7 Yi) (x:=(Z1G Y7 Yi)) (Z3D Y7 Yi hp0 (((Y7.length:Int) - 0).toNat + 1) Yi 0 (show 0≤0 from (by omega)) (Nat.lt_succ_self _)) h0)<|sK [] sN) rfl (by kernel_rfl) (by kernel_rfl) rfl ?_ ?_
  · simp only [ZE,h0]
  · rfl
def Z4u (x:Int) (c:Int):Bool:=(!(x != c))
def Z4Y (_:Int) (c:Int):Int:=(IntKind.wrap .i64 (c + 1))
theorem Z6E (a:List Int) (c:Int):ZE a c=match hdL Z4u Z4Y a c with
    | some c'=>c'
    | none => -1:=by
  unfold ZE Z1G
  rw [X3b (p:=Z4u) (q:=Z4Y) (a:=a) (x:=()) (lo:=ZL a c) (fun k c i=>by
    rw [ZL]
    unfold Z4u Z4Y
    generalize a.getD i.toNat default=x
    cases decide (i < (a.length:Int))<;>cases (x != c)<;>rfl) _ _ _ (Int.le_refl 0) (Nat.lt_succ_self _)]
  simp only [Int.toNat_zero,List.drop_zero]
  cases hdL Z4u Z4Y a c<;>rfl
def ZG (Y7:(List (List Int))) (Yi:Int):Nat→Int→Int→(Unit) ⊕ (Int)
  | 0,_,_ => .inl default
  | k + 1,Y9,Y8=>(cond (decide (Y8 < (Y7.length:Int)))
    (cond (decide ((ZE (Y7.getD Y8.toNat default) Y9) < 0))
      (.inl ())
      (ZG Y7 Yi k (ZE (Y7.getD Y8.toNat default) Y9) (Y8 + 1)))
    (.inr Y9))
def Z1Z (Y7:(List (List Int))) (Yi:Int):(Unit) ⊕ (Int)→Ex × St
  | .inl r=>(.ret,⟨an 4 (.i .i64 (-1) :: an 16 []),[]⟩)
  | .inr r=>((.exit 0),⟨.any :: .i .i64 r :: an 19 [],[]⟩)
def Z4L (Y7:(List (List Int))) (Yi:Int) (Y9:Int) (Y8:Int):St:=⟨.sl (Y7.map (cL (cI .i64))) :: .i .i64 Y9 :: .any :: .any :: .any :: .i .i64 Y8 :: an 15 [],[]⟩
theorem Z3q (Y7:(List (List Int))) (Yi:Int) (hp0:Y7.length≤1073741824) (hp1:∀ t∈Y7,t.length≤1073741824):∀ (k:Nat) (Y9:Int) (Y8:Int) (Z34:0≤Y8) (hk:((Y7.length:Int) - Y8).toNat < k),Lp prog 0 (sub (X0 f25) [1,0,1,0,0]) (Z4L Y7 Yi Y9 Y8) (Z1Z Y7 Yi (ZG Y7 Yi k Y9 Y8)).1 (Z1Z Y7 Yi (ZG Y7 Yi k Y9 Y8)).2:=by
 intro k
 induction k with
 | zero=>intro Y9 Y8 Z34 hk;exact absurd hk (Nat.not_lt_zero _)
 | succ k ih =>
  intro Y9 Y8 Z34 hk
  have p {a C} (s:Scr a C):=sZ (cL (cI .i64)) Y7<|s
  cases Yj:(decide (Y8 < (Y7.length:Int))) with
  | true =>
   have Yt:=odt Yj
   have YE:(0:Int)≤Y8:=by clear p;exact (by assumption)
   have YC:Y8 < (Y7.length:Int):=by clear p;exact (by assumption)
   have YI:(Y7.getD Y8.toNat default).length≤1073741824:=by clear p;exact (by simp_all<;>omega)
   have q {a C} (s:Scr a C):=p (sB Yj<|sG (cL (cI .i64)) Y7 Y8 YE YC<|sF (Z5t (Y7.getD Y8.toNat default) Y9 YI)<|s)
   clear p
   cases Yq:(decide ((ZE (Y7.getD Y8.toNat default) Y9) < 0)) with
   | true =>
    have YV:=odt Yq
    have e:ZG Y7 Yi (k + 1) Y9 Y8=(.inl ()):=by simp only [ZG,Yj,Yq,cond_true]
    rw [e]
    exact outR (e := .ret) E0Ok Z5 [] (mR false [4,1,16]) [] (q (sB Yq<|sN)) (by kernel_rfl) (by intro h;cases h)
   | false =>
    have YV:=odf Yq
    have YL:(-9223372036854775808:Int)≤(Y8 + 1):=by clear q;exact (by omega)
    have YO:(Y8 + 1)≤(9223372036854775807:Int):=by clear q;exact (by omega)
    have e:ZG Y7 Yi (k + 1) Y9 Y8=(ZG Y7 Yi k (ZE (Y7.getD Y8.toNat default) Y9) (Y8 + 1)):=by simp only [ZG,Yj,Yq,cond_true,cond_false]
    rw [e]
    exact XM E0Ok Z5 [] (mR false [0,2,3,1,15]) [] (ih (ZE (Y7.getD Y8.toNat default) Y9) (Y8 + 1) (show 0≤(Y8 + 1) from (by omega)) (by omega)) (q (sB Yq<|sI (Y8 + 1) YL YO<|sN)) (by kernel_rfl)
  | false =>
   have Yt:=odf Yj
   have e:ZG Y7 Yi (k + 1) Y9 Y8=(.inr Y9):=by simp only [ZG,Yj,cond_false]
   rw [e]
   exact outR (e:=(.exit 0)) E0Ok Z5 [] (mR false [1,1,19]) [] (p (sB Yj<|sN)) (by kernel_rfl) (by intro h;cases h)
def Z1D (Y7:(List (List Int))) (Yi:Int):(Unit) ⊕ (Int):=(ZG Y7 Yi (((Y7.length:Int) - 0).toNat + 1) Yi 0)
def Z19 (Y7:(List (List Int))) (Yi:Int):Int:=(match (Z1D Y7 Yi) with
  | .inl r1=>(-1)
  | .inr r1=>r1)
theorem Z5n (Y7:(List (List Int))) (Yi:Int) (hp0:Y7.length≤1073741824) (hp1:∀ t∈Y7,t.length≤1073741824)  : Fn prog 25 [.sl (Y7.map (cL (cI .i64))), .i .i64 Yi] (.i .i64 (Z19 Y7 Yi)) []:=by
 cases h0:(Z1D Y7 Yi) with
 | inl r1 =>
  refine fnS E0Ok Z5 (c:=X0 f25) [] (.i .i64 (-1)) [] func25 (sL (mR false [0,2,3,1,15]) 0 (X7 (Z1Z Y7 Yi) (x:=(Z1D Y7 Yi)) (Z3q Y7 Yi hp0 hp1 (((Y7.length:Int) - 0).toNat + 1) Yi 0 (show 0≤0 from (by omega)) (Nat.lt_succ_self _)) h0)<|sK [] sN) rfl (by kernel_rfl) (by kernel_rfl) rfl ?_ ?_
  · simp only [Z19,h0]
  · rfl
 | inr r1 =>
  refine fnS E0Ok Z5 (c:=X0 f25) [] (.i .i64 r1) [] func25 (sL (mR false [0,2,3,1,15]) 0 (X7 (Z1Z Y7 Yi) (x:=(Z1D Y7 Yi)) (Z3q Y7 Yi hp0 hp1 (((Y7.length:Int) - 0).toNat + 1) Yi 0 (show 0≤0 from (by omega)) (Nat.lt_succ_self _)) h0)<|sK [] sN) rfl (by kernel_rfl) (by kernel_rfl) rfl ?_ ?_
  · simp only [Z19,h0]
  · rfl
theorem Z6m (a:List (List Int)) (c:Int):Z19 a c=match hdL (fun x c => !(decide (ZE x c < 0))) ZE a c with
    | some c'=>c'
    | none => -1:=by
  unfold Z19 Z1D
  rw [X3b (p:=fun x c => !(decide (ZE x c < 0))) (q:=ZE) (a:=a) (x:=()) (lo:=ZG a c) (fun k c i=>by
    rw [ZG]
    cases decide (i < (a.length:Int))<;>cases decide (ZE (a.getD i.toNat default) c < 0)<;>rfl) _ _ _ (Int.le_refl 0) (Nat.lt_succ_self _)]
  simp only [Int.toNat_zero,List.drop_zero]
  cases hdL (fun x c => !(decide (ZE x c < 0))) ZE a c<;>rfl
def Z1N (Y7:Gm) (Yi:Int):Int:=(cond (decide ((ZQ Y7.Pl Yi) < 0))
  (-1)
  (cond (decide ((Z19 Y7.Tr (ZQ Y7.Pl Yi)) < 0))
    (-1)
    (Z19 Y7.Tr (ZQ Y7.Pl Yi))))
theorem Z4A (Y7:Gm) (Yi:Int) (hp0:Y7.Pl.length≤1073741824) (hp1:Y7.Tr.length≤1073741824) (hp2:∀ t∈Y7.Tr,t.length≤1073741824)  : Fn prog 18 [.agg [.sl (Y7.Pl.map Gv.c), .sl (Y7.Tr.map (cL (cI .i64)))], .i .i64 Yi] (.i .i64 (Z1N Y7 Yi)) []:=by
 have p {a C} (s:Scr a C):=sF (Z5m Y7.Pl Yi hp0)<|s
 cases h0:(decide ((ZQ Y7.Pl Yi) < 0)) with
 | true =>
  have gh0:=odt h0
  refine fnS E0Ok Z5 (c:=X0 f18) [] (.i .i64 (-1)) [] func18 (p (sB h0<|sK [] sN)) rfl (by kernel_rfl) (by kernel_rfl) rfl ?_ ?_
  · simp only [Z1N,h0,cond_true]
  · rfl
 | false =>
  have gh0:=odf h0
  have q {a C} (s:Scr a C):=p (sB h0<|sF (Z5n Y7.Tr (ZQ Y7.Pl Yi) hp1 hp2)<|s)
  clear p
  cases h1:(decide ((Z19 Y7.Tr (ZQ Y7.Pl Yi)) < 0)) with
  | true =>
   have gh1:=odt h1
   refine fnS E0Ok Z5 (c:=X0 f18) [] (.i .i64 (-1)) [] func18 (q (sB h1<|sK [] sN)) rfl (by kernel_rfl) (by kernel_rfl) rfl ?_ ?_
   · simp only [Z1N,h0,h1,cond_true,cond_false]
   · rfl
  | false =>
   have gh1:=odf h1
   refine fnS E0Ok Z5 (c:=X0 f18) [] (.i .i64 (Z19 Y7.Tr (ZQ Y7.Pl Yi))) [] func18 (q (sB h1<|sK [] sN)) rfl (by kernel_rfl) (by kernel_rfl) rfl ?_ ?_
   · simp only [Z1N,h0,h1,cond_false]
   · rfl
def Z1x (Yb:Int) (Yc:Nat):Int:=(Z1N (⟨(Za ((Z9 Yb Yc).1) 1).2.1,(Za ((Z9 Yb Yc).1) 1).2.2⟩:Gm) 1)
def Z1a (Yb:Int) (Yc:Nat):Bool:=(cond (Z1P ((Z9 Yb Yc).1) ((Zm Yb Yc).1))
  (cond ((Z9 Yb Yc).2 == (Zm Yb Yc).2)
    (cond (decide ((Z1x Yb Yc) < 0))
      false
      (cond ((Z1x Yb Yc) != (Za ((Z9 Yb Yc).1) 1).1)
        false
        true))
    false)
  false)
set_option maxHeartbeats 1000000 in
theorem Z4F (Yb:Int) (Yc:Nat)   : Fn prog 7 [.i .i64 Yb, .f .f32 Yc] (.b (Z1a Yb Yc)) []:=by
 have l1:=(Z5q Yb Yc)
 have l2:=(Z5r Yb Yc)
 have l3:=(Z49 Yb Yc)
 have l4:=(Z4a Yb Yc)
 have y0:((Z9 Yb Yc).1).Pl.length≤1073741824:=(by omega)
 have y1:((Z9 Yb Yc).1).Tr.length≤1073741824:=(by omega)
 have y2:∀ t∈((Z9 Yb Yc).1).Tr,t.length≤1073741824:=(by intro t ht;(have q:=Z2Z Yb Yc t ht;omega))
 have y3:((Zm Yb Yc).1).Pl.length≤1073741824:=(by omega)
 have y4:((Zm Yb Yc).1).Tr.length≤1073741824:=(by omega)
 have y5:∀ t∈((Zm Yb Yc).1).Tr,t.length≤1073741824:=(by intro t ht;(have q:=Z5h Yb Yc t ht;omega))
 have p {a C} (s:Scr a C):=sF (Z5K Yb Yc)<|sF (Z4x Yb Yc)<|sF (Fn.castA (args':=[.agg [.sl (((Z9 Yb Yc).1.Pl).map Gv.c), .sl ((((Z9 Yb Yc).1.Tr).map fun l=>l.map (cI .i64)).map fun l => [.sl l])], .agg [.sl (((Zm Yb Yc).1.Pl).map Gv.c), .sl ((((Zm Yb Yc).1.Tr).map fun l=>l.map (cI .i64)).map fun l => [.sl l])]]) (Z53 ((Z9 Yb Yc).1) ((Zm Yb Yc).1) y0 y1 y2 y3 y4 y5) (by simp [cL,Function.comp_def];done))<|s
 cases h0:(Z1P ((Z9 Yb Yc).1) ((Zm Yb Yc).1)) with
 | true =>
  have q {a C} (s:Scr a C):=p (sB' h0<|sB' h0<|sB' h0<|sB' h0<|s)
  clear p
  cases h1:((Z9 Yb Yc).2 == (Zm Yb Yc).2) with
  | true =>
   have gh1:=eq_of_beq h1
   have y6:(⟨(Za ((Z9 Yb Yc).1) 1).2.1,(Za ((Z9 Yb Yc).1) 1).2.2⟩:Gm).Pl.length≤1073741824:=by clear q;exact (by simp_all<;>omega)
   have y7:(⟨(Za ((Z9 Yb Yc).1) 1).2.1,(Za ((Z9 Yb Yc).1) 1).2.2⟩:Gm).Tr.length≤1073741824:=by clear q;exact (by simp_all<;>omega)
   have y8:∀ t∈(⟨(Za ((Z9 Yb Yc).1) 1).2.1,(Za ((Z9 Yb Yc).1) 1).2.2⟩:Gm).Tr,t.length≤1073741824:=by clear q;exact (by exact Z5F _ _ _ (by assumption))
   have p {a C} (s:Scr a C):=q (sB' h1<|sS (X8.frame (Z4E ((Z9 Yb Yc).1) 1 y0 y1 y2) [3,4] (R:=[.vec 62 3 (((Zm Yb Yc).1.Pl).map Gv.c) false, .nest 79 (((Zm Yb Yc).1.Tr).map fun l=>l.map (cI .i64)) false, .box 35 [.own 0, .own 1], .vec 62 3 (((Z9 Yb Yc).1.Pl).map Gv.c) false, .nest 79 (((Z9 Yb Yc).1.Tr).map fun l=>l.map (cI .i64)) false, .box 35 [.own 3, .own 4]]) (args':=[.agg [.own 3, .own 4], .i .i64 1]) rfl rfl rfl rfl rfl rfl)<|sF (Fn.castA (args':=[.agg [.sl (((Za ((Z9 Yb Yc).1) 1).2.1).map Gv.c), .sl ((((Za ((Z9 Yb Yc).1) 1).2.2).map fun l=>l.map (cI .i64)).map fun l => [.sl l])], .i .i64 1]) (Z4A (⟨(Za ((Z9 Yb Yc).1) 1).2.1,(Za ((Z9 Yb Yc).1) 1).2.2⟩:Gm) 1 y6 y7 y8) (by simp [cL,Function.comp_def];done))<|s)
   clear q
   cases h2:(decide ((Z1x Yb Yc) < 0)) with
   | true =>
    have gh2:=odt h2
    refine fnS E0Ok Z5 (c:=X0 f7) [] (.b false) [] func7 (p (sB h2<|sK [] sN)) rfl (by kernel_rfl) (by kernel_rfl) rfl ?_ ?_
    · simp only [Z1a,h0,h1,h2,cond_true]
    · rfl
   | false =>
    have gh2:=odf h2
    have q {a C} (s:Scr a C):=p (sB h2<|s)
    clear p
    cases h3:((Z1x Yb Yc) != (Za ((Z9 Yb Yc).1) 1).1) with
    | true =>
     have gh3:=bne_iff_ne.1 h3
     refine fnS E0Ok Z5 (c:=X0 f7) [] (.b false) [] func7 (q (sB h3<|sK [] sN)) rfl (by kernel_rfl) (by kernel_rfl) rfl ?_ ?_
     · simp only [Z1a,h0,h1,h2,h3,cond_true,cond_false]
     · rfl
    | false =>
     have gh3:=bne_eq_false_iff_eq.1 h3
     refine fnS E0Ok Z5 (c:=X0 f7) [] (.b true) [] func7 (q (sB h3<|sF (Z4x Yb Yc)<|sF (Fn.castA (args':=[.agg [.sl (((Z9 Yb Yc).1.Pl).map Gv.c), .sl ((((Z9 Yb Yc).1.Tr).map fun l=>l.map (cI .i64)).map fun l => [.sl l])], .agg [.sl (((Zm Yb Yc).1.Pl).map Gv.c), .sl ((((Zm Yb Yc).1.Tr).map fun l=>l.map (cI .i64)).map fun l => [.sl l])]]) (Z53 ((Z9 Yb Yc).1) ((Zm Yb Yc).1) y0 y1 y2 y3 y4 y5) (by simp [cL,Function.comp_def];done))<|sB' h0<|sB' h0<|sB' h0<|sB' h0<|sB' h1<|sF (Fn.castA (args':=[.agg [.sl (((Za ((Z9 Yb Yc).1) 1).2.1).map Gv.c), .sl ((((Za ((Z9 Yb Yc).1) 1).2.2).map fun l=>l.map (cI .i64)).map fun l => [.sl l])], .i .i64 1]) (Z4A (⟨(Za ((Z9 Yb Yc).1) 1).2.1,(Za ((Z9 Yb Yc).1) 1).2.2⟩:Gm) 1 y6 y7 y8) (by simp [cL,Function.comp_def];done))<|sB h2<|sB h3<|sK [] sN)) rfl (by kernel_rfl) (by kernel_rfl) rfl ?_ ?_
     · simp only [Z1a,h0,h1,h2,h3,cond_true,cond_false]
     · rfl
  | false =>
   have gh1:=ne_of_beq_false h1
   refine fnS E0Ok Z5 (c:=X0 f7) [] (.b false) [] func7 (q (sB' h1<|sK [] sN)) rfl (by kernel_rfl) (by kernel_rfl) rfl ?_ ?_
   · simp only [Z1a,h0,h1,cond_true,cond_false]
   · rfl
 | false =>
  refine fnS E0Ok Z5 (c:=X0 f7) [] (.b false) [] func7 (p (sB' h0<|sB' h0<|sB' h0<|sB' h0<|sB (show true=true from rfl)<|sK [] sN)) rfl (by kernel_rfl) (by kernel_rfl) rfl ?_ ?_
  · simp only [Z1a,h0,cond_false]
  · rfl
theorem Z5O (a:List Gv) (c:Int):ZQ (Zl a c).2 c=(Zl a c).1:=by
  rw [Z6p,Z4y,X49 (fun x c=>by simp [Z42,Z2F,X3T]) (fun x c=>rfl)]
theorem Z61 (a:List Int) (c:Int):ZE (Ze a c).2 c=(Ze a c).1:=by
  rw [Z6E,Z4J,X49 (fun x c=>by simp [Z4u,Z31,X3T]) (fun x c=>rfl)]
theorem Z5G (a:List (List Int)) (c:Int) (g0:a.length≤1073741824) (g1:∀ t∈a,t.length≤1073741824) (h0:0≤c) (h1:c≤3458764513820540928):Z19 (Zx a c).2 c=(Zx a c).1:=by
  rw [Z6m,Z4t,X4r (W:=1073741824) (M:=4611686018427387904) a c (fun x hx c k0 k1=>by
    have q:=Z4s x c (g1 x hx) k0 (by omega)
    have q2:=Z61 x c
    refine ⟨?_,q2,q.1,q.2⟩
    rw [q2]
    simp;omega) h0 (by omega)]
theorem Z5H (a:Gm) (c:Int) (g0:a.Pl.length≤1073741824) (g1:a.Tr.length≤1073741824) (g2:∀ t∈a.Tr,t.length≤1073741824) (h0:0≤c) (h1:c≤1152921504606846976):Z1N ⟨(Za a c).2.1,(Za a c).2.2⟩ c=(Za a c).1:=by
  have p0:=Z4b a.Pl c g0 (by omega) (by omega)
  have q0:=Z5O a.Pl c
  have p1:=Z41 a.Tr ((Zl a.Pl c).1) g1 g2 (by omega) (by omega)
  have q1:=Z5G a.Tr ((Zl a.Pl c).1) g1 g2 (by omega) (by omega)
  unfold Z1N
  simp only [Za,true_and] at *
  simp only [q0,q1]
  repeat (rw [decide_eq_false (by omega),cond_false])
  try rfl
theorem Z6Y (p:Nat):∀ j,j < 12→Zy p ((j:Nat):Int)=Zw p (j:Int):=by
  intro j hj
  have hE:(Z2 p).2=Z1X:=Z1i p
  have hS:Z4 p=Z1U:=Z1q p
  unfold Zy Z1z Zw Z1u
  rw [hE,hS]
  have hc:j=0∨j=1∨j=2∨j=3∨j=4∨j=5∨j=6∨j=7∨j=8∨j=9∨j=10∨j=11:=by omega
  rcases hc with rfl | rfl | rfl | rfl | rfl | rfl | rfl | rfl | rfl | rfl | rfl | rfl<;>(show _=_;kernel_rfl)
theorem Z6N (p:Nat):ZD p=Zw p 0:=by
  have hE:(Z2 p).2=Z1X:=Z1i p
  have hS:Z4 p=Z1U:=Z1q p
  unfold ZD Z1y Zw Z1u
  rw [hE,hS]
  rfl
theorem Z6q (a:Int) (p:Nat):(Z1 a p).2=ZO a p:=by
  have hS:Z4 p=Z1U:=Z1q p
  have e2:ZO a p=[(⟨p,0,0⟩:Gv),(⟨(fneg .f32 p),0,0⟩:Gv),(⟨0,p,0⟩:Gv),(⟨0,(fneg .f32 p),0⟩:Gv),(⟨0,0,p⟩:Gv),(⟨0,0,(fneg .f32 p)⟩:Gv)] ++ (List.range 12).map fun (j:Nat)=>Zw p (0 + (j:Int)):=by
    unfold ZO
    rw [X3y (f:=fun x=>Zw p x) (n:=((Z4 p).length:Int)) (lo:=Z15 a p) (fun k i r=>rfl) _ _ _ (Nat.lt_succ_self _),hS]
    show _=_
    kernel_rfl
  have e1:(Z1 a p).2=[(⟨p,0,0⟩:Gv),(⟨(fneg .f32 p),0,0⟩:Gv),(⟨0,p,0⟩:Gv),(⟨0,(fneg .f32 p),0⟩:Gv),(⟨0,0,p⟩:Gv),(⟨0,0,(fneg .f32 p)⟩:Gv)] ++ ([ZD p] ++ (List.range 11).map fun (j:Nat)=>Zy p (1 + (j:Int))):=congrArg Prod.snd (Z5A a p)
  have h:[ZD p] ++ ((List.range 11).map fun (j:Nat)=>Zy p (1 + (j:Int)))=(List.range 12).map fun (j:Nat)=>Zw p (0 + (j:Int)):=by
    rw [show List.range 12=0 :: (List.range 11).map Nat.succ from by decide,List.map_cons,List.map_map,Z6N,List.singleton_append]
    refine List.cons_eq_cons.2 ⟨rfl,List.map_congr_left fun j hj => ?_⟩
    have hj:=List.mem_range.1 hj
    have q:=Z6Y p (j + 1) (by omega)
    rw [show ((j + 1:Nat):Int)=1 + (j:Int) from by omega] at q
    rw [q]
    show Zw p (1 + (j:Int))=Zw p (0 + ((j + 1:Nat):Int))
    rw [show (0:Int) + ((j + 1:Nat):Int)=1 + (j:Int) from by omega]
  rw [e1,e2,h]
theorem Z6F (l:List Gv) (hl:l.length=18):ZY ⟨l,Z2C.flatten⟩=true:=by
  match l,hl with
  | [a1,a2,a3,a4,a5,a6,a7,a8,a9,a10,a11,a12,a13,a14,a15,a16,a17,a18],_=>show _=_;kernel_rfl
theorem Z6r (a:Int) (p:Nat):Z9 a p=Zm a p:=by
  unfold Z9 Zm
  rw [show Zf a 0 1=Z1F a 0 1 from rfl,show Zj p=Z1s p from rfl]
  cases Z1F a 0 1 with
  | false=>rfl
  | true =>
    cases Z1s p with
    | false=>rfl
    | true =>
      unfold Z1b
      cases h:(a == 0) with
      | true=>simp only [cond_true,Z2q]
      | false =>
        have hv:=Z6F (Z1 a p).2 (Z5U a p)
        unfold ZM Zd
        rw [Z4q,hv,Z6q,Z5g]
        simp only [cond_true,cond_false]
theorem Z4h (a:Int) (p:Nat)  : Z1a a p=true:=by
  unfold Z1a
  have l0:=Z49 a p
  have l1:=Z4a a p
  have v0:=Z5l (Z9 a p).1 1 (by omega) (by omega) (fun t ht=>by have q:=Z2Z a p t ht;omega) (by omega) (by omega)
  have w0:=Z5H (Z9 a p).1 1 (by omega) (by omega) (fun t ht=>by have q:=Z2Z a p t ht;omega) (by omega) (by omega)
  simp only [Z1x,Z6r] at *
  simp only [Z63,Z6o,w0,beq_self_eq_true,Bool.not_true,cond_true,cond_false,bne_self_eq_false]
  rw [decide_eq_false (by omega)]
  rfl
end Go.Ab
