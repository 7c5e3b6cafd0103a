/- The functions of this seat as plain Lean, and that the program's are these. Printed by a program of the prover's own. -/
import Derived.Test.YtpndflbllggeiaaGreatB10
set_option linter.unusedVariables false
set_option linter.unusedSimpArgs false
set_option maxRecDepth 100000
namespace Go.Ab
open Go.RowKit Go.Proofs.Tryz
def Z4A (Y7:(List (List Int))) (Yo:(List (List Int))):(Unit) ⊕ (Unit):=(Z2l Y7 Yo (((Y7.length:Int) - 0).toNat + 1) 0)
def Z47 (Y7:(List (List Int))) (Yo:(List (List Int))):Bool:=(cond ((Y7.length:Int) != (Yo.length:Int))
  false
  (match (Z4A Y7 Yo) with
    | .inl r2 => false
    | .inr r2 => true))
theorem ZfK (Y7:(List (List Int))) (Yo:(List (List Int))) (hp0:Y7.length≤1073741824) (hp1:∀ t∈Y7,t.length≤1073741824) (hp2:Yo.length≤1073741824) (hp3:∀ t∈Yo,t.length≤1073741824)  : Fn prog 117 [.sl (Y7.map (cL (cI .i64))), .sl (Yo.map (cL (cI .i64)))] (.b (Z47 Y7 Yo)) []:=by
 have p {a C} (s:Scr a C):=sZ (cL (cI .i64)) Y7 <| sZ (cL (cI .i64)) Yo <| s
 cases h0:((Y7.length:Int) != (Yo.length:Int)) with
 | true =>
  have gh0:=bne_iff_ne.1 h0
  refine fnS E0Ok Z4 (c:=X0 f117) [] (.b false) [] func117 (p (sB h0 <| sK [] sN)) rfl (by kernel_rfl) (by kernel_rfl) rfl ?_ ?_
  · simp only [Z47,h0,cond_true]
  · rfl
 | false =>
  have gh0:=bne_eq_false_iff_eq.1 h0
  have q {a C} (s:Scr a C):=p (sB h0 <| s)
  clear p
  cases h1:(Z4A Y7 Yo) with
  | inl r2 =>
   refine fnS E0Ok Z4 (c:=X0 f117) [] (.b false) [] func117 (q (sL (mR false [0,2,3,6,16]) 0 (X1 (Z5H Y7 Yo) (x:=(Z4A Y7 Yo)) (Zac Y7 Yo hp0 hp1 hp2 hp3 h0 (((Y7.length:Int) - 0).toNat + 1) 0 (show 0≤0 from (by omega)) (Nat.lt_succ_self _)) h1) <| sK [] sN)) rfl (by kernel_rfl) (by kernel_rfl) rfl ?_ ?_
   · simp only [Z47,h0,h1,cond_false]
   · rfl
  | inr r2 =>
   refine fnS E0Ok Z4 (c:=X0 f117) [] (.b true) [] func117 (q (sL (mR false [0,2,3,6,16]) 0 (X1 (Z5H Y7 Yo) (x:=(Z4A Y7 Yo)) (Zac Y7 Yo hp0 hp1 hp2 hp3 h0 (((Y7.length:Int) - 0).toNat + 1) 0 (show 0≤0 from (by omega)) (Nat.lt_succ_self _)) h1) <| sK [] sN)) rfl (by kernel_rfl) (by kernel_rfl) rfl ?_ ?_
   · simp only [Z47,h0,h1,cond_false]
   · rfl
theorem Zgx (a:List (List Int)):Z47 a a=true:=by
  unfold Z47 Z4A
  rw [XJ (a:=a) (p:=fun v => Z3b v v) (lo:=Z2l a a) (x:=()) (y:=()) (fun k i => rfl)]
  rw [show (a.all fun v => Z3b v v)=true from by rw [List.all_eq_true]; intro v _; exact ZdB v]
  simp
def Z4J (Y7:Gm) (Yo:Gm):Bool:=(cond (Z3w Y7.Pq Yo.Pq)
  (cond (Z47 Y7.Tr Yo.Tr)
    true
    false)
  false)
theorem Zhe (Y7:Gm) (Yo:Gm) (hp0:Y7.Pq.length≤1073741824) (hp1:Y7.Tr.length≤1073741824) (hp2:∀ t∈Y7.Tr,t.length≤1073741824) (hp3:Yo.Pq.length≤1073741824) (hp4:Yo.Tr.length≤1073741824) (hp5:∀ t∈Yo.Tr,t.length≤1073741824)  : Fn prog 59 [.agg [.sl (Y7.Pq.map Gv.c), .sl (Y7.Tr.map (cL (cI .i64)))], .agg [.sl (Yo.Pq.map Gv.c), .sl (Yo.Tr.map (cL (cI .i64)))]] (.b (Z4J Y7 Yo)) []:=by
 have p {a C} (s:Scr a C):=sF (ZbT Y7.Pq Yo.Pq hp0 hp3) <| s
 cases h0:(Z3w Y7.Pq Yo.Pq) with
 | true =>
  have q {a C} (s:Scr a C):=p (sB' h0 <| sF (ZfK Y7.Tr Yo.Tr hp1 hp2 hp4 hp5) <| s)
  clear p
  cases h1:(Z47 Y7.Tr Yo.Tr) with
  | true =>
   refine fnS E0Ok Z4 (c:=X0 f59) [] (.b true) [] func59 (q (sB' h1 <| sK [] sN)) rfl (by kernel_rfl) (by kernel_rfl) rfl ?_ ?_
   · simp only [Z4J,h0,h1,cond_true]
   · rfl
  | false =>
   refine fnS E0Ok Z4 (c:=X0 f59) [] (.b false) [] func59 (q (sB' h1 <| sK [] sN)) rfl (by kernel_rfl) (by kernel_rfl) rfl ?_ ?_
   · simp only [Z4J,h0,h1,cond_true,cond_false]
   · rfl
 | false =>
  refine fnS E0Ok Z4 (c:=X0 f59) [] (.b false) [] func59 (p (sB' h0 <| sK [] sN)) rfl (by kernel_rfl) (by kernel_rfl) rfl ?_ ?_
  · simp only [Z4J,h0,cond_false]
  · rfl
theorem ZhM (a:Gm):Z4J a a=true:=by
  simp [Z4J,ZcQ,Zgx]
def Z3c (Y7:Gs) (Yo:Gs):Bool:=(cond (Y7.A != Yo.A)
  false
  (cond (Y7.B != Yo.B)
    false
    (cond (ZL (fcv .f32 .f64 Y7.Long) (fcv .f32 .f64 Yo.Long))
      (cond (ZL (fcv .f32 .f64 Y7.Stiff) (fcv .f32 .f64 Yo.Stiff))
        true
        false)
      false)))
theorem Zgf (Y7:Gs) (Yo:Gs)   : Fn prog 118 [.agg [.i .i64 Y7.A, .i .i64 Y7.B, .f .f32 Y7.Long, .f .f32 Y7.Stiff], .agg [.i .i64 Yo.A, .i .i64 Yo.B, .f .f32 Yo.Long, .f .f32 Yo.Stiff]] (.b (Z3c Y7 Yo)) []:=by
 cases h0:(Y7.A != Yo.A) with
 | true =>
  have gh0:=bne_iff_ne.1 h0
  refine fnS E0Ok Z4 (c:=X0 f118) [] (.b false) [] func118 (sB h0 <| sK [] sN) rfl (by kernel_rfl) (by kernel_rfl) rfl ?_ ?_
  · simp only [Z3c,h0,cond_true]
  · rfl
 | false =>
  have gh0:=bne_eq_false_iff_eq.1 h0
  have p {a C} (s:Scr a C):=sB h0 <| s
  cases h1:(Y7.B != Yo.B) with
  | true =>
   have gh1:=bne_iff_ne.1 h1
   refine fnS E0Ok Z4 (c:=X0 f118) [] (.b false) [] func118 (p (sB h1 <| sK [] sN)) rfl (by kernel_rfl) (by kernel_rfl) rfl ?_ ?_
   · simp only [Z3c,h0,h1,cond_true,cond_false]
   · rfl
  | false =>
   have gh1:=bne_eq_false_iff_eq.1 h1
   have q {a C} (s:Scr a C):=p (sB h1 <| sC (Xo Y7.Long) <| sC (Xo Yo.Long) <| sF (Z46 (fcv .f32 .f64 Y7.Long) (fcv .f32 .f64 Yo.Long)) <| s)
   clear p
   cases h2:(ZL (fcv .f32 .f64 Y7.Long) (fcv .f32 .f64 Yo.Long)) with
   | true =>
    have p {a C} (s:Scr a C):=q (sB' h2 <| sC (Xo Y7.Stiff) <| sC (Xo Yo.Stiff) <| sF (Z46 (fcv .f32 .f64 Y7.Stiff) (fcv .f32 .f64 Yo.Stiff)) <| s)
    clear q
    cases h3:(ZL (fcv .f32 .f64 Y7.Stiff) (fcv .f32 .f64 Yo.Stiff)) with
    | true =>
     refine fnS E0Ok Z4 (c:=X0 f118) [] (.b true) [] func118 (p (sB' h3 <| sK [] sN)) rfl (by kernel_rfl) (by kernel_rfl) rfl ?_ ?_
     · simp only [Z3c,h0,h1,h2,h3,cond_true,cond_false]
     · rfl
    | false =>
     refine fnS E0Ok Z4 (c:=X0 f118) [] (.b false) [] func118 (p (sB' h3 <| sK [] sN)) rfl (by kernel_rfl) (by kernel_rfl) rfl ?_ ?_
     · simp only [Z3c,h0,h1,h2,h3,cond_true,cond_false]
     · rfl
   | false =>
    refine fnS E0Ok Z4 (c:=X0 f118) [] (.b false) [] func118 (q (sB' h2 <| sK [] sN)) rfl (by kernel_rfl) (by kernel_rfl) rfl ?_ ?_
    · simp only [Z3c,h0,h1,h2,cond_false]
    · rfl
theorem Zhf (a:Gs):Z3c a a=true:=by
  simp [Z3c,Z8T]
def Z2m (Y7:(List Gs)) (Yo:(List Gs)):Nat→Int→(Unit) ⊕ (Unit)
  | 0,_ => .inl default
  | k + 1,Yc => (cond (decide (Yc < (Y7.length:Int)))
    (cond (Z3c (Y7.getD Yc.toNat default) (Yo.getD Yc.toNat default))
      (Z2m Y7 Yo k (Yc + 1))
      (.inl ()))
    (.inr ()))
def Z5I (Y7:(List Gs)) (Yo:(List Gs)):(Unit) ⊕ (Unit)→Ex × St
  | .inl r => (.ret,⟨an 4 (.b false :: an 22 []),[]⟩)
  | .inr r => ((.exit 0),⟨.sl (Y7.map Gs.c) :: .sl (Yo.map Gs.c) :: an 4 (.sl (Y7.map Gs.c) :: .i .i64 (Y7.length:Int) :: .sl (Yo.map Gs.c) :: .i .i64 (Yo.length:Int) :: .b ((Y7.length:Int) != (Yo.length:Int)) :: an 16 []),[]⟩)
def Ze8 (Y7:(List Gs)) (Yo:(List Gs)) (Yc:Int):St:=⟨.sl (Y7.map Gs.c) :: .sl (Yo.map Gs.c) :: .any :: .any :: .any :: .i .i64 Yc :: .sl (Y7.map Gs.c) :: .i .i64 (Y7.length:Int) :: .sl (Yo.map Gs.c) :: .i .i64 (Yo.length:Int) :: .b ((Y7.length:Int) != (Yo.length:Int)) :: an 16 [],[]⟩
theorem Zad (Y7:(List Gs)) (Yo:(List Gs)) (hp0:Y7.length≤1073741824) (hp1:Yo.length≤1073741824) (Zi5:((Y7.length:Int) != (Yo.length:Int))=false):∀ (k:Nat) (Yc:Int) (Z8W:0≤Yc) (hk:((Y7.length:Int) - Yc).toNat < k),Lp prog 0 (sub (X0 f60) [1,1,0,1,0,0]) (Ze8 Y7 Yo Yc) (Z5I Y7 Yo (Z2m Y7 Yo k Yc)).1 (Z5I Y7 Yo (Z2m Y7 Yo k Yc)).2:=by
 intro k
 induction k with
 | zero => intro Yc Z8W hk; exact absurd hk (Nat.not_lt_zero _)
 | succ k ih =>
  intro Yc Z8W hk
  have p {a C} (s:Scr a C):=sZ Gs.c Y7 <| s
  cases Yn:(decide (Yc < (Y7.length:Int))) with
  | true =>
   have YM:=odt Yn
   have YS:(0:Int)≤Yc:=by clear p; exact (by assumption)
   have YT:Yc < (Y7.length:Int):=by clear p; exact (by assumption)
   have YY:Yc < (Yo.length:Int):=by clear p; exact (by simp_all <;> omega)
   have q {a C} (s:Scr a C):=p (sB Yn <| sK [8,8] <| sG Gs.c Y7 Yc YS YT <| sG Gs.c Yo Yc YS YY <| sF (Zgf (Y7.getD Yc.toNat default) (Yo.getD Yc.toNat default)) <| s)
   clear p
   cases YL:(Z3c (Y7.getD Yc.toNat default) (Yo.getD Yc.toNat default)) with
   | true =>
    have YZ:(-9223372036854775808:Int)≤(Yc + 1):=by clear q; exact (by omega)
    have y_4:(Yc + 1)≤(9223372036854775807:Int):=by clear q; exact (by omega)
    have e:Z2m Y7 Yo (k + 1) Yc=(Z2m Y7 Yo k (Yc + 1)):=by simp only [Z2m,Yn,YL,cond_true]
    rw [e]
    exact X9 E0Ok Z4 [] (mR false [0,2,3,6,16]) [] (ih (Yc + 1) (show 0≤(Yc + 1) from (by omega)) (by omega)) (q (sB' YL <| sI (Yc + 1) YZ y_4 <| sN)) (by kernel_rfl)
   | false =>
    have e:Z2m Y7 Yo (k + 1) Yc=(.inl ()):=by simp only [Z2m,Yn,YL,cond_true,cond_false]
    rw [e]
    exact outR (e := .ret) E0Ok Z4 [] (mR false [4,1,22]) [] (q (sB' YL <| sN)) (by kernel_rfl) (by intro h; cases h)
  | false =>
   have YM:=odf Yn
   have e:Z2m Y7 Yo (k + 1) Yc=(.inr ()):=by simp only [Z2m,Yn,cond_false]
   rw [e]
   exact outR (e:=(.exit 0)) E0Ok Z4 [] (mR false [0,2,4,5,16]) [] (p (sB Yn <| sN)) (by kernel_rfl) (by intro h; cases h)
def Z4B (Y7:(List Gs)) (Yo:(List Gs)):(Unit) ⊕ (Unit):=(Z2m Y7 Yo (((Y7.length:Int) - 0).toNat + 1) 0)
def Z48 (Y7:(List Gs)) (Yo:(List Gs)):Bool:=(cond ((Y7.length:Int) != (Yo.length:Int))
  false
  (match (Z4B Y7 Yo) with
    | .inl r2 => false
    | .inr r2 => true))
theorem ZfL (Y7:(List Gs)) (Yo:(List Gs)) (hp0:Y7.length≤1073741824) (hp1:Yo.length≤1073741824)  : Fn prog 60 [.sl (Y7.map Gs.c), .sl (Yo.map Gs.c)] (.b (Z48 Y7 Yo)) []:=by
 have p {a C} (s:Scr a C):=sZ Gs.c Y7 <| sZ Gs.c Yo <| s
 cases h0:((Y7.length:Int) != (Yo.length:Int)) with
 | true =>
  have gh0:=bne_iff_ne.1 h0
  refine fnS E0Ok Z4 (c:=X0 f60) [] (.b false) [] func60 (p (sB h0 <| sK [] sN)) rfl (by kernel_rfl) (by kernel_rfl) rfl ?_ ?_
  · simp only [Z48,h0,cond_true]
  · rfl
 | false =>
  have gh0:=bne_eq_false_iff_eq.1 h0
  have q {a C} (s:Scr a C):=p (sB h0 <| s)
  clear p
  cases h1:(Z4B Y7 Yo) with
  | inl r2 =>
   refine fnS E0Ok Z4 (c:=X0 f60) [] (.b false) [] func60 (q (sL (mR false [0,2,3,6,16]) 0 (X1 (Z5I Y7 Yo) (x:=(Z4B Y7 Yo)) (Zad Y7 Yo hp0 hp1 h0 (((Y7.length:Int) - 0).toNat + 1) 0 (show 0≤0 from (by omega)) (Nat.lt_succ_self _)) h1) <| sK [] sN)) rfl (by kernel_rfl) (by kernel_rfl) rfl ?_ ?_
   · simp only [Z48,h0,h1,cond_false]
   · rfl
  | inr r2 =>
   refine fnS E0Ok Z4 (c:=X0 f60) [] (.b true) [] func60 (q (sL (mR false [0,2,3,6,16]) 0 (X1 (Z5I Y7 Yo) (x:=(Z4B Y7 Yo)) (Zad Y7 Yo hp0 hp1 h0 (((Y7.length:Int) - 0).toNat + 1) 0 (show 0≤0 from (by omega)) (Nat.lt_succ_self _)) h1) <| sK [] sN)) rfl (by kernel_rfl) (by kernel_rfl) rfl ?_ ?_
   · simp only [Z48,h0,h1,cond_false]
   · rfl
theorem Zgy (a:List Gs):Z48 a a=true:=by
  unfold Z48 Z4B
  rw [XJ (a:=a) (p:=fun v => Z3c v v) (lo:=Z2m a a) (x:=()) (y:=()) (fun k i => rfl)]
  rw [show (a.all fun v => Z3c v v)=true from by rw [List.all_eq_true]; intro v _; exact Zhf v]
  simp
def Z28 (Y7:(List Nat)) (Yo:(List Nat)):Nat→Int→(Unit) ⊕ (Unit)
  | 0,_ => .inl default
  | k + 1,Yc => (cond (decide (Yc < (Y7.length:Int)))
    (cond (ZL (fcv .f32 .f64 (Y7.getD Yc.toNat default)) (fcv .f32 .f64 (Yo.getD Yc.toNat default)))
      (Z28 Y7 Yo k (Yc + 1))
      (.inl ()))
    (.inr ()))
def Z5n (Y7:(List Nat)) (Yo:(List Nat)):(Unit) ⊕ (Unit)→Ex × St
  | .inl r => (.ret,⟨an 4 (.b false :: an 24 []),[]⟩)
  | .inr r => ((.exit 0),⟨.sl (Y7.map (cF .f32)) :: .sl (Yo.map (cF .f32)) :: an 4 (.sl (Y7.map (cF .f32)) :: .i .i64 (Y7.length:Int) :: .sl (Yo.map (cF .f32)) :: .i .i64 (Yo.length:Int) :: .b ((Y7.length:Int) != (Yo.length:Int)) :: an 18 []),[]⟩)
def Zdv (Y7:(List Nat)) (Yo:(List Nat)) (Yc:Int):St:=⟨.sl (Y7.map (cF .f32)) :: .sl (Yo.map (cF .f32)) :: .any :: .any :: .any :: .i .i64 Yc :: .sl (Y7.map (cF .f32)) :: .i .i64 (Y7.length:Int) :: .sl (Yo.map (cF .f32)) :: .i .i64 (Yo.length:Int) :: .b ((Y7.length:Int) != (Yo.length:Int)) :: an 18 [],[]⟩
theorem Z9J (Y7:(List Nat)) (Yo:(List Nat)) (hp0:Y7.length≤1073741824) (hp1:Yo.length≤1073741824) (ZhN:((Y7.length:Int) != (Yo.length:Int))=false):∀ (k:Nat) (Yc:Int) (Z8e:0≤Yc) (hk:((Y7.length:Int) - Yc).toNat < k),Lp prog 0 (sub (X0 f40) [1,1,0,1,0,0]) (Zdv Y7 Yo Yc) (Z5n Y7 Yo (Z28 Y7 Yo k Yc)).1 (Z5n Y7 Yo (Z28 Y7 Yo k Yc)).2:=by
 intro k
 induction k with
 | zero => intro Yc Z8e hk; exact absurd hk (Nat.not_lt_zero _)
 | succ k ih =>
  intro Yc Z8e hk
  have p {a C} (s:Scr a C):=sZ (cF .f32) Y7 <| s
  cases Yn:(decide (Yc < (Y7.length:Int))) with
  | true =>
   have YM:=odt Yn
   have YS:(0:Int)≤Yc:=by clear p; exact (by assumption)
   have YT:Yc < (Y7.length:Int):=by clear p; exact (by assumption)
   have YY:Yc < (Yo.length:Int):=by clear p; exact (by simp_all <;> omega)
   have q {a C} (s:Scr a C):=p (sB Yn <| sK [10,10] <| sG (cF .f32) Y7 Yc YS YT <| sC (Xo (Y7.getD Yc.toNat default)) <| sG (cF .f32) Yo Yc YS YY <| sC (Xo (Yo.getD Yc.toNat default)) <| sF (Z46 (fcv .f32 .f64 (Y7.getD Yc.toNat default)) (fcv .f32 .f64 (Yo.getD Yc.toNat default))) <| s)
   clear p
   cases YL:(ZL (fcv .f32 .f64 (Y7.getD Yc.toNat default)) (fcv .f32 .f64 (Yo.getD Yc.toNat default))) with
   | true =>
    have YZ:(-9223372036854775808:Int)≤(Yc + 1):=by clear q; exact (by omega)
    have y_4:(Yc + 1)≤(9223372036854775807:Int):=by clear q; exact (by omega)
    have e:Z28 Y7 Yo (k + 1) Yc=(Z28 Y7 Yo k (Yc + 1)):=by simp only [Z28,Yn,YL,cond_true]
    rw [e]
    exact X9 E0Ok Z4 [] (mR false [0,2,3,6,18]) [] (ih (Yc + 1) (show 0≤(Yc + 1) from (by omega)) (by omega)) (q (sB' YL <| sI (Yc + 1) YZ y_4 <| sN)) (by kernel_rfl)
   | false =>
    have e:Z28 Y7 Yo (k + 1) Yc=(.inl ()):=by simp only [Z28,Yn,YL,cond_true,cond_false]
    rw [e]
    exact outR (e := .ret) E0Ok Z4 [] (mR false [4,1,24]) [] (q (sB' YL <| sN)) (by kernel_rfl) (by intro h; cases h)
  | false =>
   have YM:=odf Yn
   have e:Z28 Y7 Yo (k + 1) Yc=(.inr ()):=by simp only [Z28,Yn,cond_false]
   rw [e]
   exact outR (e:=(.exit 0)) E0Ok Z4 [] (mR false [0,2,4,5,18]) [] (p (sB Yn <| sN)) (by kernel_rfl) (by intro h; cases h)
def Z4n (Y7:(List Nat)) (Yo:(List Nat)):(Unit) ⊕ (Unit):=(Z28 Y7 Yo (((Y7.length:Int) - 0).toNat + 1) 0)
def Z3m (Y7:(List Nat)) (Yo:(List Nat)):Bool:=(cond ((Y7.length:Int) != (Yo.length:Int))
  false
  (match (Z4n Y7 Yo) with
    | .inl r2 => false
    | .inr r2 => true))
theorem Z5X (Y7:(List Nat)) (Yo:(List Nat)) (hp0:Y7.length≤1073741824) (hp1:Yo.length≤1073741824)  : Fn prog 40 [.sl (Y7.map (cF .f32)), .sl (Yo.map (cF .f32))] (.b (Z3m Y7 Yo)) []:=by
 have p {a C} (s:Scr a C):=sZ (cF .f32) Y7 <| sZ (cF .f32) Yo <| s
 cases h0:((Y7.length:Int) != (Yo.length:Int)) with
 | true =>
  have gh0:=bne_iff_ne.1 h0
  refine fnS E0Ok Z4 (c:=X0 f40) [] (.b false) [] func40 (p (sB h0 <| sK [] sN)) rfl (by kernel_rfl) (by kernel_rfl) rfl ?_ ?_
  · simp only [Z3m,h0,cond_true]
  · rfl
 | false =>
  have gh0:=bne_eq_false_iff_eq.1 h0
  have q {a C} (s:Scr a C):=p (sB h0 <| s)
  clear p
  cases h1:(Z4n Y7 Yo) with
  | inl r2 =>
   refine fnS E0Ok Z4 (c:=X0 f40) [] (.b false) [] func40 (q (sL (mR false [0,2,3,6,18]) 0 (X1 (Z5n Y7 Yo) (x:=(Z4n Y7 Yo)) (Z9J Y7 Yo hp0 hp1 h0 (((Y7.length:Int) - 0).toNat + 1) 0 (show 0≤0 from (by omega)) (Nat.lt_succ_self _)) h1) <| sK [] sN)) rfl (by kernel_rfl) (by kernel_rfl) rfl ?_ ?_
   · simp only [Z3m,h0,h1,cond_false]
   · rfl
  | inr r2 =>
   refine fnS E0Ok Z4 (c:=X0 f40) [] (.b true) [] func40 (q (sL (mR false [0,2,3,6,18]) 0 (X1 (Z5n Y7 Yo) (x:=(Z4n Y7 Yo)) (Z9J Y7 Yo hp0 hp1 h0 (((Y7.length:Int) - 0).toNat + 1) 0 (show 0≤0 from (by omega)) (Nat.lt_succ_self _)) h1) <| sK [] sN)) rfl (by kernel_rfl) (by kernel_rfl) rfl ?_ ?_
   · simp only [Z3m,h0,h1,cond_false]
   · rfl
theorem Zch (a:List Nat):Z3m a a=true:=by
  unfold Z3m Z4n
  rw [XJ (a:=a) (p:=fun v => ZL (fcv .f32 .f64 v) (fcv .f32 .f64 v)) (lo:=Z28 a a) (x:=()) (y:=()) (fun k i => rfl)]
  rw [show (a.all fun v => ZL (fcv .f32 .f64 v) (fcv .f32 .f64 v))=true from by rw [List.all_eq_true]; intro v _; exact Z8T _]
  simp
def Z3D (Y7:Gb) (Yo:Gb):Bool:=(cond (Z4J Y7.Me Yo.Me)
  (cond (Z48 Y7.Sp Yo.Sp)
    (cond (ZL (fcv .f32 .f64 Y7.Film) (fcv .f32 .f64 Yo.Film))
      (cond (ZL (fcv .f32 .f64 Y7.Bend) (fcv .f32 .f64 Yo.Bend))
        (cond (Z3m Y7.We Yo.We)
          (cond (Z3a Y7.Fall Yo.Fall)
            true
            false)
          false)
        false)
      false)
    false)
  false)
theorem Zhg (Y7:Gb) (Yo:Gb) (hp0:Y7.Me.Pq.length≤1073741824) (hp1:Y7.Me.Tr.length≤1073741824) (hp2:∀ t∈Y7.Me.Tr,t.length≤1073741824) (hp3:Y7.Sp.length≤1073741824) (hp4:Y7.We.length≤1073741824) (hp5:Yo.Me.Pq.length≤1073741824) (hp6:Yo.Me.Tr.length≤1073741824) (hp7:∀ t∈Yo.Me.Tr,t.length≤1073741824) (hp8:Yo.Sp.length≤1073741824) (hp9:Yo.We.length≤1073741824)  : Fn prog 16 [.agg [.sl (Y7.Me.Pq.map Gv.c), .sl (Y7.Me.Tr.map (cL (cI .i64))), .sl (Y7.Sp.map Gs.c), .f .f32 Y7.Film, .f .f32 Y7.Bend, .sl (Y7.We.map (cF .f32)), .f .f32 Y7.Fall.X, .f .f32 Y7.Fall.Y, .f .f32 Y7.Fall.Z], .agg [.sl (Yo.Me.Pq.map Gv.c), .sl (Yo.Me.Tr.map (cL (cI .i64))), .sl (Yo.Sp.map Gs.c), .f .f32 Yo.Film, .f .f32 Yo.Bend, .sl (Yo.We.map (cF .f32)), .f .f32 Yo.Fall.X, .f .f32 Yo.Fall.Y, .f .f32 Yo.Fall.Z]] (.b (Z3D Y7 Yo)) []:=by
 have p {a C} (s:Scr a C):=sF (Zhe Y7.Me Yo.Me hp0 hp1 hp2 hp5 hp6 hp7) <| s
 cases h0:(Z4J Y7.Me Yo.Me) with
 | true =>
  have q {a C} (s:Scr a C):=p (sB' h0 <| sF (ZfL Y7.Sp Yo.Sp hp3 hp8) <| s)
  clear p
  cases h1:(Z48 Y7.Sp Yo.Sp) with
  | true =>
   have p {a C} (s:Scr a C):=q (sB' h1 <| sC (Xo Y7.Film) <| sC (Xo Yo.Film) <| sF (Z46 (fcv .f32 .f64 Y7.Film) (fcv .f32 .f64 Yo.Film)) <| s)
   clear q
   cases h2:(ZL (fcv .f32 .f64 Y7.Film) (fcv .f32 .f64 Yo.Film)) with
   | true =>
    have q {a C} (s:Scr a C):=p (sB' h2 <| sC (Xo Y7.Bend) <| sC (Xo Yo.Bend) <| sF (Z46 (fcv .f32 .f64 Y7.Bend) (fcv .f32 .f64 Yo.Bend)) <| s)
    clear p
    cases h3:(ZL (fcv .f32 .f64 Y7.Bend) (fcv .f32 .f64 Yo.Bend)) with
    | true =>
     have p {a C} (s:Scr a C):=q (sB' h3 <| sF (Z5X Y7.We Yo.We hp4 hp9) <| s)
     clear q
     cases h4:(Z3m Y7.We Yo.We) with
     | true =>
      have q {a C} (s:Scr a C):=p (sB' h4 <| sF (Zcf Y7.Fall Yo.Fall) <| s)
      clear p
      cases h5:(Z3a Y7.Fall Yo.Fall) with
      | true =>
       refine fnS E0Ok Z4 (c:=X0 f16) [] (.b true) [] func16 (q (sB' h5 <| sK [] sN)) rfl (by kernel_rfl) (by kernel_rfl) rfl ?_ ?_
       · simp only [Z3D,h0,h1,h2,h3,h4,h5,cond_true]
       · rfl
      | false =>
       refine fnS E0Ok Z4 (c:=X0 f16) [] (.b false) [] func16 (q (sB' h5 <| sK [] sN)) rfl (by kernel_rfl) (by kernel_rfl) rfl ?_ ?_
       · simp only [Z3D,h0,h1,h2,h3,h4,h5,cond_true,cond_false]
       · rfl
     | false =>
      refine fnS E0Ok Z4 (c:=X0 f16) [] (.b false) [] func16 (p (sB' h4 <| sK [] sN)) rfl (by kernel_rfl) (by kernel_rfl) rfl ?_ ?_
      · simp only [Z3D,h0,h1,h2,h3,h4,cond_true,cond_false]
      · rfl
    | false =>
     refine fnS E0Ok Z4 (c:=X0 f16) [] (.b false) [] func16 (q (sB' h3 <| sK [] sN)) rfl (by kernel_rfl) (by kernel_rfl) rfl ?_ ?_
     · simp only [Z3D,h0,h1,h2,h3,cond_true,cond_false]
     · rfl
   | false =>
    refine fnS E0Ok Z4 (c:=X0 f16) [] (.b false) [] func16 (p (sB' h2 <| sK [] sN)) rfl (by kernel_rfl) (by kernel_rfl) rfl ?_ ?_
    · simp only [Z3D,h0,h1,h2,cond_true,cond_false]
    · rfl
  | false =>
   refine fnS E0Ok Z4 (c:=X0 f16) [] (.b false) [] func16 (q (sB' h1 <| sK [] sN)) rfl (by kernel_rfl) (by kernel_rfl) rfl ?_ ?_
   · simp only [Z3D,h0,h1,cond_true,cond_false]
   · rfl
 | false =>
  refine fnS E0Ok Z4 (c:=X0 f16) [] (.b false) [] func16 (p (sB' h0 <| sK [] sN)) rfl (by kernel_rfl) (by kernel_rfl) rfl ?_ ?_
  · simp only [Z3D,h0,cond_false]
  · rfl
theorem ZhO (a:Gb):Z3D a a=true:=by
  simp [Z3D,Z8T,Zb5,ZhM,Zgy,Zch]
def Z3K (Y7:Gn) (Yo:Gn):Bool:=(cond (Z3D Y7.Body Yo.Body)
  (cond (Z3w Y7.Sd Yo.Sd)
    true
    false)
  false)
theorem Z7e (Y7:Gn) (Yo:Gn) (hp0:Y7.Body.Me.Pq.length≤1073741824) (hp1:Y7.Body.Me.Tr.length≤1073741824) (hp2:∀ t∈Y7.Body.Me.Tr,t.length≤1073741824) (hp3:Y7.Body.Sp.length≤1073741824) (hp4:Y7.Body.We.length≤1073741824) (hp5:Y7.Sd.length≤1073741824) (hp6:Yo.Body.Me.Pq.length≤1073741824) (hp7:Yo.Body.Me.Tr.length≤1073741824) (hp8:∀ t∈Yo.Body.Me.Tr,t.length≤1073741824) (hp9:Yo.Body.Sp.length≤1073741824) (hp10:Yo.Body.We.length≤1073741824) (hp11:Yo.Sd.length≤1073741824)  : Fn prog 35 [.agg [.sl (Y7.Body.Me.Pq.map Gv.c), .sl (Y7.Body.Me.Tr.map (cL (cI .i64))), .sl (Y7.Body.Sp.map Gs.c), .f .f32 Y7.Body.Film, .f .f32 Y7.Body.Bend, .sl (Y7.Body.We.map (cF .f32)), .f .f32 Y7.Body.Fall.X, .f .f32 Y7.Body.Fall.Y, .f .f32 Y7.Body.Fall.Z, .sl (Y7.Sd.map Gv.c)], .agg [.sl (Yo.Body.Me.Pq.map Gv.c), .sl (Yo.Body.Me.Tr.map (cL (cI .i64))), .sl (Yo.Body.Sp.map Gs.c), .f .f32 Yo.Body.Film, .f .f32 Yo.Body.Bend, .sl (Yo.Body.We.map (cF .f32)), .f .f32 Yo.Body.Fall.X, .f .f32 Yo.Body.Fall.Y, .f .f32 Yo.Body.Fall.Z, .sl (Yo.Sd.map Gv.c)]] (.b (Z3K Y7 Yo)) []:=by
 have p {a C} (s:Scr a C):=sF (Zhg Y7.Body Yo.Body hp0 hp1 hp2 hp3 hp4 hp6 hp7 hp8 hp9 hp10) <| s
 cases h0:(Z3D Y7.Body Yo.Body) with
 | true =>
  have q {a C} (s:Scr a C):=p (sB' h0 <| sF (ZbT Y7.Sd Yo.Sd hp5 hp11) <| s)
  clear p
  cases h1:(Z3w Y7.Sd Yo.Sd) with
  | true =>
   refine fnS E0Ok Z4 (c:=X0 f35) [] (.b true) [] func35 (q (sB' h1 <| sK [] sN)) rfl (by kernel_rfl) (by kernel_rfl) rfl ?_ ?_
   · simp only [Z3K,h0,h1,cond_true]
   · rfl
  | false =>
   refine fnS E0Ok Z4 (c:=X0 f35) [] (.b false) [] func35 (q (sB' h1 <| sK [] sN)) rfl (by kernel_rfl) (by kernel_rfl) rfl ?_ ?_
   · simp only [Z3K,h0,h1,cond_true,cond_false]
   · rfl
 | false =>
  refine fnS E0Ok Z4 (c:=X0 f35) [] (.b false) [] func35 (p (sB' h0 <| sK [] sN)) rfl (by kernel_rfl) (by kernel_rfl) rfl ?_ ?_
  · simp only [Z3K,h0,cond_false]
  · rfl
theorem Zhh (a:Gn):Z3K a a=true:=by
  simp [Z3K,Z8T,Zb5,ZhO,ZcQ]
def ZN (Y7:(List Gv)) (Yq:Int):Nat→Int→Int→(List Gv)→Int × (List Gv)
  | 0,_,_,_ => default
  | k + 1,Yg,Ye,Yh => (cond (decide (Ye < (Yh.length:Int)))
    (ZN Y7 Yq k (IntKind.wrap .i64 ((IntKind.wrap .i64 ((IntKind.wrap .i64 (Yg + 1)) + 1)) + 1)) (Ye + 1) (Yh.set Ye.toNat (⟨(X2 .f32 Yg),(X2 .f32 (IntKind.wrap .i64 (Yg + 1))),(X2 .f32 (IntKind.wrap .i64 ((IntKind.wrap .i64 (Yg + 1)) + 1)))⟩:Gv)))
    (Yg,Yh))
def Z5o (Y7:(List Gv)) (Yq:Int) (r:Int × (List Gv)):Ex × St:=((.exit 0),⟨.any :: .i .i64 r.1 :: .any :: .any :: .i .i64 0 :: an 32 [],[.vec 40 3 (r.2.map Gv.c) false]⟩)
def Z7f (Y7:(List Gv)) (Yq:Int) (Yg:Int) (Ye:Int) (Yh:(List Gv)):St:=⟨.own 0 :: .i .i64 Yg :: .any :: .any :: .i .i64 0 :: .i .i64 Ye :: an 31 [],[.vec 40 3 (Yh.map Gv.c) false]⟩
theorem Zby (Y7:(List Gv)) (Yq:Int) (hp0:Y7.length≤1073741824):∀ (k:Nat) (Yg:Int) (Ye:Int) (Yh:(List Gv)) (Z6a:0≤Ye) (Z6b:Yh.length=Y7.length) (hk:((Y7.length:Int) - Ye).toNat < k),Lp prog 1 (sub (X0 f18) [1,0,1,0,0]) (Z7f Y7 Yq Yg Ye Yh) (Z5o Y7 Yq (ZN Y7 Yq k Yg Ye Yh)).1 (Z5o Y7 Yq (ZN Y7 Yq k Yg Ye Yh)).2:=by
 intro k
 induction k with
 | zero => intro Yg Ye Yh Z6a Z6b hk; exact absurd hk (Nat.not_lt_zero _)
 | succ k ih =>
  intro Yg Ye Yh Z6a Z6b hk
  have p {a C} (s:Scr a C):=sZ Gv.c Yh <| s
  cases Yn:(decide (Ye < (Yh.length:Int))) with
  | true =>
   have YM:=odt Yn
   have YS:(0:Int)≤Ye:=by clear p; exact (by assumption)
   have YT:Ye < (Yh.length:Int):=by clear p; exact (by assumption)
   have YY:Ye.toNat < Yh.length:=by clear p; exact (by omega)
   have YZ:Ye < ((Yh.set Ye.toNat (⟨(X2 .f32 Yg),(Yh.getD Ye.toNat default).Y,(Yh.getD Ye.toNat default).Z⟩:Gv)).length:Int):=by clear p; exact (by simp_all <;> omega)
   have y_4:Ye < ((Yh.set Ye.toNat (⟨(X2 .f32 Yg),(X2 .f32 (IntKind.wrap .i64 (Yg + 1))),(Yh.getD Ye.toNat default).Z⟩:Gv)).length:Int):=by clear p; exact (by simp_all <;> omega)
   have y_5:(-9223372036854775808:Int)≤(Ye + 1):=by clear p; exact (by omega)
   have y_6:(Ye + 1)≤(9223372036854775807:Int):=by clear p; exact (by omega)
   have e:ZN Y7 Yq (k + 1) Yg Ye Yh=(ZN Y7 Yq k (IntKind.wrap .i64 ((IntKind.wrap .i64 ((IntKind.wrap .i64 (Yg + 1)) + 1)) + 1)) (Ye + 1) (Yh.set Ye.toNat (⟨(X2 .f32 Yg),(X2 .f32 (IntKind.wrap .i64 (Yg + 1))),(X2 .f32 (IntKind.wrap .i64 ((IntKind.wrap .i64 (Yg + 1)) + 1)))⟩:Gv))):=by simp only [ZN,Yn,cond_true]
   rw [e]
   exact X8 (EpOk 1) Z4 [] (mR false [0,2,2,2,31]) [] (⟨.own 0 :: .i .i64 (IntKind.wrap .i64 ((IntKind.wrap .i64 ((IntKind.wrap .i64 (Yg + 1)) + 1)) + 1)) :: .any :: .any :: .i .i64 0 :: .i .i64 (Ye + 1) :: an 31 [],[.vec 40 3 ((((Yh.map Gv.c).set Ye.toNat [.f .f32 (X2 .f32 Yg), .f .f32 ((Yh.getD Ye.toNat default).Y), .f .f32 ((Yh.getD Ye.toNat default).Z)]).set Ye.toNat [.f .f32 (X2 .f32 Yg), .f .f32 (X2 .f32 (IntKind.wrap .i64 (Yg + 1))), .f .f32 ((Yh.getD Ye.toNat default).Z)]).set Ye.toNat [.f .f32 (X2 .f32 Yg), .f .f32 (X2 .f32 (IntKind.wrap .i64 (Yg + 1))), .f .f32 (X2 .f32 (IntKind.wrap .i64 ((IntKind.wrap .i64 (Yg + 1)) + 1)))]) false]⟩) (p (sB Yn <| sX Gv.c Yh Ye YS YT <| sV Gv.c Yh Ye.toNat YY <| sW .i64 (Yg + 1) <| sC (show 0≤Ye∧Int.toNat Ye < ((Yh.map Gv.c).set Ye.toNat [.f .f32 (X2 .f32 Yg), .f .f32 ((Yh.getD Ye.toNat default).Y), .f .f32 ((Yh.getD Ye.toNat default).Z)]).length from (by simpa using XC (c:=Gv.c) (l:=(Yh.set Ye.toNat (⟨(X2 .f32 Yg),(Yh.getD Ye.toNat default).Y,(Yh.getD Ye.toNat default).Z⟩:Gv))) (i:=Ye) YS YZ)) <| sE (show ((Yh.map Gv.c).set Ye.toNat [.f .f32 (X2 .f32 Yg), .f .f32 ((Yh.getD Ye.toNat default).Y), .f .f32 ((Yh.getD Ye.toNat default).Z)])[Ye.toNat]? = some [.f .f32 (X2 .f32 Yg), .f .f32 ((Yh.getD Ye.toNat default).Y), .f .f32 ((Yh.getD Ye.toNat default).Z)] from List.getElem?_set_self (by simpa using YY)) <| sW .i64 ((IntKind.wrap .i64 (Yg + 1)) + 1) <| sC (show 0≤Ye∧Int.toNat Ye < (((Yh.map Gv.c).set Ye.toNat [.f .f32 (X2 .f32 Yg), .f .f32 ((Yh.getD Ye.toNat default).Y), .f .f32 ((Yh.getD Ye.toNat default).Z)]).set Ye.toNat [.f .f32 (X2 .f32 Yg), .f .f32 (X2 .f32 (IntKind.wrap .i64 (Yg + 1))), .f .f32 ((Yh.getD Ye.toNat default).Z)]).length from (by simpa using XC (c:=Gv.c) (l:=(Yh.set Ye.toNat (⟨(X2 .f32 Yg),(X2 .f32 (IntKind.wrap .i64 (Yg + 1))),(Yh.getD Ye.toNat default).Z⟩:Gv))) (i:=Ye) YS y_4)) <| sE (show (((Yh.map Gv.c).set Ye.toNat [.f .f32 (X2 .f32 Yg), .f .f32 ((Yh.getD Ye.toNat default).Y), .f .f32 ((Yh.getD Ye.toNat default).Z)]).set Ye.toNat [.f .f32 (X2 .f32 Yg), .f .f32 (X2 .f32 (IntKind.wrap .i64 (Yg + 1))), .f .f32 ((Yh.getD Ye.toNat default).Z)])[Ye.toNat]? = some [.f .f32 (X2 .f32 Yg), .f .f32 (X2 .f32 (IntKind.wrap .i64 (Yg + 1))), .f .f32 ((Yh.getD Ye.toNat default).Z)] from List.getElem?_set_self (by simpa using YY)) <| sW .i64 ((IntKind.wrap .i64 ((IntKind.wrap .i64 (Yg + 1)) + 1)) + 1) <| sI (Ye + 1) y_5 y_6 <| sN)) (by kernel_rfl) (by simp [Z7f,List.map_set,Gv.c]) (ih (IntKind.wrap .i64 ((IntKind.wrap .i64 ((IntKind.wrap .i64 (Yg + 1)) + 1)) + 1)) (Ye + 1) (Yh.set Ye.toNat (⟨(X2 .f32 Yg),(X2 .f32 (IntKind.wrap .i64 (Yg + 1))),(X2 .f32 (IntKind.wrap .i64 ((IntKind.wrap .i64 (Yg + 1)) + 1)))⟩:Gv)) (show 0≤(Ye + 1) from (by omega)) (show (Yh.set Ye.toNat (⟨(X2 .f32 Yg),(X2 .f32 (IntKind.wrap .i64 (Yg + 1))),(X2 .f32 (IntKind.wrap .i64 ((IntKind.wrap .i64 (Yg + 1)) + 1)))⟩:Gv)).length=Y7.length from (by simp_all <;> omega)) (by omega))
  | false =>
   have YM:=odf Yn
   have e:ZN Y7 Yq (k + 1) Yg Ye Yh=(Yg,Yh):=by simp only [ZN,Yn,cond_false]
   rw [e]
   exact outR (e:=(.exit 0)) (EpOk 1) Z4 [] (mR false [1,1,2,1,32]) [] (p (sB Yn <| sN)) (by kernel_rfl) (by intro h; cases h)
theorem ZaQ (Y7:(List Gv)) (Yq:Int):∀ (k:Nat) (Yg:Int) (Ye:Int) (Yh:(List Gv)) (hk:((Yh.length:Int) - Ye).toNat < k),(ZN Y7 Yq k Yg Ye Yh).2.length=Yh.length:=by
  intro k
  induction k with
  | zero => intro Yg Ye Yh hk; exact absurd hk (Nat.not_lt_zero _)
  | succ k ih =>
    intro Yg Ye Yh hk
    cases Yn:(decide (Ye < (Yh.length:Int))) with
    | true =>
      have e:ZN Y7 Yq (k + 1) Yg Ye Yh=(ZN Y7 Yq k (IntKind.wrap .i64 ((IntKind.wrap .i64 ((IntKind.wrap .i64 (Yg + 1)) + 1)) + 1)) (Ye + 1) (Yh.set Ye.toNat (⟨(X2 .f32 Yg),(X2 .f32 (IntKind.wrap .i64 (Yg + 1))),(X2 .f32 (IntKind.wrap .i64 ((IntKind.wrap .i64 (Yg + 1)) + 1)))⟩:Gv))):=by simp only [ZN,Yn,cond_true]
      rw [e,ih (IntKind.wrap .i64 ((IntKind.wrap .i64 ((IntKind.wrap .i64 (Yg + 1)) + 1)) + 1)) (Ye + 1) (Yh.set Ye.toNat (⟨(X2 .f32 Yg),(X2 .f32 (IntKind.wrap .i64 (Yg + 1))),(X2 .f32 (IntKind.wrap .i64 ((IntKind.wrap .i64 (Yg + 1)) + 1)))⟩:Gv)) (by simp_all <;> omega)]; simp
    | false =>
      have e:ZN Y7 Yq (k + 1) Yg Ye Yh=(Yg,Yh):=by simp only [ZN,Yn,cond_false]
      first | (rw [e]; done) | (rw [e]; rfl)
def Z2M (Y7:(List Gv)) (Yq:Int):Int × (List Gv):=(ZN Y7 Yq (((Y7.length:Int) - 0).toNat + 1) Yq 0 Y7)
@[simp] theorem Zff (Y7:(List Gv)) (Yq:Int):(Z2M Y7 Yq).2.length=(Y7:(List Gv)).length:=ZaQ Y7 Yq (((Y7.length:Int) - 0).toNat + 1) Yq 0 Y7 (by exact Nat.lt_succ_self _)
def Zn (Y7:(List Gv)) (Yq:Int):Int × (List Gv):=((Z2M Y7 Yq).1,(Z2M Y7 Yq).2)
@[simp] theorem Zgz (Y7:(List Gv)) (Yq:Int):(Zn Y7 Yq).2.length=Y7.length:=by
  first | (simp [Zn]; done)
theorem Z8f (Y7:(List Gv)) (Yq:Int) (hp0:Y7.length≤1073741824)  : X3 prog 18 [.vec 40 3 (Y7.map Gv.c) false] [.own 0, .i .i64 Yq] (.i .i64 ((Zn Y7 Yq).1)) [.vec 40 3 (((Zn Y7 Yq).2).map Gv.c) false]:=by
 refine X1Q (EpOk 1) Z4 (c:=X0 f18) [.vec 40 3 (Y7.map Gv.c) false] [] (.i .i64 ((Z2M Y7 Yq).1)) [.vec 40 3 (((Z2M Y7 Yq).2).map Gv.c) false] func18 (sL (mR false [0,2,2,2,31]) 1 (X1 (Z5o Y7 Yq) (x:=(Z2M Y7 Yq)) (Zby Y7 Yq hp0 (((Y7.length:Int) - 0).toNat + 1) Yq 0 Y7 (show 0≤0 from (by omega)) (show Y7.length=Y7.length from (by simp)) (Nat.lt_succ_self _)) rfl) <| sK [] sN) rfl (by kernel_rfl) (by kernel_rfl) ?_ ?_
 · rfl
 · simp [Zn]
def Z6C (_:Gv) (c:Int):Int × Gv:=((IntKind.wrap .i64 ((IntKind.wrap .i64 ((IntKind.wrap .i64 (c + 1)) + 1)) + 1)),⟨X2 .f32 c,X2 .f32 (IntKind.wrap .i64 (c + 1)),X2 .f32 (IntKind.wrap .i64 ((IntKind.wrap .i64 (c + 1)) + 1))⟩)
theorem Zci (a:List Gv) (c:Int):Zn a c=mkL Z6C a c:=by
  unfold Zn Z2M
  rw [X1t (f:=Z6C) (lo:=ZN a c) (fun k c i r => rfl) _ _ _ _ (Int.le_refl 0) (Nat.lt_succ_self _)]
  simp
theorem Z5Y (a:List Gv) (c:Int) (g0:a.length≤1073741824) (h0:0≤c) (h1:c≤4611686018427387904):c≤(Zn a c).1∧(Zn a c).1≤c + 3221225472:=by
  rw [Zci]
  have q:=X3h (f:=Z6C) (W:=3) a c (fun x _ c k0 k1 => by simp only [Z6C]; rw [Xb (n:=c + 1) (by omega) (by omega),show c + 1 + 1=c + 2 from by omega,Xb (n:=c + 2) (by omega) (by omega),show c + 2 + 1=c + 3 from by omega,Xb (n:=c + 3) (by omega) (by omega)]; omega) h0 (by omega)
  omega
def ZT (Y7:(List Int)) (Yq:Int):Nat→Int→Int→(List Int)→Int × (List Int)
  | 0,_,_,_ => default
  | k + 1,Yg,Ye,Yh => (cond (decide (Ye < (Yh.length:Int)))
    (ZT Y7 Yq k (IntKind.wrap .i64 (Yg + 1)) (Ye + 1) (Yh.set Ye.toNat Yg))
    (Yg,Yh))
def Z5x (ty:Nat) (Y7:(List Int)) (Yq:Int) (r:Int × (List Int)):Ex × St:=((.exit 0),⟨.any :: .i .i64 r.1 :: .any :: .any :: .i .i64 0 :: an 14 [],[.vec ty 1 (r.2.map (cI .i64)) false]⟩)
def Z7I (ty:Nat) (Y7:(List Int)) (Yq:Int) (Yg:Int) (Ye:Int) (Yh:(List Int)):St:=⟨.own 0 :: .i .i64 Yg :: .any :: .any :: .i .i64 0 :: .i .i64 Ye :: an 13 [],[.vec ty 1 (Yh.map (cI .i64)) false]⟩
theorem ZbU (ty:Nat) (Y7:(List Int)) (Yq:Int) (hp0:Y7.length≤1073741824):∀ (k:Nat) (Yg:Int) (Ye:Int) (Yh:(List Int)) (Z6D:0≤Ye) (Z6E:Yh.length=Y7.length) (hk:((Y7.length:Int) - Ye).toNat < k),Lp prog 1 (sub (X0 f27) [1,0,1,0,0]) (Z7I ty Y7 Yq Yg Ye Yh) (Z5x ty Y7 Yq (ZT Y7 Yq k Yg Ye Yh)).1 (Z5x ty Y7 Yq (ZT Y7 Yq k Yg Ye Yh)).2:=by
 intro k
 induction k with
 | zero => intro Yg Ye Yh Z6D Z6E hk; exact absurd hk (Nat.not_lt_zero _)
 | succ k ih =>
  intro Yg Ye Yh Z6D Z6E hk
  have p {a C} (s:Scr a C):=sZ (cI .i64) Yh <| s
  cases Yn:(decide (Ye < (Yh.length:Int))) with
  | true =>
   have YM:=odt Yn
   have YS:(0:Int)≤Ye:=by clear p; exact (by assumption)
   have YT:Ye < (Yh.length:Int):=by clear p; exact (by assumption)
   have YY:Ye.toNat < Yh.length:=by clear p; exact (by omega)
   have YZ:(-9223372036854775808:Int)≤(Ye + 1):=by clear p; exact (by omega)
   have y_4:(Ye + 1)≤(9223372036854775807:Int):=by clear p; exact (by omega)
   have e:ZT Y7 Yq (k + 1) Yg Ye Yh=(ZT Y7 Yq k (IntKind.wrap .i64 (Yg + 1)) (Ye + 1) (Yh.set Ye.toNat Yg)):=by simp only [ZT,Yn,cond_true]
   rw [e]
   exact X8 (EpOk 1) Z4 [] (mR false [0,2,2,2,13]) [] (⟨.own 0 :: .i .i64 (IntKind.wrap .i64 (Yg + 1)) :: .any :: .any :: .i .i64 0 :: .i .i64 (Ye + 1) :: an 13 [],[.vec ty 1 ((Yh.map (cI .i64)).set Ye.toNat [.i .i64 Yg]) false]⟩) (p (sB Yn <| sX (cI .i64) Yh Ye YS YT <| sC (Xn (c:=(cI .i64)) (l:=Yh) YY) <| sW .i64 (Yg + 1) <| sI (Ye + 1) YZ y_4 <| sN)) (by kernel_rfl) (by simp [Z7I,List.map_set,cI]) (ih (IntKind.wrap .i64 (Yg + 1)) (Ye + 1) (Yh.set Ye.toNat Yg) (show 0≤(Ye + 1) from (by omega)) (show (Yh.set Ye.toNat Yg).length=Y7.length from (by simp_all <;> omega)) (by omega))
  | false =>
   have YM:=odf Yn
   have e:ZT Y7 Yq (k + 1) Yg Ye Yh=(Yg,Yh):=by simp only [ZT,Yn,cond_false]
   rw [e]
   exact outR (e:=(.exit 0)) (EpOk 1) Z4 [] (mR false [1,1,2,1,14]) [] (p (sB Yn <| sN)) (by kernel_rfl) (by intro h; cases h)
theorem Zb6 (Y7:(List Int)) (Yq:Int):∀ (k:Nat) (Yg:Int) (Ye:Int) (Yh:(List Int)) (hk:((Yh.length:Int) - Ye).toNat < k),(ZT Y7 Yq k Yg Ye Yh).2.length=Yh.length:=by
  intro k
  induction k with
  | zero => intro Yg Ye Yh hk; exact absurd hk (Nat.not_lt_zero _)
  | succ k ih =>
    intro Yg Ye Yh hk
    cases Yn:(decide (Ye < (Yh.length:Int))) with
    | true =>
      have e:ZT Y7 Yq (k + 1) Yg Ye Yh=(ZT Y7 Yq k (IntKind.wrap .i64 (Yg + 1)) (Ye + 1) (Yh.set Ye.toNat Yg)):=by simp only [ZT,Yn,cond_true]
      rw [e,ih (IntKind.wrap .i64 (Yg + 1)) (Ye + 1) (Yh.set Ye.toNat Yg) (by simp_all <;> omega)]; simp
    | false =>
      have e:ZT Y7 Yq (k + 1) Yg Ye Yh=(Yg,Yh):=by simp only [ZT,Yn,cond_false]
      first | (rw [e]; done) | (rw [e]; rfl)
def Z2Y (Y7:(List Int)) (Yq:Int):Int × (List Int):=(ZT Y7 Yq (((Y7.length:Int) - 0).toNat + 1) Yq 0 Y7)
@[simp] theorem ZfM (Y7:(List Int)) (Yq:Int):(Z2Y Y7 Yq).2.length=(Y7:(List Int)).length:=Zb6 Y7 Yq (((Y7.length:Int) - 0).toNat + 1) Yq 0 Y7 (by exact Nat.lt_succ_self _)
def Zp (Y7:(List Int)) (Yq:Int):Int × (List Int):=((Z2Y Y7 Yq).1,(Z2Y Y7 Yq).2)
@[simp] theorem Z6c (Y7:(List Int)) (Yq:Int):(Zp Y7 Yq).2.length=Y7.length:=by
  first | (simp [Zp]; done)
theorem ZcR (ty:Nat) (Y7:(List Int)) (Yq:Int) (hp0:Y7.length≤1073741824)  : X3 prog 27 [.vec ty 1 (Y7.map (cI .i64)) false] [.own 0, .i .i64 Yq] (.i .i64 ((Zp Y7 Yq).1)) [.vec ty 1 (((Zp Y7 Yq).2).map (cI .i64)) false]:=by
 refine X1Q (EpOk 1) Z4 (c:=X0 f27) [.vec ty 1 (Y7.map (cI .i64)) false] [] (.i .i64 ((Z2Y Y7 Yq).1)) [.vec ty 1 (((Z2Y Y7 Yq).2).map (cI .i64)) false] func27 (sL (mR false [0,2,2,2,13]) 1 (X1 (Z5x ty Y7 Yq) (x:=(Z2Y Y7 Yq)) (ZbU ty Y7 Yq hp0 (((Y7.length:Int) - 0).toNat + 1) Yq 0 Y7 (show 0≤0 from (by omega)) (show Y7.length=Y7.length from (by simp)) (Nat.lt_succ_self _)) rfl) <| sK [] sN) rfl (by kernel_rfl) (by kernel_rfl) ?_ ?_
 · rfl
 · simp [Zp]
def Z7J (_:Int) (c:Int):Int × Int:=((IntKind.wrap .i64 (c + 1)),c)
theorem ZcS (a:List Int) (c:Int):Zp a c=mkL Z7J a c:=by
  unfold Zp Z2Y
  rw [X1t (f:=Z7J) (lo:=ZT a c) (fun k c i r => rfl) _ _ _ _ (Int.le_refl 0) (Nat.lt_succ_self _)]
  simp
theorem ZbV (a:List Int) (c:Int) (g0:a.length≤1073741824) (h0:0≤c) (h1:c≤4611686018427387904):c≤(Zp a c).1∧(Zp a c).1≤c + 1073741824:=by
  rw [ZcS]
  have q:=X3h (f:=Z7J) (W:=1) a c (fun x _ c k0 k1 => by simp only [Z7J]; rw [Xb (n:=c + 1) (by omega) (by omega)]; omega) h0 (by omega)
  omega
def ZO (Y7:(List (List Int))) (Yq:Int):Nat→Int→Int→(List (List Int))→Int × (List (List Int))
  | 0,_,_,_ => default
  | k + 1,Yg,Ye,Yh => (cond (decide (Ye < (Yh.length:Int)))
    (ZO Y7 Yq k ((Zp (Yh.getD Ye.toNat default) Yg).1) (Ye + 1) (Yh.set Ye.toNat ((Zp (Yh.getD Ye.toNat default) Yg).2)))
    (Yg,Yh))
def Z5p (Y7:(List (List Int))) (Yq:Int) (r:Int × (List (List Int))):Ex × St:=((.exit 0),⟨.any :: .i .i64 r.1 :: .any :: .any :: .i .i64 0 :: an 14 [],[.nest 49 (r.2.map fun l => l.map (cI .i64)) false]⟩)
def Z7g (Y7:(List (List Int))) (Yq:Int) (Yg:Int) (Ye:Int) (Yh:(List (List Int))):St:=⟨.own 0 :: .i .i64 Yg :: .any :: .any :: .i .i64 0 :: .i .i64 Ye :: an 13 [],[.nest 49 (Yh.map fun l => l.map (cI .i64)) false]⟩
theorem Zbz (Y7:(List (List Int))) (Yq:Int) (hp0:Y7.length≤1073741824) (hp1:∀ t∈Y7,t.length≤1073741824):∀ (k:Nat) (Yg:Int) (Ye:Int) (Yh:(List (List Int))) (Z6d:0≤Ye) (Z6e:Yh.length=Y7.length) (Z3U:∀ t∈Yh,t.length≤1073741824) (hk:((Y7.length:Int) - Ye).toNat < k),Lp prog 1 (sub (X0 f119) [1,0,1,0,0]) (Z7g Y7 Yq Yg Ye Yh) (Z5p Y7 Yq (ZO Y7 Yq k Yg Ye Yh)).1 (Z5p Y7 Yq (ZO Y7 Yq k Yg Ye Yh)).2:=by
 intro k
 induction k with
 | zero => intro Yg Ye Yh Z6d Z6e Z3U hk; exact absurd hk (Nat.not_lt_zero _)
 | succ k ih =>
  intro Yg Ye Yh Z6d Z6e Z3U hk
  have p {a C} (s:Scr a C):=sM (X28 (l:=Yh) (f:=fun l => l.map (cI .i64))) <| s
  cases Yn:(decide (Ye < (Yh.length:Int))) with
  | true =>
   have YM:=odt Yn
   have YS:(0:Int)≤Ye:=by clear p; exact (by assumption)
   have YT:Int.toNat Ye < Yh.length:=by clear p; exact (by omega)
   have YY:Ye.toNat < Yh.length:=by clear p; exact (by assumption)
   have YZ:(Yh.getD Ye.toNat default).length≤1073741824:=by clear p; exact (by exact X78 Z3U)
   have y_4:(-9223372036854775808:Int)≤(Ye + 1):=by clear p; exact (by omega)
   have y_5:(Ye + 1)≤(9223372036854775807:Int):=by clear p; exact (by omega)
   have e:ZO Y7 Yq (k + 1) Yg Ye Yh=(ZO Y7 Yq k ((Zp (Yh.getD Ye.toNat default) Yg).1) (Ye + 1) (Yh.set Ye.toNat ((Zp (Yh.getD Ye.toNat default) Yg).2))):=by simp only [ZO,Yn,cond_true]
   rw [e]
   exact X8 (EpOk 1) Z4 [] (mR false [0,2,2,2,13]) [] (⟨.own 0 :: .i .i64 ((Zp (Yh.getD Ye.toNat default) Yg).1) :: .any :: .any :: .i .i64 0 :: .i .i64 (Ye + 1) :: an 13 [],[.nest 49 ((Yh.map fun l => l.map (cI .i64)).set Ye.toNat (((Zp (Yh.getD Ye.toNat default) Yg).2).map (cI .i64))) false]⟩) (p (sB Yn <| sC (X1Y (c:=(cI .i64)) (l:=Yh) (i:=Ye) YS YT) <| sC (X2j (c:=(cI .i64)) (l:=Yh) YY) <| sS (X3.frameInn (R:=[.nest 49 (Yh.map fun l => l.map (cI .i64)) false]) (q:=0) (j:=Ye.toNat) (args:=[.i .i64 Yg]) (fun ty => ZcR ty (Yh.getD Ye.toNat default) Yg YZ) rfl rfl (by simp) rfl (X6H YY)) <| sI (Ye + 1) y_4 y_5 <| sN)) (by kernel_rfl) (by simp [Z7g,List.map_set,cL,cI]) (ih ((Zp (Yh.getD Ye.toNat default) Yg).1) (Ye + 1) (Yh.set Ye.toNat ((Zp (Yh.getD Ye.toNat default) Yg).2)) (show 0≤(Ye + 1) from (by omega)) (show (Yh.set Ye.toNat ((Zp (Yh.getD Ye.toNat default) Yg).2)).length=Y7.length from (by simp; assumption)) (show ∀ t∈(Yh.set Ye.toNat ((Zp (Yh.getD Ye.toNat default) Yg).2)),t.length≤1073741824 from (by intro t ht; rcases List.mem_or_eq_of_mem_set ht with h | h; (exact Z3U t h); (rw [h]; simp only [Z6c]; exact X78 Z3U))) (by omega))
  | false =>
   have YM:=odf Yn
   have e:ZO Y7 Yq (k + 1) Yg Ye Yh=(Yg,Yh):=by simp only [ZO,Yn,cond_false]
   rw [e]
   exact outR (e:=(.exit 0)) (EpOk 1) Z4 [] (mR false [1,1,2,1,14]) [] (p (sB Yn <| sN)) (by kernel_rfl) (by intro h; cases h)
theorem ZaR (Y7:(List (List Int))) (Yq:Int):∀ (k:Nat) (Yg:Int) (Ye:Int) (Yh:(List (List Int))) (hk:((Yh.length:Int) - Ye).toNat < k),(ZO Y7 Yq k Yg Ye Yh).2.length=Yh.length:=by
  intro k
  induction k with
  | zero => intro Yg Ye Yh hk; exact absurd hk (Nat.not_lt_zero _)
  | succ k ih =>
    intro Yg Ye Yh hk
    cases Yn:(decide (Ye < (Yh.length:Int))) with
    | true =>
      have e:ZO Y7 Yq (k + 1) Yg Ye Yh=(ZO Y7 Yq k ((Zp (Yh.getD Ye.toNat default) Yg).1) (Ye + 1) (Yh.set Ye.toNat ((Zp (Yh.getD Ye.toNat default) Yg).2))):=by simp only [ZO,Yn,cond_true]
      rw [e,ih ((Zp (Yh.getD Ye.toNat default) Yg).1) (Ye + 1) (Yh.set Ye.toNat ((Zp (Yh.getD Ye.toNat default) Yg).2)) (by simp_all <;> omega)]; simp
    | false =>
      have e:ZO Y7 Yq (k + 1) Yg Ye Yh=(Yg,Yh):=by simp only [ZO,Yn,cond_false]
      first | (rw [e]; done) | (rw [e]; rfl)
def Z2N (Y7:(List (List Int))) (Yq:Int):Int × (List (List Int)):=(ZO Y7 Yq (((Y7.length:Int) - 0).toNat + 1) Yq 0 Y7)
@[simp] theorem Zfg (Y7:(List (List Int))) (Yq:Int):(Z2N Y7 Yq).2.length=(Y7:(List (List Int))).length:=ZaR Y7 Yq (((Y7.length:Int) - 0).toNat + 1) Yq 0 Y7 (by exact Nat.lt_succ_self _)
def Z17 (Y7:(List (List Int))) (Yq:Int):Int × (List (List Int)):=((Z2N Y7 Yq).1,(Z2N Y7 Yq).2)
@[simp] theorem ZgA (Y7:(List (List Int))) (Yq:Int):(Z17 Y7 Yq).2.length=Y7.length:=by
  first | (simp [Z17]; done)
theorem Zcs (Y7:(List (List Int))) (Yq:Int) (hp0:Y7.length≤1073741824) (hp1:∀ t∈Y7,t.length≤1073741824)  : X3 prog 119 [.nest 49 (Y7.map fun l => l.map (cI .i64)) false] [.own 0, .i .i64 Yq] (.i .i64 ((Z17 Y7 Yq).1)) [.nest 49 (((Z17 Y7 Yq).2).map fun l => l.map (cI .i64)) false]:=by
 refine X1Q (EpOk 1) Z4 (c:=X0 f119) [.nest 49 (Y7.map fun l => l.map (cI .i64)) false] [] (.i .i64 ((Z2N Y7 Yq).1)) [.nest 49 (((Z2N Y7 Yq).2).map fun l => l.map (cI .i64)) false] func119 (sL (mR false [0,2,2,2,13]) 1 (X1 (Z5p Y7 Yq) (x:=(Z2N Y7 Yq)) (Zbz Y7 Yq hp0 hp1 (((Y7.length:Int) - 0).toNat + 1) Yq 0 Y7 (show 0≤0 from (by simp)) (show Y7.length=Y7.length from (by simp)) (show ∀ t∈Y7,t.length≤1073741824 from (by assumption)) (Nat.lt_succ_self _)) rfl) <| sK [] sN) rfl (by kernel_rfl) (by kernel_rfl) ?_ ?_
 · rfl
 · simp [Z17]
theorem ZbW (a:List (List Int)) (c:Int):Z17 a c=mkL Zp a c:=by
  unfold Z17 Z2N
  rw [X1t (f:=Zp) (lo:=ZO a c) (fun k c i r => rfl) _ _ _ _ (Int.le_refl 0) (Nat.lt_succ_self _)]
  simp
theorem ZfN (a:List (List Int)) (c:Int) (N:Nat) (h:∀ t∈a,t.length≤N):∀ t∈(Z17 a c).2,t.length≤N:=by
  rw [ZbW]
  exact X68 (p:=fun t:List Int => t.length≤N) (fun x c hx => by rw [Z6c]; exact hx) a c h
theorem ZaS (a:List (List Int)) (c:Int) (g0:a.length≤1073741824) (g1:∀ t∈a,t.length≤1073741824) (h0:0≤c) (h1:c≤3458764513820540928):c≤(Z17 a c).1∧(Z17 a c).1≤c + 1152921504606846976:=by
  rw [ZbW]
  have hm:(a.length:Int) * 1073741824≤1152921504606846976:=by omega
  have q:=X3F (f:=Zp) (W:=1073741824) (M:=4611686018427387904) a c (fun x hx c k0 k1 => by have q:=ZbV x c (g1 x hx) k0 (by omega); omega) h0 (by omega)
  omega
def Zf (Y7:Gm) (Yq:Int):Int × (List Gv) × (List (List Int)):=((Z17 Y7.Tr ((Zn Y7.Pq Yq).1)).1,(Zn Y7.Pq Yq).2,(Z17 Y7.Tr ((Zn Y7.Pq Yq).1)).2)
@[simp] theorem ZgB (Y7:Gm) (Yq:Int):(Zf Y7 Yq).2.1.length=Y7.Pq.length:=by
  first | (simp [Zf]; done)
@[simp] theorem ZgC (Y7:Gm) (Yq:Int):(Zf Y7 Yq).2.2.length=Y7.Tr.length:=by
  first | (simp [Zf]; done)
theorem Zct (Y7:Gm) (Yq:Int) (hp0:Y7.Pq.length≤1073741824) (hp1:Y7.Tr.length≤1073741824) (hp2:∀ t∈Y7.Tr,t.length≤1073741824)  : X3 prog 61 [.vec 40 3 (Y7.Pq.map Gv.c) false, .nest 49 (Y7.Tr.map fun l => l.map (cI .i64)) false] [.agg [.own 0, .own 1], .i .i64 Yq] (.i .i64 ((Zf Y7 Yq).1)) [.vec 40 3 (((Zf Y7 Yq).2.1).map Gv.c) false, .nest 49 (((Zf Y7 Yq).2.2).map fun l => l.map (cI .i64)) false]:=by
 refine X1Q (EpOk 2) Z4 (c:=X0 f61) [.vec 40 3 (Y7.Pq.map Gv.c) false, .nest 49 (Y7.Tr.map fun l => l.map (cI .i64)) false] [] (.i .i64 ((Z17 Y7.Tr ((Zn Y7.Pq Yq).1)).1)) [.vec 40 3 (((Zn Y7.Pq Yq).2).map Gv.c) false, .nest 49 (((Z17 Y7.Tr ((Zn Y7.Pq Yq).1)).2).map fun l => l.map (cI .i64)) false] func61 (sS (X3.frame (Z8f Y7.Pq Yq hp0) [0] (R:=[.vec 40 3 (Y7.Pq.map Gv.c) false, .nest 49 (Y7.Tr.map fun l => l.map (cI .i64)) false, .box 38 [.own 0, .own 1]]) (args':=[.own 0, .i .i64 Yq]) rfl rfl rfl rfl rfl rfl) <| sS (X3.frame (Zcs Y7.Tr ((Zn Y7.Pq Yq).1) hp1 hp2) [1] (R:=[.vec 40 3 (((Zn Y7.Pq Yq).2).map Gv.c) false, .nest 49 (Y7.Tr.map fun l => l.map (cI .i64)) false, .box 38 [.own 0, .own 1]]) (args':=[.own 1, .i .i64 ((Zn Y7.Pq Yq).1)]) rfl rfl rfl rfl rfl rfl) <| sK [] sN) rfl (by kernel_rfl) (by kernel_rfl) ?_ ?_
 · rfl
 · simp [Zf]
theorem ZaT (a:Gm) (c:Int) (g0:a.Pq.length≤1073741824) (g1:a.Tr.length≤1073741824) (g2:∀ t∈a.Tr,t.length≤1073741824) (h0:0≤c) (h1:c≤2305843009213693952):c≤(Zf a c).1∧(Zf a c).1≤c + 1152921507828072448:=by
  unfold Zf
  have p0:=Z5Y a.Pq c g0 (by omega) (by omega)
  have p1:=ZaS a.Tr ((Zn a.Pq c).1) g1 g2 (by omega) (by omega)
  simp only
  omega
theorem ZfO (a:Gm) (c:Int) (N:Nat) (h:∀ t∈a.Tr,t.length≤N):∀ t∈(Zf a c).2.2,t.length≤N:=by
  unfold Zf
  exact ZfN _ _ N h
def ZP (Y7:(List Gs)) (Yq:Int):Nat→Int→Int→(List Gs)→Int × (List Gs)
  | 0,_,_,_ => default
  | k + 1,Yg,Ye,Yh => (cond (decide (Ye < (Yh.length:Int)))
    (ZP Y7 Yq k (IntKind.wrap .i64 ((IntKind.wrap .i64 ((IntKind.wrap .i64 ((IntKind.wrap .i64 (Yg + 1)) + 1)) + 1)) + 1)) (Ye + 1) (Yh.set Ye.toNat (⟨Yg,(IntKind.wrap .i64 (Yg + 1)),(X2 .f32 (IntKind.wrap .i64 ((IntKind.wrap .i64 (Yg + 1)) + 1))),(X2 .f32 (IntKind.wrap .i64 ((IntKind.wrap .i64 ((IntKind.wrap .i64 (Yg + 1)) + 1)) + 1)))⟩:Gs)))
    (Yg,Yh))
def Z5q (Y7:(List Gs)) (Yq:Int) (r:Int × (List Gs)):Ex × St:=((.exit 0),⟨.any :: .i .i64 r.1 :: .any :: .any :: .i .i64 0 :: an 38 [],[.vec 133 4 (r.2.map Gs.c) false]⟩)
def Z7h (Y7:(List Gs)) (Yq:Int) (Yg:Int) (Ye:Int) (Yh:(List Gs)):St:=⟨.own 0 :: .i .i64 Yg :: .any :: .any :: .i .i64 0 :: .i .i64 Ye :: an 37 [],[.vec 133 4 (Yh.map Gs.c) false]⟩
theorem ZbA (Y7:(List Gs)) (Yq:Int) (hp0:Y7.length≤1073741824):∀ (k:Nat) (Yg:Int) (Ye:Int) (Yh:(List Gs)) (Z6f:0≤Ye) (Z6g:Yh.length=Y7.length) (hk:((Y7.length:Int) - Ye).toNat < k),Lp prog 1 (sub (X0 f62) [1,0,1,0,0]) (Z7h Y7 Yq Yg Ye Yh) (Z5q Y7 Yq (ZP Y7 Yq k Yg Ye Yh)).1 (Z5q Y7 Yq (ZP Y7 Yq k Yg Ye Yh)).2:=by
 intro k
 induction k with
 | zero => intro Yg Ye Yh Z6f Z6g hk; exact absurd hk (Nat.not_lt_zero _)
 | succ k ih =>
  intro Yg Ye Yh Z6f Z6g hk
  have p {a C} (s:Scr a C):=sZ Gs.c Yh <| s
  cases Yn:(decide (Ye < (Yh.length:Int))) with
  | true =>
   have YM:=odt Yn
   have YS:(0:Int)≤Ye:=by clear p; exact (by assumption)
   have YT:Ye < (Yh.length:Int):=by clear p; exact (by assumption)
   have YY:Ye.toNat < Yh.length:=by clear p; exact (by omega)
   have YZ:Ye < ((Yh.set Ye.toNat (⟨Yg,(Yh.getD Ye.toNat default).B,(Yh.getD Ye.toNat default).Long,(Yh.getD Ye.toNat default).Stiff⟩:Gs)).length:Int):=by clear p; exact (by simp_all <;> omega)
   have y_4:Ye < ((Yh.set Ye.toNat (⟨Yg,(IntKind.wrap .i64 (Yg + 1)),(Yh.getD Ye.toNat default).Long,(Yh.getD Ye.toNat default).Stiff⟩:Gs)).length:Int):=by clear p; exact (by simp_all <;> omega)
   have y_5:Ye < ((Yh.set Ye.toNat (⟨Yg,(IntKind.wrap .i64 (Yg + 1)),(X2 .f32 (IntKind.wrap .i64 ((IntKind.wrap .i64 (Yg + 1)) + 1))),(Yh.getD Ye.toNat default).Stiff⟩:Gs)).length:Int):=by clear p; exact (by simp_all <;> omega)
   have y_6:(-9223372036854775808:Int)≤(Ye + 1):=by clear p; exact (by omega)
   have y_7:(Ye + 1)≤(9223372036854775807:Int):=by clear p; exact (by omega)
   have e:ZP Y7 Yq (k + 1) Yg Ye Yh=(ZP Y7 Yq k (IntKind.wrap .i64 ((IntKind.wrap .i64 ((IntKind.wrap .i64 ((IntKind.wrap .i64 (Yg + 1)) + 1)) + 1)) + 1)) (Ye + 1) (Yh.set Ye.toNat (⟨Yg,(IntKind.wrap .i64 (Yg + 1)),(X2 .f32 (IntKind.wrap .i64 ((IntKind.wrap .i64 (Yg + 1)) + 1))),(X2 .f32 (IntKind.wrap .i64 ((IntKind.wrap .i64 ((IntKind.wrap .i64 (Yg + 1)) + 1)) + 1)))⟩:Gs))):=by simp only [ZP,Yn,cond_true]
   rw [e]
   exact X8 (EpOk 1) Z4 [] (mR false [0,2,2,2,37]) [] (⟨.own 0 :: .i .i64 (IntKind.wrap .i64 ((IntKind.wrap .i64 ((IntKind.wrap .i64 ((IntKind.wrap .i64 (Yg + 1)) + 1)) + 1)) + 1)) :: .any :: .any :: .i .i64 0 :: .i .i64 (Ye + 1) :: an 37 [],[.vec 133 4 (((((Yh.map Gs.c).set Ye.toNat [.i .i64 Yg, .i .i64 ((Yh.getD Ye.toNat default).B), .f .f32 ((Yh.getD Ye.toNat default).Long), .f .f32 ((Yh.getD Ye.toNat default).Stiff)]).set Ye.toNat [.i .i64 Yg, .i .i64 (IntKind.wrap .i64 (Yg + 1)), .f .f32 ((Yh.getD Ye.toNat default).Long), .f .f32 ((Yh.getD Ye.toNat default).Stiff)]).set Ye.toNat [.i .i64 Yg, .i .i64 (IntKind.wrap .i64 (Yg + 1)), .f .f32 (X2 .f32 (IntKind.wrap .i64 ((IntKind.wrap .i64 (Yg + 1)) + 1))), .f .f32 ((Yh.getD Ye.toNat default).Stiff)]).set Ye.toNat [.i .i64 Yg, .i .i64 (IntKind.wrap .i64 (Yg + 1)), .f .f32 (X2 .f32 (IntKind.wrap .i64 ((IntKind.wrap .i64 (Yg + 1)) + 1))), .f .f32 (X2 .f32 (IntKind.wrap .i64 ((IntKind.wrap .i64 ((IntKind.wrap .i64 (Yg + 1)) + 1)) + 1)))]) false]⟩) (p (sB Yn <| sX Gs.c Yh Ye YS YT <| sV Gs.c Yh Ye.toNat YY <| sW .i64 (Yg + 1) <| sC (show 0≤Ye∧Int.toNat Ye < ((Yh.map Gs.c).set Ye.toNat [.i .i64 Yg, .i .i64 ((Yh.getD Ye.toNat default).B), .f .f32 ((Yh.getD Ye.toNat default).Long), .f .f32 ((Yh.getD Ye.toNat default).Stiff)]).length from (by simpa using XC (c:=Gs.c) (l:=(Yh.set Ye.toNat (⟨Yg,(Yh.getD Ye.toNat default).B,(Yh.getD Ye.toNat default).Long,(Yh.getD Ye.toNat default).Stiff⟩:Gs))) (i:=Ye) YS YZ)) <| sE (show ((Yh.map Gs.c).set Ye.toNat [.i .i64 Yg, .i .i64 ((Yh.getD Ye.toNat default).B), .f .f32 ((Yh.getD Ye.toNat default).Long), .f .f32 ((Yh.getD Ye.toNat default).Stiff)])[Ye.toNat]? = some [.i .i64 Yg, .i .i64 ((Yh.getD Ye.toNat default).B), .f .f32 ((Yh.getD Ye.toNat default).Long), .f .f32 ((Yh.getD Ye.toNat default).Stiff)] from List.getElem?_set_self (by simpa using YY)) <| sW .i64 ((IntKind.wrap .i64 (Yg + 1)) + 1) <| sC (show 0≤Ye∧Int.toNat Ye < (((Yh.map Gs.c).set Ye.toNat [.i .i64 Yg, .i .i64 ((Yh.getD Ye.toNat default).B), .f .f32 ((Yh.getD Ye.toNat default).Long), .f .f32 ((Yh.getD Ye.toNat default).Stiff)]).set Ye.toNat [.i .i64 Yg, .i .i64 (IntKind.wrap .i64 (Yg + 1)), .f .f32 ((Yh.getD Ye.toNat default).Long), .f .f32 ((Yh.getD Ye.toNat default).Stiff)]).length from (by simpa using XC (c:=Gs.c) (l:=(Yh.set Ye.toNat (⟨Yg,(IntKind.wrap .i64 (Yg + 1)),(Yh.getD Ye.toNat default).Long,(Yh.getD Ye.toNat default).Stiff⟩:Gs))) (i:=Ye) YS y_4)) <| sE (show (((Yh.map Gs.c).set Ye.toNat [.i .i64 Yg, .i .i64 ((Yh.getD Ye.toNat default).B), .f .f32 ((Yh.getD Ye.toNat default).Long), .f .f32 ((Yh.getD Ye.toNat default).Stiff)]).set Ye.toNat [.i .i64 Yg, .i .i64 (IntKind.wrap .i64 (Yg + 1)), .f .f32 ((Yh.getD Ye.toNat default).Long), .f .f32 ((Yh.getD Ye.toNat default).Stiff)])[Ye.toNat]? = some [.i .i64 Yg, .i .i64 (IntKind.wrap .i64 (Yg + 1)), .f .f32 ((Yh.getD Ye.toNat default).Long), .f .f32 ((Yh.getD Ye.toNat default).Stiff)] from List.getElem?_set_self (by simpa using YY)) <| sW .i64 ((IntKind.wrap .i64 ((IntKind.wrap .i64 (Yg + 1)) + 1)) + 1) <| sC (show 0≤Ye∧Int.toNat Ye < ((((Yh.map Gs.c).set Ye.toNat [.i .i64 Yg, .i .i64 ((Yh.getD Ye.toNat default).B), .f .f32 ((Yh.getD Ye.toNat default).Long), .f .f32 ((Yh.getD Ye.toNat default).Stiff)]).set Ye.toNat [.i .i64 Yg, .i .i64 (IntKind.wrap .i64 (Yg + 1)), .f .f32 ((Yh.getD Ye.toNat default).Long), .f .f32 ((Yh.getD Ye.toNat default).Stiff)]).set Ye.toNat [.i .i64 Yg, .i .i64 (IntKind.wrap .i64 (Yg + 1)), .f .f32 (X2 .f32 (IntKind.wrap .i64 ((IntKind.wrap .i64 (Yg + 1)) + 1))), .f .f32 ((Yh.getD Ye.toNat default).Stiff)]).length from (by simpa using XC (c:=Gs.c) (l:=(Yh.set Ye.toNat (⟨Yg,(IntKind.wrap .i64 (Yg + 1)),(X2 .f32 (IntKind.wrap .i64 ((IntKind.wrap .i64 (Yg + 1)) + 1))),(Yh.getD Ye.toNat default).Stiff⟩:Gs))) (i:=Ye) YS y_5)) <| sE (show ((((Yh.map Gs.c).set Ye.toNat [.i .i64 Yg, .i .i64 ((Yh.getD Ye.toNat default).B), .f .f32 ((Yh.getD Ye.toNat default).Long), .f .f32 ((Yh.getD Ye.toNat default).Stiff)]).set Ye.toNat [.i .i64 Yg, .i .i64 (IntKind.wrap .i64 (Yg + 1)), .f .f32 ((Yh.getD Ye.toNat default).Long), .f .f32 ((Yh.getD Ye.toNat default).Stiff)]).set Ye.toNat [.i .i64 Yg, .i .i64 (IntKind.wrap .i64 (Yg + 1)), .f .f32 (X2 .f32 (IntKind.wrap .i64 ((IntKind.wrap .i64 (Yg + 1)) + 1))), .f .f32 ((Yh.getD Ye.toNat default).Stiff)])[Ye.toNat]? = some [.i .i64 Yg, .i .i64 (IntKind.wrap .i64 (Yg + 1)), .f .f32 (X2 .f32 (IntKind.wrap .i64 ((IntKind.wrap .i64 (Yg + 1)) + 1))), .f .f32 ((Yh.getD Ye.toNat default).Stiff)] from List.getElem?_set_self (by simpa using YY)) <| sW .i64 ((IntKind.wrap .i64 ((IntKind.wrap .i64 ((IntKind.wrap .i64 (Yg + 1)) + 1)) + 1)) + 1) <| sI (Ye + 1) y_6 y_7 <| sN)) (by kernel_rfl) (by simp [Z7h,List.map_set,Gs.c]) (ih (IntKind.wrap .i64 ((IntKind.wrap .i64 ((IntKind.wrap .i64 ((IntKind.wrap .i64 (Yg + 1)) + 1)) + 1)) + 1)) (Ye + 1) (Yh.set Ye.toNat (⟨Yg,(IntKind.wrap .i64 (Yg + 1)),(X2 .f32 (IntKind.wrap .i64 ((IntKind.wrap .i64 (Yg + 1)) + 1))),(X2 .f32 (IntKind.wrap .i64 ((IntKind.wrap .i64 ((IntKind.wrap .i64 (Yg + 1)) + 1)) + 1)))⟩:Gs)) (show 0≤(Ye + 1) from (by omega)) (show (Yh.set Ye.toNat (⟨Yg,(IntKind.wrap .i64 (Yg + 1)),(X2 .f32 (IntKind.wrap .i64 ((IntKind.wrap .i64 (Yg + 1)) + 1))),(X2 .f32 (IntKind.wrap .i64 ((IntKind.wrap .i64 ((IntKind.wrap .i64 (Yg + 1)) + 1)) + 1)))⟩:Gs)).length=Y7.length from (by simp_all <;> omega)) (by omega))
  | false =>
   have YM:=odf Yn
   have e:ZP Y7 Yq (k + 1) Yg Ye Yh=(Yg,Yh):=by simp only [ZP,Yn,cond_false]
   rw [e]
   exact outR (e:=(.exit 0)) (EpOk 1) Z4 [] (mR false [1,1,2,1,38]) [] (p (sB Yn <| sN)) (by kernel_rfl) (by intro h; cases h)
theorem ZaU (Y7:(List Gs)) (Yq:Int):∀ (k:Nat) (Yg:Int) (Ye:Int) (Yh:(List Gs)) (hk:((Yh.length:Int) - Ye).toNat < k),(ZP Y7 Yq k Yg Ye Yh).2.length=Yh.length:=by
  intro k
  induction k with
  | zero => intro Yg Ye Yh hk; exact absurd hk (Nat.not_lt_zero _)
  | succ k ih =>
    intro Yg Ye Yh hk
    cases Yn:(decide (Ye < (Yh.length:Int))) with
    | true =>
      have e:ZP Y7 Yq (k + 1) Yg Ye Yh=(ZP Y7 Yq k (IntKind.wrap .i64 ((IntKind.wrap .i64 ((IntKind.wrap .i64 ((IntKind.wrap .i64 (Yg + 1)) + 1)) + 1)) + 1)) (Ye + 1) (Yh.set Ye.toNat (⟨Yg,(IntKind.wrap .i64 (Yg + 1)),(X2 .f32 (IntKind.wrap .i64 ((IntKind.wrap .i64 (Yg + 1)) + 1))),(X2 .f32 (IntKind.wrap .i64 ((IntKind.wrap .i64 ((IntKind.wrap .i64 (Yg + 1)) + 1)) + 1)))⟩:Gs))):=by simp only [ZP,Yn,cond_true]
      rw [e,ih (IntKind.wrap .i64 ((IntKind.wrap .i64 ((IntKind.wrap .i64 ((IntKind.wrap .i64 (Yg + 1)) + 1)) + 1)) + 1)) (Ye + 1) (Yh.set Ye.toNat (⟨Yg,(IntKind.wrap .i64 (Yg + 1)),(X2 .f32 (IntKind.wrap .i64 ((IntKind.wrap .i64 (Yg + 1)) + 1))),(X2 .f32 (IntKind.wrap .i64 ((IntKind.wrap .i64 ((IntKind.wrap .i64 (Yg + 1)) + 1)) + 1)))⟩:Gs)) (by simp_all <;> omega)]; simp
    | false =>
      have e:ZP Y7 Yq (k + 1) Yg Ye Yh=(Yg,Yh):=by simp only [ZP,Yn,cond_false]
      first | (rw [e]; done) | (rw [e]; rfl)
def Z2O (Y7:(List Gs)) (Yq:Int):Int × (List Gs):=(ZP Y7 Yq (((Y7.length:Int) - 0).toNat + 1) Yq 0 Y7)
@[simp] theorem Zfh (Y7:(List Gs)) (Yq:Int):(Z2O Y7 Yq).2.length=(Y7:(List Gs)).length:=ZaU Y7 Yq (((Y7.length:Int) - 0).toNat + 1) Yq 0 Y7 (by exact Nat.lt_succ_self _)
def ZA (Y7:(List Gs)) (Yq:Int):Int × (List Gs):=((Z2O Y7 Yq).1,(Z2O Y7 Yq).2)
@[simp] theorem ZgD (Y7:(List Gs)) (Yq:Int):(ZA Y7 Yq).2.length=Y7.length:=by
  first | (simp [ZA]; done)
theorem Zcu (Y7:(List Gs)) (Yq:Int) (hp0:Y7.length≤1073741824)  : X3 prog 62 [.vec 133 4 (Y7.map Gs.c) false] [.own 0, .i .i64 Yq] (.i .i64 ((ZA Y7 Yq).1)) [.vec 133 4 (((ZA Y7 Yq).2).map Gs.c) false]:=by
 refine X1Q (EpOk 1) Z4 (c:=X0 f62) [.vec 133 4 (Y7.map Gs.c) false] [] (.i .i64 ((Z2O Y7 Yq).1)) [.vec 133 4 (((Z2O Y7 Yq).2).map Gs.c) false] func62 (sL (mR false [0,2,2,2,37]) 1 (X1 (Z5q Y7 Yq) (x:=(Z2O Y7 Yq)) (ZbA Y7 Yq hp0 (((Y7.length:Int) - 0).toNat + 1) Yq 0 Y7 (show 0≤0 from (by omega)) (show Y7.length=Y7.length from (by simp)) (Nat.lt_succ_self _)) rfl) <| sK [] sN) rfl (by kernel_rfl) (by kernel_rfl) ?_ ?_
 · rfl
 · simp [ZA]
def Z6F (_:Gs) (c:Int):Int × Gs:=((IntKind.wrap .i64 ((IntKind.wrap .i64 ((IntKind.wrap .i64 ((IntKind.wrap .i64 (c + 1)) + 1)) + 1)) + 1)),⟨c,(IntKind.wrap .i64 (c + 1)),X2 .f32 (IntKind.wrap .i64 ((IntKind.wrap .i64 (c + 1)) + 1)),X2 .f32 (IntKind.wrap .i64 ((IntKind.wrap .i64 ((IntKind.wrap .i64 (c + 1)) + 1)) + 1))⟩)
theorem Zcj (a:List Gs) (c:Int):ZA a c=mkL Z6F a c:=by
  unfold ZA Z2O
  rw [X1t (f:=Z6F) (lo:=ZP a c) (fun k c i r => rfl) _ _ _ _ (Int.le_refl 0) (Nat.lt_succ_self _)]
  simp
theorem Zbp (a:List Gs) (c:Int) (g0:a.length≤1073741824) (h0:0≤c) (h1:c≤4611686018427387904):c≤(ZA a c).1∧(ZA a c).1≤c + 4294967296:=by
  rw [Zcj]
  have q:=X3h (f:=Z6F) (W:=4) a c (fun x _ c k0 k1 => by simp only [Z6F]; rw [Xb (n:=c + 1) (by omega) (by omega),show c + 1 + 1=c + 2 from by omega,Xb (n:=c + 2) (by omega) (by omega),show c + 2 + 1=c + 3 from by omega,Xb (n:=c + 3) (by omega) (by omega),show c + 3 + 1=c + 4 from by omega,Xb (n:=c + 4) (by omega) (by omega)]; omega) h0 (by omega)
  omega
def ZJ (Y7:(List Nat)) (Yq:Int):Nat→Int→Int→(List Nat)→Int × (List Nat)
  | 0,_,_,_ => default
  | k + 1,Yg,Ye,Yh => (cond (decide (Ye < (Yh.length:Int)))
    (ZJ Y7 Yq k (IntKind.wrap .i64 (Yg + 1)) (Ye + 1) (Yh.set Ye.toNat (X2 .f32 Yg)))
    (Yg,Yh))
def Z58 (Y7:(List Nat)) (Yq:Int) (r:Int × (List Nat)):Ex × St:=((.exit 0),⟨.any :: .i .i64 r.1 :: .any :: .any :: .i .i64 0 :: an 15 [],[.vec 27 1 (r.2.map (cF .f32)) false]⟩)
def Z6G (Y7:(List Nat)) (Yq:Int) (Yg:Int) (Ye:Int) (Yh:(List Nat)):St:=⟨.own 0 :: .i .i64 Yg :: .any :: .any :: .i .i64 0 :: .i .i64 Ye :: an 14 [],[.vec 27 1 (Yh.map (cF .f32)) false]⟩
theorem Zb7 (Y7:(List Nat)) (Yq:Int) (hp0:Y7.length≤1073741824):∀ (k:Nat) (Yg:Int) (Ye:Int) (Yh:(List Nat)) (Z64:0≤Ye) (Z65:Yh.length=Y7.length) (hk:((Y7.length:Int) - Ye).toNat < k),Lp prog 1 (sub (X0 f41) [1,0,1,0,0]) (Z6G Y7 Yq Yg Ye Yh) (Z58 Y7 Yq (ZJ Y7 Yq k Yg Ye Yh)).1 (Z58 Y7 Yq (ZJ Y7 Yq k Yg Ye Yh)).2:=by
 intro k
 induction k with
 | zero => intro Yg Ye Yh Z64 Z65 hk; exact absurd hk (Nat.not_lt_zero _)
 | succ k ih =>
  intro Yg Ye Yh Z64 Z65 hk
  have p {a C} (s:Scr a C):=sZ (cF .f32) Yh <| s
  cases Yn:(decide (Ye < (Yh.length:Int))) with
  | true =>
   have YM:=odt Yn
   have YS:(0:Int)≤Ye:=by clear p; exact (by assumption)
   have YT:Ye < (Yh.length:Int):=by clear p; exact (by assumption)
   have YY:Ye.toNat < Yh.length:=by clear p; exact (by omega)
   have YZ:(-9223372036854775808:Int)≤(Ye + 1):=by clear p; exact (by omega)
   have y_4:(Ye + 1)≤(9223372036854775807:Int):=by clear p; exact (by omega)
   have e:ZJ Y7 Yq (k + 1) Yg Ye Yh=(ZJ Y7 Yq k (IntKind.wrap .i64 (Yg + 1)) (Ye + 1) (Yh.set Ye.toNat (X2 .f32 Yg))):=by simp only [ZJ,Yn,cond_true]
   rw [e]
   exact X8 (EpOk 1) Z4 [] (mR false [0,2,2,2,14]) [] (⟨.own 0 :: .i .i64 (IntKind.wrap .i64 (Yg + 1)) :: .any :: .any :: .i .i64 0 :: .i .i64 (Ye + 1) :: an 14 [],[.vec 27 1 ((Yh.map (cF .f32)).set Ye.toNat [.f .f32 (X2 .f32 Yg)]) false]⟩) (p (sB Yn <| sX (cF .f32) Yh Ye YS YT <| sC (Xn (c:=(cF .f32)) (l:=Yh) YY) <| sW .i64 (Yg + 1) <| sI (Ye + 1) YZ y_4 <| sN)) (by kernel_rfl) (by simp [Z6G,List.map_set,cF]) (ih (IntKind.wrap .i64 (Yg + 1)) (Ye + 1) (Yh.set Ye.toNat (X2 .f32 Yg)) (show 0≤(Ye + 1) from (by omega)) (show (Yh.set Ye.toNat (X2 .f32 Yg)).length=Y7.length from (by simp_all <;> omega)) (by omega))
  | false =>
   have YM:=odf Yn
   have e:ZJ Y7 Yq (k + 1) Yg Ye Yh=(Yg,Yh):=by simp only [ZJ,Yn,cond_false]
   rw [e]
   exact outR (e:=(.exit 0)) (EpOk 1) Z4 [] (mR false [1,1,2,1,15]) [] (p (sB Yn <| sN)) (by kernel_rfl) (by intro h; cases h)
theorem Zai (Y7:(List Nat)) (Yq:Int):∀ (k:Nat) (Yg:Int) (Ye:Int) (Yh:(List Nat)) (hk:((Yh.length:Int) - Ye).toNat < k),(ZJ Y7 Yq k Yg Ye Yh).2.length=Yh.length:=by
  intro k
  induction k with
  | zero => intro Yg Ye Yh hk; exact absurd hk (Nat.not_lt_zero _)
  | succ k ih =>
    intro Yg Ye Yh hk
    cases Yn:(decide (Ye < (Yh.length:Int))) with
    | true =>
      have e:ZJ Y7 Yq (k + 1) Yg Ye Yh=(ZJ Y7 Yq k (IntKind.wrap .i64 (Yg + 1)) (Ye + 1) (Yh.set Ye.toNat (X2 .f32 Yg))):=by simp only [ZJ,Yn,cond_true]
      rw [e,ih (IntKind.wrap .i64 (Yg + 1)) (Ye + 1) (Yh.set Ye.toNat (X2 .f32 Yg)) (by simp_all <;> omega)]; simp
    | false =>
      have e:ZJ Y7 Yq (k + 1) Yg Ye Yh=(Yg,Yh):=by simp only [ZJ,Yn,cond_false]
      first | (rw [e]; done) | (rw [e]; rfl)
def Z2F (Y7:(List Nat)) (Yq:Int):Int × (List Nat):=(ZJ Y7 Yq (((Y7.length:Int) - 0).toNat + 1) Yq 0 Y7)
@[simp] theorem Zfc (Y7:(List Nat)) (Yq:Int):(Z2F Y7 Yq).2.length=(Y7:(List Nat)).length:=Zai Y7 Yq (((Y7.length:Int) - 0).toNat + 1) Yq 0 Y7 (by exact Nat.lt_succ_self _)
def Zu (Y7:(List Nat)) (Yq:Int):Int × (List Nat):=((Z2F Y7 Yq).1,(Z2F Y7 Yq).2)
@[simp] theorem Zgj (Y7:(List Nat)) (Yq:Int):(Zu Y7 Yq).2.length=Y7.length:=by
  first | (simp [Zu]; done)
theorem Z7R (Y7:(List Nat)) (Yq:Int) (hp0:Y7.length≤1073741824)  : X3 prog 41 [.vec 27 1 (Y7.map (cF .f32)) false] [.own 0, .i .i64 Yq] (.i .i64 ((Zu Y7 Yq).1)) [.vec 27 1 (((Zu Y7 Yq).2).map (cF .f32)) false]:=by
 refine X1Q (EpOk 1) Z4 (c:=X0 f41) [.vec 27 1 (Y7.map (cF .f32)) false] [] (.i .i64 ((Z2F Y7 Yq).1)) [.vec 27 1 (((Z2F Y7 Yq).2).map (cF .f32)) false] func41 (sL (mR false [0,2,2,2,14]) 1 (X1 (Z58 Y7 Yq) (x:=(Z2F Y7 Yq)) (Zb7 Y7 Yq hp0 (((Y7.length:Int) - 0).toNat + 1) Yq 0 Y7 (show 0≤0 from (by omega)) (show Y7.length=Y7.length from (by simp)) (Nat.lt_succ_self _)) rfl) <| sK [] sN) rfl (by kernel_rfl) (by kernel_rfl) ?_ ?_
 · rfl
 · simp [Zu]
def Z66 (_:Nat) (c:Int):Int × Nat:=((IntKind.wrap .i64 (c + 1)),X2 .f32 c)
theorem ZbX (a:List Nat) (c:Int):Zu a c=mkL Z66 a c:=by
  unfold Zu Z2F
  rw [X1t (f:=Z66) (lo:=ZJ a c) (fun k c i r => rfl) _ _ _ _ (Int.le_refl 0) (Nat.lt_succ_self _)]
  simp
theorem Z7K (a:List Nat) (c:Int) (g0:a.length≤1073741824) (h0:0≤c) (h1:c≤4611686018427387904):c≤(Zu a c).1∧(Zu a c).1≤c + 1073741824:=by
  rw [ZbX]
  have q:=X3h (f:=Z66) (W:=1) a c (fun x _ c k0 k1 => by simp only [Z66]; rw [Xb (n:=c + 1) (by omega) (by omega)]; omega) h0 (by omega)
  omega
def Zc (Y7:Gb) (Yq:Int):Int × (List Gv) × (List (List Int)) × (List Gs) × (List Nat):=((Zu Y7.We ((ZA Y7.Sp ((Zf Y7.Me Yq).1)).1)).1,(Zf Y7.Me Yq).2.1,(Zf Y7.Me Yq).2.2,(ZA Y7.Sp ((Zf Y7.Me Yq).1)).2,(Zu Y7.We ((ZA Y7.Sp ((Zf Y7.Me Yq).1)).1)).2)
@[simp] theorem ZeQ (Y7:Gb) (Yq:Int):(Zc Y7 Yq).2.1.length=Y7.Me.Pq.length:=by
  first | (simp [Zc]; done)
@[simp] theorem ZeR (Y7:Gb) (Yq:Int):(Zc Y7 Yq).2.2.1.length=Y7.Me.Tr.length:=by
  first | (simp [Zc]; done)
@[simp] theorem ZeS (Y7:Gb) (Yq:Int):(Zc Y7 Yq).2.2.2.1.length=Y7.Sp.length:=by
  first | (simp [Zc]; done)
@[simp] theorem ZeT (Y7:Gb) (Yq:Int):(Zc Y7 Yq).2.2.2.2.length=Y7.We.length:=by
  first | (simp [Zc]; done)
theorem Z9N (Y7:Gb) (Yq:Int) (hp0:Y7.Me.Pq.length≤1073741824) (hp1:Y7.Me.Tr.length≤1073741824) (hp2:∀ t∈Y7.Me.Tr,t.length≤1073741824) (hp3:Y7.Sp.length≤1073741824) (hp4:Y7.We.length≤1073741824)  : X3 prog 17 [.vec 40 3 (Y7.Me.Pq.map Gv.c) false, .nest 49 (Y7.Me.Tr.map fun l => l.map (cI .i64)) false, .vec 133 4 (Y7.Sp.map Gs.c) false, .vec 27 1 (Y7.We.map (cF .f32)) false] [.agg [.own 0, .own 1, .own 2, .f .f32 Y7.Film, .f .f32 Y7.Bend, .own 3, .f .f32 Y7.Fall.X, .f .f32 Y7.Fall.Y, .f .f32 Y7.Fall.Z], .i .i64 Yq] (.i .i64 ((Zc Y7 Yq).1)) [.vec 40 3 (((Zc Y7 Yq).2.1).map Gv.c) false, .nest 49 (((Zc Y7 Yq).2.2.1).map fun l => l.map (cI .i64)) false, .vec 133 4 (((Zc Y7 Yq).2.2.2.1).map Gs.c) false, .vec 27 1 (((Zc Y7 Yq).2.2.2.2).map (cF .f32)) false]:=by
 refine X1Q (EpOk 4) Z4 (c:=X0 f17) [.vec 40 3 (Y7.Me.Pq.map Gv.c) false, .nest 49 (Y7.Me.Tr.map fun l => l.map (cI .i64)) false, .vec 133 4 (Y7.Sp.map Gs.c) false, .vec 27 1 (Y7.We.map (cF .f32)) false] [] (.i .i64 ((Zu Y7.We ((ZA Y7.Sp ((Zf Y7.Me Yq).1)).1)).1)) [.vec 40 3 (((Zf Y7.Me Yq).2.1).map Gv.c) false, .nest 49 (((Zf Y7.Me Yq).2.2).map fun l => l.map (cI .i64)) false, .vec 133 4 (((ZA Y7.Sp ((Zf Y7.Me Yq).1)).2).map Gs.c) false, .vec 27 1 (((Zu Y7.We ((ZA Y7.Sp ((Zf Y7.Me Yq).1)).1)).2).map (cF .f32)) false] func17 (sS (X3.frame (Zct Y7.Me Yq hp0 hp1 hp2) [0,1] (R:=[.vec 40 3 (Y7.Me.Pq.map Gv.c) false, .nest 49 (Y7.Me.Tr.map fun l => l.map (cI .i64)) false, .vec 133 4 (Y7.Sp.map Gs.c) false, .vec 27 1 (Y7.We.map (cF .f32)) false, .box 42 [.own 0, .own 1, .own 2, .f .f32 Y7.Film, .f .f32 Y7.Bend, .own 3, .f .f32 Y7.Fall.X, .f .f32 Y7.Fall.Y, .f .f32 Y7.Fall.Z]]) (args':=[.agg [.own 0, .own 1], .i .i64 Yq]) rfl rfl rfl rfl rfl rfl) <| sS (X3.frame (Zcu Y7.Sp ((Zf Y7.Me Yq).1) hp3) [2] (R:=[.vec 40 3 (((Zf Y7.Me Yq).2.1).map Gv.c) false, .nest 49 (((Zf Y7.Me Yq).2.2).map fun l => l.map (cI .i64)) false, .vec 133 4 (Y7.Sp.map Gs.c) false, .vec 27 1 (Y7.We.map (cF .f32)) false, .box 42 [.own 0, .own 1, .own 2, .f .f32 Y7.Film, .f .f32 Y7.Bend, .own 3, .f .f32 Y7.Fall.X, .f .f32 Y7.Fall.Y, .f .f32 Y7.Fall.Z]]) (args':=[.own 2, .i .i64 ((Zf Y7.Me Yq).1)]) rfl rfl rfl rfl rfl rfl) <| sS (X3.frame (Z7R Y7.We ((ZA Y7.Sp ((Zf Y7.Me Yq).1)).1) hp4) [3] (R:=[.vec 40 3 (((Zf Y7.Me Yq).2.1).map Gv.c) false, .nest 49 (((Zf Y7.Me Yq).2.2).map fun l => l.map (cI .i64)) false, .vec 133 4 (((ZA Y7.Sp ((Zf Y7.Me Yq).1)).2).map Gs.c) false, .vec 27 1 (Y7.We.map (cF .f32)) false, .box 42 [.own 0, .own 1, .own 2, .f .f32 Y7.Film, .f .f32 Y7.Bend, .own 3, .f .f32 Y7.Fall.X, .f .f32 Y7.Fall.Y, .f .f32 Y7.Fall.Z]]) (args':=[.own 3, .i .i64 ((ZA Y7.Sp ((Zf Y7.Me Yq).1)).1)]) rfl rfl rfl rfl rfl rfl) <| sK [] sN) rfl (by kernel_rfl) (by kernel_rfl) ?_ ?_
 · rfl
 · simp [Zc]
theorem Z7i (a:Gb) (c:Int) (g0:a.Me.Pq.length≤1073741824) (g1:a.Me.Tr.length≤1073741824) (g2:∀ t∈a.Me.Tr,t.length≤1073741824) (g3:a.Sp.length≤1073741824) (g4:a.We.length≤1073741824) (h0:0≤c) (h1:c≤2305843009213693952):c≤(Zc a c).1∧(Zc a c).1≤c + 1152921513196781568:=by
  unfold Zc
  have p0:=ZaT a.Me c g0 g1 g2 (by omega) (by omega)
  have p1:=Zbp a.Sp ((Zf a.Me c).1) g3 (by omega) (by omega)
  have p2:=Z7K a.We ((ZA a.Sp ((Zf a.Me c).1)).1) g4 (by omega) (by omega)
  simp only
  omega
theorem Zc1 (a:Gb) (c:Int) (N:Nat) (h:∀ t∈a.Me.Tr,t.length≤N):∀ t∈(Zc a c).2.2.1,t.length≤N:=by
  unfold Zc
  exact ZfO _ _ N h
def Z0 (Y7:Gn) (Yq:Int):Int × (List Gv) × (List (List Int)) × (List Gs) × (List Nat) × (List Gv):=((Zn Y7.Sd ((Zc Y7.Body Yq).1)).1,(Zc Y7.Body Yq).2.1,(Zc Y7.Body Yq).2.2.1,(Zc Y7.Body Yq).2.2.2.1,(Zc Y7.Body Yq).2.2.2.2,(Zn Y7.Sd ((Zc Y7.Body Yq).1)).2)
@[simp] theorem Ze9 (Y7:Gn) (Yq:Int):(Z0 Y7 Yq).2.1.length=Y7.Body.Me.Pq.length:=by
  first | (simp [Z0]; done)
@[simp] theorem Zea (Y7:Gn) (Yq:Int):(Z0 Y7 Yq).2.2.1.length=Y7.Body.Me.Tr.length:=by
  first | (simp [Z0]; done)
@[simp] theorem Zeb (Y7:Gn) (Yq:Int):(Z0 Y7 Yq).2.2.2.1.length=Y7.Body.Sp.length:=by
  first | (simp [Z0]; done)
@[simp] theorem Zec (Y7:Gn) (Yq:Int):(Z0 Y7 Yq).2.2.2.2.1.length=Y7.Body.We.length:=by
  first | (simp [Z0]; done)
@[simp] theorem Zed (Y7:Gn) (Yq:Int):(Z0 Y7 Yq).2.2.2.2.2.length=Y7.Sd.length:=by
  first | (simp [Z0]; done)
theorem Z5y (Y7:Gn) (Yq:Int) (hp0:Y7.Body.Me.Pq.length≤1073741824) (hp1:Y7.Body.Me.Tr.length≤1073741824) (hp2:∀ t∈Y7.Body.Me.Tr,t.length≤1073741824) (hp3:Y7.Body.Sp.length≤1073741824) (hp4:Y7.Body.We.length≤1073741824) (hp5:Y7.Sd.length≤1073741824)  : X3 prog 36 [.vec 40 3 (Y7.Body.Me.Pq.map Gv.c) false, .nest 49 (Y7.Body.Me.Tr.map fun l => l.map (cI .i64)) false, .vec 133 4 (Y7.Body.Sp.map Gs.c) false, .vec 27 1 (Y7.Body.We.map (cF .f32)) false, .vec 40 3 (Y7.Sd.map Gv.c) false] [.agg [.own 0, .own 1, .own 2, .f .f32 Y7.Body.Film, .f .f32 Y7.Body.Bend, .own 3, .f .f32 Y7.Body.Fall.X, .f .f32 Y7.Body.Fall.Y, .f .f32 Y7.Body.Fall.Z, .own 4], .i .i64 Yq] (.i .i64 ((Z0 Y7 Yq).1)) [.vec 40 3 (((Z0 Y7 Yq).2.1).map Gv.c) false, .nest 49 (((Z0 Y7 Yq).2.2.1).map fun l => l.map (cI .i64)) false, .vec 133 4 (((Z0 Y7 Yq).2.2.2.1).map Gs.c) false, .vec 27 1 (((Z0 Y7 Yq).2.2.2.2.1).map (cF .f32)) false, .vec 40 3 (((Z0 Y7 Yq).2.2.2.2.2).map Gv.c) false]:=by
 refine X1Q (EpOk 5) Z4 (c:=X0 f36) [.vec 40 3 (Y7.Body.Me.Pq.map Gv.c) false, .nest 49 (Y7.Body.Me.Tr.map fun l => l.map (cI .i64)) false, .vec 133 4 (Y7.Body.Sp.map Gs.c) false, .vec 27 1 (Y7.Body.We.map (cF .f32)) false, .vec 40 3 (Y7.Sd.map Gv.c) false] [] (.i .i64 ((Zn Y7.Sd ((Zc Y7.Body Yq).1)).1)) [.vec 40 3 (((Zc Y7.Body Yq).2.1).map Gv.c) false, .nest 49 (((Zc Y7.Body Yq).2.2.1).map fun l => l.map (cI .i64)) false, .vec 133 4 (((Zc Y7.Body Yq).2.2.2.1).map Gs.c) false, .vec 27 1 (((Zc Y7.Body Yq).2.2.2.2).map (cF .f32)) false, .vec 40 3 (((Zn Y7.Sd ((Zc Y7.Body Yq).1)).2).map Gv.c) false] func36 (sS (X3.frame (Z9N Y7.Body Yq hp0 hp1 hp2 hp3 hp4) [0,1,2,3] (R:=[.vec 40 3 (Y7.Body.Me.Pq.map Gv.c) false, .nest 49 (Y7.Body.Me.Tr.map fun l => l.map (cI .i64)) false, .vec 133 4 (Y7.Body.Sp.map Gs.c) false, .vec 27 1 (Y7.Body.We.map (cF .f32)) false, .vec 40 3 (Y7.Sd.map Gv.c) false, .box 66 [.own 0, .own 1, .own 2, .f .f32 Y7.Body.Film, .f .f32 Y7.Body.Bend, .own 3, .f .f32 Y7.Body.Fall.X, .f .f32 Y7.Body.Fall.Y, .f .f32 Y7.Body.Fall.Z, .own 4]]) (args':=[.agg [.own 0, .own 1, .own 2, .f .f32 Y7.Body.Film, .f .f32 Y7.Body.Bend, .own 3, .f .f32 Y7.Body.Fall.X, .f .f32 Y7.Body.Fall.Y, .f .f32 Y7.Body.Fall.Z], .i .i64 Yq]) rfl rfl rfl rfl rfl rfl) <| sS (X3.frame (Z8f Y7.Sd ((Zc Y7.Body Yq).1) hp5) [4] (R:=[.vec 40 3 (((Zc Y7.Body Yq).2.1).map Gv.c) false, .nest 49 (((Zc Y7.Body Yq).2.2.1).map fun l => l.map (cI .i64)) false, .vec 133 4 (((Zc Y7.Body Yq).2.2.2.1).map Gs.c) false, .vec 27 1 (((Zc Y7.Body Yq).2.2.2.2).map (cF .f32)) false, .vec 40 3 (Y7.Sd.map Gv.c) false, .box 66 [.own 0, .own 1, .own 2, .f .f32 Y7.Body.Film, .f .f32 Y7.Body.Bend, .own 3, .f .f32 Y7.Body.Fall.X, .f .f32 Y7.Body.Fall.Y, .f .f32 Y7.Body.Fall.Z, .own 4]]) (args':=[.own 4, .i .i64 ((Zc Y7.Body Yq).1)]) rfl rfl rfl rfl rfl rfl) <| sK [] sN) rfl (by kernel_rfl) (by kernel_rfl) ?_ ?_
 · rfl
 · simp [Z0]
theorem Z67 (a:Gn) (c:Int) (g0:a.Body.Me.Pq.length≤1073741824) (g1:a.Body.Me.Tr.length≤1073741824) (g2:∀ t∈a.Body.Me.Tr,t.length≤1073741824) (g3:a.Body.Sp.length≤1073741824) (g4:a.Body.We.length≤1073741824) (g5:a.Sd.length≤1073741824) (h0:0≤c) (h1:c≤2305843009213693952):c≤(Z0 a c).1∧(Z0 a c).1≤c + 1152921516418007040:=by
  unfold Z0
  have p0:=Z7i a.Body c g0 g1 g2 g3 g4 (by omega) (by omega)
  have p1:=Z5Y a.Sd ((Zc a.Body c).1) g5 (by omega) (by omega)
  simp only
  omega
theorem Zb8 (a:Gn) (c:Int) (N:Nat) (h:∀ t∈a.Body.Me.Tr,t.length≤N):∀ t∈(Z0 a c).2.2.1,t.length≤N:=by
  unfold Z0
  exact Zc1 _ _ N h
def Z27 (Y7:(List Int)) (Yq:Int):Nat→Int→Int→(List Int)→Int × (List Int)
  | 0,_,_,_ => default
  | k + 1,Yg,Ye,Yh => (cond (decide (Ye < (Yh.length:Int)))
    (Z27 Y7 Yq k (IntKind.wrap .i64 (Yg + 1)) (Ye + 1) (Yh.set Ye.toNat Yg))
    (Yg,Yh))
def Z5z (Y7:(List Int)) (Yq:Int) (r:Int × (List Int)):Ex × St:=((.exit 0),⟨.any :: .i .i64 r.1 :: .any :: .any :: .i .i64 0 :: an 14 [],[.vec 2 1 (r.2.map (cI .i64)) false]⟩)
def Z7L (Y7:(List Int)) (Yq:Int) (Yg:Int) (Ye:Int) (Yh:(List Int)):St:=⟨.own 0 :: .i .i64 Yg :: .any :: .any :: .i .i64 0 :: .i .i64 Ye :: an 13 [],[.vec 2 1 (Yh.map (cI .i64)) false]⟩
theorem ZbY (Y7:(List Int)) (Yq:Int) (hp0:Y7.length≤1073741824):∀ (k:Nat) (Yg:Int) (Ye:Int) (Yh:(List Int)) (Z6H:0≤Ye) (Z6I:Yh.length=Y7.length) (hk:((Y7.length:Int) - Ye).toNat < k),Lp prog 1 (sub (X0 f27) [1,0,1,0,0]) (Z7L Y7 Yq Yg Ye Yh) (Z5z Y7 Yq (Z27 Y7 Yq k Yg Ye Yh)).1 (Z5z Y7 Yq (Z27 Y7 Yq k Yg Ye Yh)).2:=by
 intro k
 induction k with
 | zero => intro Yg Ye Yh Z6H Z6I hk; exact absurd hk (Nat.not_lt_zero _)
 | succ k ih =>
  intro Yg Ye Yh Z6H Z6I hk
  have p {a C} (s:Scr a C):=sZ (cI .i64) Yh <| s
  cases Yn:(decide (Ye < (Yh.length:Int))) with
  | true =>
   have YM:=odt Yn
   have YS:(0:Int)≤Ye:=by clear p; exact (by assumption)
   have YT:Ye < (Yh.length:Int):=by clear p; exact (by assumption)
   have YY:Ye.toNat < Yh.length:=by clear p; exact (by omega)
   have YZ:(-9223372036854775808:Int)≤(Ye + 1):=by clear p; exact (by omega)
   have y_4:(Ye + 1)≤(9223372036854775807:Int):=by clear p; exact (by omega)
   have e:Z27 Y7 Yq (k + 1) Yg Ye Yh=(Z27 Y7 Yq k (IntKind.wrap .i64 (Yg + 1)) (Ye + 1) (Yh.set Ye.toNat Yg)):=by simp only [Z27,Yn,cond_true]
   rw [e]
   exact X8 (EpOk 1) Z4 [] (mR false [0,2,2,2,13]) [] (⟨.own 0 :: .i .i64 (IntKind.wrap .i64 (Yg + 1)) :: .any :: .any :: .i .i64 0 :: .i .i64 (Ye + 1) :: an 13 [],[.vec 2 1 ((Yh.map (cI .i64)).set Ye.toNat [.i .i64 Yg]) false]⟩) (p (sB Yn <| sX (cI .i64) Yh Ye YS YT <| sC (Xn (c:=(cI .i64)) (l:=Yh) YY) <| sW .i64 (Yg + 1) <| sI (Ye + 1) YZ y_4 <| sN)) (by kernel_rfl) (by simp [Z7L,List.map_set,cI]) (ih (IntKind.wrap .i64 (Yg + 1)) (Ye + 1) (Yh.set Ye.toNat Yg) (show 0≤(Ye + 1) from (by omega)) (show (Yh.set Ye.toNat Yg).length=Y7.length from (by simp_all <;> omega)) (by omega))
  | false =>
   have YM:=odf Yn
   have e:Z27 Y7 Yq (k + 1) Yg Ye Yh=(Yg,Yh):=by simp only [Z27,Yn,cond_false]
   rw [e]
   exact outR (e:=(.exit 0)) (EpOk 1) Z4 [] (mR false [1,1,2,1,14]) [] (p (sB Yn <| sN)) (by kernel_rfl) (by intro h; cases h)
def Z3n (Y7:(List Int)) (Yq:Int):Int × (List Int):=(Z27 Y7 Yq (((Y7.length:Int) - 0).toNat + 1) Yq 0 Y7)
def Z2f (Y7:(List Int)) (Yq:Int):Int × (List Int):=((Z3n Y7 Yq).1,(Z3n Y7 Yq).2)
theorem ZcT (Y7:(List Int)) (Yq:Int) (hp0:Y7.length≤1073741824)  : X3 prog 27 [.vec 2 1 (Y7.map (cI .i64)) false] [.own 0, .i .i64 Yq] (.i .i64 ((Z2f Y7 Yq).1)) [.vec 2 1 (((Z2f Y7 Yq).2).map (cI .i64)) false]:=by
 refine X1Q (EpOk 1) Z4 (c:=X0 f27) [.vec 2 1 (Y7.map (cI .i64)) false] [] (.i .i64 ((Z3n Y7 Yq).1)) [.vec 2 1 (((Z3n Y7 Yq).2).map (cI .i64)) false] func27 (sL (mR false [0,2,2,2,13]) 1 (X1 (Z5z Y7 Yq) (x:=(Z3n Y7 Yq)) (ZbY Y7 Yq hp0 (((Y7.length:Int) - 0).toNat + 1) Yq 0 Y7 (show 0≤0 from (by omega)) (show Y7.length=Y7.length from (by simp)) (Nat.lt_succ_self _)) rfl) <| sK [] sN) rfl (by kernel_rfl) (by kernel_rfl) ?_ ?_
 · rfl
 · simp [Z2f]
def Z9K (_:Int) (c:Int):Int × Int:=((IntKind.wrap .i64 (c + 1)),c)
theorem ZgE (a:List Int) (c:Int):Z2f a c=mkL Z9K a c:=by
  unfold Z2f Z3n
  rw [X1t (f:=Z9K) (lo:=Z27 a c) (fun k c i r => rfl) _ _ _ _ (Int.le_refl 0) (Nat.lt_succ_self _)]
  simp
theorem ZfP (a:List Int) (c:Int) (g0:a.length≤1073741824) (h0:0≤c) (h1:c≤4611686018427387904):c≤(Z2f a c).1∧(Z2f a c).1≤c + 1073741824:=by
  rw [ZgE]
  have q:=X3h (f:=Z9K) (W:=1) a c (fun x _ c k0 k1 => by simp only [Z9K]; rw [Xb (n:=c + 1) (by omega) (by omega)]; omega) h0 (by omega)
  omega
def Z13 (Y7:(List Gv)) (Yq:Int):Nat→Int→Int→(Unit) ⊕ (Int)
  | 0,_,_ => .inl default
  | k + 1,Yg,Ye => (cond (decide (Ye < (Y7.length:Int)))
    (cond (fcmp .neq .f32 ((Y7.getD Ye.toNat default).X) (X2 .f32 Yg))
      (.inl ())
      (cond (fcmp .neq .f32 ((Y7.getD Ye.toNat default).Y) (X2 .f32 (IntKind.wrap .i64 (Yg + 1))))
        (.inl ())
        (cond (fcmp .neq .f32 ((Y7.getD Ye.toNat default).Z) (X2 .f32 (IntKind.wrap .i64 ((IntKind.wrap .i64 (Yg + 1)) + 1))))
          (.inl ())
          (Z13 Y7 Yq k (IntKind.wrap .i64 ((IntKind.wrap .i64 ((IntKind.wrap .i64 (Yg + 1)) + 1)) + 1)) (Ye + 1)))))
    (.inr Yg))
def Z55 (Y7:(List Gv)) (Yq:Int):(Unit) ⊕ (Int)→Ex × St
  | .inl r => (.ret,⟨an 4 (.i .i64 (-1) :: an 38 []),[]⟩)
  | .inr r => ((.exit 0),⟨.any :: .i .i64 r :: an 41 [],[]⟩)
def ZcU (Y7:(List Gv)) (Yq:Int) (Yg:Int) (Ye:Int):St:=⟨.sl (Y7.map Gv.c) :: .i .i64 Yg :: .any :: .any :: .any :: .i .i64 Ye :: an 37 [],[]⟩
theorem Z8X (Y7:(List Gv)) (Yq:Int) (hp0:Y7.length≤1073741824):∀ (k:Nat) (Yg:Int) (Ye:Int) (Z7S:0≤Ye) (hk:((Y7.length:Int) - Ye).toNat < k),Lp prog 0 (sub (X0 f19) [1,0,1,0,0]) (ZcU Y7 Yq Yg Ye) (Z55 Y7 Yq (Z13 Y7 Yq k Yg Ye)).1 (Z55 Y7 Yq (Z13 Y7 Yq k Yg Ye)).2:=by
 intro k
 induction k with
 | zero => intro Yg Ye Z7S hk; exact absurd hk (Nat.not_lt_zero _)
 | succ k ih =>
  intro Yg Ye Z7S hk
  have p {a C} (s:Scr a C):=sZ Gv.c Y7 <| s
  cases Yn:(decide (Ye < (Y7.length:Int))) with
  | true =>
   have YM:=odt Yn
   have YS:(0:Int)≤Ye:=by clear p; exact (by assumption)
   have YT:Ye < (Y7.length:Int):=by clear p; exact (by assumption)
   have q {a C} (s:Scr a C):=p (sB Yn <| sG Gv.c Y7 Ye YS YT <| s)
   clear p
   cases YL:(fcmp .neq .f32 ((Y7.getD Ye.toNat default).X) (X2 .f32 Yg)) with
   | true =>
    have e:Z13 Y7 Yq (k + 1) Yg Ye=(.inl ()):=by simp only [Z13,Yn,YL,cond_true]
    rw [e]
    exact outR (e := .ret) E0Ok Z4 [] (mR false [4,1,38]) [] (q (sB YL <| sN)) (by kernel_rfl) (by intro h; cases h)
   | false =>
    have p {a C} (s:Scr a C):=q (sB YL <| sW .i64 (Yg + 1) <| sG Gv.c Y7 Ye YS YT <| s)
    clear q
    cases h_2:(fcmp .neq .f32 ((Y7.getD Ye.toNat default).Y) (X2 .f32 (IntKind.wrap .i64 (Yg + 1)))) with
    | true =>
     have e:Z13 Y7 Yq (k + 1) Yg Ye=(.inl ()):=by simp only [Z13,Yn,YL,h_2,cond_true,cond_false]
     rw [e]
     exact outR (e := .ret) E0Ok Z4 [] (mR false [4,1,38]) [] (p (sB h_2 <| sN)) (by kernel_rfl) (by intro h; cases h)
    | false =>
     have q {a C} (s:Scr a C):=p (sB h_2 <| sW .i64 ((IntKind.wrap .i64 (Yg + 1)) + 1) <| sG Gv.c Y7 Ye YS YT <| s)
     clear p
     cases h_3:(fcmp .neq .f32 ((Y7.getD Ye.toNat default).Z) (X2 .f32 (IntKind.wrap .i64 ((IntKind.wrap .i64 (Yg + 1)) + 1)))) with
     | true =>
      have e:Z13 Y7 Yq (k + 1) Yg Ye=(.inl ()):=by simp only [Z13,Yn,YL,h_2,h_3,cond_true,cond_false]
      rw [e]
      exact outR (e := .ret) E0Ok Z4 [] (mR false [4,1,38]) [] (q (sB h_3 <| sN)) (by kernel_rfl) (by intro h; cases h)
     | false =>
      have YY:(-9223372036854775808:Int)≤(Ye + 1):=by clear q; exact (by omega)
      have YZ:(Ye + 1)≤(9223372036854775807:Int):=by clear q; exact (by omega)
      have e:Z13 Y7 Yq (k + 1) Yg Ye=(Z13 Y7 Yq k (IntKind.wrap .i64 ((IntKind.wrap .i64 ((IntKind.wrap .i64 (Yg + 1)) + 1)) + 1)) (Ye + 1)):=by simp only [Z13,Yn,YL,h_2,h_3,cond_true,cond_false]
      rw [e]
      exact X9 E0Ok Z4 [] (mR false [0,2,3,1,37]) [] (ih (IntKind.wrap .i64 ((IntKind.wrap .i64 ((IntKind.wrap .i64 (Yg + 1)) + 1)) + 1)) (Ye + 1) (show 0≤(Ye + 1) from (by omega)) (by omega)) (q (sB h_3 <| sW .i64 ((IntKind.wrap .i64 ((IntKind.wrap .i64 (Yg + 1)) + 1)) + 1) <| sI (Ye + 1) YY YZ <| sN)) (by kernel_rfl)
  | false =>
   have YM:=odf Yn
   have e:Z13 Y7 Yq (k + 1) Yg Ye=(.inr Yg):=by simp only [Z13,Yn,cond_false]
   rw [e]
   exact outR (e:=(.exit 0)) E0Ok Z4 [] (mR false [1,1,41]) [] (p (sB Yn <| sN)) (by kernel_rfl) (by intro h; cases h)
end Go.Ab
