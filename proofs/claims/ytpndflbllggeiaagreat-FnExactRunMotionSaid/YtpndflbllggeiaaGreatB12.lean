/- The functions of this seat as plain Lean, and that the program's are these. Printed by a program of the prover's own. -/
import Derived.Test.YtpndflbllggeiaaGreatB11
set_option linter.unusedVariables false
set_option linter.unusedSimpArgs false
set_option maxRecDepth 100000
namespace Go.Ab
open Go.RowKit Go.Proofs.Tryz
def Z4f (Y7:(List Gv)) (Yq:Int):(Unit) ⊕ (Int):=(Z13 Y7 Yq (((Y7.length:Int) - 0).toNat + 1) Yq 0)
def Z1s (Y7:(List Gv)) (Yq:Int):Int:=(match (Z4f Y7 Yq) with
  | .inl r1 => (-1)
  | .inr r1 => r1)
theorem ZaV (Y7:(List Gv)) (Yq:Int) (hp0:Y7.length≤1073741824)  : Fn prog 19 [.sl (Y7.map Gv.c), .i .i64 Yq] (.i .i64 (Z1s Y7 Yq)) []:=by
 cases h0:(Z4f Y7 Yq) with
 | inl r1 =>
  refine fnS E0Ok Z4 (c:=X0 f19) [] (.i .i64 (-1)) [] func19 (sL (mR false [0,2,3,1,37]) 0 (X1 (Z55 Y7 Yq) (x:=(Z4f Y7 Yq)) (Z8X Y7 Yq hp0 (((Y7.length:Int) - 0).toNat + 1) Yq 0 (show 0≤0 from (by omega)) (Nat.lt_succ_self _)) h0) <| sK [] sN) rfl (by kernel_rfl) (by kernel_rfl) rfl ?_ ?_
  · simp only [Z1s,h0]
  · rfl
 | inr r1 =>
  refine fnS E0Ok Z4 (c:=X0 f19) [] (.i .i64 r1) [] func19 (sL (mR false [0,2,3,1,37]) 0 (X1 (Z55 Y7 Yq) (x:=(Z4f Y7 Yq)) (Z8X Y7 Yq hp0 (((Y7.length:Int) - 0).toNat + 1) Yq 0 (show 0≤0 from (by omega)) (Nat.lt_succ_self _)) h0) <| sK [] sN) rfl (by kernel_rfl) (by kernel_rfl) rfl ?_ ?_
  · simp only [Z1s,h0]
  · rfl
def ZaW (x:Gv) (c:Int):Bool:=(!(fcmp .neq .f32 x.X (X2 .f32 c))) && (!(fcmp .neq .f32 x.Y (X2 .f32 (IntKind.wrap .i64 (c + 1))))) && (!(fcmp .neq .f32 x.Z (X2 .f32 (IntKind.wrap .i64 ((IntKind.wrap .i64 (c + 1)) + 1)))))
def Zck (_:Gv) (c:Int):Int:=(IntKind.wrap .i64 ((IntKind.wrap .i64 ((IntKind.wrap .i64 (c + 1)) + 1)) + 1))
theorem ZhP (a:List Gv) (c:Int):Z1s a c=match hdL ZaW Zck a c with
    | some c' => c'
    | none => -1:=by
  unfold Z1s Z4f
  rw [X1X (p:=ZaW) (q:=Zck) (a:=a) (x:=()) (lo:=Z13 a c) (fun k c i => by
    rw [Z13]
    unfold ZaW Zck
    generalize a.getD i.toNat default=x
    cases decide (i < (a.length:Int)) <;> cases fcmp .neq .f32 x.X (X2 .f32 c) <;> cases fcmp .neq .f32 x.Y (X2 .f32 (IntKind.wrap .i64 (c + 1))) <;> cases fcmp .neq .f32 x.Z (X2 .f32 (IntKind.wrap .i64 ((IntKind.wrap .i64 (c + 1)) + 1))) <;> rfl) _ _ _ (Int.le_refl 0) (Nat.lt_succ_self _)]
  simp only [Int.toNat_zero,List.drop_zero]
  cases hdL ZaW Zck a c <;> rfl
def Z1X (Y7:(List Int)) (Yq:Int):Nat→Int→Int→(Unit) ⊕ (Int)
  | 0,_,_ => .inl default
  | k + 1,Yg,Ye => (cond (decide (Ye < (Y7.length:Int)))
    (cond ((Y7.getD Ye.toNat default) != Yg)
      (.inl ())
      (Z1X Y7 Yq k (IntKind.wrap .i64 (Yg + 1)) (Ye + 1)))
    (.inr Yg))
def Z5r (Y7:(List Int)) (Yq:Int):(Unit) ⊕ (Int)→Ex × St
  | .inl r => (.ret,⟨an 4 (.i .i64 (-1) :: an 16 []),[]⟩)
  | .inr r => ((.exit 0),⟨.any :: .i .i64 r :: an 19 [],[]⟩)
def Zdw (Y7:(List Int)) (Yq:Int) (Yg:Int) (Ye:Int):St:=⟨.sl (Y7.map (cI .i64)) :: .i .i64 Yg :: .any :: .any :: .any :: .i .i64 Ye :: an 15 [],[]⟩
theorem Z9L (Y7:(List Int)) (Yq:Int) (hp0:Y7.length≤1073741824):∀ (k:Nat) (Yg:Int) (Ye:Int) (Z8g:0≤Ye) (hk:((Y7.length:Int) - Ye).toNat < k),Lp prog 0 (sub (X0 f143) [1,0,1,0,0]) (Zdw Y7 Yq Yg Ye) (Z5r Y7 Yq (Z1X Y7 Yq k Yg Ye)).1 (Z5r Y7 Yq (Z1X Y7 Yq k Yg Ye)).2:=by
 intro k
 induction k with
 | zero => intro Yg Ye Z8g hk; exact absurd hk (Nat.not_lt_zero _)
 | succ k ih =>
  intro Yg Ye Z8g hk
  have p {a C} (s:Scr a C):=sZ (cI .i64) Y7 <| s
  cases Yn:(decide (Ye < (Y7.length:Int))) with
  | true =>
   have YM:=odt Yn
   have YS:(0:Int)≤Ye:=by clear p; exact (by assumption)
   have YT:Ye < (Y7.length:Int):=by clear p; exact (by assumption)
   have q {a C} (s:Scr a C):=p (sB Yn <| sG (cI .i64) Y7 Ye YS YT <| s)
   clear p
   cases YL:((Y7.getD Ye.toNat default) != Yg) with
   | true =>
    have Y1a:=bne_iff_ne.1 YL
    have e:Z1X Y7 Yq (k + 1) Yg Ye=(.inl ()):=by simp only [Z1X,Yn,YL,cond_true]
    rw [e]
    exact outR (e := .ret) E0Ok Z4 [] (mR false [4,1,16]) [] (q (sB YL <| sN)) (by kernel_rfl) (by intro h; cases h)
   | false =>
    have Y1a:=bne_eq_false_iff_eq.1 YL
    have YY:(-9223372036854775808:Int)≤(Ye + 1):=by clear q; exact (by omega)
    have YZ:(Ye + 1)≤(9223372036854775807:Int):=by clear q; exact (by omega)
    have e:Z1X Y7 Yq (k + 1) Yg Ye=(Z1X Y7 Yq k (IntKind.wrap .i64 (Yg + 1)) (Ye + 1)):=by simp only [Z1X,Yn,YL,cond_true,cond_false]
    rw [e]
    exact X9 E0Ok Z4 [] (mR false [0,2,3,1,15]) [] (ih (IntKind.wrap .i64 (Yg + 1)) (Ye + 1) (show 0≤(Ye + 1) from (by omega)) (by omega)) (q (sB YL <| sW .i64 (Yg + 1) <| sI (Ye + 1) YY YZ <| sN)) (by kernel_rfl)
  | false =>
   have YM:=odf Yn
   have e:Z1X Y7 Yq (k + 1) Yg Ye=(.inr Yg):=by simp only [Z1X,Yn,cond_false]
   rw [e]
   exact outR (e:=(.exit 0)) E0Ok Z4 [] (mR false [1,1,19]) [] (p (sB Yn <| sN)) (by kernel_rfl) (by intro h; cases h)
def Z4o (Y7:(List Int)) (Yq:Int):(Unit) ⊕ (Int):=(Z1X Y7 Yq (((Y7.length:Int) - 0).toNat + 1) Yq 0)
def Z1v (Y7:(List Int)) (Yq:Int):Int:=(match (Z4o Y7 Yq) with
  | .inl r1 => (-1)
  | .inr r1 => r1)
theorem Zfd (Y7:(List Int)) (Yq:Int) (hp0:Y7.length≤1073741824)  : Fn prog 143 [.sl (Y7.map (cI .i64)), .i .i64 Yq] (.i .i64 (Z1v Y7 Yq)) []:=by
 cases h0:(Z4o Y7 Yq) with
 | inl r1 =>
  refine fnS E0Ok Z4 (c:=X0 f143) [] (.i .i64 (-1)) [] func143 (sL (mR false [0,2,3,1,15]) 0 (X1 (Z5r Y7 Yq) (x:=(Z4o Y7 Yq)) (Z9L Y7 Yq hp0 (((Y7.length:Int) - 0).toNat + 1) Yq 0 (show 0≤0 from (by omega)) (Nat.lt_succ_self _)) h0) <| sK [] sN) rfl (by kernel_rfl) (by kernel_rfl) rfl ?_ ?_
  · simp only [Z1v,h0]
  · rfl
 | inr r1 =>
  refine fnS E0Ok Z4 (c:=X0 f143) [] (.i .i64 r1) [] func143 (sL (mR false [0,2,3,1,15]) 0 (X1 (Z5r Y7 Yq) (x:=(Z4o Y7 Yq)) (Z9L Y7 Yq hp0 (((Y7.length:Int) - 0).toNat + 1) Yq 0 (show 0≤0 from (by omega)) (Nat.lt_succ_self _)) h0) <| sK [] sN) rfl (by kernel_rfl) (by kernel_rfl) rfl ?_ ?_
  · simp only [Z1v,h0]
  · rfl
def ZbZ (x:Int) (c:Int):Bool:=(!(x != c))
def Zdx (_:Int) (c:Int):Int:=(IntKind.wrap .i64 (c + 1))
theorem Zig (a:List Int) (c:Int):Z1v a c=match hdL ZbZ Zdx a c with
    | some c' => c'
    | none => -1:=by
  unfold Z1v Z4o
  rw [X1X (p:=ZbZ) (q:=Zdx) (a:=a) (x:=()) (lo:=Z1X a c) (fun k c i => by
    rw [Z1X]
    unfold ZbZ Zdx
    generalize a.getD i.toNat default=x
    cases decide (i < (a.length:Int)) <;> cases (x != c) <;> rfl) _ _ _ (Int.le_refl 0) (Nat.lt_succ_self _)]
  simp only [Int.toNat_zero,List.drop_zero]
  cases hdL ZbZ Zdx a c <;> rfl
def Z1L (Y7:(List (List Int))) (Yq:Int):Nat→Int→Int→(Unit) ⊕ (Int)
  | 0,_,_ => .inl default
  | k + 1,Yg,Ye => (cond (decide (Ye < (Y7.length:Int)))
    (cond (decide ((Z1v (Y7.getD Ye.toNat default) Yg) < 0))
      (.inl ())
      (Z1L Y7 Yq k (Z1v (Y7.getD Ye.toNat default) Yg) (Ye + 1)))
    (.inr Yg))
def Z56 (Y7:(List (List Int))) (Yq:Int):(Unit) ⊕ (Int)→Ex × St
  | .inl r => (.ret,⟨an 4 (.i .i64 (-1) :: an 16 []),[]⟩)
  | .inr r => ((.exit 0),⟨.any :: .i .i64 r :: an 19 [],[]⟩)
def ZcV (Y7:(List (List Int))) (Yq:Int) (Yg:Int) (Ye:Int):St:=⟨.sl (Y7.map (cL (cI .i64))) :: .i .i64 Yg :: .any :: .any :: .any :: .i .i64 Ye :: an 15 [],[]⟩
theorem Z8Y (Y7:(List (List Int))) (Yq:Int) (hp0:Y7.length≤1073741824) (hp1:∀ t∈Y7,t.length≤1073741824):∀ (k:Nat) (Yg:Int) (Ye:Int) (Z7T:0≤Ye) (hk:((Y7.length:Int) - Ye).toNat < k),Lp prog 0 (sub (X0 f125) [1,0,1,0,0]) (ZcV Y7 Yq Yg Ye) (Z56 Y7 Yq (Z1L Y7 Yq k Yg Ye)).1 (Z56 Y7 Yq (Z1L Y7 Yq k Yg Ye)).2:=by
 intro k
 induction k with
 | zero => intro Yg Ye Z7T hk; exact absurd hk (Nat.not_lt_zero _)
 | succ k ih =>
  intro Yg Ye Z7T hk
  have p {a C} (s:Scr a C):=sZ (cL (cI .i64)) Y7 <| s
  cases Yn:(decide (Ye < (Y7.length:Int))) with
  | true =>
   have YM:=odt Yn
   have YS:(0:Int)≤Ye:=by clear p; exact (by assumption)
   have YT:Ye < (Y7.length:Int):=by clear p; exact (by assumption)
   have YY:(Y7.getD Ye.toNat default).length≤1073741824:=by clear p; exact (by simp_all <;> omega)
   have q {a C} (s:Scr a C):=p (sB Yn <| sG (cL (cI .i64)) Y7 Ye YS YT <| sF (Zfd (Y7.getD Ye.toNat default) Yg YY) <| s)
   clear p
   cases YL:(decide ((Z1v (Y7.getD Ye.toNat default) Yg) < 0)) with
   | true =>
    have Y1a:=odt YL
    have e:Z1L Y7 Yq (k + 1) Yg Ye=(.inl ()):=by simp only [Z1L,Yn,YL,cond_true]
    rw [e]
    exact outR (e := .ret) E0Ok Z4 [] (mR false [4,1,16]) [] (q (sB YL <| sN)) (by kernel_rfl) (by intro h; cases h)
   | false =>
    have Y1a:=odf YL
    have YZ:(-9223372036854775808:Int)≤(Ye + 1):=by clear q; exact (by omega)
    have y_4:(Ye + 1)≤(9223372036854775807:Int):=by clear q; exact (by omega)
    have e:Z1L Y7 Yq (k + 1) Yg Ye=(Z1L Y7 Yq k (Z1v (Y7.getD Ye.toNat default) Yg) (Ye + 1)):=by simp only [Z1L,Yn,YL,cond_true,cond_false]
    rw [e]
    exact X9 E0Ok Z4 [] (mR false [0,2,3,1,15]) [] (ih (Z1v (Y7.getD Ye.toNat default) Yg) (Ye + 1) (show 0≤(Ye + 1) from (by omega)) (by omega)) (q (sB YL <| sI (Ye + 1) YZ y_4 <| sN)) (by kernel_rfl)
  | false =>
   have YM:=odf Yn
   have e:Z1L Y7 Yq (k + 1) Yg Ye=(.inr Yg):=by simp only [Z1L,Yn,cond_false]
   rw [e]
   exact outR (e:=(.exit 0)) E0Ok Z4 [] (mR false [1,1,19]) [] (p (sB Yn <| sN)) (by kernel_rfl) (by intro h; cases h)
def Z4g (Y7:(List (List Int))) (Yq:Int):(Unit) ⊕ (Int):=(Z1L Y7 Yq (((Y7.length:Int) - 0).toNat + 1) Yq 0)
def Z36 (Y7:(List (List Int))) (Yq:Int):Int:=(match (Z4g Y7 Yq) with
  | .inl r1 => (-1)
  | .inr r1 => r1)
theorem ZeO (Y7:(List (List Int))) (Yq:Int) (hp0:Y7.length≤1073741824) (hp1:∀ t∈Y7,t.length≤1073741824)  : Fn prog 125 [.sl (Y7.map (cL (cI .i64))), .i .i64 Yq] (.i .i64 (Z36 Y7 Yq)) []:=by
 cases h0:(Z4g Y7 Yq) with
 | inl r1 =>
  refine fnS E0Ok Z4 (c:=X0 f125) [] (.i .i64 (-1)) [] func125 (sL (mR false [0,2,3,1,15]) 0 (X1 (Z56 Y7 Yq) (x:=(Z4g Y7 Yq)) (Z8Y Y7 Yq hp0 hp1 (((Y7.length:Int) - 0).toNat + 1) Yq 0 (show 0≤0 from (by omega)) (Nat.lt_succ_self _)) h0) <| sK [] sN) rfl (by kernel_rfl) (by kernel_rfl) rfl ?_ ?_
  · simp only [Z36,h0]
  · rfl
 | inr r1 =>
  refine fnS E0Ok Z4 (c:=X0 f125) [] (.i .i64 r1) [] func125 (sL (mR false [0,2,3,1,15]) 0 (X1 (Z56 Y7 Yq) (x:=(Z4g Y7 Yq)) (Z8Y Y7 Yq hp0 hp1 (((Y7.length:Int) - 0).toNat + 1) Yq 0 (show 0≤0 from (by omega)) (Nat.lt_succ_self _)) h0) <| sK [] sN) rfl (by kernel_rfl) (by kernel_rfl) rfl ?_ ?_
  · simp only [Z36,h0]
  · rfl
theorem Zhy (a:List (List Int)) (c:Int):Z36 a c=match hdL (fun x c => !(decide (Z1v x c < 0))) Z1v a c with
    | some c' => c'
    | none => -1:=by
  unfold Z36 Z4g
  rw [X1X (p:=fun x c => !(decide (Z1v x c < 0))) (q:=Z1v) (a:=a) (x:=()) (lo:=Z1L a c) (fun k c i => by
    rw [Z1L]
    cases decide (i < (a.length:Int)) <;> cases decide (Z1v (a.getD i.toNat default) c < 0) <;> rfl) _ _ _ (Int.le_refl 0) (Nat.lt_succ_self _)]
  simp only [Int.toNat_zero,List.drop_zero]
  cases hdL (fun x c => !(decide (Z1v x c < 0))) Z1v a c <;> rfl
def Z2a (Y7:Gm) (Yq:Int):Int:=(cond (decide ((Z1s Y7.Pq Yq) < 0))
  (-1)
  (cond (decide ((Z36 Y7.Tr (Z1s Y7.Pq Yq)) < 0))
    (-1)
    (Z36 Y7.Tr (Z1s Y7.Pq Yq))))
theorem Zgg (Y7:Gm) (Yq:Int) (hp0:Y7.Pq.length≤1073741824) (hp1:Y7.Tr.length≤1073741824) (hp2:∀ t∈Y7.Tr,t.length≤1073741824)  : Fn prog 73 [.agg [.sl (Y7.Pq.map Gv.c), .sl (Y7.Tr.map (cL (cI .i64)))], .i .i64 Yq] (.i .i64 (Z2a Y7 Yq)) []:=by
 have p {a C} (s:Scr a C):=sF (ZaV Y7.Pq Yq hp0) <| s
 cases h0:(decide ((Z1s Y7.Pq Yq) < 0)) with
 | true =>
  have gh0:=odt h0
  refine fnS E0Ok Z4 (c:=X0 f73) [] (.i .i64 (-1)) [] func73 (p (sB h0 <| sK [] sN)) rfl (by kernel_rfl) (by kernel_rfl) rfl ?_ ?_
  · simp only [Z2a,h0,cond_true]
  · rfl
 | false =>
  have gh0:=odf h0
  have q {a C} (s:Scr a C):=p (sB h0 <| sF (ZeO Y7.Tr (Z1s Y7.Pq Yq) hp1 hp2) <| s)
  clear p
  cases h1:(decide ((Z36 Y7.Tr (Z1s Y7.Pq Yq)) < 0)) with
  | true =>
   have gh1:=odt h1
   refine fnS E0Ok Z4 (c:=X0 f73) [] (.i .i64 (-1)) [] func73 (q (sB h1 <| sK [] sN)) rfl (by kernel_rfl) (by kernel_rfl) rfl ?_ ?_
   · simp only [Z2a,h0,h1,cond_true,cond_false]
   · rfl
  | false =>
   have gh1:=odf h1
   refine fnS E0Ok Z4 (c:=X0 f73) [] (.i .i64 (Z36 Y7.Tr (Z1s Y7.Pq Yq))) [] func73 (q (sB h1 <| sK [] sN)) rfl (by kernel_rfl) (by kernel_rfl) rfl ?_ ?_
   · simp only [Z2a,h0,h1,cond_false]
   · rfl
def ZR (Y7:(List Gs)) (Yq:Int):Nat→Int→Int→(Unit) ⊕ (Int)
  | 0,_,_ => .inl default
  | k + 1,Yg,Ye => (cond (decide (Ye < (Y7.length:Int)))
    (cond ((Y7.getD Ye.toNat default).A != Yg)
      (.inl ())
      (cond ((Y7.getD Ye.toNat default).B != (IntKind.wrap .i64 (Yg + 1)))
        (.inl ())
        (cond (fcmp .neq .f32 ((Y7.getD Ye.toNat default).Long) (X2 .f32 (IntKind.wrap .i64 ((IntKind.wrap .i64 (Yg + 1)) + 1))))
          (.inl ())
          (cond (fcmp .neq .f32 ((Y7.getD Ye.toNat default).Stiff) (X2 .f32 (IntKind.wrap .i64 ((IntKind.wrap .i64 ((IntKind.wrap .i64 (Yg + 1)) + 1)) + 1))))
            (.inl ())
            (ZR Y7 Yq k (IntKind.wrap .i64 ((IntKind.wrap .i64 ((IntKind.wrap .i64 ((IntKind.wrap .i64 (Yg + 1)) + 1)) + 1)) + 1)) (Ye + 1))))))
    (.inr Yg))
def Z57 (Y7:(List Gs)) (Yq:Int):(Unit) ⊕ (Int)→Ex × St
  | .inl r => (.ret,⟨an 4 (.i .i64 (-1) :: an 46 []),[]⟩)
  | .inr r => ((.exit 0),⟨.any :: .i .i64 r :: an 49 [],[]⟩)
def ZcW (Y7:(List Gs)) (Yq:Int) (Yg:Int) (Ye:Int):St:=⟨.sl (Y7.map Gs.c) :: .i .i64 Yg :: .any :: .any :: .any :: .i .i64 Ye :: an 45 [],[]⟩
theorem Z8Z (Y7:(List Gs)) (Yq:Int) (hp0:Y7.length≤1073741824):∀ (k:Nat) (Yg:Int) (Ye:Int) (Z7U:0≤Ye) (hk:((Y7.length:Int) - Ye).toNat < k),Lp prog 0 (sub (X0 f74) [1,0,1,0,0]) (ZcW Y7 Yq Yg Ye) (Z57 Y7 Yq (ZR Y7 Yq k Yg Ye)).1 (Z57 Y7 Yq (ZR Y7 Yq k Yg Ye)).2:=by
 intro k
 induction k with
 | zero => intro Yg Ye Z7U hk; exact absurd hk (Nat.not_lt_zero _)
 | succ k ih =>
  intro Yg Ye Z7U hk
  have p {a C} (s:Scr a C):=sZ Gs.c Y7 <| s
  cases Yn:(decide (Ye < (Y7.length:Int))) with
  | true =>
   have YM:=odt Yn
   have YS:(0:Int)≤Ye:=by clear p; exact (by assumption)
   have YT:Ye < (Y7.length:Int):=by clear p; exact (by assumption)
   have q {a C} (s:Scr a C):=p (sB Yn <| sG Gs.c Y7 Ye YS YT <| s)
   clear p
   cases YL:((Y7.getD Ye.toNat default).A != Yg) with
   | true =>
    have Y1a:=bne_iff_ne.1 YL
    have e:ZR Y7 Yq (k + 1) Yg Ye=(.inl ()):=by simp only [ZR,Yn,YL,cond_true]
    rw [e]
    exact outR (e := .ret) E0Ok Z4 [] (mR false [4,1,46]) [] (q (sB YL <| sN)) (by kernel_rfl) (by intro h; cases h)
   | false =>
    have Y1a:=bne_eq_false_iff_eq.1 YL
    have p {a C} (s:Scr a C):=q (sB YL <| sW .i64 (Yg + 1) <| sG Gs.c Y7 Ye YS YT <| s)
    clear q
    cases h_2:((Y7.getD Ye.toNat default).B != (IntKind.wrap .i64 (Yg + 1))) with
    | true =>
     have Y1p:=bne_iff_ne.1 h_2
     have e:ZR Y7 Yq (k + 1) Yg Ye=(.inl ()):=by simp only [ZR,Yn,YL,h_2,cond_true,cond_false]
     rw [e]
     exact outR (e := .ret) E0Ok Z4 [] (mR false [4,1,46]) [] (p (sB h_2 <| sN)) (by kernel_rfl) (by intro h; cases h)
    | false =>
     have Y1p:=bne_eq_false_iff_eq.1 h_2
     have q {a C} (s:Scr a C):=p (sB h_2 <| sW .i64 ((IntKind.wrap .i64 (Yg + 1)) + 1) <| sG Gs.c Y7 Ye YS YT <| s)
     clear p
     cases h_3:(fcmp .neq .f32 ((Y7.getD Ye.toNat default).Long) (X2 .f32 (IntKind.wrap .i64 ((IntKind.wrap .i64 (Yg + 1)) + 1)))) with
     | true =>
      have e:ZR Y7 Yq (k + 1) Yg Ye=(.inl ()):=by simp only [ZR,Yn,YL,h_2,h_3,cond_true,cond_false]
      rw [e]
      exact outR (e := .ret) E0Ok Z4 [] (mR false [4,1,46]) [] (q (sB h_3 <| sN)) (by kernel_rfl) (by intro h; cases h)
     | false =>
      have p {a C} (s:Scr a C):=q (sB h_3 <| sW .i64 ((IntKind.wrap .i64 ((IntKind.wrap .i64 (Yg + 1)) + 1)) + 1) <| sG Gs.c Y7 Ye YS YT <| s)
      clear q
      cases h_4:(fcmp .neq .f32 ((Y7.getD Ye.toNat default).Stiff) (X2 .f32 (IntKind.wrap .i64 ((IntKind.wrap .i64 ((IntKind.wrap .i64 (Yg + 1)) + 1)) + 1)))) with
      | true =>
       have e:ZR Y7 Yq (k + 1) Yg Ye=(.inl ()):=by simp only [ZR,Yn,YL,h_2,h_3,h_4,cond_true,cond_false]
       rw [e]
       exact outR (e := .ret) E0Ok Z4 [] (mR false [4,1,46]) [] (p (sB h_4 <| sN)) (by kernel_rfl) (by intro h; cases h)
      | false =>
       have YY:(-9223372036854775808:Int)≤(Ye + 1):=by clear p; exact (by omega)
       have YZ:(Ye + 1)≤(9223372036854775807:Int):=by clear p; exact (by omega)
       have e:ZR Y7 Yq (k + 1) Yg Ye=(ZR Y7 Yq k (IntKind.wrap .i64 ((IntKind.wrap .i64 ((IntKind.wrap .i64 ((IntKind.wrap .i64 (Yg + 1)) + 1)) + 1)) + 1)) (Ye + 1)):=by simp only [ZR,Yn,YL,h_2,h_3,h_4,cond_true,cond_false]
       rw [e]
       exact X9 E0Ok Z4 [] (mR false [0,2,3,1,45]) [] (ih (IntKind.wrap .i64 ((IntKind.wrap .i64 ((IntKind.wrap .i64 ((IntKind.wrap .i64 (Yg + 1)) + 1)) + 1)) + 1)) (Ye + 1) (show 0≤(Ye + 1) from (by omega)) (by omega)) (p (sB h_4 <| sW .i64 ((IntKind.wrap .i64 ((IntKind.wrap .i64 ((IntKind.wrap .i64 (Yg + 1)) + 1)) + 1)) + 1) <| sI (Ye + 1) YY YZ <| sN)) (by kernel_rfl)
  | false =>
   have YM:=odf Yn
   have e:ZR Y7 Yq (k + 1) Yg Ye=(.inr Yg):=by simp only [ZR,Yn,cond_false]
   rw [e]
   exact outR (e:=(.exit 0)) E0Ok Z4 [] (mR false [1,1,49]) [] (p (sB Yn <| sN)) (by kernel_rfl) (by intro h; cases h)
def Z4h (Y7:(List Gs)) (Yq:Int):(Unit) ⊕ (Int):=(ZR Y7 Yq (((Y7.length:Int) - 0).toNat + 1) Yq 0)
def Z2g (Y7:(List Gs)) (Yq:Int):Int:=(match (Z4h Y7 Yq) with
  | .inl r1 => (-1)
  | .inr r1 => r1)
theorem ZeP (Y7:(List Gs)) (Yq:Int) (hp0:Y7.length≤1073741824)  : Fn prog 74 [.sl (Y7.map Gs.c), .i .i64 Yq] (.i .i64 (Z2g Y7 Yq)) []:=by
 cases h0:(Z4h Y7 Yq) with
 | inl r1 =>
  refine fnS E0Ok Z4 (c:=X0 f74) [] (.i .i64 (-1)) [] func74 (sL (mR false [0,2,3,1,45]) 0 (X1 (Z57 Y7 Yq) (x:=(Z4h Y7 Yq)) (Z8Z Y7 Yq hp0 (((Y7.length:Int) - 0).toNat + 1) Yq 0 (show 0≤0 from (by omega)) (Nat.lt_succ_self _)) h0) <| sK [] sN) rfl (by kernel_rfl) (by kernel_rfl) rfl ?_ ?_
  · simp only [Z2g,h0]
  · rfl
 | inr r1 =>
  refine fnS E0Ok Z4 (c:=X0 f74) [] (.i .i64 r1) [] func74 (sL (mR false [0,2,3,1,45]) 0 (X1 (Z57 Y7 Yq) (x:=(Z4h Y7 Yq)) (Z8Z Y7 Yq hp0 (((Y7.length:Int) - 0).toNat + 1) Yq 0 (show 0≤0 from (by omega)) (Nat.lt_succ_self _)) h0) <| sK [] sN) rfl (by kernel_rfl) (by kernel_rfl) rfl ?_ ?_
  · simp only [Z2g,h0]
  · rfl
def ZaX (x:Gs) (c:Int):Bool:=(!(x.A != c)) && (!(x.B != (IntKind.wrap .i64 (c + 1)))) && (!(fcmp .neq .f32 x.Long (X2 .f32 (IntKind.wrap .i64 ((IntKind.wrap .i64 (c + 1)) + 1))))) && (!(fcmp .neq .f32 x.Stiff (X2 .f32 (IntKind.wrap .i64 ((IntKind.wrap .i64 ((IntKind.wrap .i64 (c + 1)) + 1)) + 1)))))
def Zcl (_:Gs) (c:Int):Int:=(IntKind.wrap .i64 ((IntKind.wrap .i64 ((IntKind.wrap .i64 ((IntKind.wrap .i64 (c + 1)) + 1)) + 1)) + 1))
theorem ZhQ (a:List Gs) (c:Int):Z2g a c=match hdL ZaX Zcl a c with
    | some c' => c'
    | none => -1:=by
  unfold Z2g Z4h
  rw [X1X (p:=ZaX) (q:=Zcl) (a:=a) (x:=()) (lo:=ZR a c) (fun k c i => by
    rw [ZR]
    unfold ZaX Zcl
    generalize a.getD i.toNat default=x
    cases decide (i < (a.length:Int)) <;> cases (x.A != c) <;> cases (x.B != (IntKind.wrap .i64 (c + 1))) <;> cases fcmp .neq .f32 x.Long (X2 .f32 (IntKind.wrap .i64 ((IntKind.wrap .i64 (c + 1)) + 1))) <;> cases fcmp .neq .f32 x.Stiff (X2 .f32 (IntKind.wrap .i64 ((IntKind.wrap .i64 ((IntKind.wrap .i64 (c + 1)) + 1)) + 1))) <;> rfl) _ _ _ (Int.le_refl 0) (Nat.lt_succ_self _)]
  simp only [Int.toNat_zero,List.drop_zero]
  cases hdL ZaX Zcl a c <;> rfl
def Z1A (Y7:(List Nat)) (Yq:Int):Nat→Int→Int→(Unit) ⊕ (Int)
  | 0,_,_ => .inl default
  | k + 1,Yg,Ye => (cond (decide (Ye < (Y7.length:Int)))
    (cond (fcmp .neq .f32 (Y7.getD Ye.toNat default) (X2 .f32 Yg))
      (.inl ())
      (Z1A Y7 Yq k (IntKind.wrap .i64 (Yg + 1)) (Ye + 1)))
    (.inr Yg))
def Z4Q (Y7:(List Nat)) (Yq:Int):(Unit) ⊕ (Int)→Ex × St
  | .inl r => (.ret,⟨an 4 (.i .i64 (-1) :: an 17 []),[]⟩)
  | .inr r => ((.exit 0),⟨.any :: .i .i64 r :: an 20 [],[]⟩)
def Zcv (Y7:(List Nat)) (Yq:Int) (Yg:Int) (Ye:Int):St:=⟨.sl (Y7.map (cF .f32)) :: .i .i64 Yg :: .any :: .any :: .any :: .i .i64 Ye :: an 16 [],[]⟩
theorem Z8h (Y7:(List Nat)) (Yq:Int) (hp0:Y7.length≤1073741824):∀ (k:Nat) (Yg:Int) (Ye:Int) (Z7M:0≤Ye) (hk:((Y7.length:Int) - Ye).toNat < k),Lp prog 0 (sub (X0 f42) [1,0,1,0,0]) (Zcv Y7 Yq Yg Ye) (Z4Q Y7 Yq (Z1A Y7 Yq k Yg Ye)).1 (Z4Q Y7 Yq (Z1A Y7 Yq k Yg Ye)).2:=by
 intro k
 induction k with
 | zero => intro Yg Ye Z7M hk; exact absurd hk (Nat.not_lt_zero _)
 | succ k ih =>
  intro Yg Ye Z7M hk
  have p {a C} (s:Scr a C):=sZ (cF .f32) Y7 <| s
  cases Yn:(decide (Ye < (Y7.length:Int))) with
  | true =>
   have YM:=odt Yn
   have YS:(0:Int)≤Ye:=by clear p; exact (by assumption)
   have YT:Ye < (Y7.length:Int):=by clear p; exact (by assumption)
   have q {a C} (s:Scr a C):=p (sB Yn <| sG (cF .f32) Y7 Ye YS YT <| s)
   clear p
   cases YL:(fcmp .neq .f32 (Y7.getD Ye.toNat default) (X2 .f32 Yg)) with
   | true =>
    have e:Z1A Y7 Yq (k + 1) Yg Ye=(.inl ()):=by simp only [Z1A,Yn,YL,cond_true]
    rw [e]
    exact outR (e := .ret) E0Ok Z4 [] (mR false [4,1,17]) [] (q (sB YL <| sN)) (by kernel_rfl) (by intro h; cases h)
   | false =>
    have YY:(-9223372036854775808:Int)≤(Ye + 1):=by clear q; exact (by omega)
    have YZ:(Ye + 1)≤(9223372036854775807:Int):=by clear q; exact (by omega)
    have e:Z1A Y7 Yq (k + 1) Yg Ye=(Z1A Y7 Yq k (IntKind.wrap .i64 (Yg + 1)) (Ye + 1)):=by simp only [Z1A,Yn,YL,cond_true,cond_false]
    rw [e]
    exact X9 E0Ok Z4 [] (mR false [0,2,3,1,16]) [] (ih (IntKind.wrap .i64 (Yg + 1)) (Ye + 1) (show 0≤(Ye + 1) from (by omega)) (by omega)) (q (sB YL <| sW .i64 (Yg + 1) <| sI (Ye + 1) YY YZ <| sN)) (by kernel_rfl)
  | false =>
   have YM:=odf Yn
   have e:Z1A Y7 Yq (k + 1) Yg Ye=(.inr Yg):=by simp only [Z1A,Yn,cond_false]
   rw [e]
   exact outR (e:=(.exit 0)) E0Ok Z4 [] (mR false [1,1,20]) [] (p (sB Yn <| sN)) (by kernel_rfl) (by intro h; cases h)
def Z49 (Y7:(List Nat)) (Yq:Int):(Unit) ⊕ (Int):=(Z1A Y7 Yq (((Y7.length:Int) - 0).toNat + 1) Yq 0)
def Z1V (Y7:(List Nat)) (Yq:Int):Int:=(match (Z49 Y7 Yq) with
  | .inl r1 => (-1)
  | .inr r1 => r1)
theorem Z76 (Y7:(List Nat)) (Yq:Int) (hp0:Y7.length≤1073741824)  : Fn prog 42 [.sl (Y7.map (cF .f32)), .i .i64 Yq] (.i .i64 (Z1V Y7 Yq)) []:=by
 cases h0:(Z49 Y7 Yq) with
 | inl r1 =>
  refine fnS E0Ok Z4 (c:=X0 f42) [] (.i .i64 (-1)) [] func42 (sL (mR false [0,2,3,1,16]) 0 (X1 (Z4Q Y7 Yq) (x:=(Z49 Y7 Yq)) (Z8h Y7 Yq hp0 (((Y7.length:Int) - 0).toNat + 1) Yq 0 (show 0≤0 from (by omega)) (Nat.lt_succ_self _)) h0) <| sK [] sN) rfl (by kernel_rfl) (by kernel_rfl) rfl ?_ ?_
  · simp only [Z1V,h0]
  · rfl
 | inr r1 =>
  refine fnS E0Ok Z4 (c:=X0 f42) [] (.i .i64 r1) [] func42 (sL (mR false [0,2,3,1,16]) 0 (X1 (Z4Q Y7 Yq) (x:=(Z49 Y7 Yq)) (Z8h Y7 Yq hp0 (((Y7.length:Int) - 0).toNat + 1) Yq 0 (show 0≤0 from (by omega)) (Nat.lt_succ_self _)) h0) <| sK [] sN) rfl (by kernel_rfl) (by kernel_rfl) rfl ?_ ?_
  · simp only [Z1V,h0]
  · rfl
def Z9M (x:Nat) (c:Int):Bool:=(!(fcmp .neq .f32 x (X2 .f32 c)))
def ZbB (_:Nat) (c:Int):Int:=(IntKind.wrap .i64 (c + 1))
theorem Zhz (a:List Nat) (c:Int):Z1V a c=match hdL Z9M ZbB a c with
    | some c' => c'
    | none => -1:=by
  unfold Z1V Z49
  rw [X1X (p:=Z9M) (q:=ZbB) (a:=a) (x:=()) (lo:=Z1A a c) (fun k c i => by
    rw [Z1A]
    unfold Z9M ZbB
    generalize a.getD i.toNat default=x
    cases decide (i < (a.length:Int)) <;> cases fcmp .neq .f32 x (X2 .f32 c) <;> rfl) _ _ _ (Int.le_refl 0) (Nat.lt_succ_self _)]
  simp only [Int.toNat_zero,List.drop_zero]
  cases hdL Z9M ZbB a c <;> rfl
def Z2C (Y7:Gb) (Yq:Int):Int:=(cond (decide ((Z2a Y7.Me Yq) < 0))
  (-1)
  (cond (decide ((Z2g Y7.Sp (Z2a Y7.Me Yq)) < 0))
    (-1)
    (cond (decide ((Z1V Y7.We (Z2g Y7.Sp (Z2a Y7.Me Yq))) < 0))
      (-1)
      (Z1V Y7.We (Z2g Y7.Sp (Z2a Y7.Me Yq))))))
theorem Zgh (Y7:Gb) (Yq:Int) (hp0:Y7.Me.Pq.length≤1073741824) (hp1:Y7.Me.Tr.length≤1073741824) (hp2:∀ t∈Y7.Me.Tr,t.length≤1073741824) (hp3:Y7.Sp.length≤1073741824) (hp4:Y7.We.length≤1073741824)  : Fn prog 30 [.agg [.sl (Y7.Me.Pq.map Gv.c), .sl (Y7.Me.Tr.map (cL (cI .i64))), .sl (Y7.Sp.map Gs.c), .f .f32 Y7.Film, .f .f32 Y7.Bend, .sl (Y7.We.map (cF .f32)), .f .f32 Y7.Fall.X, .f .f32 Y7.Fall.Y, .f .f32 Y7.Fall.Z], .i .i64 Yq] (.i .i64 (Z2C Y7 Yq)) []:=by
 have p {a C} (s:Scr a C):=sF (Zgg Y7.Me Yq hp0 hp1 hp2) <| s
 cases h0:(decide ((Z2a Y7.Me Yq) < 0)) with
 | true =>
  have gh0:=odt h0
  refine fnS E0Ok Z4 (c:=X0 f30) [] (.i .i64 (-1)) [] func30 (p (sB h0 <| sK [] sN)) rfl (by kernel_rfl) (by kernel_rfl) rfl ?_ ?_
  · simp only [Z2C,h0,cond_true]
  · rfl
 | false =>
  have gh0:=odf h0
  have q {a C} (s:Scr a C):=p (sB h0 <| sF (ZeP Y7.Sp (Z2a Y7.Me Yq) hp3) <| s)
  clear p
  cases h1:(decide ((Z2g Y7.Sp (Z2a Y7.Me Yq)) < 0)) with
  | true =>
   have gh1:=odt h1
   refine fnS E0Ok Z4 (c:=X0 f30) [] (.i .i64 (-1)) [] func30 (q (sB h1 <| sK [] sN)) rfl (by kernel_rfl) (by kernel_rfl) rfl ?_ ?_
   · simp only [Z2C,h0,h1,cond_true,cond_false]
   · rfl
  | false =>
   have gh1:=odf h1
   have p {a C} (s:Scr a C):=q (sB h1 <| sF (Z76 Y7.We (Z2g Y7.Sp (Z2a Y7.Me Yq)) hp4) <| s)
   clear q
   cases h2:(decide ((Z1V Y7.We (Z2g Y7.Sp (Z2a Y7.Me Yq))) < 0)) with
   | true =>
    have gh2:=odt h2
    refine fnS E0Ok Z4 (c:=X0 f30) [] (.i .i64 (-1)) [] func30 (p (sB h2 <| sK [] sN)) rfl (by kernel_rfl) (by kernel_rfl) rfl ?_ ?_
    · simp only [Z2C,h0,h1,h2,cond_true,cond_false]
    · rfl
   | false =>
    have gh2:=odf h2
    refine fnS E0Ok Z4 (c:=X0 f30) [] (.i .i64 (Z1V Y7.We (Z2g Y7.Sp (Z2a Y7.Me Yq)))) [] func30 (p (sB h2 <| sK [] sN)) rfl (by kernel_rfl) (by kernel_rfl) rfl ?_ ?_
    · simp only [Z2C,h0,h1,h2,cond_false]
    · rfl
def Z2b (Y7:Gn) (Yq:Int):Int:=(cond (decide ((Z2C Y7.Body Yq) < 0))
  (-1)
  (cond (decide ((Z1s Y7.Sd (Z2C Y7.Body Yq)) < 0))
    (-1)
    (Z1s Y7.Sd (Z2C Y7.Body Yq))))
theorem Zbq (Y7:Gn) (Yq:Int) (hp0:Y7.Body.Me.Pq.length≤1073741824) (hp1:Y7.Body.Me.Tr.length≤1073741824) (hp2:∀ t∈Y7.Body.Me.Tr,t.length≤1073741824) (hp3:Y7.Body.Sp.length≤1073741824) (hp4:Y7.Body.We.length≤1073741824) (hp5:Y7.Sd.length≤1073741824)  : Fn prog 37 [.agg [.sl (Y7.Body.Me.Pq.map Gv.c), .sl (Y7.Body.Me.Tr.map (cL (cI .i64))), .sl (Y7.Body.Sp.map Gs.c), .f .f32 Y7.Body.Film, .f .f32 Y7.Body.Bend, .sl (Y7.Body.We.map (cF .f32)), .f .f32 Y7.Body.Fall.X, .f .f32 Y7.Body.Fall.Y, .f .f32 Y7.Body.Fall.Z, .sl (Y7.Sd.map Gv.c)], .i .i64 Yq] (.i .i64 (Z2b Y7 Yq)) []:=by
 have p {a C} (s:Scr a C):=sF (Zgh Y7.Body Yq hp0 hp1 hp2 hp3 hp4) <| s
 cases h0:(decide ((Z2C Y7.Body Yq) < 0)) with
 | true =>
  have gh0:=odt h0
  refine fnS E0Ok Z4 (c:=X0 f37) [] (.i .i64 (-1)) [] func37 (p (sB h0 <| sK [] sN)) rfl (by kernel_rfl) (by kernel_rfl) rfl ?_ ?_
  · simp only [Z2b,h0,cond_true]
  · rfl
 | false =>
  have gh0:=odf h0
  have q {a C} (s:Scr a C):=p (sB h0 <| sF (ZaV Y7.Sd (Z2C Y7.Body Yq) hp5) <| s)
  clear p
  cases h1:(decide ((Z1s Y7.Sd (Z2C Y7.Body Yq)) < 0)) with
  | true =>
   have gh1:=odt h1
   refine fnS E0Ok Z4 (c:=X0 f37) [] (.i .i64 (-1)) [] func37 (q (sB h1 <| sK [] sN)) rfl (by kernel_rfl) (by kernel_rfl) rfl ?_ ?_
   · simp only [Z2b,h0,h1,cond_true,cond_false]
   · rfl
  | false =>
   have gh1:=odf h1
   refine fnS E0Ok Z4 (c:=X0 f37) [] (.i .i64 (Z1s Y7.Sd (Z2C Y7.Body Yq))) [] func37 (q (sB h1 <| sK [] sN)) rfl (by kernel_rfl) (by kernel_rfl) rfl ?_ ?_
   · simp only [Z2b,h0,h1,cond_false]
   · rfl
def Z1a (Y0:Gn) (Yw:(List Int)) (YA:Nat) (Yy:Nat) (YB:Nat) (YC:Int):Bool:=(cond (decide ((Yw.length:Int) > 1048576))
  true
  (cond (decide ((Z29 Y0 1048576) < 0))
    true
    (cond (Z3K ((Z1 Y0 Yw YA Yy YB YC).1) ((Z7 Y0 Yw YA Yy YB YC).1))
      (cond (Z3m ((Z1 Y0 Yw YA Yy YB YC).2.1) ((Z7 Y0 Yw YA Yy YB YC).2.1))
        (cond ((Z1 Y0 Yw YA Yy YB YC).2.2 == (Z7 Y0 Yw YA Yy YB YC).2.2)
          (cond (Z3K Y0 Y0)
            (cond (Z3b Yw Yw)
              (cond (decide ((Z2f Yw ((Z0 Y0 1).1)).1 < 0))
                false
                (cond (decide ((Z2b (⟨(⟨(⟨(Z0 ((Z1 Y0 Yw YA Yy YB YC).1) 1).2.1,(Z0 ((Z1 Y0 Yw YA Yy YB YC).1) 1).2.2.1⟩:Gm),(Z0 ((Z1 Y0 Yw YA Yy YB YC).1) 1).2.2.2.1,(Z1 Y0 Yw YA Yy YB YC).1.Body.Film,(Z1 Y0 Yw YA Yy YB YC).1.Body.Bend,(Z0 ((Z1 Y0 Yw YA Yy YB YC).1) 1).2.2.2.2.1,(Z1 Y0 Yw YA Yy YB YC).1.Body.Fall⟩:Gb),(Z0 ((Z1 Y0 Yw YA Yy YB YC).1) 1).2.2.2.2.2⟩:Gn) 1) < 0))
                  false
                  (cond (decide ((Z1V ((Zu ((Z1 Y0 Yw YA Yy YB YC).2.1) ((Z0 ((Z1 Y0 Yw YA Yy YB YC).1) 1).1)).2) (Z2b (⟨(⟨(⟨(Z0 ((Z1 Y0 Yw YA Yy YB YC).1) 1).2.1,(Z0 ((Z1 Y0 Yw YA Yy YB YC).1) 1).2.2.1⟩:Gm),(Z0 ((Z1 Y0 Yw YA Yy YB YC).1) 1).2.2.2.1,(Z1 Y0 Yw YA Yy YB YC).1.Body.Film,(Z1 Y0 Yw YA Yy YB YC).1.Body.Bend,(Z0 ((Z1 Y0 Yw YA Yy YB YC).1) 1).2.2.2.2.1,(Z1 Y0 Yw YA Yy YB YC).1.Body.Fall⟩:Gb),(Z0 ((Z1 Y0 Yw YA Yy YB YC).1) 1).2.2.2.2.2⟩:Gn) 1)) < 0))
                    false
                    (cond ((Z1V ((Zu ((Z1 Y0 Yw YA Yy YB YC).2.1) ((Z0 ((Z1 Y0 Yw YA Yy YB YC).1) 1).1)).2) (Z2b (⟨(⟨(⟨(Z0 ((Z1 Y0 Yw YA Yy YB YC).1) 1).2.1,(Z0 ((Z1 Y0 Yw YA Yy YB YC).1) 1).2.2.1⟩:Gm),(Z0 ((Z1 Y0 Yw YA Yy YB YC).1) 1).2.2.2.1,(Z1 Y0 Yw YA Yy YB YC).1.Body.Film,(Z1 Y0 Yw YA Yy YB YC).1.Body.Bend,(Z0 ((Z1 Y0 Yw YA Yy YB YC).1) 1).2.2.2.2.1,(Z1 Y0 Yw YA Yy YB YC).1.Body.Fall⟩:Gb),(Z0 ((Z1 Y0 Yw YA Yy YB YC).1) 1).2.2.2.2.2⟩:Gn) 1)) != (Zu ((Z1 Y0 Yw YA Yy YB YC).2.1) ((Z0 ((Z1 Y0 Yw YA Yy YB YC).1) 1).1)).1)
                      false
                      true))))
              false)
            false)
          false)
        false)
      false)))
set_option maxHeartbeats 1000000 in
theorem Zc2 (Y0:Gn) (Yw:(List Int)) (YA:Nat) (Yy:Nat) (YB:Nat) (YC:Int) (hp0:Y0.Body.Me.Pq.length≤9223372036854775807) (hp1:Y0.Body.Me.Tr.length≤9223372036854775807) (hp2:∀ t∈Y0.Body.Me.Tr,t.length≤9223372036854775807) (hp3:Y0.Body.Sp.length≤9223372036854775807) (hp4:Y0.Body.We.length≤9223372036854775807) (hp5:Y0.Sd.length≤9223372036854775807) (hp6:Yw.length≤9223372036854775807)  : Fn prog 10 [.agg [.sl (Y0.Body.Me.Pq.map Gv.c), .sl (Y0.Body.Me.Tr.map (cL (cI .i64))), .sl (Y0.Body.Sp.map Gs.c), .f .f32 Y0.Body.Film, .f .f32 Y0.Body.Bend, .sl (Y0.Body.We.map (cF .f32)), .f .f32 Y0.Body.Fall.X, .f .f32 Y0.Body.Fall.Y, .f .f32 Y0.Body.Fall.Z, .sl (Y0.Sd.map Gv.c)], .sl (Yw.map (cI .i64)), .f .f32 YA, .f .f32 Yy, .f .f32 YB, .i .i64 YC] (.b (Z1a Y0 Yw YA Yy YB YC)) []:=by
 have z0:=(ZbE Y0 1048576 (by omega) (by omega) (by assumption) (by omega) (by omega) (by omega) (by omega) (by omega))
 have p {a C} (s:Scr a C):=sZ (cI .i64) Yw <| s
 cases h0:(decide ((Yw.length:Int) > 1048576)) with
 | true =>
  have gh0:=odt h0
  refine fnS E0Ok Z4 (c:=X0 f10) [] (.b true) [] func10 (p (sB h0 <| sK [] sN)) rfl (by kernel_rfl) (by kernel_rfl) rfl ?_ ?_
  · simp only [Z1a,h0,cond_true]
  · rfl
 | false =>
  have gh0:=odf h0
  have q {a C} (s:Scr a C):=p (sB h0 <| sF (ZfU Y0 1048576 hp0 hp1 hp2 hp3 hp4 hp5) <| s)
  clear p
  cases h1:(decide ((Z29 Y0 1048576) < 0)) with
  | true =>
   have gh1:=odt h1
   refine fnS E0Ok Z4 (c:=X0 f10) [] (.b true) [] func10 (q (sB h1 <| sK [] sN)) rfl (by kernel_rfl) (by kernel_rfl) rfl ?_ ?_
   · simp only [Z1a,h0,h1,cond_true,cond_false]
   · rfl
  | false =>
   have gh1:=odf h1
   have y0:Y0.Body.Me.Pq.length≤1073741824:=by clear q; exact (by omega)
   have y1:Y0.Body.Me.Tr.length≤1073741824:=by clear q; exact (by omega)
   have y2:∀ t∈Y0.Body.Me.Tr,t.length≤1073741824:=by clear q; exact (by intro t ht; (have q:=z0.2.2.2.2.2.2.2 t ht; omega))
   have y3:Y0.Body.Sp.length≤1073741824:=by clear q; exact (by omega)
   have y4:Y0.Body.We.length≤1073741824:=by clear q; exact (by omega)
   have y5:Y0.Sd.length≤1073741824:=by clear q; exact (by omega)
   have y6:Yw.length≤1073741824:=by clear q; exact (by omega)
   have l1:=(Zay Y0 Yw YA Yy YB YC)
   have l2:=(Zaz Y0 Yw YA Yy YB YC)
   have l3:=(ZaA Y0 Yw YA Yy YB YC)
   have l4:=(ZaB Y0 Yw YA Yy YB YC)
   have l5:=(ZaC Y0 Yw YA Yy YB YC)
   have l6:=(ZaD Y0 Yw YA Yy YB YC)
   have l7:=(ZaJ Y0 Yw YA Yy YB YC)
   have l8:=(ZaK Y0 Yw YA Yy YB YC)
   have l9:=(ZaL Y0 Yw YA Yy YB YC)
   have l10:=(ZaM Y0 Yw YA Yy YB YC)
   have l11:=(ZaN Y0 Yw YA Yy YB YC)
   have l12:=(ZaO Y0 Yw YA Yy YB YC)
   have y7:((Z1 Y0 Yw YA Yy YB YC).1).Body.Me.Pq.length≤1073741824:=by clear q; exact (by omega)
   have y8:((Z1 Y0 Yw YA Yy YB YC).1).Body.Me.Tr.length≤1073741824:=by clear q; exact (by omega)
   have y9:∀ t∈((Z1 Y0 Yw YA Yy YB YC).1).Body.Me.Tr,t.length≤1073741824:=by clear q; exact (by (intro t ht; (have q:=z0.2.2.2.2.2.2.2 t (Z7H Y0 Yw YA Yy YB YC t ht); omega)))
   have y10:((Z1 Y0 Yw YA Yy YB YC).1).Body.Sp.length≤1073741824:=by clear q; exact (by omega)
   have y11:((Z1 Y0 Yw YA Yy YB YC).1).Body.We.length≤1073741824:=by clear q; exact (by omega)
   have y12:((Z1 Y0 Yw YA Yy YB YC).1).Sd.length≤1073741824:=by clear q; exact (by omega)
   have y13:((Z7 Y0 Yw YA Yy YB YC).1).Body.Me.Pq.length≤1073741824:=by clear q; exact (by omega)
   have y14:((Z7 Y0 Yw YA Yy YB YC).1).Body.Me.Tr.length≤1073741824:=by clear q; exact (by omega)
   have y15:∀ t∈((Z7 Y0 Yw YA Yy YB YC).1).Body.Me.Tr,t.length≤1073741824:=by clear q; exact (by (intro t ht; (have q:=z0.2.2.2.2.2.2.2 t (ZaE Y0 Yw YA Yy YB YC t ht); omega)))
   have y16:((Z7 Y0 Yw YA Yy YB YC).1).Body.Sp.length≤1073741824:=by clear q; exact (by omega)
   have y17:((Z7 Y0 Yw YA Yy YB YC).1).Body.We.length≤1073741824:=by clear q; exact (by omega)
   have y18:((Z7 Y0 Yw YA Yy YB YC).1).Sd.length≤1073741824:=by clear q; exact (by omega)
   have p {a C} (s:Scr a C):=q (sB h1 <| sF (Z79 Y0 y0 y1 y2 y3 y4 y5) <| sF (Z5J Yw y6) <| sF (Fn.castA (args':=[.agg [.sl (Y0.Body.Me.Pq.map Gv.c), .sl ((Y0.Body.Me.Tr.map fun l => l.map (cI .i64)).map fun l => [.sl l]), .sl (Y0.Body.Sp.map Gs.c), .f .f32 Y0.Body.Film, .f .f32 Y0.Body.Bend, .sl (Y0.Body.We.map (cF .f32)), .f .f32 Y0.Body.Fall.X, .f .f32 Y0.Body.Fall.Y, .f .f32 Y0.Body.Fall.Z, .sl (Y0.Sd.map Gv.c)], .sl (Yw.map (cI .i64)), .f .f32 YA, .f .f32 Yy, .f .f32 YB, .i .i64 YC]) (ZfH Y0 Yw YA Yy YB YC y0 y1 y2 y3 y4 y5 y6) (by simp [cL,Function.comp_def]; done)) <| sF (Z79 Y0 y0 y1 y2 y3 y4 y5) <| sF (Z5J Yw y6) <| sF (Fn.castA (args':=[.agg [.sl (Y0.Body.Me.Pq.map Gv.c), .sl ((Y0.Body.Me.Tr.map fun l => l.map (cI .i64)).map fun l => [.sl l]), .sl (Y0.Body.Sp.map Gs.c), .f .f32 Y0.Body.Film, .f .f32 Y0.Body.Bend, .sl (Y0.Body.We.map (cF .f32)), .f .f32 Y0.Body.Fall.X, .f .f32 Y0.Body.Fall.Y, .f .f32 Y0.Body.Fall.Z, .sl (Y0.Sd.map Gv.c)], .sl (Yw.map (cI .i64)), .f .f32 YA, .f .f32 Yy, .f .f32 YB, .i .i64 YC]) (ZbS Y0 Yw YA Yy YB YC y0 y1 y2 y3 y4 y5 y6) (by simp [cL,Function.comp_def]; done)) <| sF (Fn.castA (args':=[.agg [.sl (((Z1 Y0 Yw YA Yy YB YC).1.Body.Me.Pq).map Gv.c), .sl ((((Z1 Y0 Yw YA Yy YB YC).1.Body.Me.Tr).map fun l => l.map (cI .i64)).map fun l => [.sl l]), .sl (((Z1 Y0 Yw YA Yy YB YC).1.Body.Sp).map Gs.c), .f .f32 ((Z1 Y0 Yw YA Yy YB YC).1.Body.Film), .f .f32 ((Z1 Y0 Yw YA Yy YB YC).1.Body.Bend), .sl (((Z1 Y0 Yw YA Yy YB YC).1.Body.We).map (cF .f32)), .f .f32 ((Z1 Y0 Yw YA Yy YB YC).1.Body.Fall.X), .f .f32 ((Z1 Y0 Yw YA Yy YB YC).1.Body.Fall.Y), .f .f32 ((Z1 Y0 Yw YA Yy YB YC).1.Body.Fall.Z), .sl (((Z1 Y0 Yw YA Yy YB YC).1.Sd).map Gv.c)], .agg [.sl (((Z7 Y0 Yw YA Yy YB YC).1.Body.Me.Pq).map Gv.c), .sl ((((Z7 Y0 Yw YA Yy YB YC).1.Body.Me.Tr).map fun l => l.map (cI .i64)).map fun l => [.sl l]), .sl (((Z7 Y0 Yw YA Yy YB YC).1.Body.Sp).map Gs.c), .f .f32 ((Z7 Y0 Yw YA Yy YB YC).1.Body.Film), .f .f32 ((Z7 Y0 Yw YA Yy YB YC).1.Body.Bend), .sl (((Z7 Y0 Yw YA Yy YB YC).1.Body.We).map (cF .f32)), .f .f32 ((Z7 Y0 Yw YA Yy YB YC).1.Body.Fall.X), .f .f32 ((Z7 Y0 Yw YA Yy YB YC).1.Body.Fall.Y), .f .f32 ((Z7 Y0 Yw YA Yy YB YC).1.Body.Fall.Z), .sl (((Z7 Y0 Yw YA Yy YB YC).1.Sd).map Gv.c)]]) (Z7e ((Z1 Y0 Yw YA Yy YB YC).1) ((Z7 Y0 Yw YA Yy YB YC).1) y7 y8 y9 y10 y11 y12 y13 y14 y15 y16 y17 y18) (by simp [cL,Function.comp_def]; done)) <| s)
   clear q
   cases h2:(Z3K ((Z1 Y0 Yw YA Yy YB YC).1) ((Z7 Y0 Yw YA Yy YB YC).1)) with
   | true =>
    have y19:((Z1 Y0 Yw YA Yy YB YC).2.1).length≤1073741824:=by clear p; exact (by omega)
    have y20:((Z7 Y0 Yw YA Yy YB YC).2.1).length≤1073741824:=by clear p; exact (by omega)
    have q {a C} (s:Scr a C):=p (sB' h2 <| sB' h2 <| sB' h2 <| sF (Z5X ((Z1 Y0 Yw YA Yy YB YC).2.1) ((Z7 Y0 Yw YA Yy YB YC).2.1) y19 y20) <| sB' h2 <| sB' h2 <| s)
    clear p
    cases h3:(Z3m ((Z1 Y0 Yw YA Yy YB YC).2.1) ((Z7 Y0 Yw YA Yy YB YC).2.1)) with
    | true =>
     have p {a C} (s:Scr a C):=q (sB' h3 <| sB' h3 <| sB' h3 <| sB' h3 <| s)
     clear q
     cases h4:((Z1 Y0 Yw YA Yy YB YC).2.2 == (Z7 Y0 Yw YA Yy YB YC).2.2) with
     | true =>
      have gh4:=eq_of_beq h4
      have q {a C} (s:Scr a C):=p (sB' h4 <| sK [3,3] <| sF (Z79 Y0 y0 y1 y2 y3 y4 y5) <| sF (Fn.castA (args':=[.agg [.sl (Y0.Body.Me.Pq.map Gv.c), .sl ((Y0.Body.Me.Tr.map fun l => l.map (cI .i64)).map fun l => [.sl l]), .sl (Y0.Body.Sp.map Gs.c), .f .f32 Y0.Body.Film, .f .f32 Y0.Body.Bend, .sl (Y0.Body.We.map (cF .f32)), .f .f32 Y0.Body.Fall.X, .f .f32 Y0.Body.Fall.Y, .f .f32 Y0.Body.Fall.Z, .sl (Y0.Sd.map Gv.c)], .agg [.sl (Y0.Body.Me.Pq.map Gv.c), .sl ((Y0.Body.Me.Tr.map fun l => l.map (cI .i64)).map fun l => [.sl l]), .sl (Y0.Body.Sp.map Gs.c), .f .f32 Y0.Body.Film, .f .f32 Y0.Body.Bend, .sl (Y0.Body.We.map (cF .f32)), .f .f32 Y0.Body.Fall.X, .f .f32 Y0.Body.Fall.Y, .f .f32 Y0.Body.Fall.Z, .sl (Y0.Sd.map Gv.c)]]) (Z7e Y0 Y0 y0 y1 y2 y3 y4 y5 y0 y1 y2 y3 y4 y5) (by simp [cL,Function.comp_def]; done)) <| s)
      clear p
      cases h5:(Z3K Y0 Y0) with
      | true =>
       have p {a C} (s:Scr a C):=q (sB' h5 <| sF (Z5J Yw y6) <| sF (Zcg Yw Yw y6 y6) <| s)
       clear q
       cases h6:(Z3b Yw Yw) with
       | true =>
        have q {a C} (s:Scr a C):=p (sB' h6 <| sS (X3.frame (Z5y Y0 1 y0 y1 y2 y3 y4 y5) [14,15,16,17,18] (R:=[.box 63 [.sl (Y0.Body.Me.Pq.map Gv.c), .sl (Y0.Body.Me.Tr.map (cL (cI .i64))), .sl (Y0.Body.Sp.map Gs.c), .f .f32 Y0.Body.Film, .f .f32 Y0.Body.Bend, .sl (Y0.Body.We.map (cF .f32)), .f .f32 Y0.Body.Fall.X, .f .f32 Y0.Body.Fall.Y, .f .f32 Y0.Body.Fall.Z, .sl (Y0.Sd.map Gv.c)], .vec 40 3 (Y0.Body.Me.Pq.map Gv.c) false, .nest 49 (Y0.Body.Me.Tr.map fun l => l.map (cI .i64)) false, .vec 133 4 (Y0.Body.Sp.map Gs.c) false, .vec 27 1 (Y0.Body.We.map (cF .f32)) false, .vec 40 3 (Y0.Sd.map Gv.c) false, .vec 2 1 (Yw.map (cI .i64)) false, .vec 40 3 (((Z7 Y0 Yw YA Yy YB YC).1.Body.Me.Pq).map Gv.c) false, .nest 49 (((Z7 Y0 Yw YA Yy YB YC).1.Body.Me.Tr).map fun l => l.map (cI .i64)) false, .vec 133 4 (((Z7 Y0 Yw YA Yy YB YC).1.Body.Sp).map Gs.c) false, .vec 27 1 (((Z7 Y0 Yw YA Yy YB YC).1.Body.We).map (cF .f32)) false, .vec 40 3 (((Z7 Y0 Yw YA Yy YB YC).1.Sd).map Gv.c) false, .vec 27 1 (((Z7 Y0 Yw YA Yy YB YC).2.1).map (cF .f32)) false, .box 66 [.own 7, .own 8, .own 9, .f .f32 ((Z7 Y0 Yw YA Yy YB YC).1.Body.Film), .f .f32 ((Z7 Y0 Yw YA Yy YB YC).1.Body.Bend), .own 10, .f .f32 ((Z7 Y0 Yw YA Yy YB YC).1.Body.Fall.X), .f .f32 ((Z7 Y0 Yw YA Yy YB YC).1.Body.Fall.Y), .f .f32 ((Z7 Y0 Yw YA Yy YB YC).1.Body.Fall.Z), .own 11], .vec 40 3 (Y0.Body.Me.Pq.map Gv.c) false, .nest 49 (Y0.Body.Me.Tr.map fun l => l.map (cI .i64)) false, .vec 133 4 (Y0.Body.Sp.map Gs.c) false, .vec 27 1 (Y0.Body.We.map (cF .f32)) false, .vec 40 3 (Y0.Sd.map Gv.c) false, .box 66 [.own 14, .own 15, .own 16, .f .f32 Y0.Body.Film, .f .f32 Y0.Body.Bend, .own 17, .f .f32 Y0.Body.Fall.X, .f .f32 Y0.Body.Fall.Y, .f .f32 Y0.Body.Fall.Z, .own 18], .vec 2 1 (Yw.map (cI .i64)) false, .vec 40 3 (((Z1 Y0 Yw YA Yy YB YC).1.Body.Me.Pq).map Gv.c) false, .nest 49 (((Z1 Y0 Yw YA Yy YB YC).1.Body.Me.Tr).map fun l => l.map (cI .i64)) false, .vec 133 4 (((Z1 Y0 Yw YA Yy YB YC).1.Body.Sp).map Gs.c) false, .vec 27 1 (((Z1 Y0 Yw YA Yy YB YC).1.Body.We).map (cF .f32)) false, .vec 40 3 (((Z1 Y0 Yw YA Yy YB YC).1.Sd).map Gv.c) false, .vec 27 1 (((Z1 Y0 Yw YA Yy YB YC).2.1).map (cF .f32)) false, .box 66 [.own 21, .own 22, .own 23, .f .f32 ((Z1 Y0 Yw YA Yy YB YC).1.Body.Film), .f .f32 ((Z1 Y0 Yw YA Yy YB YC).1.Body.Bend), .own 24, .f .f32 ((Z1 Y0 Yw YA Yy YB YC).1.Body.Fall.X), .f .f32 ((Z1 Y0 Yw YA Yy YB YC).1.Body.Fall.Y), .f .f32 ((Z1 Y0 Yw YA Yy YB YC).1.Body.Fall.Z), .own 25], .vec 40 3 (Y0.Body.Me.Pq.map Gv.c) false, .nest 49 (Y0.Body.Me.Tr.map fun l => l.map (cI .i64)) false, .vec 133 4 (Y0.Body.Sp.map Gs.c) false, .vec 27 1 (Y0.Body.We.map (cF .f32)) false, .vec 40 3 (Y0.Sd.map Gv.c) false, .vec 2 1 (Yw.map (cI .i64)) false]) (args':=[.agg [.own 14, .own 15, .own 16, .f .f32 Y0.Body.Film, .f .f32 Y0.Body.Bend, .own 17, .f .f32 Y0.Body.Fall.X, .f .f32 Y0.Body.Fall.Y, .f .f32 Y0.Body.Fall.Z, .own 18], .i .i64 1]) rfl rfl rfl rfl rfl rfl) <| sS (X3.frame (ZcT Yw ((Z0 Y0 1).1) y6) [20] (R:=[.box 63 [.sl (Y0.Body.Me.Pq.map Gv.c), .sl (Y0.Body.Me.Tr.map (cL (cI .i64))), .sl (Y0.Body.Sp.map Gs.c), .f .f32 Y0.Body.Film, .f .f32 Y0.Body.Bend, .sl (Y0.Body.We.map (cF .f32)), .f .f32 Y0.Body.Fall.X, .f .f32 Y0.Body.Fall.Y, .f .f32 Y0.Body.Fall.Z, .sl (Y0.Sd.map Gv.c)], .vec 40 3 (Y0.Body.Me.Pq.map Gv.c) false, .nest 49 (Y0.Body.Me.Tr.map fun l => l.map (cI .i64)) false, .vec 133 4 (Y0.Body.Sp.map Gs.c) false, .vec 27 1 (Y0.Body.We.map (cF .f32)) false, .vec 40 3 (Y0.Sd.map Gv.c) false, .vec 2 1 (Yw.map (cI .i64)) false, .vec 40 3 (((Z7 Y0 Yw YA Yy YB YC).1.Body.Me.Pq).map Gv.c) false, .nest 49 (((Z7 Y0 Yw YA Yy YB YC).1.Body.Me.Tr).map fun l => l.map (cI .i64)) false, .vec 133 4 (((Z7 Y0 Yw YA Yy YB YC).1.Body.Sp).map Gs.c) false, .vec 27 1 (((Z7 Y0 Yw YA Yy YB YC).1.Body.We).map (cF .f32)) false, .vec 40 3 (((Z7 Y0 Yw YA Yy YB YC).1.Sd).map Gv.c) false, .vec 27 1 (((Z7 Y0 Yw YA Yy YB YC).2.1).map (cF .f32)) false, .box 66 [.own 7, .own 8, .own 9, .f .f32 ((Z7 Y0 Yw YA Yy YB YC).1.Body.Film), .f .f32 ((Z7 Y0 Yw YA Yy YB YC).1.Body.Bend), .own 10, .f .f32 ((Z7 Y0 Yw YA Yy YB YC).1.Body.Fall.X), .f .f32 ((Z7 Y0 Yw YA Yy YB YC).1.Body.Fall.Y), .f .f32 ((Z7 Y0 Yw YA Yy YB YC).1.Body.Fall.Z), .own 11], .vec 40 3 (((Z0 Y0 1).2.1).map Gv.c) false, .nest 49 (((Z0 Y0 1).2.2.1).map fun l => l.map (cI .i64)) false, .vec 133 4 (((Z0 Y0 1).2.2.2.1).map Gs.c) false, .vec 27 1 (((Z0 Y0 1).2.2.2.2.1).map (cF .f32)) false, .vec 40 3 (((Z0 Y0 1).2.2.2.2.2).map Gv.c) false, .box 66 [.own 14, .own 15, .own 16, .f .f32 Y0.Body.Film, .f .f32 Y0.Body.Bend, .own 17, .f .f32 Y0.Body.Fall.X, .f .f32 Y0.Body.Fall.Y, .f .f32 Y0.Body.Fall.Z, .own 18], .vec 2 1 (Yw.map (cI .i64)) false, .vec 40 3 (((Z1 Y0 Yw YA Yy YB YC).1.Body.Me.Pq).map Gv.c) false, .nest 49 (((Z1 Y0 Yw YA Yy YB YC).1.Body.Me.Tr).map fun l => l.map (cI .i64)) false, .vec 133 4 (((Z1 Y0 Yw YA Yy YB YC).1.Body.Sp).map Gs.c) false, .vec 27 1 (((Z1 Y0 Yw YA Yy YB YC).1.Body.We).map (cF .f32)) false, .vec 40 3 (((Z1 Y0 Yw YA Yy YB YC).1.Sd).map Gv.c) false, .vec 27 1 (((Z1 Y0 Yw YA Yy YB YC).2.1).map (cF .f32)) false, .box 66 [.own 21, .own 22, .own 23, .f .f32 ((Z1 Y0 Yw YA Yy YB YC).1.Body.Film), .f .f32 ((Z1 Y0 Yw YA Yy YB YC).1.Body.Bend), .own 24, .f .f32 ((Z1 Y0 Yw YA Yy YB YC).1.Body.Fall.X), .f .f32 ((Z1 Y0 Yw YA Yy YB YC).1.Body.Fall.Y), .f .f32 ((Z1 Y0 Yw YA Yy YB YC).1.Body.Fall.Z), .own 25], .vec 40 3 (Y0.Body.Me.Pq.map Gv.c) false, .nest 49 (Y0.Body.Me.Tr.map fun l => l.map (cI .i64)) false, .vec 133 4 (Y0.Body.Sp.map Gs.c) false, .vec 27 1 (Y0.Body.We.map (cF .f32)) false, .vec 40 3 (Y0.Sd.map Gv.c) false, .vec 2 1 (Yw.map (cI .i64)) false]) (args':=[.own 20, .i .i64 ((Z0 Y0 1).1)]) rfl rfl rfl rfl rfl rfl) <| s)
        clear p
        cases h7:(decide ((Z2f Yw ((Z0 Y0 1).1)).1 < 0)) with
        | true =>
         have gh7:=odt h7
         refine fnS E0Ok Z4 (c:=X0 f10) [] (.b false) [] func10 (q (sB h7 <| sB h7 <| sB h7 <| sB h7 <| sB h7 <| sB (show true=true from rfl) <| sB (show true=true from rfl) <| sB (show true=true from rfl) <| sB (show true=true from rfl) <| sB (show true=true from rfl) <| sB (show true=true from rfl) <| sB (show true=true from rfl) <| sB (show true=true from rfl) <| sB (show true=true from rfl) <| sB (show true=true from rfl) <| sK [] sN)) rfl (by kernel_rfl) (by kernel_rfl) rfl ?_ ?_
         · simp only [Z1a,h0,h1,h2,h3,h4,h5,h6,h7,cond_true,cond_false]
         · rfl
        | false =>
         have gh7:=odf h7
         have y21:(⟨(⟨(⟨(Z0 ((Z1 Y0 Yw YA Yy YB YC).1) 1).2.1,(Z0 ((Z1 Y0 Yw YA Yy YB YC).1) 1).2.2.1⟩:Gm),(Z0 ((Z1 Y0 Yw YA Yy YB YC).1) 1).2.2.2.1,(Z1 Y0 Yw YA Yy YB YC).1.Body.Film,(Z1 Y0 Yw YA Yy YB YC).1.Body.Bend,(Z0 ((Z1 Y0 Yw YA Yy YB YC).1) 1).2.2.2.2.1,(Z1 Y0 Yw YA Yy YB YC).1.Body.Fall⟩:Gb),(Z0 ((Z1 Y0 Yw YA Yy YB YC).1) 1).2.2.2.2.2⟩:Gn).Body.Me.Pq.length≤1073741824:=by clear q; exact (by simp_all <;> omega)
         have y22:(⟨(⟨(⟨(Z0 ((Z1 Y0 Yw YA Yy YB YC).1) 1).2.1,(Z0 ((Z1 Y0 Yw YA Yy YB YC).1) 1).2.2.1⟩:Gm),(Z0 ((Z1 Y0 Yw YA Yy YB YC).1) 1).2.2.2.1,(Z1 Y0 Yw YA Yy YB YC).1.Body.Film,(Z1 Y0 Yw YA Yy YB YC).1.Body.Bend,(Z0 ((Z1 Y0 Yw YA Yy YB YC).1) 1).2.2.2.2.1,(Z1 Y0 Yw YA Yy YB YC).1.Body.Fall⟩:Gb),(Z0 ((Z1 Y0 Yw YA Yy YB YC).1) 1).2.2.2.2.2⟩:Gn).Body.Me.Tr.length≤1073741824:=by clear q; exact (by simp_all <;> omega)
         have y23:∀ t∈(⟨(⟨(⟨(Z0 ((Z1 Y0 Yw YA Yy YB YC).1) 1).2.1,(Z0 ((Z1 Y0 Yw YA Yy YB YC).1) 1).2.2.1⟩:Gm),(Z0 ((Z1 Y0 Yw YA Yy YB YC).1) 1).2.2.2.1,(Z1 Y0 Yw YA Yy YB YC).1.Body.Film,(Z1 Y0 Yw YA Yy YB YC).1.Body.Bend,(Z0 ((Z1 Y0 Yw YA Yy YB YC).1) 1).2.2.2.2.1,(Z1 Y0 Yw YA Yy YB YC).1.Body.Fall⟩:Gb),(Z0 ((Z1 Y0 Yw YA Yy YB YC).1) 1).2.2.2.2.2⟩:Gn).Body.Me.Tr,t.length≤1073741824:=by clear q; exact (by exact Zb8 _ _ _ (by assumption))
         have y24:(⟨(⟨(⟨(Z0 ((Z1 Y0 Yw YA Yy YB YC).1) 1).2.1,(Z0 ((Z1 Y0 Yw YA Yy YB YC).1) 1).2.2.1⟩:Gm),(Z0 ((Z1 Y0 Yw YA Yy YB YC).1) 1).2.2.2.1,(Z1 Y0 Yw YA Yy YB YC).1.Body.Film,(Z1 Y0 Yw YA Yy YB YC).1.Body.Bend,(Z0 ((Z1 Y0 Yw YA Yy YB YC).1) 1).2.2.2.2.1,(Z1 Y0 Yw YA Yy YB YC).1.Body.Fall⟩:Gb),(Z0 ((Z1 Y0 Yw YA Yy YB YC).1) 1).2.2.2.2.2⟩:Gn).Body.Sp.length≤1073741824:=by clear q; exact (by simp_all <;> omega)
         have y25:(⟨(⟨(⟨(Z0 ((Z1 Y0 Yw YA Yy YB YC).1) 1).2.1,(Z0 ((Z1 Y0 Yw YA Yy YB YC).1) 1).2.2.1⟩:Gm),(Z0 ((Z1 Y0 Yw YA Yy YB YC).1) 1).2.2.2.1,(Z1 Y0 Yw YA Yy YB YC).1.Body.Film,(Z1 Y0 Yw YA Yy YB YC).1.Body.Bend,(Z0 ((Z1 Y0 Yw YA Yy YB YC).1) 1).2.2.2.2.1,(Z1 Y0 Yw YA Yy YB YC).1.Body.Fall⟩:Gb),(Z0 ((Z1 Y0 Yw YA Yy YB YC).1) 1).2.2.2.2.2⟩:Gn).Body.We.length≤1073741824:=by clear q; exact (by simp_all <;> omega)
         have y26:(⟨(⟨(⟨(Z0 ((Z1 Y0 Yw YA Yy YB YC).1) 1).2.1,(Z0 ((Z1 Y0 Yw YA Yy YB YC).1) 1).2.2.1⟩:Gm),(Z0 ((Z1 Y0 Yw YA Yy YB YC).1) 1).2.2.2.1,(Z1 Y0 Yw YA Yy YB YC).1.Body.Film,(Z1 Y0 Yw YA Yy YB YC).1.Body.Bend,(Z0 ((Z1 Y0 Yw YA Yy YB YC).1) 1).2.2.2.2.1,(Z1 Y0 Yw YA Yy YB YC).1.Body.Fall⟩:Gb),(Z0 ((Z1 Y0 Yw YA Yy YB YC).1) 1).2.2.2.2.2⟩:Gn).Sd.length≤1073741824:=by clear q; exact (by simp_all <;> omega)
         have p {a C} (s:Scr a C):=q (sB h7 <| sB h7 <| sB h7 <| sF (Fn.castA (args':=[.agg [.sl (((Z1 Y0 Yw YA Yy YB YC).1.Body.Me.Pq).map Gv.c), .sl ((((Z1 Y0 Yw YA Yy YB YC).1.Body.Me.Tr).map fun l => l.map (cI .i64)).map fun l => [.sl l]), .sl (((Z1 Y0 Yw YA Yy YB YC).1.Body.Sp).map Gs.c), .f .f32 ((Z1 Y0 Yw YA Yy YB YC).1.Body.Film), .f .f32 ((Z1 Y0 Yw YA Yy YB YC).1.Body.Bend), .sl (((Z1 Y0 Yw YA Yy YB YC).1.Body.We).map (cF .f32)), .f .f32 ((Z1 Y0 Yw YA Yy YB YC).1.Body.Fall.X), .f .f32 ((Z1 Y0 Yw YA Yy YB YC).1.Body.Fall.Y), .f .f32 ((Z1 Y0 Yw YA Yy YB YC).1.Body.Fall.Z), .sl (((Z1 Y0 Yw YA Yy YB YC).1.Sd).map Gv.c)], .agg [.sl (((Z7 Y0 Yw YA Yy YB YC).1.Body.Me.Pq).map Gv.c), .sl ((((Z7 Y0 Yw YA Yy YB YC).1.Body.Me.Tr).map fun l => l.map (cI .i64)).map fun l => [.sl l]), .sl (((Z7 Y0 Yw YA Yy YB YC).1.Body.Sp).map Gs.c), .f .f32 ((Z7 Y0 Yw YA Yy YB YC).1.Body.Film), .f .f32 ((Z7 Y0 Yw YA Yy YB YC).1.Body.Bend), .sl (((Z7 Y0 Yw YA Yy YB YC).1.Body.We).map (cF .f32)), .f .f32 ((Z7 Y0 Yw YA Yy YB YC).1.Body.Fall.X), .f .f32 ((Z7 Y0 Yw YA Yy YB YC).1.Body.Fall.Y), .f .f32 ((Z7 Y0 Yw YA Yy YB YC).1.Body.Fall.Z), .sl (((Z7 Y0 Yw YA Yy YB YC).1.Sd).map Gv.c)]]) (Z7e ((Z1 Y0 Yw YA Yy YB YC).1) ((Z7 Y0 Yw YA Yy YB YC).1) y7 y8 y9 y10 y11 y12 y13 y14 y15 y16 y17 y18) (by simp [cL,Function.comp_def]; done)) <| sB h7 <| sB h7 <| sB' h2 <| sB' h2 <| sB' h2 <| sF (Z5X ((Z1 Y0 Yw YA Yy YB YC).2.1) ((Z7 Y0 Yw YA Yy YB YC).2.1) y19 y20) <| sB' h2 <| sB' h2 <| sB' h3 <| sB' h3 <| sB' h3 <| sB' h3 <| sB' h4 <| sS (X3.frame (Z5y ((Z1 Y0 Yw YA Yy YB YC).1) 1 y7 y8 y9 y10 y11 y12) [21,22,23,24,25] (R:=[.box 63 [.sl (Y0.Body.Me.Pq.map Gv.c), .sl (Y0.Body.Me.Tr.map (cL (cI .i64))), .sl (Y0.Body.Sp.map Gs.c), .f .f32 Y0.Body.Film, .f .f32 Y0.Body.Bend, .sl (Y0.Body.We.map (cF .f32)), .f .f32 Y0.Body.Fall.X, .f .f32 Y0.Body.Fall.Y, .f .f32 Y0.Body.Fall.Z, .sl (Y0.Sd.map Gv.c)], .vec 40 3 (Y0.Body.Me.Pq.map Gv.c) false, .nest 49 (Y0.Body.Me.Tr.map fun l => l.map (cI .i64)) false, .vec 133 4 (Y0.Body.Sp.map Gs.c) false, .vec 27 1 (Y0.Body.We.map (cF .f32)) false, .vec 40 3 (Y0.Sd.map Gv.c) false, .vec 2 1 (Yw.map (cI .i64)) false, .vec 40 3 (((Z7 Y0 Yw YA Yy YB YC).1.Body.Me.Pq).map Gv.c) false, .nest 49 (((Z7 Y0 Yw YA Yy YB YC).1.Body.Me.Tr).map fun l => l.map (cI .i64)) false, .vec 133 4 (((Z7 Y0 Yw YA Yy YB YC).1.Body.Sp).map Gs.c) false, .vec 27 1 (((Z7 Y0 Yw YA Yy YB YC).1.Body.We).map (cF .f32)) false, .vec 40 3 (((Z7 Y0 Yw YA Yy YB YC).1.Sd).map Gv.c) false, .vec 27 1 (((Z7 Y0 Yw YA Yy YB YC).2.1).map (cF .f32)) false, .box 66 [.own 7, .own 8, .own 9, .f .f32 ((Z7 Y0 Yw YA Yy YB YC).1.Body.Film), .f .f32 ((Z7 Y0 Yw YA Yy YB YC).1.Body.Bend), .own 10, .f .f32 ((Z7 Y0 Yw YA Yy YB YC).1.Body.Fall.X), .f .f32 ((Z7 Y0 Yw YA Yy YB YC).1.Body.Fall.Y), .f .f32 ((Z7 Y0 Yw YA Yy YB YC).1.Body.Fall.Z), .own 11], .vec 40 3 (((Z0 Y0 1).2.1).map Gv.c) false, .nest 49 (((Z0 Y0 1).2.2.1).map fun l => l.map (cI .i64)) false, .vec 133 4 (((Z0 Y0 1).2.2.2.1).map Gs.c) false, .vec 27 1 (((Z0 Y0 1).2.2.2.2.1).map (cF .f32)) false, .vec 40 3 (((Z0 Y0 1).2.2.2.2.2).map Gv.c) false, .box 66 [.own 14, .own 15, .own 16, .f .f32 Y0.Body.Film, .f .f32 Y0.Body.Bend, .own 17, .f .f32 Y0.Body.Fall.X, .f .f32 Y0.Body.Fall.Y, .f .f32 Y0.Body.Fall.Z, .own 18], .vec 2 1 (((Z2f Yw ((Z0 Y0 1).1)).2).map (cI .i64)) false, .vec 40 3 (((Z1 Y0 Yw YA Yy YB YC).1.Body.Me.Pq).map Gv.c) false, .nest 49 (((Z1 Y0 Yw YA Yy YB YC).1.Body.Me.Tr).map fun l => l.map (cI .i64)) false, .vec 133 4 (((Z1 Y0 Yw YA Yy YB YC).1.Body.Sp).map Gs.c) false, .vec 27 1 (((Z1 Y0 Yw YA Yy YB YC).1.Body.We).map (cF .f32)) false, .vec 40 3 (((Z1 Y0 Yw YA Yy YB YC).1.Sd).map Gv.c) false, .vec 27 1 (((Z1 Y0 Yw YA Yy YB YC).2.1).map (cF .f32)) false, .box 66 [.own 21, .own 22, .own 23, .f .f32 ((Z1 Y0 Yw YA Yy YB YC).1.Body.Film), .f .f32 ((Z1 Y0 Yw YA Yy YB YC).1.Body.Bend), .own 24, .f .f32 ((Z1 Y0 Yw YA Yy YB YC).1.Body.Fall.X), .f .f32 ((Z1 Y0 Yw YA Yy YB YC).1.Body.Fall.Y), .f .f32 ((Z1 Y0 Yw YA Yy YB YC).1.Body.Fall.Z), .own 25], .vec 40 3 (Y0.Body.Me.Pq.map Gv.c) false, .nest 49 (Y0.Body.Me.Tr.map fun l => l.map (cI .i64)) false, .vec 133 4 (Y0.Body.Sp.map Gs.c) false, .vec 27 1 (Y0.Body.We.map (cF .f32)) false, .vec 40 3 (Y0.Sd.map Gv.c) false, .vec 2 1 (Yw.map (cI .i64)) false]) (args':=[.agg [.own 21, .own 22, .own 23, .f .f32 ((Z1 Y0 Yw YA Yy YB YC).1.Body.Film), .f .f32 ((Z1 Y0 Yw YA Yy YB YC).1.Body.Bend), .own 24, .f .f32 ((Z1 Y0 Yw YA Yy YB YC).1.Body.Fall.X), .f .f32 ((Z1 Y0 Yw YA Yy YB YC).1.Body.Fall.Y), .f .f32 ((Z1 Y0 Yw YA Yy YB YC).1.Body.Fall.Z), .own 25], .i .i64 1]) rfl rfl rfl rfl rfl rfl) <| sS (X3.frame (Z7R ((Z1 Y0 Yw YA Yy YB YC).2.1) ((Z0 ((Z1 Y0 Yw YA Yy YB YC).1) 1).1) y19) [26] (R:=[.box 63 [.sl (Y0.Body.Me.Pq.map Gv.c), .sl (Y0.Body.Me.Tr.map (cL (cI .i64))), .sl (Y0.Body.Sp.map Gs.c), .f .f32 Y0.Body.Film, .f .f32 Y0.Body.Bend, .sl (Y0.Body.We.map (cF .f32)), .f .f32 Y0.Body.Fall.X, .f .f32 Y0.Body.Fall.Y, .f .f32 Y0.Body.Fall.Z, .sl (Y0.Sd.map Gv.c)], .vec 40 3 (Y0.Body.Me.Pq.map Gv.c) false, .nest 49 (Y0.Body.Me.Tr.map fun l => l.map (cI .i64)) false, .vec 133 4 (Y0.Body.Sp.map Gs.c) false, .vec 27 1 (Y0.Body.We.map (cF .f32)) false, .vec 40 3 (Y0.Sd.map Gv.c) false, .vec 2 1 (Yw.map (cI .i64)) false, .vec 40 3 (((Z7 Y0 Yw YA Yy YB YC).1.Body.Me.Pq).map Gv.c) false, .nest 49 (((Z7 Y0 Yw YA Yy YB YC).1.Body.Me.Tr).map fun l => l.map (cI .i64)) false, .vec 133 4 (((Z7 Y0 Yw YA Yy YB YC).1.Body.Sp).map Gs.c) false, .vec 27 1 (((Z7 Y0 Yw YA Yy YB YC).1.Body.We).map (cF .f32)) false, .vec 40 3 (((Z7 Y0 Yw YA Yy YB YC).1.Sd).map Gv.c) false, .vec 27 1 (((Z7 Y0 Yw YA Yy YB YC).2.1).map (cF .f32)) false, .box 66 [.own 7, .own 8, .own 9, .f .f32 ((Z7 Y0 Yw YA Yy YB YC).1.Body.Film), .f .f32 ((Z7 Y0 Yw YA Yy YB YC).1.Body.Bend), .own 10, .f .f32 ((Z7 Y0 Yw YA Yy YB YC).1.Body.Fall.X), .f .f32 ((Z7 Y0 Yw YA Yy YB YC).1.Body.Fall.Y), .f .f32 ((Z7 Y0 Yw YA Yy YB YC).1.Body.Fall.Z), .own 11], .vec 40 3 (((Z0 Y0 1).2.1).map Gv.c) false, .nest 49 (((Z0 Y0 1).2.2.1).map fun l => l.map (cI .i64)) false, .vec 133 4 (((Z0 Y0 1).2.2.2.1).map Gs.c) false, .vec 27 1 (((Z0 Y0 1).2.2.2.2.1).map (cF .f32)) false, .vec 40 3 (((Z0 Y0 1).2.2.2.2.2).map Gv.c) false, .box 66 [.own 14, .own 15, .own 16, .f .f32 Y0.Body.Film, .f .f32 Y0.Body.Bend, .own 17, .f .f32 Y0.Body.Fall.X, .f .f32 Y0.Body.Fall.Y, .f .f32 Y0.Body.Fall.Z, .own 18], .vec 2 1 (((Z2f Yw ((Z0 Y0 1).1)).2).map (cI .i64)) false, .vec 40 3 (((Z0 ((Z1 Y0 Yw YA Yy YB YC).1) 1).2.1).map Gv.c) false, .nest 49 (((Z0 ((Z1 Y0 Yw YA Yy YB YC).1) 1).2.2.1).map fun l => l.map (cI .i64)) false, .vec 133 4 (((Z0 ((Z1 Y0 Yw YA Yy YB YC).1) 1).2.2.2.1).map Gs.c) false, .vec 27 1 (((Z0 ((Z1 Y0 Yw YA Yy YB YC).1) 1).2.2.2.2.1).map (cF .f32)) false, .vec 40 3 (((Z0 ((Z1 Y0 Yw YA Yy YB YC).1) 1).2.2.2.2.2).map Gv.c) false, .vec 27 1 (((Z1 Y0 Yw YA Yy YB YC).2.1).map (cF .f32)) false, .box 66 [.own 21, .own 22, .own 23, .f .f32 ((Z1 Y0 Yw YA Yy YB YC).1.Body.Film), .f .f32 ((Z1 Y0 Yw YA Yy YB YC).1.Body.Bend), .own 24, .f .f32 ((Z1 Y0 Yw YA Yy YB YC).1.Body.Fall.X), .f .f32 ((Z1 Y0 Yw YA Yy YB YC).1.Body.Fall.Y), .f .f32 ((Z1 Y0 Yw YA Yy YB YC).1.Body.Fall.Z), .own 25], .vec 40 3 (Y0.Body.Me.Pq.map Gv.c) false, .nest 49 (Y0.Body.Me.Tr.map fun l => l.map (cI .i64)) false, .vec 133 4 (Y0.Body.Sp.map Gs.c) false, .vec 27 1 (Y0.Body.We.map (cF .f32)) false, .vec 40 3 (Y0.Sd.map Gv.c) false, .vec 2 1 (Yw.map (cI .i64)) false]) (args':=[.own 26, .i .i64 ((Z0 ((Z1 Y0 Yw YA Yy YB YC).1) 1).1)]) rfl rfl rfl rfl rfl rfl) <| sF (Fn.castA (args':=[.agg [.sl (((Z0 ((Z1 Y0 Yw YA Yy YB YC).1) 1).2.1).map Gv.c), .sl ((((Z0 ((Z1 Y0 Yw YA Yy YB YC).1) 1).2.2.1).map fun l => l.map (cI .i64)).map fun l => [.sl l]), .sl (((Z0 ((Z1 Y0 Yw YA Yy YB YC).1) 1).2.2.2.1).map Gs.c), .f .f32 ((Z1 Y0 Yw YA Yy YB YC).1.Body.Film), .f .f32 ((Z1 Y0 Yw YA Yy YB YC).1.Body.Bend), .sl (((Z0 ((Z1 Y0 Yw YA Yy YB YC).1) 1).2.2.2.2.1).map (cF .f32)), .f .f32 ((Z1 Y0 Yw YA Yy YB YC).1.Body.Fall.X), .f .f32 ((Z1 Y0 Yw YA Yy YB YC).1.Body.Fall.Y), .f .f32 ((Z1 Y0 Yw YA Yy YB YC).1.Body.Fall.Z), .sl (((Z0 ((Z1 Y0 Yw YA Yy YB YC).1) 1).2.2.2.2.2).map Gv.c)], .i .i64 1]) (Zbq (⟨(⟨(⟨(Z0 ((Z1 Y0 Yw YA Yy YB YC).1) 1).2.1,(Z0 ((Z1 Y0 Yw YA Yy YB YC).1) 1).2.2.1⟩:Gm),(Z0 ((Z1 Y0 Yw YA Yy YB YC).1) 1).2.2.2.1,(Z1 Y0 Yw YA Yy YB YC).1.Body.Film,(Z1 Y0 Yw YA Yy YB YC).1.Body.Bend,(Z0 ((Z1 Y0 Yw YA Yy YB YC).1) 1).2.2.2.2.1,(Z1 Y0 Yw YA Yy YB YC).1.Body.Fall⟩:Gb),(Z0 ((Z1 Y0 Yw YA Yy YB YC).1) 1).2.2.2.2.2⟩:Gn) 1 y21 y22 y23 y24 y25 y26) (by simp [cL,Function.comp_def]; done)) <| s)
         clear q
         cases h8:(decide ((Z2b (⟨(⟨(⟨(Z0 ((Z1 Y0 Yw YA Yy YB YC).1) 1).2.1,(Z0 ((Z1 Y0 Yw YA Yy YB YC).1) 1).2.2.1⟩:Gm),(Z0 ((Z1 Y0 Yw YA Yy YB YC).1) 1).2.2.2.1,(Z1 Y0 Yw YA Yy YB YC).1.Body.Film,(Z1 Y0 Yw YA Yy YB YC).1.Body.Bend,(Z0 ((Z1 Y0 Yw YA Yy YB YC).1) 1).2.2.2.2.1,(Z1 Y0 Yw YA Yy YB YC).1.Body.Fall⟩:Gb),(Z0 ((Z1 Y0 Yw YA Yy YB YC).1) 1).2.2.2.2.2⟩:Gn) 1) < 0)) with
         | true =>
          have gh8:=odt h8
          refine fnS E0Ok Z4 (c:=X0 f10) [] (.b false) [] func10 (p (sB h8 <| sK [] sN)) rfl (by kernel_rfl) (by kernel_rfl) rfl ?_ ?_
          · simp only [Z1a,h0,h1,h2,h3,h4,h5,h6,h7,h8,cond_true,cond_false]
          · rfl
         | false =>
          have gh8:=odf h8
          have y27:((Zu ((Z1 Y0 Yw YA Yy YB YC).2.1) ((Z0 ((Z1 Y0 Yw YA Yy YB YC).1) 1).1)).2).length≤1073741824:=by clear p; exact (by simp_all <;> omega)
          have q {a C} (s:Scr a C):=p (sB h8 <| sF (Z76 ((Zu ((Z1 Y0 Yw YA Yy YB YC).2.1) ((Z0 ((Z1 Y0 Yw YA Yy YB YC).1) 1).1)).2) (Z2b (⟨(⟨(⟨(Z0 ((Z1 Y0 Yw YA Yy YB YC).1) 1).2.1,(Z0 ((Z1 Y0 Yw YA Yy YB YC).1) 1).2.2.1⟩:Gm),(Z0 ((Z1 Y0 Yw YA Yy YB YC).1) 1).2.2.2.1,(Z1 Y0 Yw YA Yy YB YC).1.Body.Film,(Z1 Y0 Yw YA Yy YB YC).1.Body.Bend,(Z0 ((Z1 Y0 Yw YA Yy YB YC).1) 1).2.2.2.2.1,(Z1 Y0 Yw YA Yy YB YC).1.Body.Fall⟩:Gb),(Z0 ((Z1 Y0 Yw YA Yy YB YC).1) 1).2.2.2.2.2⟩:Gn) 1) y27) <| s)
          clear p
          cases h9:(decide ((Z1V ((Zu ((Z1 Y0 Yw YA Yy YB YC).2.1) ((Z0 ((Z1 Y0 Yw YA Yy YB YC).1) 1).1)).2) (Z2b (⟨(⟨(⟨(Z0 ((Z1 Y0 Yw YA Yy YB YC).1) 1).2.1,(Z0 ((Z1 Y0 Yw YA Yy YB YC).1) 1).2.2.1⟩:Gm),(Z0 ((Z1 Y0 Yw YA Yy YB YC).1) 1).2.2.2.1,(Z1 Y0 Yw YA Yy YB YC).1.Body.Film,(Z1 Y0 Yw YA Yy YB YC).1.Body.Bend,(Z0 ((Z1 Y0 Yw YA Yy YB YC).1) 1).2.2.2.2.1,(Z1 Y0 Yw YA Yy YB YC).1.Body.Fall⟩:Gb),(Z0 ((Z1 Y0 Yw YA Yy YB YC).1) 1).2.2.2.2.2⟩:Gn) 1)) < 0)) with
          | true =>
           have gh9:=odt h9
           refine fnS E0Ok Z4 (c:=X0 f10) [] (.b false) [] func10 (q (sB h9 <| sK [] sN)) rfl (by kernel_rfl) (by kernel_rfl) rfl ?_ ?_
           · simp only [Z1a,h0,h1,h2,h3,h4,h5,h6,h7,h8,h9,cond_true,cond_false]
           · rfl
          | false =>
           have gh9:=odf h9
           have p {a C} (s:Scr a C):=q (sB h9 <| s)
           clear q
           cases h10:((Z1V ((Zu ((Z1 Y0 Yw YA Yy YB YC).2.1) ((Z0 ((Z1 Y0 Yw YA Yy YB YC).1) 1).1)).2) (Z2b (⟨(⟨(⟨(Z0 ((Z1 Y0 Yw YA Yy YB YC).1) 1).2.1,(Z0 ((Z1 Y0 Yw YA Yy YB YC).1) 1).2.2.1⟩:Gm),(Z0 ((Z1 Y0 Yw YA Yy YB YC).1) 1).2.2.2.1,(Z1 Y0 Yw YA Yy YB YC).1.Body.Film,(Z1 Y0 Yw YA Yy YB YC).1.Body.Bend,(Z0 ((Z1 Y0 Yw YA Yy YB YC).1) 1).2.2.2.2.1,(Z1 Y0 Yw YA Yy YB YC).1.Body.Fall⟩:Gb),(Z0 ((Z1 Y0 Yw YA Yy YB YC).1) 1).2.2.2.2.2⟩:Gn) 1)) != (Zu ((Z1 Y0 Yw YA Yy YB YC).2.1) ((Z0 ((Z1 Y0 Yw YA Yy YB YC).1) 1).1)).1) with
           | true =>
            have gh10:=bne_iff_ne.1 h10
            refine fnS E0Ok Z4 (c:=X0 f10) [] (.b false) [] func10 (p (sB h10 <| sK [] sN)) rfl (by kernel_rfl) (by kernel_rfl) rfl ?_ ?_
            · simp only [Z1a,h0,h1,h2,h3,h4,h5,h6,h7,h8,h9,h10,cond_true,cond_false]
            · rfl
           | false =>
            have gh10:=bne_eq_false_iff_eq.1 h10
            refine fnS E0Ok Z4 (c:=X0 f10) [] (.b true) [] func10 (p (sB h10 <| sF (Z79 Y0 y0 y1 y2 y3 y4 y5) <| sF (Z5J Yw y6) <| sF (Fn.castA (args':=[.agg [.sl (Y0.Body.Me.Pq.map Gv.c), .sl ((Y0.Body.Me.Tr.map fun l => l.map (cI .i64)).map fun l => [.sl l]), .sl (Y0.Body.Sp.map Gs.c), .f .f32 Y0.Body.Film, .f .f32 Y0.Body.Bend, .sl (Y0.Body.We.map (cF .f32)), .f .f32 Y0.Body.Fall.X, .f .f32 Y0.Body.Fall.Y, .f .f32 Y0.Body.Fall.Z, .sl (Y0.Sd.map Gv.c)], .sl (Yw.map (cI .i64)), .f .f32 YA, .f .f32 Yy, .f .f32 YB, .i .i64 YC]) (ZbS Y0 Yw YA Yy YB YC y0 y1 y2 y3 y4 y5 y6) (by simp [cL,Function.comp_def]; done)) <| sF (Fn.castA (args':=[.agg [.sl (((Z1 Y0 Yw YA Yy YB YC).1.Body.Me.Pq).map Gv.c), .sl ((((Z1 Y0 Yw YA Yy YB YC).1.Body.Me.Tr).map fun l => l.map (cI .i64)).map fun l => [.sl l]), .sl (((Z1 Y0 Yw YA Yy YB YC).1.Body.Sp).map Gs.c), .f .f32 ((Z1 Y0 Yw YA Yy YB YC).1.Body.Film), .f .f32 ((Z1 Y0 Yw YA Yy YB YC).1.Body.Bend), .sl (((Z1 Y0 Yw YA Yy YB YC).1.Body.We).map (cF .f32)), .f .f32 ((Z1 Y0 Yw YA Yy YB YC).1.Body.Fall.X), .f .f32 ((Z1 Y0 Yw YA Yy YB YC).1.Body.Fall.Y), .f .f32 ((Z1 Y0 Yw YA Yy YB YC).1.Body.Fall.Z), .sl (((Z1 Y0 Yw YA Yy YB YC).1.Sd).map Gv.c)], .agg [.sl (((Z7 Y0 Yw YA Yy YB YC).1.Body.Me.Pq).map Gv.c), .sl ((((Z7 Y0 Yw YA Yy YB YC).1.Body.Me.Tr).map fun l => l.map (cI .i64)).map fun l => [.sl l]), .sl (((Z7 Y0 Yw YA Yy YB YC).1.Body.Sp).map Gs.c), .f .f32 ((Z7 Y0 Yw YA Yy YB YC).1.Body.Film), .f .f32 ((Z7 Y0 Yw YA Yy YB YC).1.Body.Bend), .sl (((Z7 Y0 Yw YA Yy YB YC).1.Body.We).map (cF .f32)), .f .f32 ((Z7 Y0 Yw YA Yy YB YC).1.Body.Fall.X), .f .f32 ((Z7 Y0 Yw YA Yy YB YC).1.Body.Fall.Y), .f .f32 ((Z7 Y0 Yw YA Yy YB YC).1.Body.Fall.Z), .sl (((Z7 Y0 Yw YA Yy YB YC).1.Sd).map Gv.c)]]) (Z7e ((Z1 Y0 Yw YA Yy YB YC).1) ((Z7 Y0 Yw YA Yy YB YC).1) y7 y8 y9 y10 y11 y12 y13 y14 y15 y16 y17 y18) (by simp [cL,Function.comp_def]; done)) <| sB' h2 <| sB' h2 <| sB' h2 <| sF (Z5X ((Z1 Y0 Yw YA Yy YB YC).2.1) ((Z7 Y0 Yw YA Yy YB YC).2.1) y19 y20) <| sB' h2 <| sB' h2 <| sB' h3 <| sB' h3 <| sB' h3 <| sB' h3 <| sB' h4 <| sF (Fn.castA (args':=[.agg [.sl (((Z0 ((Z1 Y0 Yw YA Yy YB YC).1) 1).2.1).map Gv.c), .sl ((((Z0 ((Z1 Y0 Yw YA Yy YB YC).1) 1).2.2.1).map fun l => l.map (cI .i64)).map fun l => [.sl l]), .sl (((Z0 ((Z1 Y0 Yw YA Yy YB YC).1) 1).2.2.2.1).map Gs.c), .f .f32 ((Z1 Y0 Yw YA Yy YB YC).1.Body.Film), .f .f32 ((Z1 Y0 Yw YA Yy YB YC).1.Body.Bend), .sl (((Z0 ((Z1 Y0 Yw YA Yy YB YC).1) 1).2.2.2.2.1).map (cF .f32)), .f .f32 ((Z1 Y0 Yw YA Yy YB YC).1.Body.Fall.X), .f .f32 ((Z1 Y0 Yw YA Yy YB YC).1.Body.Fall.Y), .f .f32 ((Z1 Y0 Yw YA Yy YB YC).1.Body.Fall.Z), .sl (((Z0 ((Z1 Y0 Yw YA Yy YB YC).1) 1).2.2.2.2.2).map Gv.c)], .i .i64 1]) (Zbq (⟨(⟨(⟨(Z0 ((Z1 Y0 Yw YA Yy YB YC).1) 1).2.1,(Z0 ((Z1 Y0 Yw YA Yy YB YC).1) 1).2.2.1⟩:Gm),(Z0 ((Z1 Y0 Yw YA Yy YB YC).1) 1).2.2.2.1,(Z1 Y0 Yw YA Yy YB YC).1.Body.Film,(Z1 Y0 Yw YA Yy YB YC).1.Body.Bend,(Z0 ((Z1 Y0 Yw YA Yy YB YC).1) 1).2.2.2.2.1,(Z1 Y0 Yw YA Yy YB YC).1.Body.Fall⟩:Gb),(Z0 ((Z1 Y0 Yw YA Yy YB YC).1) 1).2.2.2.2.2⟩:Gn) 1 y21 y22 y23 y24 y25 y26) (by simp [cL,Function.comp_def]; done)) <| sB h8 <| sF (Z76 ((Zu ((Z1 Y0 Yw YA Yy YB YC).2.1) ((Z0 ((Z1 Y0 Yw YA Yy YB YC).1) 1).1)).2) (Z2b (⟨(⟨(⟨(Z0 ((Z1 Y0 Yw YA Yy YB YC).1) 1).2.1,(Z0 ((Z1 Y0 Yw YA Yy YB YC).1) 1).2.2.1⟩:Gm),(Z0 ((Z1 Y0 Yw YA Yy YB YC).1) 1).2.2.2.1,(Z1 Y0 Yw YA Yy YB YC).1.Body.Film,(Z1 Y0 Yw YA Yy YB YC).1.Body.Bend,(Z0 ((Z1 Y0 Yw YA Yy YB YC).1) 1).2.2.2.2.1,(Z1 Y0 Yw YA Yy YB YC).1.Body.Fall⟩:Gb),(Z0 ((Z1 Y0 Yw YA Yy YB YC).1) 1).2.2.2.2.2⟩:Gn) 1) y27) <| sB h9 <| sB h10 <| sK [] sN)) rfl (by kernel_rfl) (by kernel_rfl) rfl ?_ ?_
            · simp only [Z1a,h0,h1,h2,h3,h4,h5,h6,h7,h8,h9,h10,cond_true,cond_false]
            · rfl
       | false =>
        refine fnS E0Ok Z4 (c:=X0 f10) [] (.b false) [] func10 (p (sB' h6 <| sK [] sN)) rfl (by kernel_rfl) (by kernel_rfl) rfl ?_ ?_
        · simp only [Z1a,h0,h1,h2,h3,h4,h5,h6,cond_true,cond_false]
        · rfl
      | false =>
       refine fnS E0Ok Z4 (c:=X0 f10) [] (.b false) [] func10 (q (sB' h5 <| sK [] sN)) rfl (by kernel_rfl) (by kernel_rfl) rfl ?_ ?_
       · simp only [Z1a,h0,h1,h2,h3,h4,h5,cond_true,cond_false]
       · rfl
     | false =>
      have gh4:=ne_of_beq_false h4
      refine fnS E0Ok Z4 (c:=X0 f10) [] (.b false) [] func10 (p (sB' h4 <| sK [] sN)) rfl (by kernel_rfl) (by kernel_rfl) rfl ?_ ?_
      · simp only [Z1a,h0,h1,h2,h3,h4,cond_true,cond_false]
      · rfl
    | false =>
     refine fnS E0Ok Z4 (c:=X0 f10) [] (.b false) [] func10 (q (sB' h3 <| sB' h3 <| sB' h3 <| sB' h3 <| sB (show true=true from rfl) <| sK [] sN)) rfl (by kernel_rfl) (by kernel_rfl) rfl ?_ ?_
     · simp only [Z1a,h0,h1,h2,h3,cond_true,cond_false]
     · rfl
   | false =>
    refine fnS E0Ok Z4 (c:=X0 f10) [] (.b false) [] func10 (p (sB' h2 <| sB' h2 <| sB' h2 <| sB' h2 <| sB' h2 <| sB (show true=true from rfl) <| sB (show true=true from rfl) <| sB (show true=true from rfl) <| sB (show true=true from rfl) <| sB (show true=true from rfl) <| sK [] sN)) rfl (by kernel_rfl) (by kernel_rfl) rfl ?_ ?_
    · simp only [Z1a,h0,h1,h2,cond_false]
    · rfl
theorem Zcm (a:List Gv) (c:Int):Z1s (Zn a c).2 c=(Zn a c).1:=by
  rw [ZhP,Zci,X2I (fun x c => by simp [ZaW,Z6C,X25]) (fun x c => rfl)]
theorem ZgF (a:List Int) (c:Int):Z1v (Zp a c).2 c=(Zp a c).1:=by
  rw [Zig,ZcS,X2I (fun x c => by simp [ZbZ,Z7J,X25]) (fun x c => rfl)]
theorem ZfQ (a:List (List Int)) (c:Int) (g0:a.length≤1073741824) (g1:∀ t∈a,t.length≤1073741824) (h0:0≤c) (h1:c≤3458764513820540928):Z36 (Z17 a c).2 c=(Z17 a c).1:=by
  rw [Zhy,ZbW,X4x (W:=1073741824) (M:=4611686018427387904) a c (fun x hx c k0 k1 => by
    have q:=ZbV x c (g1 x hx) k0 (by omega)
    have q2:=ZgF x c
    refine ⟨?_,q2,q.1,q.2⟩
    rw [q2]
    simp; omega) h0 (by omega)]
theorem ZfR (a:Gm) (c:Int) (g0:a.Pq.length≤1073741824) (g1:a.Tr.length≤1073741824) (g2:∀ t∈a.Tr,t.length≤1073741824) (h0:0≤c) (h1:c≤1152921504606846976):Z2a ⟨(Zf a c).2.1,(Zf a c).2.2⟩ c=(Zf a c).1:=by
  have p0:=Z5Y a.Pq c g0 (by omega) (by omega)
  have q0:=Zcm a.Pq c
  have p1:=ZaS a.Tr ((Zn a.Pq c).1) g1 g2 (by omega) (by omega)
  have q1:=ZfQ a.Tr ((Zn a.Pq c).1) g1 g2 (by omega) (by omega)
  unfold Z2a
  simp only [Zf,true_and] at *
  simp only [q0,q1]
  repeat (rw [decide_eq_false (by omega),cond_false])
  try rfl
theorem Zgi (a:List Gs) (c:Int):Z2g (ZA a c).2 c=(ZA a c).1:=by
  rw [ZhQ,Zcj,X2I (fun x c => by simp [ZaX,Z6F,X25]) (fun x c => rfl)]
theorem Zc0 (a:List Nat) (c:Int):Z1V (Zu a c).2 c=(Zu a c).1:=by
  rw [Zhz,ZbX,X2I (fun x c => by simp [Z9M,Z66,X25]) (fun x c => rfl)]
theorem Zc3 (a:Gb) (c:Int) (g0:a.Me.Pq.length≤1073741824) (g1:a.Me.Tr.length≤1073741824) (g2:∀ t∈a.Me.Tr,t.length≤1073741824) (g3:a.Sp.length≤1073741824) (g4:a.We.length≤1073741824) (h0:0≤c) (h1:c≤1152921504606846976):Z2C ⟨⟨(Zc a c).2.1,(Zc a c).2.2.1⟩,(Zc a c).2.2.2.1,a.Film,a.Bend,(Zc a c).2.2.2.2,a.Fall⟩ c=(Zc a c).1:=by
  have p0:=ZaT a.Me c g0 g1 g2 (by omega) (by omega)
  have q0:=ZfR a.Me c g0 g1 g2 (by omega) (by omega)
  have p1:=Zbp a.Sp ((Zf a.Me c).1) g3 (by omega) (by omega)
  have q1:=Zgi a.Sp ((Zf a.Me c).1)
  have p2:=Z7K a.We ((ZA a.Sp ((Zf a.Me c).1)).1) g4 (by omega) (by omega)
  have q2:=Zc0 a.We ((ZA a.Sp ((Zf a.Me c).1)).1)
  unfold Z2C
  simp only [Zc,Zf] at *
  simp only [q0,q1,q2]
  repeat (rw [decide_eq_false (by omega),cond_false])
  try rfl
theorem Zb9 (a:Gn) (c:Int) (g0:a.Body.Me.Pq.length≤1073741824) (g1:a.Body.Me.Tr.length≤1073741824) (g2:∀ t∈a.Body.Me.Tr,t.length≤1073741824) (g3:a.Body.Sp.length≤1073741824) (g4:a.Body.We.length≤1073741824) (g5:a.Sd.length≤1073741824) (h0:0≤c) (h1:c≤1152921504606846976):Z2b ⟨⟨⟨(Z0 a c).2.1,(Z0 a c).2.2.1⟩,(Z0 a c).2.2.2.1,a.Body.Film,a.Body.Bend,(Z0 a c).2.2.2.2.1,a.Body.Fall⟩,(Z0 a c).2.2.2.2.2⟩ c=(Z0 a c).1:=by
  have p0:=Z7i a.Body c g0 g1 g2 g3 g4 (by omega) (by omega)
  have q0:=Zc3 a.Body c g0 g1 g2 g3 g4 (by omega) (by omega)
  have p1:=Z5Y a.Sd ((Zc a.Body c).1) g5 (by omega) (by omega)
  have q1:=Zcm a.Sd ((Zc a.Body c).1)
  unfold Z2b
  simp only [Z0,Zc] at *
  simp only [q0,q1]
  repeat (rw [decide_eq_false (by omega),cond_false])
  try rfl
theorem Zba (a:Gn) (c:(List Int)) (x:Nat) (y:Nat) (z:Nat) (n:Int) (h0_0:a.Body.Me.Pq.length≤9223372036854775807) (h0_1:a.Body.Me.Tr.length≤9223372036854775807) (h0_2:∀ t∈a.Body.Me.Tr,t.length≤9223372036854775807) (h0_3:a.Body.Sp.length≤9223372036854775807) (h0_4:a.Body.We.length≤9223372036854775807) (h0_5:a.Sd.length≤9223372036854775807) (h1_0:c.length≤9223372036854775807):Z1a a c x y z n=true:=by
  unfold Z1a
  cases hc1:decide ((c.length:Int) > 1048576) with
  | true => rfl
  | false =>
    simp only [decide_eq_false_iff_not] at hc1
    have z0:=ZbE a 1048576 h0_0 h0_1 h0_2 h0_3 h0_4 h0_5 (by omega) (by omega)
    cases hc0:decide (Z29 a 1048576 < 0) with
    | true => rfl
    | false =>
      simp only [decide_eq_false_iff_not] at hc0
      have hm0:=Z67 a 1 (by omega) (by omega) (fun t ht => by have q:=z0.2.2.2.2.2.2.2 t ht; omega) (by omega) (by omega) (by omega) (by omega) (by omega)
      have hm1:=ZfP c ((Z0 a 1).1) (by omega) (by omega) (by omega)
      have l0:=ZaJ a c x y z n
      have l1:=ZaK a c x y z n
      have l2:=ZaL a c x y z n
      have l3:=ZaM a c x y z n
      have l4:=ZaN a c x y z n
      have l5:=ZaO a c x y z n
      have v0:=Z67 (Z1 a c x y z n).1 1 (by omega) (by omega) (fun t ht => by have q:=z0.2.2.2.2.2.2.2 t (Z7H a c x y z n t ht); omega) (by omega) (by omega) (by omega) (by omega) (by omega)
      have w0:=Zb9 (Z1 a c x y z n).1 1 (by omega) (by omega) (fun t ht => by have q:=z0.2.2.2.2.2.2.2 t (Z7H a c x y z n t ht); omega) (by omega) (by omega) (by omega) (by omega) (by omega)
      have v1:=Z7K (Z1 a c x y z n).2.1 ((Z0 (Z1 a c x y z n).1 1).1) (by omega) (by omega) (by omega)
      simp only [Z4T] at *
      simp only [Zhh,ZdB,Z8T,Zch,w0,Zc0,beq_self_eq_true,Bool.not_true,cond_true,cond_false,bne_self_eq_false]
      rw [decide_eq_false (by omega)]
      rw [decide_eq_false (by omega)]
      rw [decide_eq_false (by omega)]
      rfl
end Go.Ab
