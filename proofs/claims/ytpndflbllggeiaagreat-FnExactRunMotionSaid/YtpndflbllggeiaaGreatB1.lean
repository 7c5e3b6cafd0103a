/- The functions of this seat as plain Lean, and that the program's are these. Printed by a program of the prover's own. -/
import Derived.Test.YtpndflbllggeiaaGreatB0
set_option linter.unusedVariables false
set_option linter.unusedSimpArgs false
set_option maxRecDepth 100000
namespace Go.Ab
open Go.RowKit Go.Proofs.Tryz
def Z19 (Y7:(List Gv)) (Ys:Int):Int:=(cond (decide ((IntKind.wrap .i64 (Ys - (Y7.length:Int))) < 0))
  (-1)
  (IntKind.wrap .i64 (Ys - (Y7.length:Int))))
theorem ZbD (Y7:(List Gv)) (Ys:Int) (hp0:Y7.length≤9223372036854775807)  : Fn prog 75 [.sl (Y7.map Gv.c), .i .i64 Ys] (.i .i64 (Z19 Y7 Ys)) []:=by
 have p {a C} (s:Scr a C):=sZ Gv.c Y7 <| sW .i64 (Ys - (Y7.length:Int)) <| s
 cases h0:(decide ((IntKind.wrap .i64 (Ys - (Y7.length:Int))) < 0)) with
 | true =>
  have gh0:=odt h0
  refine fnS E0Ok Z4 (c:=X0 f75) [] (.i .i64 (-1)) [] func75 (p (sB h0 <| sK [] sN)) rfl (by kernel_rfl) (by kernel_rfl) rfl ?_ ?_
  · simp only [Z19,h0,cond_true]
  · rfl
 | false =>
  have gh0:=odf h0
  refine fnS E0Ok Z4 (c:=X0 f75) [] (.i .i64 (IntKind.wrap .i64 (Ys - (Y7.length:Int)))) [] func75 (p (sB h0 <| sK [] sN)) rfl (by kernel_rfl) (by kernel_rfl) rfl ?_ ?_
  · simp only [Z19,h0,cond_false]
  · rfl
theorem Zbb (a:List Gv) (left:Int) (h0:a.length≤9223372036854775807) (h1:-1≤left) (h2:left≤1048576):-1≤Z19 a left∧Z19 a left≤left∧(Z19 a left < 0∨(a.length:Int)≤left):=by
  unfold Z19
  rw [X1K (by omega) (by omega)]
  by_cases h:left - (a.length:Int) < 0
  · simp [h]; omega
  · simp [h]; omega
def Z2B (Y7:(List Int)) (Ys:Int):Int:=(cond (decide ((IntKind.wrap .i64 (Ys - (Y7.length:Int))) < 0))
  (-1)
  (IntKind.wrap .i64 (Ys - (Y7.length:Int))))
theorem ZfT (Y7:(List Int)) (Ys:Int) (hp0:Y7.length≤9223372036854775807)  : Fn prog 134 [.sl (Y7.map (cI .i64)), .i .i64 Ys] (.i .i64 (Z2B Y7 Ys)) []:=by
 have p {a C} (s:Scr a C):=sZ (cI .i64) Y7 <| sW .i64 (Ys - (Y7.length:Int)) <| s
 cases h0:(decide ((IntKind.wrap .i64 (Ys - (Y7.length:Int))) < 0)) with
 | true =>
  have gh0:=odt h0
  refine fnS E0Ok Z4 (c:=X0 f134) [] (.i .i64 (-1)) [] func134 (p (sB h0 <| sK [] sN)) rfl (by kernel_rfl) (by kernel_rfl) rfl ?_ ?_
  · simp only [Z2B,h0,cond_true]
  · rfl
 | false =>
  have gh0:=odf h0
  refine fnS E0Ok Z4 (c:=X0 f134) [] (.i .i64 (IntKind.wrap .i64 (Ys - (Y7.length:Int)))) [] func134 (p (sB h0 <| sK [] sN)) rfl (by kernel_rfl) (by kernel_rfl) rfl ?_ ?_
  · simp only [Z2B,h0,cond_false]
  · rfl
theorem Zfi (a:List Int) (left:Int) (h0:a.length≤9223372036854775807) (h1:-1≤left) (h2:left≤1048576):-1≤Z2B a left∧Z2B a left≤left∧(Z2B a left < 0∨(a.length:Int)≤left):=by
  unfold Z2B
  rw [X1K (by omega) (by omega)]
  by_cases h:left - (a.length:Int) < 0
  · simp [h]; omega
  · simp [h]; omega
def Z1U (Y7:(List (List Int))) (Ys:Int):Nat→Int→Int→(Unit) ⊕ (Int)
  | 0,_,_ => .inl default
  | k + 1,Y12,Ye => (cond (decide (Ye < (Y7.length:Int)))
    (cond (decide ((Z2B (Y7.getD Ye.toNat default) Y12) < 0))
      (.inl ())
      (Z1U Y7 Ys k (Z2B (Y7.getD Ye.toNat default) Y12) (Ye + 1)))
    (.inr Y12))
def Z5A (Y7:(List (List Int))) (Ys:Int):(Unit) ⊕ (Int)→Ex × St
  | .inl r => (.ret,⟨an 4 (.i .i64 (-1) :: an 22 []),[]⟩)
  | .inr r => ((.exit 0),⟨.sl (Y7.map (cL (cI .i64))) :: .i .i64 r :: an 4 (.i .i64 Ys :: .sl (Y7.map (cL (cI .i64))) :: .i .i64 (Y7.length:Int) :: .i .i64 (IntKind.wrap .i64 (Ys - (Y7.length:Int))) :: .i .i64 (IntKind.wrap .i64 (Ys - (Y7.length:Int))) :: .b (decide ((IntKind.wrap .i64 (Ys - (Y7.length:Int))) < 0)) :: an 15 []),[]⟩)
def ZdC (Y7:(List (List Int))) (Ys:Int) (Y12:Int) (Ye:Int):St:=⟨.sl (Y7.map (cL (cI .i64))) :: .i .i64 Y12 :: .any :: .any :: .any :: .i .i64 Ye :: .i .i64 Ys :: .sl (Y7.map (cL (cI .i64))) :: .i .i64 (Y7.length:Int) :: .i .i64 (IntKind.wrap .i64 (Ys - (Y7.length:Int))) :: .i .i64 (IntKind.wrap .i64 (Ys - (Y7.length:Int))) :: .b (decide ((IntKind.wrap .i64 (Ys - (Y7.length:Int))) < 0)) :: an 15 [],[]⟩
theorem Z9O (Y7:(List (List Int))) (Ys:Int) (hp0:Y7.length≤9223372036854775807) (hp1:∀ t∈Y7,t.length≤9223372036854775807) (ZhR:(decide ((IntKind.wrap .i64 (Ys - (Y7.length:Int))) < 0))=false):∀ (k:Nat) (Y12:Int) (Ye:Int) (Z8o:0≤Ye) (hk:((Y7.length:Int) - Ye).toNat < k),Lp prog 0 (sub (X0 f93) [1,1,1,0,1,0,0]) (ZdC Y7 Ys Y12 Ye) (Z5A Y7 Ys (Z1U Y7 Ys k Y12 Ye)).1 (Z5A Y7 Ys (Z1U Y7 Ys k Y12 Ye)).2:=by
 intro k
 induction k with
 | zero => intro Y12 Ye Z8o hk; exact absurd hk (Nat.not_lt_zero _)
 | succ k ih =>
  intro Y12 Ye Z8o hk
  have p {a C} (s:Scr a C):=sZ (cL (cI .i64)) Y7 <| s
  cases Yn:(decide (Ye < (Y7.length:Int))) with
  | true =>
   have YM:=odt Yn
   have YS:(0:Int)≤Ye:=by clear p; exact (by assumption)
   have YT:Ye < (Y7.length:Int):=by clear p; exact (by assumption)
   have YY:(Y7.getD Ye.toNat default).length≤9223372036854775807:=by clear p; exact (by simp_all <;> omega)
   have q {a C} (s:Scr a C):=p (sB Yn <| sG (cL (cI .i64)) Y7 Ye YS YT <| sF (ZfT (Y7.getD Ye.toNat default) Y12 YY) <| s)
   clear p
   cases YL:(decide ((Z2B (Y7.getD Ye.toNat default) Y12) < 0)) with
   | true =>
    have Y1a:=odt YL
    have e:Z1U Y7 Ys (k + 1) Y12 Ye=(.inl ()):=by simp only [Z1U,Yn,YL,cond_true]
    rw [e]
    exact outR (e := .ret) E0Ok Z4 [] (mR false [4,1,22]) [] (q (sB YL <| sN)) (by kernel_rfl) (by intro h; cases h)
   | false =>
    have Y1a:=odf YL
    have YZ:(-9223372036854775808:Int)≤(Ye + 1):=by clear q; exact (by omega)
    have y_4:(Ye + 1)≤(9223372036854775807:Int):=by clear q; exact (by omega)
    have e:Z1U Y7 Ys (k + 1) Y12 Ye=(Z1U Y7 Ys k (Z2B (Y7.getD Ye.toNat default) Y12) (Ye + 1)):=by simp only [Z1U,Yn,YL,cond_true,cond_false]
    rw [e]
    exact X9 E0Ok Z4 [] (mR false [0,2,3,7,15]) [] (ih (Z2B (Y7.getD Ye.toNat default) Y12) (Ye + 1) (show 0≤(Ye + 1) from (by omega)) (by omega)) (q (sB YL <| sI (Ye + 1) YZ y_4 <| sN)) (by kernel_rfl)
  | false =>
   have YM:=odf Yn
   have e:Z1U Y7 Ys (k + 1) Y12 Ye=(.inr Y12):=by simp only [Z1U,Yn,cond_false]
   rw [e]
   exact outR (e:=(.exit 0)) E0Ok Z4 [] (mR false [0,2,4,6,15]) [] (p (sB Yn <| sN)) (by kernel_rfl) (by intro h; cases h)
def Z4q (Y7:(List (List Int))) (Ys:Int):(Unit) ⊕ (Int):=(Z1U Y7 Ys (((Y7.length:Int) - 0).toNat + 1) (IntKind.wrap .i64 (Ys - (Y7.length:Int))) 0)
def Z2D (Y7:(List (List Int))) (Ys:Int):Int:=(cond (decide ((IntKind.wrap .i64 (Ys - (Y7.length:Int))) < 0))
  (-1)
  (match (Z4q Y7 Ys) with
    | .inl r2 => (-1)
    | .inr r2 => r2))
theorem Zfj (Y7:(List (List Int))) (Ys:Int) (hp0:Y7.length≤9223372036854775807) (hp1:∀ t∈Y7,t.length≤9223372036854775807)  : Fn prog 93 [.sl (Y7.map (cL (cI .i64))), .i .i64 Ys] (.i .i64 (Z2D Y7 Ys)) []:=by
 have p {a C} (s:Scr a C):=sZ (cL (cI .i64)) Y7 <| sW .i64 (Ys - (Y7.length:Int)) <| s
 cases h0:(decide ((IntKind.wrap .i64 (Ys - (Y7.length:Int))) < 0)) with
 | true =>
  have gh0:=odt h0
  refine fnS E0Ok Z4 (c:=X0 f93) [] (.i .i64 (-1)) [] func93 (p (sB h0 <| sK [] sN)) rfl (by kernel_rfl) (by kernel_rfl) rfl ?_ ?_
  · simp only [Z2D,h0,cond_true]
  · rfl
 | false =>
  have gh0:=odf h0
  have q {a C} (s:Scr a C):=p (sB h0 <| s)
  clear p
  cases h1:(Z4q Y7 Ys) with
  | inl r2 =>
   refine fnS E0Ok Z4 (c:=X0 f93) [] (.i .i64 (-1)) [] func93 (q (sL (mR false [0,2,3,7,15]) 0 (X1 (Z5A Y7 Ys) (x:=(Z4q Y7 Ys)) (Z9O Y7 Ys hp0 hp1 h0 (((Y7.length:Int) - 0).toNat + 1) (IntKind.wrap .i64 (Ys - (Y7.length:Int))) 0 (show 0≤0 from (by omega)) (Nat.lt_succ_self _)) h1) <| sK [] sN)) rfl (by kernel_rfl) (by kernel_rfl) rfl ?_ ?_
   · simp only [Z2D,h0,h1,cond_false]
   · rfl
  | inr r2 =>
   refine fnS E0Ok Z4 (c:=X0 f93) [] (.i .i64 r2) [] func93 (q (sL (mR false [0,2,3,7,15]) 0 (X1 (Z5A Y7 Ys) (x:=(Z4q Y7 Ys)) (Z9O Y7 Ys hp0 hp1 h0 (((Y7.length:Int) - 0).toNat + 1) (IntKind.wrap .i64 (Ys - (Y7.length:Int))) 0 (show 0≤0 from (by omega)) (Nat.lt_succ_self _)) h1) <| sK [] sN)) rfl (by kernel_rfl) (by kernel_rfl) rfl ?_ ?_
   · simp only [Z2D,h0,h1,cond_false]
   · rfl
theorem Zhk (a:List (List Int)) (left:Int) (hb:∀ t∈a,t.length≤9223372036854775807):∀ (k:Nat) (l i:Int),0≤i→((a.length:Int) - i).toNat < k→-1≤l→l≤1048576 →
    Z1U a left k l i = .inl ()∨∃ r,Z1U a left k l i = .inr r∧-1≤r∧r≤l∧∀ j,i.toNat≤j→j < a.length→((a.getD j default).length:Int)≤l:=by
  intro k
  induction k with
  | zero => intro l i h0 hk; exact absurd hk (Nat.not_lt_zero _)
  | succ k ih =>
    intro l i h0 hk h1 h2
    rw [Z1U]
    by_cases hi:i < (a.length:Int)
    · have hn:i.toNat < a.length:=by omega
      rw [decide_eq_true hi,cond_true]
      have hm:(a.getD i.toNat default)∈a:=by rw [List.getD_eq_getElem?_getD,List.getElem?_eq_getElem hn]; exact List.getElem_mem hn
      obtain ⟨q1,q2,q3⟩:=Zfi (a.getD i.toNat default) l (hb _ hm) h1 h2
      cases hc:decide (Z2B (a.getD i.toNat default) l < 0) with
      | true => left; rfl
      | false =>
        simp only [decide_eq_false_iff_not] at hc
        rw [cond_false]
        rcases ih (Z2B (a.getD i.toNat default) l) (i + 1) (by omega) (by omega) q1 (by omega) with e | ⟨r,e,r1,r2,r3⟩
        · left; exact e
        · right
          refine ⟨r,e,r1,by omega,fun j hj hjl => ?_⟩
          by_cases hji:j=i.toNat
          · subst hji; omega
          · have:=r3 j (by omega) hjl; omega
    · rw [decide_eq_false hi,cond_false]
      exact .inr ⟨l,rfl,h1,Int.le_refl _,fun j hj hjl => by omega⟩
theorem ZeU (a:List (List Int)) (left:Int) (h0:a.length≤9223372036854775807) (hb:∀ t∈a,t.length≤9223372036854775807) (h1:-1≤left) (h2:left≤1048576) :
    -1≤Z2D a left∧Z2D a left≤left∧(Z2D a left < 0∨((a.length:Int)≤left∧∀ t∈a,(t.length:Int)≤left)):=by
  unfold Z2D Z4q
  rw [X1K (by omega) (by omega)]
  cases h:decide (left - (a.length:Int) < 0) with
  | true => simp only [decide_eq_true_eq] at h; rw [cond_true]; omega
  | false =>
    simp only [decide_eq_false_iff_not] at h
    rw [cond_false]
    rcases Zhk a left hb _ (left - (a.length:Int)) 0 (Int.le_refl _) (Nat.lt_succ_self _) (by omega) (by omega) with e | ⟨r,e,r1,r2,r3⟩
    · rw [e]; simp only; omega
    · rw [e]; simp only
      refine ⟨r1,by omega, .inr ⟨by omega,fun t ht => ?_⟩⟩
      obtain ⟨j,hj,rfl⟩:=List.getElem_of_mem ht
      have:=r3 j (by simp) hj
      rw [List.getD_eq_getElem?_getD,List.getElem?_eq_getElem hj,Option.getD_some] at this
      omega
def Z14 (Y7:Gm) (Ys:Int):Int:=(cond (decide ((Z19 Y7.Pq Ys) < 0))
  (-1)
  (cond (decide ((Z2D Y7.Tr (Z19 Y7.Pq Ys)) < 0))
    (-1)
    (Z2D Y7.Tr (Z19 Y7.Pq Ys))))
theorem ZgN (Y7:Gm) (Ys:Int) (hp0:Y7.Pq.length≤9223372036854775807) (hp1:Y7.Tr.length≤9223372036854775807) (hp2:∀ t∈Y7.Tr,t.length≤9223372036854775807)  : Fn prog 47 [.agg [.sl (Y7.Pq.map Gv.c), .sl (Y7.Tr.map (cL (cI .i64)))], .i .i64 Ys] (.i .i64 (Z14 Y7 Ys)) []:=by
 have p {a C} (s:Scr a C):=sF (ZbD Y7.Pq Ys hp0) <| s
 cases h0:(decide ((Z19 Y7.Pq Ys) < 0)) with
 | true =>
  have gh0:=odt h0
  refine fnS E0Ok Z4 (c:=X0 f47) [] (.i .i64 (-1)) [] func47 (p (sB h0 <| sK [] sN)) rfl (by kernel_rfl) (by kernel_rfl) rfl ?_ ?_
  · simp only [Z14,h0,cond_true]
  · rfl
 | false =>
  have gh0:=odf h0
  have q {a C} (s:Scr a C):=p (sB h0 <| sF (Zfj Y7.Tr (Z19 Y7.Pq Ys) hp1 hp2) <| s)
  clear p
  cases h1:(decide ((Z2D Y7.Tr (Z19 Y7.Pq Ys)) < 0)) with
  | true =>
   have gh1:=odt h1
   refine fnS E0Ok Z4 (c:=X0 f47) [] (.i .i64 (-1)) [] func47 (q (sB h1 <| sK [] sN)) rfl (by kernel_rfl) (by kernel_rfl) rfl ?_ ?_
   · simp only [Z14,h0,h1,cond_true,cond_false]
   · rfl
  | false =>
   have gh1:=odf h1
   refine fnS E0Ok Z4 (c:=X0 f47) [] (.i .i64 (Z2D Y7.Tr (Z19 Y7.Pq Ys))) [] func47 (q (sB h1 <| sK [] sN)) rfl (by kernel_rfl) (by kernel_rfl) rfl ?_ ?_
   · simp only [Z14,h0,h1,cond_false]
   · rfl
theorem Zgk (a:Gm) (left:Int) (h0:a.Pq.length≤9223372036854775807) (h3:a.Tr.length≤9223372036854775807) (hb:∀ t∈a.Tr,t.length≤9223372036854775807) (h1:-1≤left) (h2:left≤1048576) :
    -1≤Z14 a left∧Z14 a left≤left∧(Z14 a left < 0∨(a.Pq.length:Int)≤left)∧(Z14 a left < 0∨(a.Tr.length:Int)≤left)∧∀ t∈a.Tr,Z14 a left < 0∨(t.length:Int)≤left:=by
  have key:-1≤Z14 a left∧Z14 a left≤left∧(Z14 a left < 0∨((a.Pq.length:Int)≤left∧(a.Tr.length:Int)≤left∧∀ t∈a.Tr,(t.length:Int)≤left)):=by
    unfold Z14
    obtain ⟨p1,p2,p3⟩:=Zbb a.Pq left h0 h1 h2
    cases h:decide (Z19 a.Pq left < 0) with
    | true => simp only [decide_eq_true_eq] at h; rw [cond_true]; refine ⟨by omega,by omega, .inl (by omega)⟩
    | false =>
      simp only [decide_eq_false_iff_not] at h
      rw [cond_false]
      obtain ⟨q1,q2,q3⟩:=ZeU a.Tr (Z19 a.Pq left) h3 hb p1 (by omega)
      cases h':decide (Z2D a.Tr (Z19 a.Pq left) < 0) with
      | true => rw [cond_true]; exact ⟨by omega,by omega, .inl (by omega)⟩
      | false =>
        simp only [decide_eq_false_iff_not] at h'
        rw [cond_false]
        rcases q3 with q | ⟨qa,qb⟩
        · omega
        · exact ⟨q1,by omega, .inr ⟨by omega,by omega,fun t ht => by have:=qb t ht; omega⟩⟩
  obtain ⟨k1,k2,k3⟩:=key
  rcases k3 with k3 | ⟨ka,kb,kc⟩
  · exact ⟨k1,k2, .inl k3, .inl k3,fun t ht => .inl k3⟩
  · exact ⟨k1,k2, .inr ka, .inr kb,fun t ht => .inr (kc t ht)⟩
def Z1Q (Y7:(List Gs)) (Ys:Int):Int:=(cond (decide ((IntKind.wrap .i64 (Ys - (Y7.length:Int))) < 0))
  (-1)
  (IntKind.wrap .i64 (Ys - (Y7.length:Int))))
theorem Zfk (Y7:(List Gs)) (Ys:Int) (hp0:Y7.length≤9223372036854775807)  : Fn prog 48 [.sl (Y7.map Gs.c), .i .i64 Ys] (.i .i64 (Z1Q Y7 Ys)) []:=by
 have p {a C} (s:Scr a C):=sZ Gs.c Y7 <| sW .i64 (Ys - (Y7.length:Int)) <| s
 cases h0:(decide ((IntKind.wrap .i64 (Ys - (Y7.length:Int))) < 0)) with
 | true =>
  have gh0:=odt h0
  refine fnS E0Ok Z4 (c:=X0 f48) [] (.i .i64 (-1)) [] func48 (p (sB h0 <| sK [] sN)) rfl (by kernel_rfl) (by kernel_rfl) rfl ?_ ?_
  · simp only [Z1Q,h0,cond_true]
  · rfl
 | false =>
  have gh0:=odf h0
  refine fnS E0Ok Z4 (c:=X0 f48) [] (.i .i64 (IntKind.wrap .i64 (Ys - (Y7.length:Int)))) [] func48 (p (sB h0 <| sK [] sN)) rfl (by kernel_rfl) (by kernel_rfl) rfl ?_ ?_
  · simp only [Z1Q,h0,cond_false]
  · rfl
theorem ZeV (a:List Gs) (left:Int) (h0:a.length≤9223372036854775807) (h1:-1≤left) (h2:left≤1048576):-1≤Z1Q a left∧Z1Q a left≤left∧(Z1Q a left < 0∨(a.length:Int)≤left):=by
  unfold Z1Q
  rw [X1K (by omega) (by omega)]
  by_cases h:left - (a.length:Int) < 0
  · simp [h]; omega
  · simp [h]; omega
def Z2G (Y7:(List Nat)) (Ys:Int):Int:=(cond (decide ((IntKind.wrap .i64 (Ys - (Y7.length:Int))) < 0))
  (-1)
  (IntKind.wrap .i64 (Ys - (Y7.length:Int))))
theorem ZeW (Y7:(List Nat)) (Ys:Int) (hp0:Y7.length≤9223372036854775807)  : Fn prog 49 [.sl (Y7.map (cF .f32)), .i .i64 Ys] (.i .i64 (Z2G Y7 Ys)) []:=by
 have p {a C} (s:Scr a C):=sZ (cF .f32) Y7 <| sW .i64 (Ys - (Y7.length:Int)) <| s
 cases h0:(decide ((IntKind.wrap .i64 (Ys - (Y7.length:Int))) < 0)) with
 | true =>
  have gh0:=odt h0
  refine fnS E0Ok Z4 (c:=X0 f49) [] (.i .i64 (-1)) [] func49 (p (sB h0 <| sK [] sN)) rfl (by kernel_rfl) (by kernel_rfl) rfl ?_ ?_
  · simp only [Z2G,h0,cond_true]
  · rfl
 | false =>
  have gh0:=odf h0
  refine fnS E0Ok Z4 (c:=X0 f49) [] (.i .i64 (IntKind.wrap .i64 (Ys - (Y7.length:Int)))) [] func49 (p (sB h0 <| sK [] sN)) rfl (by kernel_rfl) (by kernel_rfl) rfl ?_ ?_
  · simp only [Z2G,h0,cond_false]
  · rfl
theorem Zee (a:List Nat) (left:Int) (h0:a.length≤9223372036854775807) (h1:-1≤left) (h2:left≤1048576):-1≤Z2G a left∧Z2G a left≤left∧(Z2G a left < 0∨(a.length:Int)≤left):=by
  unfold Z2G
  rw [X1K (by omega) (by omega)]
  by_cases h:left - (a.length:Int) < 0
  · simp [h]; omega
  · simp [h]; omega
def Z1x (Y7:Gb) (Ys:Int):Int:=(cond (decide ((Z14 Y7.Me Ys) < 0))
  (-1)
  (cond (decide ((Z1Q Y7.Sp (Z14 Y7.Me Ys)) < 0))
    (-1)
    (cond (decide ((Z2G Y7.We (Z1Q Y7.Sp (Z14 Y7.Me Ys))) < 0))
      (-1)
      (Z2G Y7.We (Z1Q Y7.Sp (Z14 Y7.Me Ys))))))
theorem ZgO (Y7:Gb) (Ys:Int) (hp0:Y7.Me.Pq.length≤9223372036854775807) (hp1:Y7.Me.Tr.length≤9223372036854775807) (hp2:∀ t∈Y7.Me.Tr,t.length≤9223372036854775807) (hp3:Y7.Sp.length≤9223372036854775807) (hp4:Y7.We.length≤9223372036854775807)  : Fn prog 11 [.agg [.sl (Y7.Me.Pq.map Gv.c), .sl (Y7.Me.Tr.map (cL (cI .i64))), .sl (Y7.Sp.map Gs.c), .f .f32 Y7.Film, .f .f32 Y7.Bend, .sl (Y7.We.map (cF .f32)), .f .f32 Y7.Fall.X, .f .f32 Y7.Fall.Y, .f .f32 Y7.Fall.Z], .i .i64 Ys] (.i .i64 (Z1x Y7 Ys)) []:=by
 have p {a C} (s:Scr a C):=sF (ZgN Y7.Me Ys hp0 hp1 hp2) <| s
 cases h0:(decide ((Z14 Y7.Me Ys) < 0)) with
 | true =>
  have gh0:=odt h0
  refine fnS E0Ok Z4 (c:=X0 f11) [] (.i .i64 (-1)) [] func11 (p (sB h0 <| sK [] sN)) rfl (by kernel_rfl) (by kernel_rfl) rfl ?_ ?_
  · simp only [Z1x,h0,cond_true]
  · rfl
 | false =>
  have gh0:=odf h0
  have q {a C} (s:Scr a C):=p (sB h0 <| sF (Zfk Y7.Sp (Z14 Y7.Me Ys) hp3) <| s)
  clear p
  cases h1:(decide ((Z1Q Y7.Sp (Z14 Y7.Me Ys)) < 0)) with
  | true =>
   have gh1:=odt h1
   refine fnS E0Ok Z4 (c:=X0 f11) [] (.i .i64 (-1)) [] func11 (q (sB h1 <| sK [] sN)) rfl (by kernel_rfl) (by kernel_rfl) rfl ?_ ?_
   · simp only [Z1x,h0,h1,cond_true,cond_false]
   · rfl
  | false =>
   have gh1:=odf h1
   have p {a C} (s:Scr a C):=q (sB h1 <| sF (ZeW Y7.We (Z1Q Y7.Sp (Z14 Y7.Me Ys)) hp4) <| s)
   clear q
   cases h2:(decide ((Z2G Y7.We (Z1Q Y7.Sp (Z14 Y7.Me Ys))) < 0)) with
   | true =>
    have gh2:=odt h2
    refine fnS E0Ok Z4 (c:=X0 f11) [] (.i .i64 (-1)) [] func11 (p (sB h2 <| sK [] sN)) rfl (by kernel_rfl) (by kernel_rfl) rfl ?_ ?_
    · simp only [Z1x,h0,h1,h2,cond_true,cond_false]
    · rfl
   | false =>
    have gh2:=odf h2
    refine fnS E0Ok Z4 (c:=X0 f11) [] (.i .i64 (Z2G Y7.We (Z1Q Y7.Sp (Z14 Y7.Me Ys)))) [] func11 (p (sB h2 <| sK [] sN)) rfl (by kernel_rfl) (by kernel_rfl) rfl ?_ ?_
    · simp only [Z1x,h0,h1,h2,cond_false]
    · rfl
theorem Zgl (a:Gb) (left:Int) (g0:a.Me.Pq.length≤9223372036854775807) (g1:a.Me.Tr.length≤9223372036854775807) (g2:∀ t∈a.Me.Tr,t.length≤9223372036854775807) (g3:a.Sp.length≤9223372036854775807) (g4:a.We.length≤9223372036854775807) (h1:-1≤left) (h2:left≤1048576):-1≤Z1x a left∧Z1x a left≤left∧(Z1x a left < 0∨(a.Me.Pq.length:Int)≤left)∧(Z1x a left < 0∨(a.Me.Tr.length:Int)≤left)∧(Z1x a left < 0∨(a.Sp.length:Int)≤left)∧(Z1x a left < 0∨(a.We.length:Int)≤left)∧∀ t∈a.Me.Tr,Z1x a left < 0∨(t.length:Int)≤left:=by
  unfold Z1x
  have p0:=Zgk a.Me left g0 g1 g2 (by omega) (by omega)
  cases hc0:decide (Z14 a.Me left < 0) with
  | true =>
    simp only [decide_eq_true_eq] at hc0; rw [cond_true]; refine ⟨by omega,by omega, .inl (by omega), .inl (by omega), .inl (by omega), .inl (by omega),fun t ht => .inl (by omega)⟩
  | false =>
    simp only [decide_eq_false_iff_not] at hc0; rw [cond_false]
    have p1:=ZeV a.Sp (Z14 a.Me left) g3 (by omega) (by omega)
    cases hc1:decide (Z1Q a.Sp (Z14 a.Me left) < 0) with
    | true =>
      simp only [decide_eq_true_eq] at hc1; rw [cond_true]; refine ⟨by omega,by omega, .inl (by omega), .inl (by omega), .inl (by omega), .inl (by omega),fun t ht => .inl (by omega)⟩
    | false =>
      simp only [decide_eq_false_iff_not] at hc1; rw [cond_false]
      have p2:=Zee a.We (Z1Q a.Sp (Z14 a.Me left)) g4 (by omega) (by omega)
      cases hc2:decide (Z2G a.We (Z1Q a.Sp (Z14 a.Me left)) < 0) with
      | true =>
        simp only [decide_eq_true_eq] at hc2; rw [cond_true]; refine ⟨by omega,by omega, .inl (by omega), .inl (by omega), .inl (by omega), .inl (by omega),fun t ht => .inl (by omega)⟩
      | false =>
        simp only [decide_eq_false_iff_not] at hc2; rw [cond_false]
        refine ⟨by omega,by omega, .inr (by omega), .inr (by omega), .inr (by omega), .inr (by omega),fun t ht => .inr (by have q:=p0.2.2.2.2 t ht; omega)⟩
def Z29 (Y7:Gn) (Ys:Int):Int:=(cond (decide ((Z1x Y7.Body Ys) < 0))
  (-1)
  (cond (decide ((Z19 Y7.Sd (Z1x Y7.Body Ys)) < 0))
    (-1)
    (Z19 Y7.Sd (Z1x Y7.Body Ys))))
theorem ZfU (Y7:Gn) (Ys:Int) (hp0:Y7.Body.Me.Pq.length≤9223372036854775807) (hp1:Y7.Body.Me.Tr.length≤9223372036854775807) (hp2:∀ t∈Y7.Body.Me.Tr,t.length≤9223372036854775807) (hp3:Y7.Body.Sp.length≤9223372036854775807) (hp4:Y7.Body.We.length≤9223372036854775807) (hp5:Y7.Sd.length≤9223372036854775807)  : Fn prog 31 [.agg [.sl (Y7.Body.Me.Pq.map Gv.c), .sl (Y7.Body.Me.Tr.map (cL (cI .i64))), .sl (Y7.Body.Sp.map Gs.c), .f .f32 Y7.Body.Film, .f .f32 Y7.Body.Bend, .sl (Y7.Body.We.map (cF .f32)), .f .f32 Y7.Body.Fall.X, .f .f32 Y7.Body.Fall.Y, .f .f32 Y7.Body.Fall.Z, .sl (Y7.Sd.map Gv.c)], .i .i64 Ys] (.i .i64 (Z29 Y7 Ys)) []:=by
 have p {a C} (s:Scr a C):=sF (ZgO Y7.Body Ys hp0 hp1 hp2 hp3 hp4) <| s
 cases h0:(decide ((Z1x Y7.Body Ys) < 0)) with
 | true =>
  have gh0:=odt h0
  refine fnS E0Ok Z4 (c:=X0 f31) [] (.i .i64 (-1)) [] func31 (p (sB h0 <| sK [] sN)) rfl (by kernel_rfl) (by kernel_rfl) rfl ?_ ?_
  · simp only [Z29,h0,cond_true]
  · rfl
 | false =>
  have gh0:=odf h0
  have q {a C} (s:Scr a C):=p (sB h0 <| sF (ZbD Y7.Sd (Z1x Y7.Body Ys) hp5) <| s)
  clear p
  cases h1:(decide ((Z19 Y7.Sd (Z1x Y7.Body Ys)) < 0)) with
  | true =>
   have gh1:=odt h1
   refine fnS E0Ok Z4 (c:=X0 f31) [] (.i .i64 (-1)) [] func31 (q (sB h1 <| sK [] sN)) rfl (by kernel_rfl) (by kernel_rfl) rfl ?_ ?_
   · simp only [Z29,h0,h1,cond_true,cond_false]
   · rfl
  | false =>
   have gh1:=odf h1
   refine fnS E0Ok Z4 (c:=X0 f31) [] (.i .i64 (Z19 Y7.Sd (Z1x Y7.Body Ys))) [] func31 (q (sB h1 <| sK [] sN)) rfl (by kernel_rfl) (by kernel_rfl) rfl ?_ ?_
   · simp only [Z29,h0,h1,cond_false]
   · rfl
theorem ZbE (a:Gn) (left:Int) (g0:a.Body.Me.Pq.length≤9223372036854775807) (g1:a.Body.Me.Tr.length≤9223372036854775807) (g2:∀ t∈a.Body.Me.Tr,t.length≤9223372036854775807) (g3:a.Body.Sp.length≤9223372036854775807) (g4:a.Body.We.length≤9223372036854775807) (g5:a.Sd.length≤9223372036854775807) (h1:-1≤left) (h2:left≤1048576):-1≤Z29 a left∧Z29 a left≤left∧(Z29 a left < 0∨(a.Body.Me.Pq.length:Int)≤left)∧(Z29 a left < 0∨(a.Body.Me.Tr.length:Int)≤left)∧(Z29 a left < 0∨(a.Body.Sp.length:Int)≤left)∧(Z29 a left < 0∨(a.Body.We.length:Int)≤left)∧(Z29 a left < 0∨(a.Sd.length:Int)≤left)∧∀ t∈a.Body.Me.Tr,Z29 a left < 0∨(t.length:Int)≤left:=by
  unfold Z29
  have p0:=Zgl a.Body left g0 g1 g2 g3 g4 (by omega) (by omega)
  cases hc0:decide (Z1x a.Body left < 0) with
  | true =>
    simp only [decide_eq_true_eq] at hc0; rw [cond_true]; refine ⟨by omega,by omega, .inl (by omega), .inl (by omega), .inl (by omega), .inl (by omega), .inl (by omega),fun t ht => .inl (by omega)⟩
  | false =>
    simp only [decide_eq_false_iff_not] at hc0; rw [cond_false]
    have p1:=Zbb a.Sd (Z1x a.Body left) g5 (by omega) (by omega)
    cases hc1:decide (Z19 a.Sd (Z1x a.Body left) < 0) with
    | true =>
      simp only [decide_eq_true_eq] at hc1; rw [cond_true]; refine ⟨by omega,by omega, .inl (by omega), .inl (by omega), .inl (by omega), .inl (by omega), .inl (by omega),fun t ht => .inl (by omega)⟩
    | false =>
      simp only [decide_eq_false_iff_not] at hc1; rw [cond_false]
      refine ⟨by omega,by omega, .inr (by omega), .inr (by omega), .inr (by omega), .inr (by omega), .inr (by omega),fun t ht => .inr (by have q:=p0.2.2.2.2.2.2 t ht; omega)⟩
def Z77 (Y7:Gv):Gv:=Y7
theorem ZfV (Y7:Gv)   : Fn prog 55 [.agg [.f .f32 Y7.X, .f .f32 Y7.Y, .f .f32 Y7.Z]] (.agg [.f .f32 ((Z77 Y7).X), .f .f32 ((Z77 Y7).Y), .f .f32 ((Z77 Y7).Z)]) []:=by
 refine fnS E0Ok Z4 (c:=X0 f55) [] (.agg [.f .f32 Y7.X, .f .f32 Y7.Y, .f .f32 Y7.Z]) [] func55 (sK [] sN) rfl (by kernel_rfl) (by kernel_rfl) rfl ?_ ?_
 · rfl
 · rfl
@[simp] theorem Zfl (a:Gv):Z77 a=a:=rfl
theorem Zc4 (Y7:Gv)  : Fn prog 55 [.agg [.f .f32 Y7.X, .f .f32 Y7.Y, .f .f32 Y7.Z]] (.agg [.f .f32 Y7.X, .f .f32 Y7.Y, .f .f32 Y7.Z]) []:=by
 simpa only [Zfl] using ZfV  Y7 
def Z2U (Y7:(List Gv)):Nat→Int→(List Gv)→(List Gv)
  | 0,_,_ => default
  | k + 1,Yc,Y4 => (cond (decide (Yc < (Y7.length:Int)))
    (Z2U Y7 k (Yc + 1) (Y4.set Yc.toNat (Y7.getD Yc.toNat default)))
    Y4)
def Z6J (Y7:(List Gv)) (r:(List Gv)):Ex × St:=((.exit 0),⟨.sl (Y7.map Gv.c) :: .any :: .nils :: .own 0 :: .any :: .sl (Y7.map Gv.c) :: .i .i64 (Y7.length:Int) :: .own 0 :: an 15 [],[.vec 40 3 (r.map Gv.c) false]⟩)
def Z6K (Y7:(List Gv)) (Yc:Int) (Y4:(List Gv)):St:=⟨.sl (Y7.map Gv.c) :: .any :: .nils :: .own 0 :: .i .i64 Yc :: .sl (Y7.map Gv.c) :: .i .i64 (Y7.length:Int) :: .own 0 :: an 15 [],[.vec 40 3 (Y4.map Gv.c) false]⟩
theorem ZdD (Y7:(List Gv)) (hp0:Y7.length≤1073741824):∀ (k:Nat) (Yc:Int) (Y4:(List Gv)) (Z8p:0≤Yc) (Z8q:Y4.length=Y7.length) (hk:((Y7.length:Int) - Yc).toNat < k),Lp prog 0 (sub (X0 f78) [1,1,0,1,0,0]) (Z6K Y7 Yc Y4) (Z6J Y7 (Z2U Y7 k Yc Y4)).1 (Z6J Y7 (Z2U Y7 k Yc Y4)).2:=by
 intro k
 induction k with
 | zero => intro Yc Y4 Z8p Z8q hk; exact absurd hk (Nat.not_lt_zero _)
 | succ k ih =>
  intro Yc Y4 Z8p Z8q hk
  have p {a C} (s:Scr a C):=sZ Gv.c Y7 <| s
  cases Yn:(decide (Yc < (Y7.length:Int))) with
  | true =>
   have YM:=odt Yn
   have YS:(0:Int)≤Yc:=by clear p; exact (by assumption)
   have YT:Yc < (Y7.length:Int):=by clear p; exact (by assumption)
   have YY:Yc < (Y4.length:Int):=by clear p; exact (by omega)
   have YZ:Yc.toNat < Y4.length:=by clear p; exact (by omega)
   have y_4:(-9223372036854775808:Int)≤(Yc + 1):=by clear p; exact (by omega)
   have y_5:(Yc + 1)≤(9223372036854775807:Int):=by clear p; exact (by omega)
   have e:Z2U Y7 (k + 1) Yc Y4=(Z2U Y7 k (Yc + 1) (Y4.set Yc.toNat (Y7.getD Yc.toNat default))):=by simp only [Z2U,Yn,cond_true]
   rw [e]
   exact X8 E0Ok Z4 [] (mR false [0,1,1,6,15]) [0] (⟨.sl (Y7.map Gv.c) :: .any :: .nils :: .own 0 :: .i .i64 (Yc + 1) :: .sl (Y7.map Gv.c) :: .i .i64 (Y7.length:Int) :: .own 0 :: an 15 [],[.vec 40 3 ((Y4.map Gv.c).set Yc.toNat [.f .f32 ((Y7.getD Yc.toNat default).X), .f .f32 ((Y7.getD Yc.toNat default).Y), .f .f32 ((Y7.getD Yc.toNat default).Z)]) false]⟩) (p (sB Yn <| sG Gv.c Y7 Yc YS YT <| sF (Zc4 (Y7.getD Yc.toNat default)) <| sX Gv.c Y4 Yc YS YY <| sC (Xn (c:=Gv.c) (l:=Y4) YZ) <| sI (Yc + 1) y_4 y_5 <| sN)) (by kernel_rfl) (by simp [Z6K,List.map_set,Gv.c]) (ih (Yc + 1) (Y4.set Yc.toNat (Y7.getD Yc.toNat default)) (show 0≤(Yc + 1) from (by omega)) (show (Y4.set Yc.toNat (Y7.getD Yc.toNat default)).length=Y7.length from (by simp_all <;> omega)) (by omega))
  | false =>
   have YM:=odf Yn
   have e:Z2U Y7 (k + 1) Yc Y4=Y4:=by simp only [Z2U,Yn,cond_false]
   rw [e]
   exact outR (e:=(.exit 0)) E0Ok Z4 [] (mR false [0,1,1,2,1,3,15]) [0] (p (sB Yn <| sN)) (by kernel_rfl) (by intro h; cases h)
def Z4U (Y7:(List Gv)):(List Gv):=(Z2U Y7 (((Y7.length:Int) - 0).toNat + 1) 0 (List.replicate (Y7.length:Int).toNat (⟨0,0,0⟩:Gv)))
def Z6h (Y7:(List Gv)):(List Gv):=(Z4U Y7)
theorem Zfm (Y7:(List Gv)) (hp0:Y7.length≤1073741824)  : Fn prog 78 [.sl (Y7.map Gv.c)] (.own 0) [.vec 40 3 ((Z6h Y7).map Gv.c) false]:=by
 have y0:(0:Int)≤(Y7.length:Int):=(by omega)
 have y1:((Y7.length:Int):Int)≤2147483648:=(by omega)
 refine fnS E0Ok Z4 (c:=X0 f78) [] (.own 0) [.vec 40 3 ((Z4U Y7).map Gv.c) false] func78 (sZ Gv.c Y7 <| sC (show (Y7.length:Int)=(Y7.length:Int) from rfl) <| sC y0 <| sC y1 <| sL (mR false [0,1,1,6,15]) 1 (Xj (st2:=⟨.sl (Y7.map Gv.c) :: .any :: .nils :: .own 0 :: .i .i64 0 :: .sl (Y7.map Gv.c) :: .i .i64 (Y7.length:Int) :: .own 0 :: an 15 [],[.vec 40 3 (List.replicate (Int.toNat (Y7.length:Int)) [.f .f32 0, .f .f32 0, .f .f32 0]) false]⟩) (X1 (Z6J Y7) (x:=(Z4U Y7)) (ZdD Y7 hp0 (((Y7.length:Int) - 0).toNat + 1) 0 (List.replicate (Y7.length:Int).toNat (⟨0,0,0⟩:Gv)) (show 0≤0 from (by omega)) (show (List.replicate (Y7.length:Int).toNat (⟨0,0,0⟩:Gv)).length=Y7.length from (by simp)) (Nat.lt_succ_self _)) rfl) (by simp [Z6K,Gv.c])) <| sK [0] sN) rfl (by kernel_rfl) (by kernel_rfl) rfl ?_ ?_
 · rfl
 · simp [Z6h]
@[simp] theorem ZeX (a:List Gv):Z6h a=a:=by
  unfold Z6h Z4U
  rw [X2g (f:=id) (a:=a) (lo:=Z2U a) (fun k i r => rfl)]
  exact List.map_id a
theorem ZbF (Y7:(List Gv)) (hp0:Y7.length≤1073741824):Fn prog 78 [.sl (Y7.map Gv.c)] (.own 0) [.vec 40 3 (Y7.map Gv.c) false]:=by
 simpa only [ZeX] using Zfm  Y7 hp0
def Z33 (Y7:(List Int)):Nat→Int→(List Int)→(List Int)
  | 0,_,_ => default
  | k + 1,Yc,Y4 => (cond (decide (Yc < (Y7.length:Int)))
    (Z33 Y7 k (Yc + 1) (Y4.set Yc.toNat (Y7.getD Yc.toNat default)))
    Y4)
def Z7j (Y7:(List Int)) (r:(List Int)):Ex × St:=((.exit 0),⟨.sl (Y7.map (cI .i64)) :: .any :: .nils :: .own 0 :: .any :: .sl (Y7.map (cI .i64)) :: .i .i64 (Y7.length:Int) :: .own 0 :: an 14 [],[.vec 2 1 (r.map (cI .i64)) false]⟩)
def Z7k (Y7:(List Int)) (Yc:Int) (Y4:(List Int)):St:=⟨.sl (Y7.map (cI .i64)) :: .any :: .nils :: .own 0 :: .i .i64 Yc :: .sl (Y7.map (cI .i64)) :: .i .i64 (Y7.length:Int) :: .own 0 :: an 14 [],[.vec 2 1 (Y4.map (cI .i64)) false]⟩
theorem Zef (Y7:(List Int)) (hp0:Y7.length≤1073741824):∀ (k:Nat) (Yc:Int) (Y4:(List Int)) (Z91:0≤Yc) (Z92:Y4.length=Y7.length) (hk:((Y7.length:Int) - Yc).toNat < k),Lp prog 0 (sub (X0 f21) [1,1,0,1,0,0]) (Z7k Y7 Yc Y4) (Z7j Y7 (Z33 Y7 k Yc Y4)).1 (Z7j Y7 (Z33 Y7 k Yc Y4)).2:=by
 intro k
 induction k with
 | zero => intro Yc Y4 Z91 Z92 hk; exact absurd hk (Nat.not_lt_zero _)
 | succ k ih =>
  intro Yc Y4 Z91 Z92 hk
  have p {a C} (s:Scr a C):=sZ (cI .i64) Y7 <| s
  cases Yn:(decide (Yc < (Y7.length:Int))) with
  | true =>
   have YM:=odt Yn
   have YS:(0:Int)≤Yc:=by clear p; exact (by assumption)
   have YT:Yc < (Y7.length:Int):=by clear p; exact (by assumption)
   have YY:Yc < (Y4.length:Int):=by clear p; exact (by omega)
   have YZ:Yc.toNat < Y4.length:=by clear p; exact (by omega)
   have y_4:(-9223372036854775808:Int)≤(Yc + 1):=by clear p; exact (by omega)
   have y_5:(Yc + 1)≤(9223372036854775807:Int):=by clear p; exact (by omega)
   have e:Z33 Y7 (k + 1) Yc Y4=(Z33 Y7 k (Yc + 1) (Y4.set Yc.toNat (Y7.getD Yc.toNat default))):=by simp only [Z33,Yn,cond_true]
   rw [e]
   exact X8 E0Ok Z4 [] (mR false [0,1,1,6,14]) [0] (⟨.sl (Y7.map (cI .i64)) :: .any :: .nils :: .own 0 :: .i .i64 (Yc + 1) :: .sl (Y7.map (cI .i64)) :: .i .i64 (Y7.length:Int) :: .own 0 :: an 14 [],[.vec 2 1 ((Y4.map (cI .i64)).set Yc.toNat [.i .i64 (Y7.getD Yc.toNat default)]) false]⟩) (p (sB Yn <| sG (cI .i64) Y7 Yc YS YT <| sX (cI .i64) Y4 Yc YS YY <| sC (Xn (c:=(cI .i64)) (l:=Y4) YZ) <| sI (Yc + 1) y_4 y_5 <| sN)) (by kernel_rfl) (by simp [Z7k,List.map_set,cI]) (ih (Yc + 1) (Y4.set Yc.toNat (Y7.getD Yc.toNat default)) (show 0≤(Yc + 1) from (by omega)) (show (Y4.set Yc.toNat (Y7.getD Yc.toNat default)).length=Y7.length from (by simp_all <;> omega)) (by omega))
  | false =>
   have YM:=odf Yn
   have e:Z33 Y7 (k + 1) Yc Y4=Y4:=by simp only [Z33,Yn,cond_false]
   rw [e]
   exact outR (e:=(.exit 0)) E0Ok Z4 [] (mR false [0,1,1,2,1,3,14]) [0] (p (sB Yn <| sN)) (by kernel_rfl) (by intro h; cases h)
def Z5d (Y7:(List Int)):(List Int):=(Z33 Y7 (((Y7.length:Int) - 0).toNat + 1) 0 (List.replicate (Y7.length:Int).toNat 0))
def Z78 (Y7:(List Int)):(List Int):=(Z5d Y7)
theorem ZfW (Y7:(List Int)) (hp0:Y7.length≤1073741824)  : Fn prog 21 [.sl (Y7.map (cI .i64))] (.own 0) [.vec 2 1 ((Z78 Y7).map (cI .i64)) false]:=by
 have y0:(0:Int)≤(Y7.length:Int):=(by omega)
 have y1:((Y7.length:Int):Int)≤2147483648:=(by omega)
 refine fnS E0Ok Z4 (c:=X0 f21) [] (.own 0) [.vec 2 1 ((Z5d Y7).map (cI .i64)) false] func21 (sZ (cI .i64) Y7 <| sC (show (Y7.length:Int)=(Y7.length:Int) from rfl) <| sC y0 <| sC y1 <| sL (mR false [0,1,1,6,14]) 1 (Xj (st2:=⟨.sl (Y7.map (cI .i64)) :: .any :: .nils :: .own 0 :: .i .i64 0 :: .sl (Y7.map (cI .i64)) :: .i .i64 (Y7.length:Int) :: .own 0 :: an 14 [],[.vec 2 1 (List.replicate (Int.toNat (Y7.length:Int)) [.i .i64 0]) false]⟩) (X1 (Z7j Y7) (x:=(Z5d Y7)) (Zef Y7 hp0 (((Y7.length:Int) - 0).toNat + 1) 0 (List.replicate (Y7.length:Int).toNat 0) (show 0≤0 from (by omega)) (show (List.replicate (Y7.length:Int).toNat 0).length=Y7.length from (by simp)) (Nat.lt_succ_self _)) rfl) (by simp [Z7k,cI])) <| sK [0] sN) rfl (by kernel_rfl) (by kernel_rfl) rfl ?_ ?_
 · rfl
 · simp [Z78]
@[simp] theorem Zfn (a:List Int):Z78 a=a:=by
  unfold Z78 Z5d
  rw [X2g (f:=id) (a:=a) (lo:=Z33 a) (fun k i r => rfl)]
  exact List.map_id a
theorem Z5J (Y7:(List Int)) (hp0:Y7.length≤1073741824):Fn prog 21 [.sl (Y7.map (cI .i64))] (.own 0) [.vec 2 1 (Y7.map (cI .i64)) false]:=by
 simpa only [Zfn] using ZfW  Y7 hp0
def Z2V (Y7:(List (List Int))):Nat→Int→(List (List Int))→(List (List Int))
  | 0,_,_ => default
  | k + 1,Yc,Y4 => (cond (decide (Yc < (Y7.length:Int)))
    (Z2V Y7 k (Yc + 1) (Y4.set Yc.toNat (Y7.getD Yc.toNat default)))
    Y4)
def Z6L (Y7:(List (List Int))) (r:(List (List Int))):Ex × St:=((.exit 0),⟨.sl (Y7.map (cL (cI .i64))) :: .any :: .nils :: .own 0 :: .any :: .sl (Y7.map (cL (cI .i64))) :: .i .i64 (Y7.length:Int) :: .own 0 :: an 15 [],[.nest 49 (r.map fun l => l.map (cI .i64)) false]⟩)
def Z6M (Y7:(List (List Int))) (Yc:Int) (Y4:(List (List Int))):St:=⟨.sl (Y7.map (cL (cI .i64))) :: .any :: .nils :: .own 0 :: .i .i64 Yc :: .sl (Y7.map (cL (cI .i64))) :: .i .i64 (Y7.length:Int) :: .own 0 :: an 15 [],[.nest 49 (Y4.map fun l => l.map (cI .i64)) false]⟩
theorem ZdE (Y7:(List (List Int))) (hp0:Y7.length≤1073741824) (hp1:∀ t∈Y7,t.length≤1073741824):∀ (k:Nat) (Yc:Int) (Y4:(List (List Int))) (Z8r:0≤Yc) (Z8s:Y4.length=Y7.length) (hk:((Y7.length:Int) - Yc).toNat < k),Lp prog 0 (sub (X0 f103) [1,1,0,1,0,0]) (Z6M Y7 Yc Y4) (Z6L Y7 (Z2V Y7 k Yc Y4)).1 (Z6L Y7 (Z2V Y7 k Yc Y4)).2:=by
 intro k
 induction k with
 | zero => intro Yc Y4 Z8r Z8s hk; exact absurd hk (Nat.not_lt_zero _)
 | succ k ih =>
  intro Yc Y4 Z8r Z8s hk
  have p {a C} (s:Scr a C):=sZ (cL (cI .i64)) Y7 <| s
  cases Yn:(decide (Yc < (Y7.length:Int))) with
  | true =>
   have YM:=odt Yn
   have YS:(0:Int)≤Yc:=by clear p; exact (by assumption)
   have YT:Yc < (Y7.length:Int):=by clear p; exact (by assumption)
   have YY:(Y7.getD Yc.toNat default).length≤1073741824:=by clear p; exact (by simp_all <;> omega)
   have YZ:Int.toNat Yc < Y4.length:=by clear p; exact (by omega)
   have y_4:Yc.toNat < Y4.length:=by clear p; exact (by assumption)
   have y_5:(-9223372036854775808:Int)≤(Yc + 1):=by clear p; exact (by omega)
   have y_6:(Yc + 1)≤(9223372036854775807:Int):=by clear p; exact (by omega)
   have e:Z2V Y7 (k + 1) Yc Y4=(Z2V Y7 k (Yc + 1) (Y4.set Yc.toNat (Y7.getD Yc.toNat default))):=by simp only [Z2V,Yn,cond_true]
   rw [e]
   exact X8 E0Ok Z4 [] (mR false [0,1,1,6,15]) [0] (⟨.sl (Y7.map (cL (cI .i64))) :: .any :: .nils :: .own 0 :: .i .i64 (Yc + 1) :: .sl (Y7.map (cL (cI .i64))) :: .i .i64 (Y7.length:Int) :: .own 0 :: an 15 [],[.nest 49 ((Y4.map fun l => l.map (cI .i64)).set Yc.toNat ((Y7.getD Yc.toNat default).map (cI .i64))) false]⟩) (p (sB Yn <| sG (cL (cI .i64)) Y7 Yc YS YT <| sF (Z5J (Y7.getD Yc.toNat default) YY) <| sC (X1Y (c:=(cI .i64)) (l:=Y4) (i:=Yc) YS YZ) <| sC (show Yc.toNat < (Y4.map fun l => l.map (cI .i64)).length from (by simpa using y_4)) <| sI (Yc + 1) y_5 y_6 <| sN)) (by kernel_rfl) (by simp [Z6M,List.map_set,cL,cI]) (ih (Yc + 1) (Y4.set Yc.toNat (Y7.getD Yc.toNat default)) (show 0≤(Yc + 1) from (by omega)) (show (Y4.set Yc.toNat (Y7.getD Yc.toNat default)).length=Y7.length from (by simp_all <;> omega)) (by omega))
  | false =>
   have YM:=odf Yn
   have e:Z2V Y7 (k + 1) Yc Y4=Y4:=by simp only [Z2V,Yn,cond_false]
   rw [e]
   exact outR (e:=(.exit 0)) E0Ok Z4 [] (mR false [0,1,1,2,1,3,15]) [0] (p (sB Yn <| sN)) (by kernel_rfl) (by intro h; cases h)
def Z4V (Y7:(List (List Int))):(List (List Int)):=(Z2V Y7 (((Y7.length:Int) - 0).toNat + 1) 0 (List.replicate (Y7.length:Int).toNat ([]:(List Int))))
def Z6i (Y7:(List (List Int))):(List (List Int)):=(Z4V Y7)
theorem Zfo (Y7:(List (List Int))) (hp0:Y7.length≤1073741824) (hp1:∀ t∈Y7,t.length≤1073741824)  : Fn prog 103 [.sl (Y7.map (cL (cI .i64)))] (.own 0) [.nest 49 ((Z6i Y7).map fun l => l.map (cI .i64)) false]:=by
 have y0:(0:Int)≤(Y7.length:Int):=(by omega)
 have y1:((Y7.length:Int):Int)≤2147483648:=(by omega)
 refine fnS E0Ok Z4 (c:=X0 f103) [] (.own 0) [.nest 49 ((Z4V Y7).map fun l => l.map (cI .i64)) false] func103 (sZ (cL (cI .i64)) Y7 <| sC (show (Y7.length:Int)=(Y7.length:Int) from rfl) <| sC y0 <| sC y1 <| sL (mR false [0,1,1,6,15]) 1 (Xj (st2:=⟨.sl (Y7.map (cL (cI .i64))) :: .any :: .nils :: .own 0 :: .i .i64 0 :: .sl (Y7.map (cL (cI .i64))) :: .i .i64 (Y7.length:Int) :: .own 0 :: an 15 [],[.nest 49 (List.replicate (Y7.length:Int).toNat []) false]⟩) (X1 (Z6L Y7) (x:=(Z4V Y7)) (ZdE Y7 hp0 hp1 (((Y7.length:Int) - 0).toNat + 1) 0 (List.replicate (Y7.length:Int).toNat ([]:(List Int))) (show 0≤0 from (by omega)) (show (List.replicate (Y7.length:Int).toNat ([]:(List Int))).length=Y7.length from (by simp)) (Nat.lt_succ_self _)) rfl) (by simp [Z6M,cL,cI])) <| sK [0] sN) rfl (by kernel_rfl) (by kernel_rfl) rfl ?_ ?_
 · rfl
 · simp [Z6i]
@[simp] theorem ZeY (a:List (List Int)):Z6i a=a:=by
  unfold Z6i Z4V
  rw [X2g (f:=id) (a:=a) (lo:=Z2V a) (fun k i r => rfl)]
  exact List.map_id a
theorem Zfp (Y7:(List (List Int))) (hp0:Y7.length≤1073741824) (hp1:∀ t∈Y7,t.length≤1073741824):Fn prog 103 [.sl (Y7.map (cL (cI .i64)))] (.own 0) [.nest 49 (Y7.map fun l => l.map (cI .i64)) false]:=by
 simpa only [ZeY] using Zfo  Y7 hp0 hp1
def Z6y (Y7:Gm):Gm:=Y7
theorem ZgP (Y7:Gm) (hp0:Y7.Pq.length≤1073741824) (hp1:Y7.Tr.length≤1073741824) (hp2:∀ t∈Y7.Tr,t.length≤1073741824)  : Fn prog 52 [.agg [.sl (Y7.Pq.map Gv.c), .sl (Y7.Tr.map (cL (cI .i64)))]] (.agg [.own 0, .own 1]) [.vec 40 3 (((Z6y Y7).Pq).map Gv.c) false, .nest 49 (((Z6y Y7).Tr).map fun l => l.map (cI .i64)) false]:=by
 refine fnS E0Ok Z4 (c:=X0 f52) [] (.agg [.own 0, .own 1]) [.vec 40 3 (Y7.Pq.map Gv.c) false, .nest 49 (Y7.Tr.map fun l => l.map (cI .i64)) false] func52 (sF (ZbF Y7.Pq hp0) <| sF (Zfp Y7.Tr hp1 hp2) <| sK [3,4] sN) rfl (by kernel_rfl) (by kernel_rfl) rfl ?_ ?_
 · rfl
 · simp [Z6y]
@[simp] theorem Zgm (a:Gm):Z6y a=a:=by
  simp [Z6y]
theorem ZgQ (Y7:Gm) (hp0:Y7.Pq.length≤1073741824) (hp1:Y7.Tr.length≤1073741824) (hp2:∀ t∈Y7.Tr,t.length≤1073741824):Fn prog 52 [.agg [.sl (Y7.Pq.map Gv.c), .sl (Y7.Tr.map (cL (cI .i64)))]] (.agg [.own 0, .own 1]) [.vec 40 3 (Y7.Pq.map Gv.c) false, .nest 49 (Y7.Tr.map fun l => l.map (cI .i64)) false]:=by
 simpa only [Zgm] using ZgP  Y7 hp0 hp1 hp2
def Z5K (Y7:Gs):Gs:=Y7
theorem ZfX (Y7:Gs)   : Fn prog 104 [.agg [.i .i64 Y7.A, .i .i64 Y7.B, .f .f32 Y7.Long, .f .f32 Y7.Stiff]] (.agg [.i .i64 ((Z5K Y7).A), .i .i64 ((Z5K Y7).B), .f .f32 ((Z5K Y7).Long), .f .f32 ((Z5K Y7).Stiff)]) []:=by
 refine fnS E0Ok Z4 (c:=X0 f104) [] (.agg [.i .i64 Y7.A, .i .i64 Y7.B, .f .f32 Y7.Long, .f .f32 Y7.Stiff]) [] func104 (sK [] sN) rfl (by kernel_rfl) (by kernel_rfl) rfl ?_ ?_
 · rfl
 · rfl
@[simp] theorem Zfq (a:Gs):Z5K a=a:=rfl
theorem ZfY (Y7:Gs)  : Fn prog 104 [.agg [.i .i64 Y7.A, .i .i64 Y7.B, .f .f32 Y7.Long, .f .f32 Y7.Stiff]] (.agg [.i .i64 Y7.A, .i .i64 Y7.B, .f .f32 Y7.Long, .f .f32 Y7.Stiff]) []:=by
 simpa only [Zfq] using ZfX  Y7 
def Z2W (Y7:(List Gs)):Nat→Int→(List Gs)→(List Gs)
  | 0,_,_ => default
  | k + 1,Yc,Y4 => (cond (decide (Yc < (Y7.length:Int)))
    (Z2W Y7 k (Yc + 1) (Y4.set Yc.toNat (Y7.getD Yc.toNat default)))
    Y4)
def Z6N (Y7:(List Gs)) (r:(List Gs)):Ex × St:=((.exit 0),⟨.sl (Y7.map Gs.c) :: .any :: .nils :: .own 0 :: .any :: .sl (Y7.map Gs.c) :: .i .i64 (Y7.length:Int) :: .own 0 :: an 15 [],[.vec 133 4 (r.map Gs.c) false]⟩)
def Z6O (Y7:(List Gs)) (Yc:Int) (Y4:(List Gs)):St:=⟨.sl (Y7.map Gs.c) :: .any :: .nils :: .own 0 :: .i .i64 Yc :: .sl (Y7.map Gs.c) :: .i .i64 (Y7.length:Int) :: .own 0 :: an 15 [],[.vec 133 4 (Y4.map Gs.c) false]⟩
theorem ZdF (Y7:(List Gs)) (hp0:Y7.length≤1073741824):∀ (k:Nat) (Yc:Int) (Y4:(List Gs)) (Z8t:0≤Yc) (Z8u:Y4.length=Y7.length) (hk:((Y7.length:Int) - Yc).toNat < k),Lp prog 0 (sub (X0 f53) [1,1,0,1,0,0]) (Z6O Y7 Yc Y4) (Z6N Y7 (Z2W Y7 k Yc Y4)).1 (Z6N Y7 (Z2W Y7 k Yc Y4)).2:=by
 intro k
 induction k with
 | zero => intro Yc Y4 Z8t Z8u hk; exact absurd hk (Nat.not_lt_zero _)
 | succ k ih =>
  intro Yc Y4 Z8t Z8u hk
  have p {a C} (s:Scr a C):=sZ Gs.c Y7 <| s
  cases Yn:(decide (Yc < (Y7.length:Int))) with
  | true =>
   have YM:=odt Yn
   have YS:(0:Int)≤Yc:=by clear p; exact (by assumption)
   have YT:Yc < (Y7.length:Int):=by clear p; exact (by assumption)
   have YY:Yc < (Y4.length:Int):=by clear p; exact (by omega)
   have YZ:Yc.toNat < Y4.length:=by clear p; exact (by omega)
   have y_4:(-9223372036854775808:Int)≤(Yc + 1):=by clear p; exact (by omega)
   have y_5:(Yc + 1)≤(9223372036854775807:Int):=by clear p; exact (by omega)
   have e:Z2W Y7 (k + 1) Yc Y4=(Z2W Y7 k (Yc + 1) (Y4.set Yc.toNat (Y7.getD Yc.toNat default))):=by simp only [Z2W,Yn,cond_true]
   rw [e]
   exact X8 E0Ok Z4 [] (mR false [0,1,1,6,15]) [0] (⟨.sl (Y7.map Gs.c) :: .any :: .nils :: .own 0 :: .i .i64 (Yc + 1) :: .sl (Y7.map Gs.c) :: .i .i64 (Y7.length:Int) :: .own 0 :: an 15 [],[.vec 133 4 ((Y4.map Gs.c).set Yc.toNat [.i .i64 ((Y7.getD Yc.toNat default).A), .i .i64 ((Y7.getD Yc.toNat default).B), .f .f32 ((Y7.getD Yc.toNat default).Long), .f .f32 ((Y7.getD Yc.toNat default).Stiff)]) false]⟩) (p (sB Yn <| sG Gs.c Y7 Yc YS YT <| sF (ZfY (Y7.getD Yc.toNat default)) <| sX Gs.c Y4 Yc YS YY <| sC (Xn (c:=Gs.c) (l:=Y4) YZ) <| sI (Yc + 1) y_4 y_5 <| sN)) (by kernel_rfl) (by simp [Z6O,List.map_set,Gs.c]) (ih (Yc + 1) (Y4.set Yc.toNat (Y7.getD Yc.toNat default)) (show 0≤(Yc + 1) from (by omega)) (show (Y4.set Yc.toNat (Y7.getD Yc.toNat default)).length=Y7.length from (by simp_all <;> omega)) (by omega))
  | false =>
   have YM:=odf Yn
   have e:Z2W Y7 (k + 1) Yc Y4=Y4:=by simp only [Z2W,Yn,cond_false]
   rw [e]
   exact outR (e:=(.exit 0)) E0Ok Z4 [] (mR false [0,1,1,2,1,3,15]) [0] (p (sB Yn <| sN)) (by kernel_rfl) (by intro h; cases h)
def Z4W (Y7:(List Gs)):(List Gs):=(Z2W Y7 (((Y7.length:Int) - 0).toNat + 1) 0 (List.replicate (Y7.length:Int).toNat (⟨0,0,0,0⟩:Gs)))
def Z6j (Y7:(List Gs)):(List Gs):=(Z4W Y7)
theorem Zfr (Y7:(List Gs)) (hp0:Y7.length≤1073741824)  : Fn prog 53 [.sl (Y7.map Gs.c)] (.own 0) [.vec 133 4 ((Z6j Y7).map Gs.c) false]:=by
 have y0:(0:Int)≤(Y7.length:Int):=(by omega)
 have y1:((Y7.length:Int):Int)≤2147483648:=(by omega)
 refine fnS E0Ok Z4 (c:=X0 f53) [] (.own 0) [.vec 133 4 ((Z4W Y7).map Gs.c) false] func53 (sZ Gs.c Y7 <| sC (show (Y7.length:Int)=(Y7.length:Int) from rfl) <| sC y0 <| sC y1 <| sL (mR false [0,1,1,6,15]) 1 (Xj (st2:=⟨.sl (Y7.map Gs.c) :: .any :: .nils :: .own 0 :: .i .i64 0 :: .sl (Y7.map Gs.c) :: .i .i64 (Y7.length:Int) :: .own 0 :: an 15 [],[.vec 133 4 (List.replicate (Int.toNat (Y7.length:Int)) [.i .i64 0, .i .i64 0, .f .f32 0, .f .f32 0]) false]⟩) (X1 (Z6N Y7) (x:=(Z4W Y7)) (ZdF Y7 hp0 (((Y7.length:Int) - 0).toNat + 1) 0 (List.replicate (Y7.length:Int).toNat (⟨0,0,0,0⟩:Gs)) (show 0≤0 from (by omega)) (show (List.replicate (Y7.length:Int).toNat (⟨0,0,0,0⟩:Gs)).length=Y7.length from (by simp)) (Nat.lt_succ_self _)) rfl) (by simp [Z6O,Gs.c])) <| sK [0] sN) rfl (by kernel_rfl) (by kernel_rfl) rfl ?_ ?_
 · rfl
 · simp [Z6j]
@[simp] theorem ZeZ (a:List Gs):Z6j a=a:=by
  unfold Z6j Z4W
  rw [X2g (f:=id) (a:=a) (lo:=Z2W a) (fun k i r => rfl)]
  exact List.map_id a
theorem Zfs (Y7:(List Gs)) (hp0:Y7.length≤1073741824):Fn prog 53 [.sl (Y7.map Gs.c)] (.own 0) [.vec 133 4 (Y7.map Gs.c) false]:=by
 simpa only [ZeZ] using Zfr  Y7 hp0
def Z2H (Y7:(List Nat)):Nat→Int→(List Nat)→(List Nat)
  | 0,_,_ => default
  | k + 1,Yc,Y4 => (cond (decide (Yc < (Y7.length:Int)))
    (Z2H Y7 k (Yc + 1) (Y4.set Yc.toNat (Y7.getD Yc.toNat default)))
    Y4)
def Z6k (Y7:(List Nat)) (r:(List Nat)):Ex × St:=((.exit 0),⟨.sl (Y7.map (cF .f32)) :: .any :: .nils :: .own 0 :: .any :: .sl (Y7.map (cF .f32)) :: .i .i64 (Y7.length:Int) :: .own 0 :: an 14 [],[.vec 27 1 (r.map (cF .f32)) false]⟩)
def Z6l (Y7:(List Nat)) (Yc:Int) (Y4:(List Nat)):St:=⟨.sl (Y7.map (cF .f32)) :: .any :: .nils :: .own 0 :: .i .i64 Yc :: .sl (Y7.map (cF .f32)) :: .i .i64 (Y7.length:Int) :: .own 0 :: an 14 [],[.vec 27 1 (Y4.map (cF .f32)) false]⟩
theorem ZcX (Y7:(List Nat)) (hp0:Y7.length≤1073741824):∀ (k:Nat) (Yc:Int) (Y4:(List Nat)) (Z84:0≤Yc) (Z85:Y4.length=Y7.length) (hk:((Y7.length:Int) - Yc).toNat < k),Lp prog 0 (sub (X0 f54) [1,1,0,1,0,0]) (Z6l Y7 Yc Y4) (Z6k Y7 (Z2H Y7 k Yc Y4)).1 (Z6k Y7 (Z2H Y7 k Yc Y4)).2:=by
 intro k
 induction k with
 | zero => intro Yc Y4 Z84 Z85 hk; exact absurd hk (Nat.not_lt_zero _)
 | succ k ih =>
  intro Yc Y4 Z84 Z85 hk
  have p {a C} (s:Scr a C):=sZ (cF .f32) Y7 <| s
  cases Yn:(decide (Yc < (Y7.length:Int))) with
  | true =>
   have YM:=odt Yn
   have YS:(0:Int)≤Yc:=by clear p; exact (by assumption)
   have YT:Yc < (Y7.length:Int):=by clear p; exact (by assumption)
   have YY:Yc < (Y4.length:Int):=by clear p; exact (by omega)
   have YZ:Yc.toNat < Y4.length:=by clear p; exact (by omega)
   have y_4:(-9223372036854775808:Int)≤(Yc + 1):=by clear p; exact (by omega)
   have y_5:(Yc + 1)≤(9223372036854775807:Int):=by clear p; exact (by omega)
   have e:Z2H Y7 (k + 1) Yc Y4=(Z2H Y7 k (Yc + 1) (Y4.set Yc.toNat (Y7.getD Yc.toNat default))):=by simp only [Z2H,Yn,cond_true]
   rw [e]
   exact X8 E0Ok Z4 [] (mR false [0,1,1,6,14]) [0] (⟨.sl (Y7.map (cF .f32)) :: .any :: .nils :: .own 0 :: .i .i64 (Yc + 1) :: .sl (Y7.map (cF .f32)) :: .i .i64 (Y7.length:Int) :: .own 0 :: an 14 [],[.vec 27 1 ((Y4.map (cF .f32)).set Yc.toNat [.f .f32 (Y7.getD Yc.toNat default)]) false]⟩) (p (sB Yn <| sG (cF .f32) Y7 Yc YS YT <| sX (cF .f32) Y4 Yc YS YY <| sC (Xn (c:=(cF .f32)) (l:=Y4) YZ) <| sI (Yc + 1) y_4 y_5 <| sN)) (by kernel_rfl) (by simp [Z6l,List.map_set,cF]) (ih (Yc + 1) (Y4.set Yc.toNat (Y7.getD Yc.toNat default)) (show 0≤(Yc + 1) from (by omega)) (show (Y4.set Yc.toNat (Y7.getD Yc.toNat default)).length=Y7.length from (by simp_all <;> omega)) (by omega))
  | false =>
   have YM:=odf Yn
   have e:Z2H Y7 (k + 1) Yc Y4=Y4:=by simp only [Z2H,Yn,cond_false]
   rw [e]
   exact outR (e:=(.exit 0)) E0Ok Z4 [] (mR false [0,1,1,2,1,3,14]) [0] (p (sB Yn <| sN)) (by kernel_rfl) (by intro h; cases h)
def Z4O (Y7:(List Nat)):(List Nat):=(Z2H Y7 (((Y7.length:Int) - 0).toNat + 1) 0 (List.replicate (Y7.length:Int).toNat 0))
def Z5T (Y7:(List Nat)):(List Nat):=(Z4O Y7)
theorem Zf0 (Y7:(List Nat)) (hp0:Y7.length≤1073741824)  : Fn prog 54 [.sl (Y7.map (cF .f32))] (.own 0) [.vec 27 1 ((Z5T Y7).map (cF .f32)) false]:=by
 have y0:(0:Int)≤(Y7.length:Int):=(by omega)
 have y1:((Y7.length:Int):Int)≤2147483648:=(by omega)
 refine fnS E0Ok Z4 (c:=X0 f54) [] (.own 0) [.vec 27 1 ((Z4O Y7).map (cF .f32)) false] func54 (sZ (cF .f32) Y7 <| sC (show (Y7.length:Int)=(Y7.length:Int) from rfl) <| sC y0 <| sC y1 <| sL (mR false [0,1,1,6,14]) 1 (Xj (st2:=⟨.sl (Y7.map (cF .f32)) :: .any :: .nils :: .own 0 :: .i .i64 0 :: .sl (Y7.map (cF .f32)) :: .i .i64 (Y7.length:Int) :: .own 0 :: an 14 [],[.vec 27 1 (List.replicate (Int.toNat (Y7.length:Int)) [.f .f32 0]) false]⟩) (X1 (Z6k Y7) (x:=(Z4O Y7)) (ZcX Y7 hp0 (((Y7.length:Int) - 0).toNat + 1) 0 (List.replicate (Y7.length:Int).toNat 0) (show 0≤0 from (by omega)) (show (List.replicate (Y7.length:Int).toNat 0).length=Y7.length from (by simp)) (Nat.lt_succ_self _)) rfl) (by simp [Z6l,cF])) <| sK [0] sN) rfl (by kernel_rfl) (by kernel_rfl) rfl ?_ ?_
 · rfl
 · simp [Z5T]
@[simp] theorem Zeg (a:List Nat):Z5T a=a:=by
  unfold Z5T Z4O
  rw [X2g (f:=id) (a:=a) (lo:=Z2H a) (fun k i r => rfl)]
  exact List.map_id a
theorem Zf1 (Y7:(List Nat)) (hp0:Y7.length≤1073741824):Fn prog 54 [.sl (Y7.map (cF .f32))] (.own 0) [.vec 27 1 (Y7.map (cF .f32)) false]:=by
 simpa only [Zeg] using Zf0  Y7 hp0
def Z3y (Y7:Gb):Gb:=Y7
theorem ZgR (Y7:Gb) (hp0:Y7.Me.Pq.length≤1073741824) (hp1:Y7.Me.Tr.length≤1073741824) (hp2:∀ t∈Y7.Me.Tr,t.length≤1073741824) (hp3:Y7.Sp.length≤1073741824) (hp4:Y7.We.length≤1073741824)  : Fn prog 13 [.agg [.sl (Y7.Me.Pq.map Gv.c), .sl (Y7.Me.Tr.map (cL (cI .i64))), .sl (Y7.Sp.map Gs.c), .f .f32 Y7.Film, .f .f32 Y7.Bend, .sl (Y7.We.map (cF .f32)), .f .f32 Y7.Fall.X, .f .f32 Y7.Fall.Y, .f .f32 Y7.Fall.Z]] (.agg [.own 0, .own 1, .own 2, .f .f32 ((Z3y Y7).Film), .f .f32 ((Z3y Y7).Bend), .own 3, .f .f32 ((Z3y Y7).Fall.X), .f .f32 ((Z3y Y7).Fall.Y), .f .f32 ((Z3y Y7).Fall.Z)]) [.vec 40 3 (((Z3y Y7).Me.Pq).map Gv.c) false, .nest 49 (((Z3y Y7).Me.Tr).map fun l => l.map (cI .i64)) false, .vec 133 4 (((Z3y Y7).Sp).map Gs.c) false, .vec 27 1 (((Z3y Y7).We).map (cF .f32)) false]:=by
 refine fnS E0Ok Z4 (c:=X0 f13) [] (.agg [.own 0, .own 1, .own 2, .f .f32 Y7.Film, .f .f32 Y7.Bend, .own 3, .f .f32 Y7.Fall.X, .f .f32 Y7.Fall.Y, .f .f32 Y7.Fall.Z]) [.vec 40 3 (Y7.Me.Pq.map Gv.c) false, .nest 49 (Y7.Me.Tr.map fun l => l.map (cI .i64)) false, .vec 133 4 (Y7.Sp.map Gs.c) false, .vec 27 1 (Y7.We.map (cF .f32)) false] func13 (sF (ZgQ Y7.Me hp0 hp1 hp2) <| sF (Zfs Y7.Sp hp3) <| sF (Zf1 Y7.We hp4) <| sF (Zc4 Y7.Fall) <| sK [3,4,5,6] sN) rfl (by kernel_rfl) (by kernel_rfl) rfl ?_ ?_
 · rfl
 · simp [Z3y]
@[simp] theorem Zgn (a:Gb):Z3y a=a:=by
  simp [Z3y]
theorem ZgS (Y7:Gb) (hp0:Y7.Me.Pq.length≤1073741824) (hp1:Y7.Me.Tr.length≤1073741824) (hp2:∀ t∈Y7.Me.Tr,t.length≤1073741824) (hp3:Y7.Sp.length≤1073741824) (hp4:Y7.We.length≤1073741824):Fn prog 13 [.agg [.sl (Y7.Me.Pq.map Gv.c), .sl (Y7.Me.Tr.map (cL (cI .i64))), .sl (Y7.Sp.map Gs.c), .f .f32 Y7.Film, .f .f32 Y7.Bend, .sl (Y7.We.map (cF .f32)), .f .f32 Y7.Fall.X, .f .f32 Y7.Fall.Y, .f .f32 Y7.Fall.Z]] (.agg [.own 0, .own 1, .own 2, .f .f32 Y7.Film, .f .f32 Y7.Bend, .own 3, .f .f32 Y7.Fall.X, .f .f32 Y7.Fall.Y, .f .f32 Y7.Fall.Z]) [.vec 40 3 (Y7.Me.Pq.map Gv.c) false, .nest 49 (Y7.Me.Tr.map fun l => l.map (cI .i64)) false, .vec 133 4 (Y7.Sp.map Gs.c) false, .vec 27 1 (Y7.We.map (cF .f32)) false]:=by
 simpa only [Zgn] using ZgR  Y7 hp0 hp1 hp2 hp3 hp4
def Z2P (Y7:Gn):Gn:=Y7
theorem ZfZ (Y7:Gn) (hp0:Y7.Body.Me.Pq.length≤1073741824) (hp1:Y7.Body.Me.Tr.length≤1073741824) (hp2:∀ t∈Y7.Body.Me.Tr,t.length≤1073741824) (hp3:Y7.Body.Sp.length≤1073741824) (hp4:Y7.Body.We.length≤1073741824) (hp5:Y7.Sd.length≤1073741824)  : Fn prog 33 [.agg [.sl (Y7.Body.Me.Pq.map Gv.c), .sl (Y7.Body.Me.Tr.map (cL (cI .i64))), .sl (Y7.Body.Sp.map Gs.c), .f .f32 Y7.Body.Film, .f .f32 Y7.Body.Bend, .sl (Y7.Body.We.map (cF .f32)), .f .f32 Y7.Body.Fall.X, .f .f32 Y7.Body.Fall.Y, .f .f32 Y7.Body.Fall.Z, .sl (Y7.Sd.map Gv.c)]] (.agg [.own 0, .own 1, .own 2, .f .f32 ((Z2P Y7).Body.Film), .f .f32 ((Z2P Y7).Body.Bend), .own 3, .f .f32 ((Z2P Y7).Body.Fall.X), .f .f32 ((Z2P Y7).Body.Fall.Y), .f .f32 ((Z2P Y7).Body.Fall.Z), .own 4]) [.vec 40 3 (((Z2P Y7).Body.Me.Pq).map Gv.c) false, .nest 49 (((Z2P Y7).Body.Me.Tr).map fun l => l.map (cI .i64)) false, .vec 133 4 (((Z2P Y7).Body.Sp).map Gs.c) false, .vec 27 1 (((Z2P Y7).Body.We).map (cF .f32)) false, .vec 40 3 (((Z2P Y7).Sd).map Gv.c) false]:=by
 refine fnS E0Ok Z4 (c:=X0 f33) [] (.agg [.own 0, .own 1, .own 2, .f .f32 Y7.Body.Film, .f .f32 Y7.Body.Bend, .own 3, .f .f32 Y7.Body.Fall.X, .f .f32 Y7.Body.Fall.Y, .f .f32 Y7.Body.Fall.Z, .own 4]) [.vec 40 3 (Y7.Body.Me.Pq.map Gv.c) false, .nest 49 (Y7.Body.Me.Tr.map fun l => l.map (cI .i64)) false, .vec 133 4 (Y7.Body.Sp.map Gs.c) false, .vec 27 1 (Y7.Body.We.map (cF .f32)) false, .vec 40 3 (Y7.Sd.map Gv.c) false] func33 (sF (ZgS Y7.Body hp0 hp1 hp2 hp3 hp4) <| sF (ZbF Y7.Sd hp5) <| sK [3,4,5,6,7] sN) rfl (by kernel_rfl) (by kernel_rfl) rfl ?_ ?_
 · rfl
 · simp [Z2P]
@[simp] theorem Zft (a:Gn):Z2P a=a:=by
  simp [Z2P]
theorem Z79 (Y7:Gn) (hp0:Y7.Body.Me.Pq.length≤1073741824) (hp1:Y7.Body.Me.Tr.length≤1073741824) (hp2:∀ t∈Y7.Body.Me.Tr,t.length≤1073741824) (hp3:Y7.Body.Sp.length≤1073741824) (hp4:Y7.Body.We.length≤1073741824) (hp5:Y7.Sd.length≤1073741824):Fn prog 33 [.agg [.sl (Y7.Body.Me.Pq.map Gv.c), .sl (Y7.Body.Me.Tr.map (cL (cI .i64))), .sl (Y7.Body.Sp.map Gs.c), .f .f32 Y7.Body.Film, .f .f32 Y7.Body.Bend, .sl (Y7.Body.We.map (cF .f32)), .f .f32 Y7.Body.Fall.X, .f .f32 Y7.Body.Fall.Y, .f .f32 Y7.Body.Fall.Z, .sl (Y7.Sd.map Gv.c)]] (.agg [.own 0, .own 1, .own 2, .f .f32 Y7.Body.Film, .f .f32 Y7.Body.Bend, .own 3, .f .f32 Y7.Body.Fall.X, .f .f32 Y7.Body.Fall.Y, .f .f32 Y7.Body.Fall.Z, .own 4]) [.vec 40 3 (Y7.Body.Me.Pq.map Gv.c) false, .nest 49 (Y7.Body.Me.Tr.map fun l => l.map (cI .i64)) false, .vec 133 4 (Y7.Body.Sp.map Gs.c) false, .vec 27 1 (Y7.Body.We.map (cF .f32)) false, .vec 40 3 (Y7.Sd.map Gv.c) false]:=by
 simpa only [Zft] using ZfZ  Y7 hp0 hp1 hp2 hp3 hp4 hp5
def Zj (n_0:Int) (YX:Int) (YO:Int):Bool:=(cond (decide (n_0 ≥ YX))
  (decide (n_0≤YO))
  false)
theorem Z5w (n_0:Int) (YX:Int) (YO:Int)   : Fn prog 81 [.i .i64 n_0, .i .i64 YX, .i .i64 YO] (.b (Zj n_0 YX YO)) []:=by
 cases h0:(decide (n_0 ≥ YX)) with
 | true =>
  have gh0:=odt h0
  refine fnS E0Ok Z4 (c:=X0 f81) [] (.b (decide (n_0≤YO))) [] func81 (sB h0 <| sB h0 <| sB h0 <| sB h0 <| sK [] sN) rfl (by kernel_rfl) (by kernel_rfl) rfl ?_ ?_
  · simp only [Zj,h0,cond_true]
  · rfl
 | false =>
  have gh0:=odf h0
  refine fnS E0Ok Z4 (c:=X0 f81) [] (.b false) [] func81 (sB h0 <| sB h0 <| sB h0 <| sB h0 <| sK [] sN) rfl (by kernel_rfl) (by kernel_rfl) rfl ?_ ?_
  · simp only [Zj,h0,cond_false]
  · rfl
theorem Zi6 {x:Int} {n:Nat} (hn:n≤9223372036854775807) (h:Zj x 0 (IntKind.wrap .i64 ((n:Int) - 1))=true):0≤x∧x < (n:Int):=by
  unfold Zj at h
  rw [Xb (n:=(n:Int) - 1) (by omega) (by omega)] at h
  by_cases h1:x ≥ 0 <;> simp [h1] at h
  omega
def ZV (YV:(List Int)) (n_1:Int):Bool:=(cond ((YV.length:Int) != 3)
  false
  (cond ((YV.getD 0 default) == (YV.getD 1 default))
    false
    (cond ((YV.getD 1 default) == (YV.getD 2 default))
      false
      (cond ((YV.getD 0 default) == (YV.getD 2 default))
        false
        (cond (Zj (YV.getD 0 default) 0 (IntKind.wrap .i64 (n_1 - 1)))
          (cond (Zj (YV.getD 1 default) 0 (IntKind.wrap .i64 (n_1 - 1)))
            (Zj (YV.getD 2 default) 0 (IntKind.wrap .i64 (n_1 - 1)))
            false)
          false)))))
theorem Zeh (YV:(List Int)) (n_1:Int) (hp0:YV.length≤1073741824)  : Fn prog 135 [.sl (YV.map (cI .i64)), .i .i64 n_1] (.b (ZV YV n_1)) []:=by
 have p {a C} (s:Scr a C):=sK [28,28] <| sZ (cI .i64) YV <| s
 cases h0:((YV.length:Int) != 3) with
 | true =>
  have gh0:=bne_iff_ne.1 h0
  refine fnS E0Ok Z4 (c:=X0 f135) [] (.b false) [] func135 (p (sB h0 <| sB h0 <| sB h0 <| sB h0 <| sB h0 <| sB h0 <| sB h0 <| sB h0 <| sB (show true=true from rfl) <| sB (show true=true from rfl) <| sB (show true=true from rfl) <| sB (show true=true from rfl) <| sB (show true=true from rfl) <| sB (show true=true from rfl) <| sB (show true=true from rfl) <| sB (show true=true from rfl) <| sB (show true=true from rfl) <| sB (show true=true from rfl) <| sB (show true=true from rfl) <| sB (show true=true from rfl) <| sB (show true=true from rfl) <| sB (show true=true from rfl) <| sB (show true=true from rfl) <| sB (show true=true from rfl) <| sB (show true=true from rfl) <| sK [] sN)) rfl (by kernel_rfl) (by kernel_rfl) rfl ?_ ?_
  · simp only [ZV,h0,cond_true]
  · rfl
 | false =>
  have gh0:=bne_eq_false_iff_eq.1 h0
  have y0:(0:Int)≤0:=by clear p; exact (by omega)
  have y1:0 < (YV.length:Int):=by clear p; exact (by omega)
  have y2:(0:Int)≤1:=by clear p; exact (by omega)
  have y3:1 < (YV.length:Int):=by clear p; exact (by omega)
  have q {a C} (s:Scr a C):=p (sB h0 <| sB h0 <| sG (cI .i64) YV 0 y0 y1 <| sB h0 <| sB h0 <| sB h0 <| sG (cI .i64) YV 1 y2 y3 <| sB h0 <| sB h0 <| sB h0 <| s)
  clear p
  cases h1:((YV.getD 0 default) == (YV.getD 1 default)) with
  | true =>
   have gh1:=eq_of_beq h1
   refine fnS E0Ok Z4 (c:=X0 f135) [] (.b false) [] func135 (q (sB h1 <| sB h1 <| sB h1 <| sB h1 <| sB h1 <| sB h1 <| sB h1 <| sB h1 <| sB (show true=true from rfl) <| sB (show true=true from rfl) <| sB (show true=true from rfl) <| sB (show true=true from rfl) <| sB (show true=true from rfl) <| sB (show true=true from rfl) <| sB (show true=true from rfl) <| sB (show true=true from rfl) <| sB (show true=true from rfl) <| sK [] sN)) rfl (by kernel_rfl) (by kernel_rfl) rfl ?_ ?_
   · simp only [ZV,h0,h1,cond_true,cond_false]
   · rfl
  | false =>
   have gh1:=ne_of_beq_false h1
   have y4:(0:Int)≤2:=by clear q; exact (by omega)
   have y5:2 < (YV.length:Int):=by clear q; exact (by omega)
   have p {a C} (s:Scr a C):=q (sB h1 <| sB h1 <| sG (cI .i64) YV 1 y2 y3 <| sB h1 <| sB h1 <| sB h1 <| sG (cI .i64) YV 2 y4 y5 <| sB h1 <| sB h1 <| sB h1 <| s)
   clear q
   cases h2:((YV.getD 1 default) == (YV.getD 2 default)) with
   | true =>
    have gh2:=eq_of_beq h2
    refine fnS E0Ok Z4 (c:=X0 f135) [] (.b false) [] func135 (p (sB h2 <| sB h2 <| sB h2 <| sB h2 <| sB h2 <| sB h2 <| sB h2 <| sB h2 <| sB (show true=true from rfl) <| sK [] sN)) rfl (by kernel_rfl) (by kernel_rfl) rfl ?_ ?_
    · simp only [ZV,h0,h1,h2,cond_true,cond_false]
    · rfl
   | false =>
    have gh2:=ne_of_beq_false h2
    have q {a C} (s:Scr a C):=p (sB h2 <| sB h2 <| sG (cI .i64) YV 0 y0 y1 <| sB h2 <| sB h2 <| sB h2 <| sG (cI .i64) YV 2 y4 y5 <| sB h2 <| sB h2 <| sB h2 <| s)
    clear p
    cases h3:((YV.getD 0 default) == (YV.getD 2 default)) with
    | true =>
     have gh3:=eq_of_beq h3
     refine fnS E0Ok Z4 (c:=X0 f135) [] (.b false) [] func135 (q (sB h3 <| sK [] sN)) rfl (by kernel_rfl) (by kernel_rfl) rfl ?_ ?_
     · simp only [ZV,h0,h1,h2,h3,cond_true,cond_false]
     · rfl
    | false =>
     have gh3:=ne_of_beq_false h3
     have p {a C} (s:Scr a C):=q (sB h3 <| sG (cI .i64) YV 0 y0 y1 <| sW .i64 (n_1 - 1) <| sF (Z5w (YV.getD 0 default) 0 (IntKind.wrap .i64 (n_1 - 1))) <| s)
     clear q
     cases h4:(Zj (YV.getD 0 default) 0 (IntKind.wrap .i64 (n_1 - 1))) with
     | true =>
      have q {a C} (s:Scr a C):=p (sB h4 <| sB h4 <| sG (cI .i64) YV 1 y2 y3 <| sB h4 <| sB h4 <| sB h4 <| sW .i64 (n_1 - 1) <| sB h4 <| sF (Z5w (YV.getD 1 default) 0 (IntKind.wrap .i64 (n_1 - 1))) <| sB h4 <| s)
      clear p
      cases h5:(Zj (YV.getD 1 default) 0 (IntKind.wrap .i64 (n_1 - 1))) with
      | true =>
       refine fnS E0Ok Z4 (c:=X0 f135) [] (.b (Zj (YV.getD 2 default) 0 (IntKind.wrap .i64 (n_1 - 1)))) [] func135 (q (sB h5 <| sB h5 <| sG (cI .i64) YV 2 y4 y5 <| sB h5 <| sB h5 <| sB h5 <| sW .i64 (n_1 - 1) <| sB h5 <| sF (Z5w (YV.getD 2 default) 0 (IntKind.wrap .i64 (n_1 - 1))) <| sB h5 <| sK [] sN)) rfl (by kernel_rfl) (by kernel_rfl) rfl ?_ ?_
       · simp only [ZV,h0,h1,h2,h3,h4,h5,cond_true,cond_false]
       · rfl
      | false =>
       refine fnS E0Ok Z4 (c:=X0 f135) [] (.b false) [] func135 (q (sB h5 <| sB h5 <| sB h5 <| sB h5 <| sB h5 <| sB h5 <| sB h5 <| sK [] sN)) rfl (by kernel_rfl) (by kernel_rfl) rfl ?_ ?_
       · simp only [ZV,h0,h1,h2,h3,h4,h5,cond_true,cond_false]
       · rfl
     | false =>
      refine fnS E0Ok Z4 (c:=X0 f135) [] (.b false) [] func135 (p (sB h4 <| sB h4 <| sB h4 <| sB h4 <| sB h4 <| sB h4 <| sB h4 <| sB (show false=false from rfl) <| sB (show false=false from rfl) <| sB (show false=false from rfl) <| sB (show false=false from rfl) <| sB (show false=false from rfl) <| sB (show false=false from rfl) <| sB (show false=false from rfl) <| sK [] sN)) rfl (by kernel_rfl) (by kernel_rfl) rfl ?_ ?_
      · simp only [ZV,h0,h1,h2,h3,h4,cond_false]
      · rfl
def Z37 (Y3:Gm):Nat→Int→(Unit) ⊕ (Unit)
  | 0,_ => .inl default
  | k + 1,Yc => (cond (decide (Yc < (Y3.Tr.length:Int)))
    (cond (ZV (Y3.Tr.getD Yc.toNat default) (Y3.Pq.length:Int))
      (Z37 Y3 k (Yc + 1))
      (.inl ()))
    (.inr ()))
def Z7a (Y3:Gm):(Unit) ⊕ (Unit)→Ex × St
  | .inl r => (.ret,⟨.any :: .any :: .b false :: an 38 [],[]⟩)
  | .inr r => ((.exit 0),⟨.ref (Gm.c Y3) 0 :: .any :: .any :: .any :: .ref (Gm.c Y3) 0 :: .ref (Gm.c Y3) 0 :: .ref (Gm.c Y3) 0 :: .sl (Y3.Pq.map Gv.c) :: .i .i64 (Y3.Pq.length:Int) :: .b (decide ((Y3.Pq.length:Int) > 64)) :: .b (decide ((Y3.Pq.length:Int) > 64)) :: .ref (Gm.c Y3) 0 :: .ref (Gm.c Y3) 0 :: .ref (Gm.c Y3) 1 :: .sl (Y3.Tr.map (cL (cI .i64))) :: .i .i64 (Y3.Tr.length:Int) :: .b (decide ((Y3.Tr.length:Int) > 128)) :: .b (decide ((Y3.Tr.length:Int) > 128)) :: an 23 [],[]⟩)
def Zg0 (Y3:Gm) (Yc:Int):St:=⟨.ref (Gm.c Y3) 0 :: .any :: .any :: .i .i64 Yc :: .ref (Gm.c Y3) 0 :: .ref (Gm.c Y3) 0 :: .ref (Gm.c Y3) 0 :: .sl (Y3.Pq.map Gv.c) :: .i .i64 (Y3.Pq.length:Int) :: .b (decide ((Y3.Pq.length:Int) > 64)) :: .b (decide ((Y3.Pq.length:Int) > 64)) :: .ref (Gm.c Y3) 0 :: .ref (Gm.c Y3) 0 :: .ref (Gm.c Y3) 1 :: .sl (Y3.Tr.map (cL (cI .i64))) :: .i .i64 (Y3.Tr.length:Int) :: .b (decide ((Y3.Tr.length:Int) > 128)) :: .b (decide ((Y3.Tr.length:Int) > 128)) :: an 23 [],[]⟩
theorem Zc5 (Y3:Gm) (hp0:Y3.Pq.length≤1073741824) (hp1:Y3.Tr.length≤1073741824) (hp2:∀ t∈Y3.Tr,t.length≤1073741824) (ZiC:(decide ((Y3.Pq.length:Int) > 64))=false) (ZiD:(decide ((Y3.Tr.length:Int) > 128))=false):∀ (k:Nat) (Yc:Int) (Zbc:0≤Yc) (hk:((Y3.Tr.length:Int) - Yc).toNat < k),Lp prog 0 (sub (X0 f94) [1,1,0,1,0,0]) (Zg0 Y3 Yc) (Z7a Y3 (Z37 Y3 k Yc)).1 (Z7a Y3 (Z37 Y3 k Yc)).2:=by
 intro k
 induction k with
 | zero => intro Yc Zbc hk; exact absurd hk (Nat.not_lt_zero _)
 | succ k ih =>
  intro Yc Zbc hk
  have p {a C} (s:Scr a C):=sZ (cL (cI .i64)) Y3.Tr <| s
  cases Yn:(decide (Yc < (Y3.Tr.length:Int))) with
  | true =>
   have YM:=odt Yn
   have YS:(0:Int)≤Yc:=by clear p; exact (by assumption)
   have YT:Yc < (Y3.Tr.length:Int):=by clear p; exact (by assumption)
   have YY:(Y3.Tr.getD Yc.toNat default).length≤1073741824:=by clear p; exact (by simp_all <;> omega)
   have q {a C} (s:Scr a C):=p (sB Yn <| sK [12,12] <| sG (cL (cI .i64)) Y3.Tr Yc YS YT <| sZ Gv.c Y3.Pq <| sF (Zeh (Y3.Tr.getD Yc.toNat default) (Y3.Pq.length:Int) YY) <| s)
   clear p
   cases YL:(ZV (Y3.Tr.getD Yc.toNat default) (Y3.Pq.length:Int)) with
   | true =>
    have YZ:(-9223372036854775808:Int)≤(Yc + 1):=by clear q; exact (by omega)
    have y_4:(Yc + 1)≤(9223372036854775807:Int):=by clear q; exact (by omega)
    have e:Z37 Y3 (k + 1) Yc=(Z37 Y3 k (Yc + 1)):=by simp only [Z37,Yn,YL,cond_true]
    rw [e]
    exact X9 E0Ok Z4 [] (mR false [0,1,2,15,23]) [] (ih (Yc + 1) (show 0≤(Yc + 1) from (by omega)) (by omega)) (q (sB' YL <| sI (Yc + 1) YZ y_4 <| sN)) (by kernel_rfl)
   | false =>
    have e:Z37 Y3 (k + 1) Yc=(.inl ()):=by simp only [Z37,Yn,YL,cond_true,cond_false]
    rw [e]
    exact outR (e := .ret) E0Ok Z4 [] (mR false [2,1,38]) [] (q (sB' YL <| sN)) (by kernel_rfl) (by intro h; cases h)
  | false =>
   have YM:=odf Yn
   have e:Z37 Y3 (k + 1) Yc=(.inr ()):=by simp only [Z37,Yn,cond_false]
   rw [e]
   exact outR (e:=(.exit 0)) E0Ok Z4 [] (mR false [0,1,3,14,23]) [] (p (sB Yn <| sN)) (by kernel_rfl) (by intro h; cases h)
def Z59 (Y3:Gm):(Unit) ⊕ (Unit):=(Z37 Y3 (((Y3.Tr.length:Int) - 0).toNat + 1) 0)
def Z1y (Y3:Gm):Bool:=(cond (decide ((Y3.Pq.length:Int) > 64))
  false
  (cond (decide ((Y3.Tr.length:Int) > 128))
    false
    (match (Z59 Y3) with
      | .inl r3 => false
      | .inr r3 => true)))
theorem Zhl (Y3:Gm) (hp0:Y3.Pq.length≤1073741824) (hp1:Y3.Tr.length≤1073741824) (hp2:∀ t∈Y3.Tr,t.length≤1073741824)  : Fn prog 94 [.ref (Gm.c Y3) 0] (.b (Z1y Y3)) []:=by
 have p {a C} (s:Scr a C):=sZ Gv.c Y3.Pq <| s
 cases h0:(decide ((Y3.Pq.length:Int) > 64)) with
 | true =>
  have gh0:=odt h0
  refine fnS E0Ok Z4 (c:=X0 f94) [] (.b false) [] func94 (p (sB h0 <| sB h0 <| sB h0 <| sB h0 <| sB h0 <| sB h0 <| sB h0 <| sB (show true=true from rfl) <| sK [] sN)) rfl (by kernel_rfl) (by kernel_rfl) rfl ?_ ?_
  · simp only [Z1y,h0,cond_true]
  · rfl
 | false =>
  have gh0:=odf h0
  have q {a C} (s:Scr a C):=p (sB h0 <| sB h0 <| sB h0 <| sB h0 <| sB h0 <| sZ (cL (cI .i64)) Y3.Tr <| sB h0 <| sB h0 <| s)
  clear p
  cases h1:(decide ((Y3.Tr.length:Int) > 128)) with
  | true =>
   have gh1:=odt h1
   refine fnS E0Ok Z4 (c:=X0 f94) [] (.b false) [] func94 (q (sB h1 <| sK [] sN)) rfl (by kernel_rfl) (by kernel_rfl) rfl ?_ ?_
   · simp only [Z1y,h0,h1,cond_true,cond_false]
   · rfl
  | false =>
   have gh1:=odf h1
   have p {a C} (s:Scr a C):=q (sB h1 <| s)
   clear q
   cases h2:(Z59 Y3) with
   | inl r3 =>
    refine fnS E0Ok Z4 (c:=X0 f94) [] (.b false) [] func94 (p (sL (mR false [0,1,2,15,23]) 0 (X1 (Z7a Y3) (x:=(Z59 Y3)) (Zc5 Y3 hp0 hp1 hp2 h0 h1 (((Y3.Tr.length:Int) - 0).toNat + 1) 0 (show 0≤0 from (by omega)) (Nat.lt_succ_self _)) h2) <| sK [] sN)) rfl (by kernel_rfl) (by kernel_rfl) rfl ?_ ?_
    · simp only [Z1y,h0,h1,h2,cond_false]
    · rfl
   | inr r3 =>
    refine fnS E0Ok Z4 (c:=X0 f94) [] (.b true) [] func94 (p (sL (mR false [0,1,2,15,23]) 0 (X1 (Z7a Y3) (x:=(Z59 Y3)) (Zc5 Y3 hp0 hp1 hp2 h0 h1 (((Y3.Tr.length:Int) - 0).toNat + 1) 0 (show 0≤0 from (by omega)) (Nat.lt_succ_self _)) h2) <| sK [] sN)) rfl (by kernel_rfl) (by kernel_rfl) rfl ?_ ?_
    · simp only [Z1y,h0,h1,h2,cond_false]
    · rfl
theorem Zae (m:Gm):Z1y m=cond (decide ((m.Pq.length:Int) > 64)) false (cond (decide ((m.Tr.length:Int) > 128)) false (m.Tr.all fun t => ZV t (m.Pq.length:Int))):=by
  unfold Z1y Z59
  rw [XJ (a:=m.Tr) (p:=fun t => ZV t (m.Pq.length:Int)) (lo:=Z37 m) (x:=()) (y:=()) (fun k i => rfl)]
  cases (m.Tr.all fun t => ZV t (m.Pq.length:Int)) <;> rfl
theorem ZiW {t:List Int} {n:Int} (h0:0≤n) (h1:n≤64) (h:ZV t n=true):t.length=3∧∀ x∈t,0≤x∧x < n:=by
  unfold ZV at h
  rw [X1K (by omega) (by omega)] at h
  cases hl:((t.length:Int) != 3) with
  | true => rw [hl] at h; cases h
  | false =>
    rw [hl,cond_false] at h
    have hl3:t.length=3:=by simp at hl; omega
    match t,hl3 with
    | [a,b,c],_ =>
      refine ⟨rfl,?_⟩
      simp only [List.getD_cons_zero,List.getD_cons_succ,Zj] at h
      cases e1:(a == b) <;> rw [e1] at h <;> (try (cases h; done))
      cases e2:(b == c) <;> rw [e2] at h <;> (try (cases h; done))
      cases e3:(a == c) <;> rw [e3] at h <;> (try (cases h; done))
      simp only [cond_false] at h
      cases f1:decide (a ≥ 0) <;> rw [f1] at h <;> (try (cases h; done))
      cases f2:decide (a≤n - 1) <;> rw [f2] at h <;> (try (cases h; done))
      cases f3:decide (b ≥ 0) <;> rw [f3] at h <;> (try (cases h; done))
      cases f4:decide (b≤n - 1) <;> rw [f4] at h <;> (try (cases h; done))
      cases f5:decide (c ≥ 0) <;> rw [f5] at h <;> (try (cases h; done))
      simp only [cond_true,decide_eq_true_eq] at h f1 f2 f3 f4 f5
      intro x hx
      simp only [List.mem_cons,List.not_mem_nil,or_false] at hx
      rcases hx with rfl | rfl | rfl <;> omega
theorem Zih (m:Gm) (h:Z1y m=true):Xt m.Pq.length m.Tr:=by
  rw [Zae] at h
  cases h1:decide ((m.Pq.length:Int) > 64) <;> rw [h1] at h <;> (try (cases h; done))
  cases h2:decide ((m.Tr.length:Int) > 128) <;> rw [h2] at h <;> (try (cases h; done))
  simp only [cond_false,List.all_eq_true,decide_eq_false_iff_not] at h h1
  intro t ht
  exact ZiW (by omega) (by omega) (h t ht)
theorem ZiX (m:Gm) (h:Z1y m=true):OkE m.Pq.length m.Tr:=by
  have h0:=Zih m h
  rw [Zae] at h
  cases h1:decide ((m.Pq.length:Int) > 64) <;> rw [h1] at h <;> (try (cases h; done))
  cases h2:decide ((m.Tr.length:Int) > 128) <;> rw [h2] at h <;> (try (cases h; done))
  simp only [cond_false,List.all_eq_true,decide_eq_false_iff_not] at h h1 h2
  refine ⟨by omega,by omega,fun t ht => ?_⟩
  have h3:=h t ht
  obtain ⟨hl,hx⟩:=h0 t ht
  match t,hl with
  | [a,b,c],_ =>
    unfold ZV at h3
    simp only [List.getD_cons_zero,List.getD_cons_succ] at h3
    cases e0:((([a,b,c]:List Int).length:Int) != 3) <;> rw [e0] at h3 <;> (try (cases h3; done))
    cases e1:(a == b) <;> rw [e1] at h3 <;> (try (cases h3; done))
    cases e2:(b == c) <;> rw [e2] at h3 <;> (try (cases h3; done))
    cases e3:(a == c) <;> rw [e3] at h3 <;> (try (cases h3; done))
    exact ⟨a,b,c,rfl,hx a (by simp),hx b (by simp),hx c (by simp),beq_eq_false_iff_ne.1 e1,beq_eq_false_iff_ne.1 e2,beq_eq_false_iff_ne.1 e3⟩
def Z1R (x_0:Gs) (n_1:Int):Bool:=(cond (Zj x_0.A 0 (IntKind.wrap .i64 (n_1 - 1)))
  (cond (Zj x_0.B 0 (IntKind.wrap .i64 (n_1 - 1)))
    (cond (x_0.A != x_0.B)
      (fcmp .geq .f32 x_0.Long 0)
      false)
    false)
  false)
theorem Zfu (x_0:Gs) (n_1:Int)   : Fn prog 95 [.ref (Gs.c x_0) 0, .i .i64 n_1] (.b (Z1R x_0 n_1)) []:=by
 have p {a C} (s:Scr a C):=sK [25,25] <| sW .i64 (n_1 - 1) <| sF (Z5w x_0.A 0 (IntKind.wrap .i64 (n_1 - 1))) <| s
 cases h0:(Zj x_0.A 0 (IntKind.wrap .i64 (n_1 - 1))) with
 | true =>
  have q {a C} (s:Scr a C):=p (sB h0 <| sB h0 <| sB h0 <| sB h0 <| sB h0 <| sB h0 <| sW .i64 (n_1 - 1) <| sB h0 <| sF (Z5w x_0.B 0 (IntKind.wrap .i64 (n_1 - 1))) <| sB h0 <| s)
  clear p
  cases h1:(Zj x_0.B 0 (IntKind.wrap .i64 (n_1 - 1))) with
  | true =>
   have p {a C} (s:Scr a C):=q (sB h1 <| sB h1 <| sB h1 <| sB h1 <| sB h1 <| sB h1 <| sB h1 <| sB h1 <| sB h1 <| sB h1 <| s)
   clear q
   cases h2:(x_0.A != x_0.B) with
   | true =>
    have gh2:=bne_iff_ne.1 h2
    refine fnS E0Ok Z4 (c:=X0 f95) [] (.b (fcmp .geq .f32 x_0.Long 0)) [] func95 (p (sB h2 <| sB h2 <| sB h2 <| sB h2 <| sB h2 <| sB h2 <| sK [] sN)) rfl (by kernel_rfl) (by kernel_rfl) rfl ?_ ?_
    · simp only [Z1R,h0,h1,h2,cond_true]
    · rfl
   | false =>
    have gh2:=bne_eq_false_iff_eq.1 h2
    refine fnS E0Ok Z4 (c:=X0 f95) [] (.b false) [] func95 (p (sB h2 <| sB h2 <| sB h2 <| sB h2 <| sB h2 <| sB h2 <| sK [] sN)) rfl (by kernel_rfl) (by kernel_rfl) rfl ?_ ?_
    · simp only [Z1R,h0,h1,h2,cond_true,cond_false]
    · rfl
  | false =>
   refine fnS E0Ok Z4 (c:=X0 f95) [] (.b false) [] func95 (q (sB h1 <| sB h1 <| sB h1 <| sB h1 <| sB h1 <| sB h1 <| sB h1 <| sB h1 <| sB h1 <| sB h1 <| sB (show false=false from rfl) <| sB (show false=false from rfl) <| sB (show false=false from rfl) <| sB (show false=false from rfl) <| sB (show false=false from rfl) <| sB (show false=false from rfl) <| sK [] sN)) rfl (by kernel_rfl) (by kernel_rfl) rfl ?_ ?_
   · simp only [Z1R,h0,h1,cond_true,cond_false]
   · rfl
 | false =>
  refine fnS E0Ok Z4 (c:=X0 f95) [] (.b false) [] func95 (p (sB h0 <| sB h0 <| sB h0 <| sB h0 <| sB h0 <| sB h0 <| sB h0 <| sB h0 <| sB (show false=false from rfl) <| sB (show false=false from rfl) <| sB (show false=false from rfl) <| sB (show false=false from rfl) <| sB (show false=false from rfl) <| sB (show false=false from rfl) <| sB (show false=false from rfl) <| sB (show false=false from rfl) <| sB (show false=false from rfl) <| sB (show false=false from rfl) <| sB (show false=false from rfl) <| sB (show false=false from rfl) <| sB (show false=false from rfl) <| sB (show false=false from rfl) <| sB (show false=false from rfl) <| sB (show false=false from rfl) <| sK [] sN)) rfl (by kernel_rfl) (by kernel_rfl) rfl ?_ ?_
  · simp only [Z1R,h0,cond_false]
  · rfl
def Z2Q (Ya:Gb):Nat→Int→(Unit) ⊕ (Unit)
  | 0,_ => .inl default
  | k + 1,Y1 => (cond (decide (Y1 < (Ya.Sp.length:Int)))
    (cond (Z1R (Ya.Sp.getD Y1.toNat default) (Ya.Me.Pq.length:Int))
      (Z2Q Ya k (Y1 + 1))
      (.inl ()))
    (.inr ()))
def Z7b (Ya:Gb):(Unit) ⊕ (Unit)→Ex × St
  | .inl r => (.ret,⟨.any :: .any :: .b false :: an 51 [],[]⟩)
  | .inr r => ((.exit 0),⟨.ref (Gb.c Ya) 0 :: .any :: .any :: .any :: .ref (Gb.c Ya) 0 :: .ref (Gb.c Ya) 0 :: .ref (Gb.c Ya) 0 :: .b (Z1y Ya.Me) :: .b (!(Z1y Ya.Me)) :: .b (!(Z1y Ya.Me)) :: .ref (Gb.c Ya) 0 :: .ref (Gb.c Ya) 0 :: .ref (Gb.c Ya) 2 :: .sl (Ya.Sp.map Gs.c) :: .i .i64 (Ya.Sp.length:Int) :: .b (decide ((Ya.Sp.length:Int) > 200)) :: .b (decide ((Ya.Sp.length:Int) > 200)) :: .b (decide ((Ya.Sp.length:Int) > 200)) :: .ref (Gb.c Ya) 0 :: .ref (Gb.c Ya) 0 :: .ref (Gb.c Ya) 5 :: .sl (Ya.We.map (cF .f32)) :: .i .i64 (Ya.We.length:Int) :: .ref (Gb.c Ya) 0 :: .ref (Gb.c Ya) 0 :: .ref (Gb.c Ya) 0 :: .ref (Gb.c Ya) 0 :: .sl (Ya.Me.Pq.map Gv.c) :: .i .i64 (Ya.Me.Pq.length:Int) :: .b ((Ya.We.length:Int) != (Ya.Me.Pq.length:Int)) :: .b ((Ya.We.length:Int) != (Ya.Me.Pq.length:Int)) :: .ref (Gb.c Ya) 0 :: .ref (Gb.c Ya) 0 :: .ref (Gb.c Ya) 2 :: .sl (Ya.Sp.map Gs.c) :: an 19 [],[]⟩)
def Zg1 (Ya:Gb) (Y1:Int):St:=⟨.ref (Gb.c Ya) 0 :: .any :: .any :: .any :: .ref (Gb.c Ya) 0 :: .ref (Gb.c Ya) 0 :: .ref (Gb.c Ya) 0 :: .b (Z1y Ya.Me) :: .b (!(Z1y Ya.Me)) :: .b (!(Z1y Ya.Me)) :: .ref (Gb.c Ya) 0 :: .ref (Gb.c Ya) 0 :: .ref (Gb.c Ya) 2 :: .sl (Ya.Sp.map Gs.c) :: .i .i64 (Ya.Sp.length:Int) :: .b (decide ((Ya.Sp.length:Int) > 200)) :: .b (decide ((Ya.Sp.length:Int) > 200)) :: .b (decide ((Ya.Sp.length:Int) > 200)) :: .ref (Gb.c Ya) 0 :: .ref (Gb.c Ya) 0 :: .ref (Gb.c Ya) 5 :: .sl (Ya.We.map (cF .f32)) :: .i .i64 (Ya.We.length:Int) :: .ref (Gb.c Ya) 0 :: .ref (Gb.c Ya) 0 :: .ref (Gb.c Ya) 0 :: .ref (Gb.c Ya) 0 :: .sl (Ya.Me.Pq.map Gv.c) :: .i .i64 (Ya.Me.Pq.length:Int) :: .b ((Ya.We.length:Int) != (Ya.Me.Pq.length:Int)) :: .b ((Ya.We.length:Int) != (Ya.Me.Pq.length:Int)) :: .ref (Gb.c Ya) 0 :: .ref (Gb.c Ya) 0 :: .ref (Gb.c Ya) 2 :: .sl (Ya.Sp.map Gs.c) :: .i .i64 (Ya.Sp.length:Int) :: .i .i64 Y1 :: an 17 [],[]⟩
theorem Zc6 (Ya:Gb) (hp0:Ya.Me.Pq.length≤1073741824) (hp1:Ya.Me.Tr.length≤1073741824) (hp2:∀ t∈Ya.Me.Tr,t.length≤1073741824) (hp3:Ya.Sp.length≤1073741824) (hp4:Ya.We.length≤1073741824) (ZiE:((Ya.We.length:Int) != (Ya.Me.Pq.length:Int))=false) (ZiF:(decide ((Ya.Sp.length:Int) > 200))=false) (ZiG:(Z1y Ya.Me)=true):∀ (k:Nat) (Y1:Int) (Zbd:0≤Y1) (hk:((Ya.Sp.length:Int) - Y1).toNat < k),Lp prog 0 (sub (X0 f50) [1,1,0,1,0,0]) (Zg1 Ya Y1) (Z7b Ya (Z2Q Ya k Y1)).1 (Z7b Ya (Z2Q Ya k Y1)).2:=by
 intro k
 induction k with
 | zero => intro Y1 Zbd hk; exact absurd hk (Nat.not_lt_zero _)
 | succ k ih =>
  intro Y1 Zbd hk
  cases Yn:(decide (Y1 < (Ya.Sp.length:Int))) with
  | true =>
   have YM:=odt Yn
   have YS:(0:Int)≤Y1:=(by assumption)
   have YT:Y1 < (Ya.Sp.length:Int):=(by assumption)
   have p {a C} (s:Scr a C):=sB Yn <| sK [12,12] <| sG Gs.c Ya.Sp Y1 YS YT <| sZ Gv.c Ya.Me.Pq <| sF (Zfu (Ya.Sp.getD Y1.toNat default) (Ya.Me.Pq.length:Int)) <| s
   cases YL:(Z1R (Ya.Sp.getD Y1.toNat default) (Ya.Me.Pq.length:Int)) with
   | true =>
    have YY:(-9223372036854775808:Int)≤(Y1 + 1):=by clear p; exact (by omega)
    have YZ:(Y1 + 1)≤(9223372036854775807:Int):=by clear p; exact (by omega)
    have e:Z2Q Ya (k + 1) Y1=(Z2Q Ya k (Y1 + 1)):=by simp only [Z2Q,Yn,YL,cond_true]
    rw [e]
    exact X9 E0Ok Z4 [] (mR false [0,1,3,33,17]) [] (ih (Y1 + 1) (show 0≤(Y1 + 1) from (by omega)) (by omega)) (p (sB' YL <| sI (Y1 + 1) YY YZ <| sN)) (by kernel_rfl)
   | false =>
    have e:Z2Q Ya (k + 1) Y1=(.inl ()):=by simp only [Z2Q,Yn,YL,cond_true,cond_false]
    rw [e]
    exact outR (e := .ret) E0Ok Z4 [] (mR false [2,1,51]) [] (p (sB' YL <| sN)) (by kernel_rfl) (by intro h; cases h)
  | false =>
   have YM:=odf Yn
   have e:Z2Q Ya (k + 1) Y1=(.inr ()):=by simp only [Z2Q,Yn,cond_false]
   rw [e]
   exact outR (e:=(.exit 0)) E0Ok Z4 [] (mR false [0,1,3,31,19]) [] (sB Yn <| sN) (by kernel_rfl) (by intro h; cases h)
def Z4I (Ya:Gb):(Unit) ⊕ (Unit):=(Z2Q Ya (((Ya.Sp.length:Int) - 0).toNat + 1) 0)
def Z1z (Ya:Gb):Bool:=(cond (Z1y Ya.Me)
  (cond (decide ((Ya.Sp.length:Int) > 200))
    false
    (cond ((Ya.We.length:Int) != (Ya.Me.Pq.length:Int))
      false
      (match (Z4I Ya) with
        | .inl r4 => false
        | .inr r4 => true)))
  false)
theorem Zhm (Ya:Gb) (hp0:Ya.Me.Pq.length≤1073741824) (hp1:Ya.Me.Tr.length≤1073741824) (hp2:∀ t∈Ya.Me.Tr,t.length≤1073741824) (hp3:Ya.Sp.length≤1073741824) (hp4:Ya.We.length≤1073741824)  : Fn prog 50 [.ref (Gb.c Ya) 0] (.b (Z1z Ya)) []:=by
 have p {a C} (s:Scr a C):=sK [25,25] <| sF (Fn.sub (args:=[.ref (Gb.c Ya) 0]) (r := .b (Z1y Ya.Me)) (new:=[]) [some 2] (Zhl Ya.Me hp0 hp1 hp2)) <| s
 cases h0:(Z1y Ya.Me) with
 | true =>
  have q {a C} (s:Scr a C):=p (sB' h0 <| sB' h0 <| sB' h0 <| sB' h0 <| sB' h0 <| sZ Gs.c Ya.Sp <| sB' h0 <| sB' h0 <| s)
  clear p
  cases h1:(decide ((Ya.Sp.length:Int) > 200)) with
  | true =>
   have gh1:=odt h1
   refine fnS E0Ok Z4 (c:=X0 f50) [] (.b false) [] func50 (q (sB h1 <| sB h1 <| sB h1 <| sB h1 <| sB h1 <| sB h1 <| sB h1 <| sB h1 <| sB h1 <| sB h1 <| sB h1 <| sB h1 <| sB h1 <| sB (show true=true from rfl) <| sK [] sN)) rfl (by kernel_rfl) (by kernel_rfl) rfl ?_ ?_
   · simp only [Z1z,h0,h1,cond_true]
   · rfl
  | false =>
   have gh1:=odf h1
   have p {a C} (s:Scr a C):=q (sB h1 <| sB h1 <| sB h1 <| sB h1 <| sB h1 <| sZ (cF .f32) Ya.We <| sB h1 <| sB h1 <| sB h1 <| sB h1 <| sB h1 <| sB h1 <| sZ Gv.c Ya.Me.Pq <| sB h1 <| sB h1 <| s)
   clear q
   cases h2:((Ya.We.length:Int) != (Ya.Me.Pq.length:Int)) with
   | true =>
    have gh2:=bne_iff_ne.1 h2
    refine fnS E0Ok Z4 (c:=X0 f50) [] (.b false) [] func50 (p (sB h2 <| sK [] sN)) rfl (by kernel_rfl) (by kernel_rfl) rfl ?_ ?_
    · simp only [Z1z,h0,h1,h2,cond_true,cond_false]
    · rfl
   | false =>
    have gh2:=bne_eq_false_iff_eq.1 h2
    have q {a C} (s:Scr a C):=p (sB h2 <| sZ Gs.c Ya.Sp <| s)
    clear p
    cases h3:(Z4I Ya) with
    | inl r4 =>
     refine fnS E0Ok Z4 (c:=X0 f50) [] (.b false) [] func50 (q (sL (mR false [0,1,3,33,17]) 0 (X1 (Z7b Ya) (x:=(Z4I Ya)) (Zc6 Ya hp0 hp1 hp2 hp3 hp4 h2 h1 h0 (((Ya.Sp.length:Int) - 0).toNat + 1) 0 (show 0≤0 from (by omega)) (Nat.lt_succ_self _)) h3) <| sK [] sN)) rfl (by kernel_rfl) (by kernel_rfl) rfl ?_ ?_
     · simp only [Z1z,h0,h1,h2,h3,cond_true,cond_false]
     · rfl
    | inr r4 =>
     refine fnS E0Ok Z4 (c:=X0 f50) [] (.b true) [] func50 (q (sL (mR false [0,1,3,33,17]) 0 (X1 (Z7b Ya) (x:=(Z4I Ya)) (Zc6 Ya hp0 hp1 hp2 hp3 hp4 h2 h1 h0 (((Ya.Sp.length:Int) - 0).toNat + 1) 0 (show 0≤0 from (by omega)) (Nat.lt_succ_self _)) h3) <| sK [] sN)) rfl (by kernel_rfl) (by kernel_rfl) rfl ?_ ?_
     · simp only [Z1z,h0,h1,h2,h3,cond_true,cond_false]
     · rfl
 | false =>
  refine fnS E0Ok Z4 (c:=X0 f50) [] (.b false) [] func50 (p (sB' h0 <| sB' h0 <| sB' h0 <| sB' h0 <| sB' h0 <| sB' h0 <| sB' h0 <| sB (show true=true from rfl) <| sB (show true=true from rfl) <| sB (show true=true from rfl) <| sB (show true=true from rfl) <| sB (show true=true from rfl) <| sB (show true=true from rfl) <| sB (show true=true from rfl) <| sB (show true=true from rfl) <| sB (show true=true from rfl) <| sB (show true=true from rfl) <| sB (show true=true from rfl) <| sB (show true=true from rfl) <| sB (show true=true from rfl) <| sB (show true=true from rfl) <| sK [] sN)) rfl (by kernel_rfl) (by kernel_rfl) rfl ?_ ?_
  · simp only [Z1z,h0,cond_false]
  · rfl
end Go.Ab
