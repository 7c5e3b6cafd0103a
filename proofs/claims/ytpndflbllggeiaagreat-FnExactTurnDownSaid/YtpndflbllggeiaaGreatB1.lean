/- The functions of this seat as plain Lean, and that the program's are these. Printed by a program of the prover's own. -/
import Derived.Test.YtpndflbllggeiaaGreatB0
set_option linter.unusedVariables false
set_option linter.unusedSimpArgs false
set_option maxRecDepth 100000
namespace Go.Ab
open Go.RowKit Go.Proofs.Tryz
def Z1V (Yg:(List Gv)) (YC:Int):Int:=(cond (decide ((IntKind.wrap .i64 (YC - (Yg.length:Int))) < 0))
  (-1)
  (IntKind.wrap .i64 (YC - (Yg.length:Int))))
theorem Zfz (Yg:(List Gv)) (YC:Int) (hp0:Yg.length≤9223372036854775807)  : Fn prog 75 [.sl (Yg.map Gv.c), .i .i64 YC] (.i .i64 (Z1V Yg YC)) []:=by
 have p {a C} (s:Scr a C):=sZ Gv.c Yg<|sW .i64 (YC - (Yg.length:Int))<|s
 cases h0:(decide ((IntKind.wrap .i64 (YC - (Yg.length:Int))) < 0)) with
 | true =>
  have gh0:=odt h0
  refine fnS E0Ok Z7 (c:=X0 f75) [] (.i .i64 (-1)) [] func75 (p (sB h0<|sK [] sN)) rfl (by kernel_rfl) (by kernel_rfl) rfl ?_ ?_
  · simp only [Z1V,h0,cond_true]
  · rfl
 | false =>
  have gh0:=odf h0
  refine fnS E0Ok Z7 (c:=X0 f75) [] (.i .i64 (IntKind.wrap .i64 (YC - (Yg.length:Int)))) [] func75 (p (sB h0<|sK [] sN)) rfl (by kernel_rfl) (by kernel_rfl) rfl ?_ ?_
  · simp only [Z1V,h0,cond_false]
  · rfl
theorem Zf9 (a:List Gv) (left:Int) (h0:a.length≤9223372036854775807) (h1:-1≤left) (h2:left≤1048576):-1≤Z1V a left∧Z1V a left≤left∧(Z1V a left < 0∨(a.length:Int)≤left):=by
  unfold Z1V
  rw [X1I (by omega) (by omega)]
  by_cases h:left - (a.length:Int) < 0
  · simp [h];omega
  · simp [h];omega
def Z2D (Yg:(List Int)) (YC:Int):Int:=(cond (decide ((IntKind.wrap .i64 (YC - (Yg.length:Int))) < 0))
  (-1)
  (IntKind.wrap .i64 (YC - (Yg.length:Int))))
theorem Zg9 (Yg:(List Int)) (YC:Int) (hp0:Yg.length≤9223372036854775807)  : Fn prog 134 [.sl (Yg.map (cI .i64)), .i .i64 YC] (.i .i64 (Z2D Yg YC)) []:=by
 have p {a C} (s:Scr a C):=sZ (cI .i64) Yg<|sW .i64 (YC - (Yg.length:Int))<|s
 cases h0:(decide ((IntKind.wrap .i64 (YC - (Yg.length:Int))) < 0)) with
 | true =>
  have gh0:=odt h0
  refine fnS E0Ok Z7 (c:=X0 f134) [] (.i .i64 (-1)) [] func134 (p (sB h0<|sK [] sN)) rfl (by kernel_rfl) (by kernel_rfl) rfl ?_ ?_
  · simp only [Z2D,h0,cond_true]
  · rfl
 | false =>
  have gh0:=odf h0
  refine fnS E0Ok Z7 (c:=X0 f134) [] (.i .i64 (IntKind.wrap .i64 (YC - (Yg.length:Int)))) [] func134 (p (sB h0<|sK [] sN)) rfl (by kernel_rfl) (by kernel_rfl) rfl ?_ ?_
  · simp only [Z2D,h0,cond_false]
  · rfl
theorem ZfA (a:List Int) (left:Int) (h0:a.length≤9223372036854775807) (h1:-1≤left) (h2:left≤1048576):-1≤Z2D a left∧Z2D a left≤left∧(Z2D a left < 0∨(a.length:Int)≤left):=by
  unfold Z2D
  rw [X1I (by omega) (by omega)]
  by_cases h:left - (a.length:Int) < 0
  · simp [h];omega
  · simp [h];omega
def Z21 (Yg:(List (List Int))) (YC:Int):Nat→Int→Int→(Unit) ⊕ (Int)
  | 0,_,_ => .inl default
  | k + 1,Y14,Ym=>(cond (decide (Ym < (Yg.length:Int)))
    (cond (decide ((Z2D (Yg.getD Ym.toNat default) Y14) < 0))
      (.inl ())
      (Z21 Yg YC k (Z2D (Yg.getD Ym.toNat default) Y14) (Ym + 1)))
    (.inr Y14))
def Z5H (Yg:(List (List Int))) (YC:Int):(Unit) ⊕ (Int)→Ex × St
  | .inl r=>(.ret,⟨an 4 (.i .i64 (-1) :: an 22 []),[]⟩)
  | .inr r=>((.exit 0),⟨.sl (Yg.map (cL (cI .i64))) :: .i .i64 r :: an 4 (.i .i64 YC :: .sl (Yg.map (cL (cI .i64))) :: .i .i64 (Yg.length:Int) :: .i .i64 (IntKind.wrap .i64 (YC - (Yg.length:Int))) :: .i .i64 (IntKind.wrap .i64 (YC - (Yg.length:Int))) :: .b (decide ((IntKind.wrap .i64 (YC - (Yg.length:Int))) < 0)) :: an 15 []),[]⟩)
def ZdS (Yg:(List (List Int))) (YC:Int) (Y14:Int) (Ym:Int):St:=⟨.sl (Yg.map (cL (cI .i64))) :: .i .i64 Y14 :: .any :: .any :: .any :: .i .i64 Ym :: .i .i64 YC :: .sl (Yg.map (cL (cI .i64))) :: .i .i64 (Yg.length:Int) :: .i .i64 (IntKind.wrap .i64 (YC - (Yg.length:Int))) :: .i .i64 (IntKind.wrap .i64 (YC - (Yg.length:Int))) :: .b (decide ((IntKind.wrap .i64 (YC - (Yg.length:Int))) < 0)) :: an 15 [],[]⟩
theorem Zac (Yg:(List (List Int))) (YC:Int) (hp0:Yg.length≤9223372036854775807) (hp1:∀ t∈Yg,t.length≤9223372036854775807) (ZhX:(decide ((IntKind.wrap .i64 (YC - (Yg.length:Int))) < 0))=false):∀ (k:Nat) (Y14:Int) (Ym:Int) (Z8F:0≤Ym) (hk:((Yg.length:Int) - Ym).toNat < k),Lp prog 0 (sub (X0 f93) [1,1,1,0,1,0,0]) (ZdS Yg YC Y14 Ym) (Z5H Yg YC (Z21 Yg YC k Y14 Ym)).1 (Z5H Yg YC (Z21 Yg YC k Y14 Ym)).2:=by
 intro k
 induction k with
 | zero=>intro Y14 Ym Z8F hk;exact absurd hk (Nat.not_lt_zero _)
 | succ k ih =>
  intro Y14 Ym Z8F hk
  have p {a C} (s:Scr a C):=sZ (cL (cI .i64)) Yg<|s
  cases Yv:(decide (Ym < (Yg.length:Int))) with
  | true =>
   have YI:=odt Yv
   have YT:(0:Int)≤Ym:=by clear p;exact (by assumption)
   have YV:Ym < (Yg.length:Int):=by clear p;exact (by assumption)
   have YX:(Yg.getD Ym.toNat default).length≤9223372036854775807:=by clear p;exact (by simp_all<;>omega)
   have q {a C} (s:Scr a C):=p (sB Yv<|sG (cL (cI .i64)) Yg Ym YT YV<|sF (Zg9 (Yg.getD Ym.toNat default) Y14 YX)<|s)
   clear p
   cases YF:(decide ((Z2D (Yg.getD Ym.toNat default) Y14) < 0)) with
   | true =>
    have Y1i:=odt YF
    have e:Z21 Yg YC (k + 1) Y14 Ym=(.inl ()):=by simp only [Z21,Yv,YF,cond_true]
    rw [e]
    exact outR (e := .ret) E0Ok Z7 [] (mR false [4,1,22]) [] (q (sB YF<|sN)) (by kernel_rfl) (by intro h;cases h)
   | false =>
    have Y1i:=odf YF
    have YZ:(-9223372036854775808:Int)≤(Ym + 1):=by clear q;exact (by omega)
    have y_4:(Ym + 1)≤(9223372036854775807:Int):=by clear q;exact (by omega)
    have e:Z21 Yg YC (k + 1) Y14 Ym=(Z21 Yg YC k (Z2D (Yg.getD Ym.toNat default) Y14) (Ym + 1)):=by simp only [Z21,Yv,YF,cond_true,cond_false]
    rw [e]
    exact X8 E0Ok Z7 [] (mR false [0,2,3,7,15]) [] (ih (Z2D (Yg.getD Ym.toNat default) Y14) (Ym + 1) (show 0≤(Ym + 1) from (by omega)) (by omega)) (q (sB YF<|sI (Ym + 1) YZ y_4<|sN)) (by kernel_rfl)
  | false =>
   have YI:=odf Yv
   have e:Z21 Yg YC (k + 1) Y14 Ym=(.inr Y14):=by simp only [Z21,Yv,cond_false]
   rw [e]
   exact outR (e:=(.exit 0)) E0Ok Z7 [] (mR false [0,2,4,6,15]) [] (p (sB Yv<|sN)) (by kernel_rfl) (by intro h;cases h)
def Z4F (Yg:(List (List Int))) (YC:Int):(Unit) ⊕ (Int):=(Z21 Yg YC (((Yg.length:Int) - 0).toNat + 1) (IntKind.wrap .i64 (YC - (Yg.length:Int))) 0)
def Z2E (Yg:(List (List Int))) (YC:Int):Int:=(cond (decide ((IntKind.wrap .i64 (YC - (Yg.length:Int))) < 0))
  (-1)
  (match (Z4F Yg YC) with
    | .inl r2=>(-1)
    | .inr r2=>r2))
theorem ZfB (Yg:(List (List Int))) (YC:Int) (hp0:Yg.length≤9223372036854775807) (hp1:∀ t∈Yg,t.length≤9223372036854775807)  : Fn prog 93 [.sl (Yg.map (cL (cI .i64))), .i .i64 YC] (.i .i64 (Z2E Yg YC)) []:=by
 have p {a C} (s:Scr a C):=sZ (cL (cI .i64)) Yg<|sW .i64 (YC - (Yg.length:Int))<|s
 cases h0:(decide ((IntKind.wrap .i64 (YC - (Yg.length:Int))) < 0)) with
 | true =>
  have gh0:=odt h0
  refine fnS E0Ok Z7 (c:=X0 f93) [] (.i .i64 (-1)) [] func93 (p (sB h0<|sK [] sN)) rfl (by kernel_rfl) (by kernel_rfl) rfl ?_ ?_
  · simp only [Z2E,h0,cond_true]
  · rfl
 | false =>
  have gh0:=odf h0
  have q {a C} (s:Scr a C):=p (sB h0<|s)
  clear p
  cases h1:(Z4F Yg YC) with
  | inl r2 =>
   refine fnS E0Ok Z7 (c:=X0 f93) [] (.i .i64 (-1)) [] func93 (q (sL (mR false [0,2,3,7,15]) 0 (X1 (Z5H Yg YC) (x:=(Z4F Yg YC)) (Zac Yg YC hp0 hp1 h0 (((Yg.length:Int) - 0).toNat + 1) (IntKind.wrap .i64 (YC - (Yg.length:Int))) 0 (show 0≤0 from (by omega)) (Nat.lt_succ_self _)) h1)<|sK [] sN)) rfl (by kernel_rfl) (by kernel_rfl) rfl ?_ ?_
   · simp only [Z2E,h0,h1,cond_false]
   · rfl
  | inr r2 =>
   refine fnS E0Ok Z7 (c:=X0 f93) [] (.i .i64 r2) [] func93 (q (sL (mR false [0,2,3,7,15]) 0 (X1 (Z5H Yg YC) (x:=(Z4F Yg YC)) (Zac Yg YC hp0 hp1 h0 (((Yg.length:Int) - 0).toNat + 1) (IntKind.wrap .i64 (YC - (Yg.length:Int))) 0 (show 0≤0 from (by omega)) (Nat.lt_succ_self _)) h1)<|sK [] sN)) rfl (by kernel_rfl) (by kernel_rfl) rfl ?_ ?_
   · simp only [Z2E,h0,h1,cond_false]
   · rfl
theorem Zht (a:List (List Int)) (left:Int) (hb:∀ t∈a,t.length≤9223372036854775807):∀ (k:Nat) (l i:Int),0≤i→((a.length:Int) - i).toNat < k→-1≤l→l≤1048576 →
    Z21 a left k l i = .inl ()∨∃ r,Z21 a left k l i = .inr r∧-1≤r∧r≤l∧∀ j,i.toNat≤j→j < a.length→((a.getD j default).length:Int)≤l:=by
  intro k
  induction k with
  | zero=>intro l i h0 hk;exact absurd hk (Nat.not_lt_zero _)
  | succ k ih =>
    intro l i h0 hk h1 h2
    rw [Z21]
    by_cases hi:i < (a.length:Int)
    · have hn:i.toNat < a.length:=by omega
      rw [decide_eq_true hi,cond_true]
      have hm:(a.getD i.toNat default)∈a:=by rw [List.getD_eq_getElem?_getD,List.getElem?_eq_getElem hn];exact List.getElem_mem hn
      obtain ⟨q1,q2,q3⟩:=ZfA (a.getD i.toNat default) l (hb _ hm) h1 h2
      cases hc:decide (Z2D (a.getD i.toNat default) l < 0) with
      | true=>left;rfl
      | false =>
        simp only [decide_eq_false_iff_not] at hc
        rw [cond_false]
        rcases ih (Z2D (a.getD i.toNat default) l) (i + 1) (by omega) (by omega) q1 (by omega) with e | ⟨r,e,r1,r2,r3⟩
        · left;exact e
        · right
          refine ⟨r,e,r1,by omega,fun j hj hjl => ?_⟩
          by_cases hji:j=i.toNat
          · subst hji;omega
          · have:=r3 j (by omega) hjl;omega
    · rw [decide_eq_false hi,cond_false]
      exact .inr ⟨l,rfl,h1,Int.le_refl _,fun j hj hjl=>by omega⟩
theorem Zfa (a:List (List Int)) (left:Int) (h0:a.length≤9223372036854775807) (hb:∀ t∈a,t.length≤9223372036854775807) (h1:-1≤left) (h2:left≤1048576) :
    -1≤Z2E a left∧Z2E a left≤left∧(Z2E a left < 0∨((a.length:Int)≤left∧∀ t∈a,(t.length:Int)≤left)):=by
  unfold Z2E Z4F
  rw [X1I (by omega) (by omega)]
  cases h:decide (left - (a.length:Int) < 0) with
  | true=>simp only [decide_eq_true_eq] at h;rw [cond_true];omega
  | false =>
    simp only [decide_eq_false_iff_not] at h
    rw [cond_false]
    rcases Zht a left hb _ (left - (a.length:Int)) 0 (Int.le_refl _) (Nat.lt_succ_self _) (by omega) (by omega) with e | ⟨r,e,r1,r2,r3⟩
    · rw [e];simp only;omega
    · rw [e];simp only
      refine ⟨r1,by omega, .inr ⟨by omega,fun t ht => ?_⟩⟩
      obtain ⟨j,hj,rfl⟩:=List.getElem_of_mem ht
      have:=r3 j (by simp) hj
      rw [List.getD_eq_getElem?_getD,List.getElem?_eq_getElem hj,Option.getD_some] at this
      omega
def Z1b (Yg:Gm) (YC:Int):Int:=(cond (decide ((Z1V Yg.Pq YC) < 0))
  (-1)
  (cond (decide ((Z2E Yg.Tr (Z1V Yg.Pq YC)) < 0))
    (-1)
    (Z2E Yg.Tr (Z1V Yg.Pq YC))))
theorem Zh2 (Yg:Gm) (YC:Int) (hp0:Yg.Pq.length≤9223372036854775807) (hp1:Yg.Tr.length≤9223372036854775807) (hp2:∀ t∈Yg.Tr,t.length≤9223372036854775807)  : Fn prog 47 [.agg [.sl (Yg.Pq.map Gv.c), .sl (Yg.Tr.map (cL (cI .i64)))], .i .i64 YC] (.i .i64 (Z1b Yg YC)) []:=by
 have p {a C} (s:Scr a C):=sF (Zfz Yg.Pq YC hp0)<|s
 cases h0:(decide ((Z1V Yg.Pq YC) < 0)) with
 | true =>
  have gh0:=odt h0
  refine fnS E0Ok Z7 (c:=X0 f47) [] (.i .i64 (-1)) [] func47 (p (sB h0<|sK [] sN)) rfl (by kernel_rfl) (by kernel_rfl) rfl ?_ ?_
  · simp only [Z1b,h0,cond_true]
  · rfl
 | false =>
  have gh0:=odf h0
  have q {a C} (s:Scr a C):=p (sB h0<|sF (ZfB Yg.Tr (Z1V Yg.Pq YC) hp1 hp2)<|s)
  clear p
  cases h1:(decide ((Z2E Yg.Tr (Z1V Yg.Pq YC)) < 0)) with
  | true =>
   have gh1:=odt h1
   refine fnS E0Ok Z7 (c:=X0 f47) [] (.i .i64 (-1)) [] func47 (q (sB h1<|sK [] sN)) rfl (by kernel_rfl) (by kernel_rfl) rfl ?_ ?_
   · simp only [Z1b,h0,h1,cond_true,cond_false]
   · rfl
  | false =>
   have gh1:=odf h1
   refine fnS E0Ok Z7 (c:=X0 f47) [] (.i .i64 (Z2E Yg.Tr (Z1V Yg.Pq YC))) [] func47 (q (sB h1<|sK [] sN)) rfl (by kernel_rfl) (by kernel_rfl) rfl ?_ ?_
   · simp only [Z1b,h0,h1,cond_false]
   · rfl
theorem ZgA (a:Gm) (left:Int) (h0:a.Pq.length≤9223372036854775807) (h3:a.Tr.length≤9223372036854775807) (hb:∀ t∈a.Tr,t.length≤9223372036854775807) (h1:-1≤left) (h2:left≤1048576) :
    -1≤Z1b a left∧Z1b a left≤left∧(Z1b a left < 0∨(a.Pq.length:Int)≤left)∧(Z1b a left < 0∨(a.Tr.length:Int)≤left)∧∀ t∈a.Tr,Z1b a left < 0∨(t.length:Int)≤left:=by
  have key:-1≤Z1b a left∧Z1b a left≤left∧(Z1b a left < 0∨((a.Pq.length:Int)≤left∧(a.Tr.length:Int)≤left∧∀ t∈a.Tr,(t.length:Int)≤left)):=by
    unfold Z1b
    obtain ⟨p1,p2,p3⟩:=Zf9 a.Pq left h0 h1 h2
    cases h:decide (Z1V a.Pq left < 0) with
    | true=>simp only [decide_eq_true_eq] at h;rw [cond_true];refine ⟨by omega,by omega, .inl (by omega)⟩
    | false =>
      simp only [decide_eq_false_iff_not] at h
      rw [cond_false]
      obtain ⟨q1,q2,q3⟩:=Zfa a.Tr (Z1V a.Pq left) h3 hb p1 (by omega)
      cases h':decide (Z2E a.Tr (Z1V a.Pq left) < 0) with
      | true=>rw [cond_true];exact ⟨by omega,by omega, .inl (by omega)⟩
      | false =>
        simp only [decide_eq_false_iff_not] at h'
        rw [cond_false]
        rcases q3 with q | ⟨qa,qb⟩
        · omega
        · exact ⟨q1,by omega, .inr ⟨by omega,by omega,fun t ht=>by have:=qb t ht;omega⟩⟩
  obtain ⟨k1,k2,k3⟩:=key
  rcases k3 with k3 | ⟨ka,kb,kc⟩
  · exact ⟨k1,k2, .inl k3, .inl k3,fun t ht => .inl k3⟩
  · exact ⟨k1,k2, .inr ka, .inr kb,fun t ht => .inr (kc t ht)⟩
def Z1W (Yg:(List Gs)) (YC:Int):Int:=(cond (decide ((IntKind.wrap .i64 (YC - (Yg.length:Int))) < 0))
  (-1)
  (IntKind.wrap .i64 (YC - (Yg.length:Int))))
theorem ZfC (Yg:(List Gs)) (YC:Int) (hp0:Yg.length≤9223372036854775807)  : Fn prog 48 [.sl (Yg.map Gs.c), .i .i64 YC] (.i .i64 (Z1W Yg YC)) []:=by
 have p {a C} (s:Scr a C):=sZ Gs.c Yg<|sW .i64 (YC - (Yg.length:Int))<|s
 cases h0:(decide ((IntKind.wrap .i64 (YC - (Yg.length:Int))) < 0)) with
 | true =>
  have gh0:=odt h0
  refine fnS E0Ok Z7 (c:=X0 f48) [] (.i .i64 (-1)) [] func48 (p (sB h0<|sK [] sN)) rfl (by kernel_rfl) (by kernel_rfl) rfl ?_ ?_
  · simp only [Z1W,h0,cond_true]
  · rfl
 | false =>
  have gh0:=odf h0
  refine fnS E0Ok Z7 (c:=X0 f48) [] (.i .i64 (IntKind.wrap .i64 (YC - (Yg.length:Int)))) [] func48 (p (sB h0<|sK [] sN)) rfl (by kernel_rfl) (by kernel_rfl) rfl ?_ ?_
  · simp only [Z1W,h0,cond_false]
  · rfl
theorem Zfb (a:List Gs) (left:Int) (h0:a.length≤9223372036854775807) (h1:-1≤left) (h2:left≤1048576):-1≤Z1W a left∧Z1W a left≤left∧(Z1W a left < 0∨(a.length:Int)≤left):=by
  unfold Z1W
  rw [X1I (by omega) (by omega)]
  by_cases h:left - (a.length:Int) < 0
  · simp [h];omega
  · simp [h];omega
def Z2I (Yg:(List Nat)) (YC:Int):Int:=(cond (decide ((IntKind.wrap .i64 (YC - (Yg.length:Int))) < 0))
  (-1)
  (IntKind.wrap .i64 (YC - (Yg.length:Int))))
theorem Zfc (Yg:(List Nat)) (YC:Int) (hp0:Yg.length≤9223372036854775807)  : Fn prog 49 [.sl (Yg.map (cF .f32)), .i .i64 YC] (.i .i64 (Z2I Yg YC)) []:=by
 have p {a C} (s:Scr a C):=sZ (cF .f32) Yg<|sW .i64 (YC - (Yg.length:Int))<|s
 cases h0:(decide ((IntKind.wrap .i64 (YC - (Yg.length:Int))) < 0)) with
 | true =>
  have gh0:=odt h0
  refine fnS E0Ok Z7 (c:=X0 f49) [] (.i .i64 (-1)) [] func49 (p (sB h0<|sK [] sN)) rfl (by kernel_rfl) (by kernel_rfl) rfl ?_ ?_
  · simp only [Z2I,h0,cond_true]
  · rfl
 | false =>
  have gh0:=odf h0
  refine fnS E0Ok Z7 (c:=X0 f49) [] (.i .i64 (IntKind.wrap .i64 (YC - (Yg.length:Int)))) [] func49 (p (sB h0<|sK [] sN)) rfl (by kernel_rfl) (by kernel_rfl) rfl ?_ ?_
  · simp only [Z2I,h0,cond_false]
  · rfl
theorem Zel (a:List Nat) (left:Int) (h0:a.length≤9223372036854775807) (h1:-1≤left) (h2:left≤1048576):-1≤Z2I a left∧Z2I a left≤left∧(Z2I a left < 0∨(a.length:Int)≤left):=by
  unfold Z2I
  rw [X1I (by omega) (by omega)]
  by_cases h:left - (a.length:Int) < 0
  · simp [h];omega
  · simp [h];omega
def Z2J (Yg:Gb) (YC:Int):Int:=(cond (decide ((Z1b Yg.Me YC) < 0))
  (-1)
  (cond (decide ((Z1W Yg.Sp (Z1b Yg.Me YC)) < 0))
    (-1)
    (cond (decide ((Z2I Yg.We (Z1W Yg.Sp (Z1b Yg.Me YC))) < 0))
      (-1)
      (Z2I Yg.We (Z1W Yg.Sp (Z1b Yg.Me YC))))))
theorem Zh3 (Yg:Gb) (YC:Int) (hp0:Yg.Me.Pq.length≤9223372036854775807) (hp1:Yg.Me.Tr.length≤9223372036854775807) (hp2:∀ t∈Yg.Me.Tr,t.length≤9223372036854775807) (hp3:Yg.Sp.length≤9223372036854775807) (hp4:Yg.We.length≤9223372036854775807)  : Fn prog 11 [.agg [.sl (Yg.Me.Pq.map Gv.c), .sl (Yg.Me.Tr.map (cL (cI .i64))), .sl (Yg.Sp.map Gs.c), .f .f32 Yg.Film, .f .f32 Yg.Bend, .sl (Yg.We.map (cF .f32)), .f .f32 Yg.Fall.X, .f .f32 Yg.Fall.Y, .f .f32 Yg.Fall.Z], .i .i64 YC] (.i .i64 (Z2J Yg YC)) []:=by
 have p {a C} (s:Scr a C):=sF (Zh2 Yg.Me YC hp0 hp1 hp2)<|s
 cases h0:(decide ((Z1b Yg.Me YC) < 0)) with
 | true =>
  have gh0:=odt h0
  refine fnS E0Ok Z7 (c:=X0 f11) [] (.i .i64 (-1)) [] func11 (p (sB h0<|sK [] sN)) rfl (by kernel_rfl) (by kernel_rfl) rfl ?_ ?_
  · simp only [Z2J,h0,cond_true]
  · rfl
 | false =>
  have gh0:=odf h0
  have q {a C} (s:Scr a C):=p (sB h0<|sF (ZfC Yg.Sp (Z1b Yg.Me YC) hp3)<|s)
  clear p
  cases h1:(decide ((Z1W Yg.Sp (Z1b Yg.Me YC)) < 0)) with
  | true =>
   have gh1:=odt h1
   refine fnS E0Ok Z7 (c:=X0 f11) [] (.i .i64 (-1)) [] func11 (q (sB h1<|sK [] sN)) rfl (by kernel_rfl) (by kernel_rfl) rfl ?_ ?_
   · simp only [Z2J,h0,h1,cond_true,cond_false]
   · rfl
  | false =>
   have gh1:=odf h1
   have p {a C} (s:Scr a C):=q (sB h1<|sF (Zfc Yg.We (Z1W Yg.Sp (Z1b Yg.Me YC)) hp4)<|s)
   clear q
   cases h2:(decide ((Z2I Yg.We (Z1W Yg.Sp (Z1b Yg.Me YC))) < 0)) with
   | true =>
    have gh2:=odt h2
    refine fnS E0Ok Z7 (c:=X0 f11) [] (.i .i64 (-1)) [] func11 (p (sB h2<|sK [] sN)) rfl (by kernel_rfl) (by kernel_rfl) rfl ?_ ?_
    · simp only [Z2J,h0,h1,h2,cond_true,cond_false]
    · rfl
   | false =>
    have gh2:=odf h2
    refine fnS E0Ok Z7 (c:=X0 f11) [] (.i .i64 (Z2I Yg.We (Z1W Yg.Sp (Z1b Yg.Me YC)))) [] func11 (p (sB h2<|sK [] sN)) rfl (by kernel_rfl) (by kernel_rfl) rfl ?_ ?_
    · simp only [Z2J,h0,h1,h2,cond_false]
    · rfl
theorem ZcU (a:Gb) (left:Int) (g0:a.Me.Pq.length≤9223372036854775807) (g1:a.Me.Tr.length≤9223372036854775807) (g2:∀ t∈a.Me.Tr,t.length≤9223372036854775807) (g3:a.Sp.length≤9223372036854775807) (g4:a.We.length≤9223372036854775807) (h1:-1≤left) (h2:left≤1048576):-1≤Z2J a left∧Z2J a left≤left∧(Z2J a left < 0∨(a.Me.Pq.length:Int)≤left)∧(Z2J a left < 0∨(a.Me.Tr.length:Int)≤left)∧(Z2J a left < 0∨(a.Sp.length:Int)≤left)∧(Z2J a left < 0∨(a.We.length:Int)≤left)∧∀ t∈a.Me.Tr,Z2J a left < 0∨(t.length:Int)≤left:=by
  unfold Z2J
  have p0:=ZgA a.Me left g0 g1 g2 (by omega) (by omega)
  cases hc0:decide (Z1b a.Me left < 0) with
  | true =>
    simp only [decide_eq_true_eq] at hc0;rw [cond_true];refine ⟨by omega,by omega, .inl (by omega), .inl (by omega), .inl (by omega), .inl (by omega),fun t ht => .inl (by omega)⟩
  | false =>
    simp only [decide_eq_false_iff_not] at hc0;rw [cond_false]
    have p1:=Zfb a.Sp (Z1b a.Me left) g3 (by omega) (by omega)
    cases hc1:decide (Z1W a.Sp (Z1b a.Me left) < 0) with
    | true =>
      simp only [decide_eq_true_eq] at hc1;rw [cond_true];refine ⟨by omega,by omega, .inl (by omega), .inl (by omega), .inl (by omega), .inl (by omega),fun t ht => .inl (by omega)⟩
    | false =>
      simp only [decide_eq_false_iff_not] at hc1;rw [cond_false]
      have p2:=Zel a.We (Z1W a.Sp (Z1b a.Me left)) g4 (by omega) (by omega)
      cases hc2:decide (Z2I a.We (Z1W a.Sp (Z1b a.Me left)) < 0) with
      | true =>
        simp only [decide_eq_true_eq] at hc2;rw [cond_true];refine ⟨by omega,by omega, .inl (by omega), .inl (by omega), .inl (by omega), .inl (by omega),fun t ht => .inl (by omega)⟩
      | false =>
        simp only [decide_eq_false_iff_not] at hc2;rw [cond_false]
        refine ⟨by omega,by omega, .inr (by omega), .inr (by omega), .inr (by omega), .inr (by omega),fun t ht => .inr (by have q:=p0.2.2.2.2 t ht;omega)⟩
def Z7f (Yg:Gv):Gv:=Yg
theorem Zga (Yg:Gv)   : Fn prog 55 [.agg [.f .f32 Yg.X, .f .f32 Yg.Y, .f .f32 Yg.Z]] (.agg [.f .f32 ((Z7f Yg).X), .f .f32 ((Z7f Yg).Y), .f .f32 ((Z7f Yg).Z)]) []:=by
 refine fnS E0Ok Z7 (c:=X0 f55) [] (.agg [.f .f32 Yg.X, .f .f32 Yg.Y, .f .f32 Yg.Z]) [] func55 (sK [] sN) rfl (by kernel_rfl) (by kernel_rfl) rfl ?_ ?_
 · rfl
 · rfl
@[simp] theorem ZfD (a:Gv):Z7f a=a:=rfl
theorem Zcp (Yg:Gv)  : Fn prog 55 [.agg [.f .f32 Yg.X, .f .f32 Yg.Y, .f .f32 Yg.Z]] (.agg [.f .f32 Yg.X, .f .f32 Yg.Y, .f .f32 Yg.Z]) []:=by
 simpa only [ZfD] using Zga  Yg 
def Z2V (Yg:(List Gv)):Nat→Int→(List Gv)→(List Gv)
  | 0,_,_=>default
  | k + 1,Yk,Ye=>(cond (decide (Yk < (Yg.length:Int)))
    (Z2V Yg k (Yk + 1) (Ye.set Yk.toNat (Yg.getD Yk.toNat default)))
    Ye)
def Z6W (Yg:(List Gv)) (r:(List Gv)):Ex × St:=((.exit 0),⟨.sl (Yg.map Gv.c) :: .any :: .nils :: .own 0 :: .any :: .sl (Yg.map Gv.c) :: .i .i64 (Yg.length:Int) :: .own 0 :: an 15 [],[.vec 40 3 (r.map Gv.c) false]⟩)
def Z6X (Yg:(List Gv)) (Yk:Int) (Ye:(List Gv)):St:=⟨.sl (Yg.map Gv.c) :: .any :: .nils :: .own 0 :: .i .i64 Yk :: .sl (Yg.map Gv.c) :: .i .i64 (Yg.length:Int) :: .own 0 :: an 15 [],[.vec 40 3 (Ye.map Gv.c) false]⟩
theorem ZdT (Yg:(List Gv)) (hp0:Yg.length≤1073741824):∀ (k:Nat) (Yk:Int) (Ye:(List Gv)) (Z8G:0≤Yk) (Z8H:Ye.length=Yg.length) (hk:((Yg.length:Int) - Yk).toNat < k),Lp prog 0 (sub (X0 f78) [1,1,0,1,0,0]) (Z6X Yg Yk Ye) (Z6W Yg (Z2V Yg k Yk Ye)).1 (Z6W Yg (Z2V Yg k Yk Ye)).2:=by
 intro k
 induction k with
 | zero=>intro Yk Ye Z8G Z8H hk;exact absurd hk (Nat.not_lt_zero _)
 | succ k ih =>
  intro Yk Ye Z8G Z8H hk
  have p {a C} (s:Scr a C):=sZ Gv.c Yg<|s
  cases Yv:(decide (Yk < (Yg.length:Int))) with
  | true =>
   have YI:=odt Yv
   have YT:(0:Int)≤Yk:=by clear p;exact (by assumption)
   have YV:Yk < (Yg.length:Int):=by clear p;exact (by assumption)
   have YX:Yk < (Ye.length:Int):=by clear p;exact (by omega)
   have YZ:Yk.toNat < Ye.length:=by clear p;exact (by omega)
   have y_4:(-9223372036854775808:Int)≤(Yk + 1):=by clear p;exact (by omega)
   have y_5:(Yk + 1)≤(9223372036854775807:Int):=by clear p;exact (by omega)
   have e:Z2V Yg (k + 1) Yk Ye=(Z2V Yg k (Yk + 1) (Ye.set Yk.toNat (Yg.getD Yk.toNat default))):=by simp only [Z2V,Yv,cond_true]
   rw [e]
   exact X9 E0Ok Z7 [] (mR false [0,1,1,6,15]) [0] (⟨.sl (Yg.map Gv.c) :: .any :: .nils :: .own 0 :: .i .i64 (Yk + 1) :: .sl (Yg.map Gv.c) :: .i .i64 (Yg.length:Int) :: .own 0 :: an 15 [],[.vec 40 3 ((Ye.map Gv.c).set Yk.toNat [.f .f32 ((Yg.getD Yk.toNat default).X), .f .f32 ((Yg.getD Yk.toNat default).Y), .f .f32 ((Yg.getD Yk.toNat default).Z)]) false]⟩) (p (sB Yv<|sG Gv.c Yg Yk YT YV<|sF (Zcp (Yg.getD Yk.toNat default))<|sX Gv.c Ye Yk YT YX<|sC (Xl (c:=Gv.c) (l:=Ye) YZ)<|sI (Yk + 1) y_4 y_5<|sN)) (by kernel_rfl) (by simp [Z6X,List.map_set,Gv.c]) (ih (Yk + 1) (Ye.set Yk.toNat (Yg.getD Yk.toNat default)) (show 0≤(Yk + 1) from (by omega)) (show (Ye.set Yk.toNat (Yg.getD Yk.toNat default)).length=Yg.length from (by simp_all<;>omega)) (by omega))
  | false =>
   have YI:=odf Yv
   have e:Z2V Yg (k + 1) Yk Ye=Ye:=by simp only [Z2V,Yv,cond_false]
   rw [e]
   exact outR (e:=(.exit 0)) E0Ok Z7 [] (mR false [0,1,1,2,1,3,15]) [0] (p (sB Yv<|sN)) (by kernel_rfl) (by intro h;cases h)
def Z56 (Yg:(List Gv)):(List Gv):=(Z2V Yg (((Yg.length:Int) - 0).toNat + 1) 0 (List.replicate (Yg.length:Int).toNat (⟨0,0,0⟩:Gv)))
def Z6q (Yg:(List Gv)):(List Gv):=(Z56 Yg)
theorem ZfE (Yg:(List Gv)) (hp0:Yg.length≤1073741824)  : Fn prog 78 [.sl (Yg.map Gv.c)] (.own 0) [.vec 40 3 ((Z6q Yg).map Gv.c) false]:=by
 have y0:(0:Int)≤(Yg.length:Int):=(by omega)
 have y1:((Yg.length:Int):Int)≤2147483648:=(by omega)
 refine fnS E0Ok Z7 (c:=X0 f78) [] (.own 0) [.vec 40 3 ((Z56 Yg).map Gv.c) false] func78 (sZ Gv.c Yg<|sC (show (Yg.length:Int)=(Yg.length:Int) from rfl)<|sC y0<|sC y1<|sL (mR false [0,1,1,6,15]) 1 (Xk (st2:=⟨.sl (Yg.map Gv.c) :: .any :: .nils :: .own 0 :: .i .i64 0 :: .sl (Yg.map Gv.c) :: .i .i64 (Yg.length:Int) :: .own 0 :: an 15 [],[.vec 40 3 (List.replicate (Int.toNat (Yg.length:Int)) [.f .f32 0, .f .f32 0, .f .f32 0]) false]⟩) (X1 (Z6W Yg) (x:=(Z56 Yg)) (ZdT Yg hp0 (((Yg.length:Int) - 0).toNat + 1) 0 (List.replicate (Yg.length:Int).toNat (⟨0,0,0⟩:Gv)) (show 0≤0 from (by omega)) (show (List.replicate (Yg.length:Int).toNat (⟨0,0,0⟩:Gv)).length=Yg.length from (by simp)) (Nat.lt_succ_self _)) rfl) (by simp [Z6X,Gv.c]))<|sK [0] sN) rfl (by kernel_rfl) (by kernel_rfl) rfl ?_ ?_
 · rfl
 · simp [Z6q]
@[simp] theorem Zfd (a:List Gv):Z6q a=a:=by
  unfold Z6q Z56
  rw [X2e (f:=id) (a:=a) (lo:=Z2V a) (fun k i r=>rfl)]
  exact List.map_id a
theorem ZfF (Yg:(List Gv)) (hp0:Yg.length≤1073741824):Fn prog 78 [.sl (Yg.map Gv.c)] (.own 0) [.vec 40 3 (Yg.map Gv.c) false]:=by
 simpa only [Zfd] using ZfE  Yg hp0
def Z39 (Yg:(List Int)):Nat→Int→(List Int)→(List Int)
  | 0,_,_=>default
  | k + 1,Yk,Ye=>(cond (decide (Yk < (Yg.length:Int)))
    (Z39 Yg k (Yk + 1) (Ye.set Yk.toNat (Yg.getD Yk.toNat default)))
    Ye)
def Z7r (Yg:(List Int)) (r:(List Int)):Ex × St:=((.exit 0),⟨.sl (Yg.map (cI .i64)) :: .any :: .nils :: .own 0 :: .any :: .sl (Yg.map (cI .i64)) :: .i .i64 (Yg.length:Int) :: .own 0 :: an 14 [],[.vec 2 1 (r.map (cI .i64)) false]⟩)
def Z7s (Yg:(List Int)) (Yk:Int) (Ye:(List Int)):St:=⟨.sl (Yg.map (cI .i64)) :: .any :: .nils :: .own 0 :: .i .i64 Yk :: .sl (Yg.map (cI .i64)) :: .i .i64 (Yg.length:Int) :: .own 0 :: an 14 [],[.vec 2 1 (Ye.map (cI .i64)) false]⟩
theorem Zem (Yg:(List Int)) (hp0:Yg.length≤1073741824):∀ (k:Nat) (Yk:Int) (Ye:(List Int)) (Z9e:0≤Yk) (Z9f:Ye.length=Yg.length) (hk:((Yg.length:Int) - Yk).toNat < k),Lp prog 0 (sub (X0 f21) [1,1,0,1,0,0]) (Z7s Yg Yk Ye) (Z7r Yg (Z39 Yg k Yk Ye)).1 (Z7r Yg (Z39 Yg k Yk Ye)).2:=by
 intro k
 induction k with
 | zero=>intro Yk Ye Z9e Z9f hk;exact absurd hk (Nat.not_lt_zero _)
 | succ k ih =>
  intro Yk Ye Z9e Z9f hk
  have p {a C} (s:Scr a C):=sZ (cI .i64) Yg<|s
  cases Yv:(decide (Yk < (Yg.length:Int))) with
  | true =>
   have YI:=odt Yv
   have YT:(0:Int)≤Yk:=by clear p;exact (by assumption)
   have YV:Yk < (Yg.length:Int):=by clear p;exact (by assumption)
   have YX:Yk < (Ye.length:Int):=by clear p;exact (by omega)
   have YZ:Yk.toNat < Ye.length:=by clear p;exact (by omega)
   have y_4:(-9223372036854775808:Int)≤(Yk + 1):=by clear p;exact (by omega)
   have y_5:(Yk + 1)≤(9223372036854775807:Int):=by clear p;exact (by omega)
   have e:Z39 Yg (k + 1) Yk Ye=(Z39 Yg k (Yk + 1) (Ye.set Yk.toNat (Yg.getD Yk.toNat default))):=by simp only [Z39,Yv,cond_true]
   rw [e]
   exact X9 E0Ok Z7 [] (mR false [0,1,1,6,14]) [0] (⟨.sl (Yg.map (cI .i64)) :: .any :: .nils :: .own 0 :: .i .i64 (Yk + 1) :: .sl (Yg.map (cI .i64)) :: .i .i64 (Yg.length:Int) :: .own 0 :: an 14 [],[.vec 2 1 ((Ye.map (cI .i64)).set Yk.toNat [.i .i64 (Yg.getD Yk.toNat default)]) false]⟩) (p (sB Yv<|sG (cI .i64) Yg Yk YT YV<|sX (cI .i64) Ye Yk YT YX<|sC (Xl (c:=(cI .i64)) (l:=Ye) YZ)<|sI (Yk + 1) y_4 y_5<|sN)) (by kernel_rfl) (by simp [Z7s,List.map_set,cI]) (ih (Yk + 1) (Ye.set Yk.toNat (Yg.getD Yk.toNat default)) (show 0≤(Yk + 1) from (by omega)) (show (Ye.set Yk.toNat (Yg.getD Yk.toNat default)).length=Yg.length from (by simp_all<;>omega)) (by omega))
  | false =>
   have YI:=odf Yv
   have e:Z39 Yg (k + 1) Yk Ye=Ye:=by simp only [Z39,Yv,cond_false]
   rw [e]
   exact outR (e:=(.exit 0)) E0Ok Z7 [] (mR false [0,1,1,2,1,3,14]) [0] (p (sB Yv<|sN)) (by kernel_rfl) (by intro h;cases h)
def Z5l (Yg:(List Int)):(List Int):=(Z39 Yg (((Yg.length:Int) - 0).toNat + 1) 0 (List.replicate (Yg.length:Int).toNat 0))
def Z7g (Yg:(List Int)):(List Int):=(Z5l Yg)
theorem Zgb (Yg:(List Int)) (hp0:Yg.length≤1073741824)  : Fn prog 21 [.sl (Yg.map (cI .i64))] (.own 0) [.vec 2 1 ((Z7g Yg).map (cI .i64)) false]:=by
 have y0:(0:Int)≤(Yg.length:Int):=(by omega)
 have y1:((Yg.length:Int):Int)≤2147483648:=(by omega)
 refine fnS E0Ok Z7 (c:=X0 f21) [] (.own 0) [.vec 2 1 ((Z5l Yg).map (cI .i64)) false] func21 (sZ (cI .i64) Yg<|sC (show (Yg.length:Int)=(Yg.length:Int) from rfl)<|sC y0<|sC y1<|sL (mR false [0,1,1,6,14]) 1 (Xk (st2:=⟨.sl (Yg.map (cI .i64)) :: .any :: .nils :: .own 0 :: .i .i64 0 :: .sl (Yg.map (cI .i64)) :: .i .i64 (Yg.length:Int) :: .own 0 :: an 14 [],[.vec 2 1 (List.replicate (Int.toNat (Yg.length:Int)) [.i .i64 0]) false]⟩) (X1 (Z7r Yg) (x:=(Z5l Yg)) (Zem Yg hp0 (((Yg.length:Int) - 0).toNat + 1) 0 (List.replicate (Yg.length:Int).toNat 0) (show 0≤0 from (by omega)) (show (List.replicate (Yg.length:Int).toNat 0).length=Yg.length from (by simp)) (Nat.lt_succ_self _)) rfl) (by simp [Z7s,cI]))<|sK [0] sN) rfl (by kernel_rfl) (by kernel_rfl) rfl ?_ ?_
 · rfl
 · simp [Z7g]
@[simp] theorem ZfG (a:List Int):Z7g a=a:=by
  unfold Z7g Z5l
  rw [X2e (f:=id) (a:=a) (lo:=Z39 a) (fun k i r=>rfl)]
  exact List.map_id a
theorem Z5T (Yg:(List Int)) (hp0:Yg.length≤1073741824):Fn prog 21 [.sl (Yg.map (cI .i64))] (.own 0) [.vec 2 1 (Yg.map (cI .i64)) false]:=by
 simpa only [ZfG] using Zgb  Yg hp0
def Z2W (Yg:(List (List Int))):Nat→Int→(List (List Int))→(List (List Int))
  | 0,_,_=>default
  | k + 1,Yk,Ye=>(cond (decide (Yk < (Yg.length:Int)))
    (Z2W Yg k (Yk + 1) (Ye.set Yk.toNat (Yg.getD Yk.toNat default)))
    Ye)
def Z6Y (Yg:(List (List Int))) (r:(List (List Int))):Ex × St:=((.exit 0),⟨.sl (Yg.map (cL (cI .i64))) :: .any :: .nils :: .own 0 :: .any :: .sl (Yg.map (cL (cI .i64))) :: .i .i64 (Yg.length:Int) :: .own 0 :: an 15 [],[.nest 49 (r.map fun l=>l.map (cI .i64)) false]⟩)
def Z6Z (Yg:(List (List Int))) (Yk:Int) (Ye:(List (List Int))):St:=⟨.sl (Yg.map (cL (cI .i64))) :: .any :: .nils :: .own 0 :: .i .i64 Yk :: .sl (Yg.map (cL (cI .i64))) :: .i .i64 (Yg.length:Int) :: .own 0 :: an 15 [],[.nest 49 (Ye.map fun l=>l.map (cI .i64)) false]⟩
theorem ZdU (Yg:(List (List Int))) (hp0:Yg.length≤1073741824) (hp1:∀ t∈Yg,t.length≤1073741824):∀ (k:Nat) (Yk:Int) (Ye:(List (List Int))) (Z8I:0≤Yk) (Z8J:Ye.length=Yg.length) (hk:((Yg.length:Int) - Yk).toNat < k),Lp prog 0 (sub (X0 f103) [1,1,0,1,0,0]) (Z6Z Yg Yk Ye) (Z6Y Yg (Z2W Yg k Yk Ye)).1 (Z6Y Yg (Z2W Yg k Yk Ye)).2:=by
 intro k
 induction k with
 | zero=>intro Yk Ye Z8I Z8J hk;exact absurd hk (Nat.not_lt_zero _)
 | succ k ih =>
  intro Yk Ye Z8I Z8J hk
  have p {a C} (s:Scr a C):=sZ (cL (cI .i64)) Yg<|s
  cases Yv:(decide (Yk < (Yg.length:Int))) with
  | true =>
   have YI:=odt Yv
   have YT:(0:Int)≤Yk:=by clear p;exact (by assumption)
   have YV:Yk < (Yg.length:Int):=by clear p;exact (by assumption)
   have YX:(Yg.getD Yk.toNat default).length≤1073741824:=by clear p;exact (by simp_all<;>omega)
   have YZ:Int.toNat Yk < Ye.length:=by clear p;exact (by omega)
   have y_4:Yk.toNat < Ye.length:=by clear p;exact (by assumption)
   have y_5:(-9223372036854775808:Int)≤(Yk + 1):=by clear p;exact (by omega)
   have y_6:(Yk + 1)≤(9223372036854775807:Int):=by clear p;exact (by omega)
   have e:Z2W Yg (k + 1) Yk Ye=(Z2W Yg k (Yk + 1) (Ye.set Yk.toNat (Yg.getD Yk.toNat default))):=by simp only [Z2W,Yv,cond_true]
   rw [e]
   exact X9 E0Ok Z7 [] (mR false [0,1,1,6,15]) [0] (⟨.sl (Yg.map (cL (cI .i64))) :: .any :: .nils :: .own 0 :: .i .i64 (Yk + 1) :: .sl (Yg.map (cL (cI .i64))) :: .i .i64 (Yg.length:Int) :: .own 0 :: an 15 [],[.nest 49 ((Ye.map fun l=>l.map (cI .i64)).set Yk.toNat ((Yg.getD Yk.toNat default).map (cI .i64))) false]⟩) (p (sB Yv<|sG (cL (cI .i64)) Yg Yk YT YV<|sF (Z5T (Yg.getD Yk.toNat default) YX)<|sC (X1V (c:=(cI .i64)) (l:=Ye) (i:=Yk) YT YZ)<|sC (show Yk.toNat < (Ye.map fun l=>l.map (cI .i64)).length from (by simpa using y_4))<|sI (Yk + 1) y_5 y_6<|sN)) (by kernel_rfl) (by simp [Z6Z,List.map_set,cL,cI]) (ih (Yk + 1) (Ye.set Yk.toNat (Yg.getD Yk.toNat default)) (show 0≤(Yk + 1) from (by omega)) (show (Ye.set Yk.toNat (Yg.getD Yk.toNat default)).length=Yg.length from (by simp_all<;>omega)) (by omega))
  | false =>
   have YI:=odf Yv
   have e:Z2W Yg (k + 1) Yk Ye=Ye:=by simp only [Z2W,Yv,cond_false]
   rw [e]
   exact outR (e:=(.exit 0)) E0Ok Z7 [] (mR false [0,1,1,2,1,3,15]) [0] (p (sB Yv<|sN)) (by kernel_rfl) (by intro h;cases h)
def Z57 (Yg:(List (List Int))):(List (List Int)):=(Z2W Yg (((Yg.length:Int) - 0).toNat + 1) 0 (List.replicate (Yg.length:Int).toNat ([]:(List Int))))
def Z6r (Yg:(List (List Int))):(List (List Int)):=(Z57 Yg)
theorem ZfH (Yg:(List (List Int))) (hp0:Yg.length≤1073741824) (hp1:∀ t∈Yg,t.length≤1073741824)  : Fn prog 103 [.sl (Yg.map (cL (cI .i64)))] (.own 0) [.nest 49 ((Z6r Yg).map fun l=>l.map (cI .i64)) false]:=by
 have y0:(0:Int)≤(Yg.length:Int):=(by omega)
 have y1:((Yg.length:Int):Int)≤2147483648:=(by omega)
 refine fnS E0Ok Z7 (c:=X0 f103) [] (.own 0) [.nest 49 ((Z57 Yg).map fun l=>l.map (cI .i64)) false] func103 (sZ (cL (cI .i64)) Yg<|sC (show (Yg.length:Int)=(Yg.length:Int) from rfl)<|sC y0<|sC y1<|sL (mR false [0,1,1,6,15]) 1 (Xk (st2:=⟨.sl (Yg.map (cL (cI .i64))) :: .any :: .nils :: .own 0 :: .i .i64 0 :: .sl (Yg.map (cL (cI .i64))) :: .i .i64 (Yg.length:Int) :: .own 0 :: an 15 [],[.nest 49 (List.replicate (Yg.length:Int).toNat []) false]⟩) (X1 (Z6Y Yg) (x:=(Z57 Yg)) (ZdU Yg hp0 hp1 (((Yg.length:Int) - 0).toNat + 1) 0 (List.replicate (Yg.length:Int).toNat ([]:(List Int))) (show 0≤0 from (by omega)) (show (List.replicate (Yg.length:Int).toNat ([]:(List Int))).length=Yg.length from (by simp)) (Nat.lt_succ_self _)) rfl) (by simp [Z6Z,cL,cI]))<|sK [0] sN) rfl (by kernel_rfl) (by kernel_rfl) rfl ?_ ?_
 · rfl
 · simp [Z6r]
@[simp] theorem Zfe (a:List (List Int)):Z6r a=a:=by
  unfold Z6r Z57
  rw [X2e (f:=id) (a:=a) (lo:=Z2W a) (fun k i r=>rfl)]
  exact List.map_id a
theorem ZfI (Yg:(List (List Int))) (hp0:Yg.length≤1073741824) (hp1:∀ t∈Yg,t.length≤1073741824):Fn prog 103 [.sl (Yg.map (cL (cI .i64)))] (.own 0) [.nest 49 (Yg.map fun l=>l.map (cI .i64)) false]:=by
 simpa only [Zfe] using ZfH  Yg hp0 hp1
def Z6J (Yg:Gm):Gm:=Yg
theorem Zh4 (Yg:Gm) (hp0:Yg.Pq.length≤1073741824) (hp1:Yg.Tr.length≤1073741824) (hp2:∀ t∈Yg.Tr,t.length≤1073741824)  : Fn prog 52 [.agg [.sl (Yg.Pq.map Gv.c), .sl (Yg.Tr.map (cL (cI .i64)))]] (.agg [.own 0, .own 1]) [.vec 40 3 (((Z6J Yg).Pq).map Gv.c) false, .nest 49 (((Z6J Yg).Tr).map fun l=>l.map (cI .i64)) false]:=by
 refine fnS E0Ok Z7 (c:=X0 f52) [] (.agg [.own 0, .own 1]) [.vec 40 3 (Yg.Pq.map Gv.c) false, .nest 49 (Yg.Tr.map fun l=>l.map (cI .i64)) false] func52 (sF (ZfF Yg.Pq hp0)<|sF (ZfI Yg.Tr hp1 hp2)<|sK [3,4] sN) rfl (by kernel_rfl) (by kernel_rfl) rfl ?_ ?_
 · rfl
 · simp [Z6J]
@[simp] theorem ZgB (a:Gm):Z6J a=a:=by
  simp [Z6J]
theorem Zh5 (Yg:Gm) (hp0:Yg.Pq.length≤1073741824) (hp1:Yg.Tr.length≤1073741824) (hp2:∀ t∈Yg.Tr,t.length≤1073741824):Fn prog 52 [.agg [.sl (Yg.Pq.map Gv.c), .sl (Yg.Tr.map (cL (cI .i64)))]] (.agg [.own 0, .own 1]) [.vec 40 3 (Yg.Pq.map Gv.c) false, .nest 49 (Yg.Tr.map fun l=>l.map (cI .i64)) false]:=by
 simpa only [ZgB] using Zh4  Yg hp0 hp1 hp2
def Z5U (Yg:Gs):Gs:=Yg
theorem Zgc (Yg:Gs)   : Fn prog 104 [.agg [.i .i64 Yg.A, .i .i64 Yg.B, .f .f32 Yg.Long, .f .f32 Yg.Stiff]] (.agg [.i .i64 ((Z5U Yg).A), .i .i64 ((Z5U Yg).B), .f .f32 ((Z5U Yg).Long), .f .f32 ((Z5U Yg).Stiff)]) []:=by
 refine fnS E0Ok Z7 (c:=X0 f104) [] (.agg [.i .i64 Yg.A, .i .i64 Yg.B, .f .f32 Yg.Long, .f .f32 Yg.Stiff]) [] func104 (sK [] sN) rfl (by kernel_rfl) (by kernel_rfl) rfl ?_ ?_
 · rfl
 · rfl
@[simp] theorem ZfJ (a:Gs):Z5U a=a:=rfl
theorem Zgd (Yg:Gs)  : Fn prog 104 [.agg [.i .i64 Yg.A, .i .i64 Yg.B, .f .f32 Yg.Long, .f .f32 Yg.Stiff]] (.agg [.i .i64 Yg.A, .i .i64 Yg.B, .f .f32 Yg.Long, .f .f32 Yg.Stiff]) []:=by
 simpa only [ZfJ] using Zgc  Yg 
def Z2X (Yg:(List Gs)):Nat→Int→(List Gs)→(List Gs)
  | 0,_,_=>default
  | k + 1,Yk,Ye=>(cond (decide (Yk < (Yg.length:Int)))
    (Z2X Yg k (Yk + 1) (Ye.set Yk.toNat (Yg.getD Yk.toNat default)))
    Ye)
def Z70 (Yg:(List Gs)) (r:(List Gs)):Ex × St:=((.exit 0),⟨.sl (Yg.map Gs.c) :: .any :: .nils :: .own 0 :: .any :: .sl (Yg.map Gs.c) :: .i .i64 (Yg.length:Int) :: .own 0 :: an 15 [],[.vec 133 4 (r.map Gs.c) false]⟩)
def Z71 (Yg:(List Gs)) (Yk:Int) (Ye:(List Gs)):St:=⟨.sl (Yg.map Gs.c) :: .any :: .nils :: .own 0 :: .i .i64 Yk :: .sl (Yg.map Gs.c) :: .i .i64 (Yg.length:Int) :: .own 0 :: an 15 [],[.vec 133 4 (Ye.map Gs.c) false]⟩
theorem ZdV (Yg:(List Gs)) (hp0:Yg.length≤1073741824):∀ (k:Nat) (Yk:Int) (Ye:(List Gs)) (Z8K:0≤Yk) (Z8L:Ye.length=Yg.length) (hk:((Yg.length:Int) - Yk).toNat < k),Lp prog 0 (sub (X0 f53) [1,1,0,1,0,0]) (Z71 Yg Yk Ye) (Z70 Yg (Z2X Yg k Yk Ye)).1 (Z70 Yg (Z2X Yg k Yk Ye)).2:=by
 intro k
 induction k with
 | zero=>intro Yk Ye Z8K Z8L hk;exact absurd hk (Nat.not_lt_zero _)
 | succ k ih =>
  intro Yk Ye Z8K Z8L hk
  have p {a C} (s:Scr a C):=sZ Gs.c Yg<|s
  cases Yv:(decide (Yk < (Yg.length:Int))) with
  | true =>
   have YI:=odt Yv
   have YT:(0:Int)≤Yk:=by clear p;exact (by assumption)
   have YV:Yk < (Yg.length:Int):=by clear p;exact (by assumption)
   have YX:Yk < (Ye.length:Int):=by clear p;exact (by omega)
   have YZ:Yk.toNat < Ye.length:=by clear p;exact (by omega)
   have y_4:(-9223372036854775808:Int)≤(Yk + 1):=by clear p;exact (by omega)
   have y_5:(Yk + 1)≤(9223372036854775807:Int):=by clear p;exact (by omega)
   have e:Z2X Yg (k + 1) Yk Ye=(Z2X Yg k (Yk + 1) (Ye.set Yk.toNat (Yg.getD Yk.toNat default))):=by simp only [Z2X,Yv,cond_true]
   rw [e]
   exact X9 E0Ok Z7 [] (mR false [0,1,1,6,15]) [0] (⟨.sl (Yg.map Gs.c) :: .any :: .nils :: .own 0 :: .i .i64 (Yk + 1) :: .sl (Yg.map Gs.c) :: .i .i64 (Yg.length:Int) :: .own 0 :: an 15 [],[.vec 133 4 ((Ye.map Gs.c).set Yk.toNat [.i .i64 ((Yg.getD Yk.toNat default).A), .i .i64 ((Yg.getD Yk.toNat default).B), .f .f32 ((Yg.getD Yk.toNat default).Long), .f .f32 ((Yg.getD Yk.toNat default).Stiff)]) false]⟩) (p (sB Yv<|sG Gs.c Yg Yk YT YV<|sF (Zgd (Yg.getD Yk.toNat default))<|sX Gs.c Ye Yk YT YX<|sC (Xl (c:=Gs.c) (l:=Ye) YZ)<|sI (Yk + 1) y_4 y_5<|sN)) (by kernel_rfl) (by simp [Z71,List.map_set,Gs.c]) (ih (Yk + 1) (Ye.set Yk.toNat (Yg.getD Yk.toNat default)) (show 0≤(Yk + 1) from (by omega)) (show (Ye.set Yk.toNat (Yg.getD Yk.toNat default)).length=Yg.length from (by simp_all<;>omega)) (by omega))
  | false =>
   have YI:=odf Yv
   have e:Z2X Yg (k + 1) Yk Ye=Ye:=by simp only [Z2X,Yv,cond_false]
   rw [e]
   exact outR (e:=(.exit 0)) E0Ok Z7 [] (mR false [0,1,1,2,1,3,15]) [0] (p (sB Yv<|sN)) (by kernel_rfl) (by intro h;cases h)
def Z58 (Yg:(List Gs)):(List Gs):=(Z2X Yg (((Yg.length:Int) - 0).toNat + 1) 0 (List.replicate (Yg.length:Int).toNat (⟨0,0,0,0⟩:Gs)))
def Z6s (Yg:(List Gs)):(List Gs):=(Z58 Yg)
theorem ZfK (Yg:(List Gs)) (hp0:Yg.length≤1073741824)  : Fn prog 53 [.sl (Yg.map Gs.c)] (.own 0) [.vec 133 4 ((Z6s Yg).map Gs.c) false]:=by
 have y0:(0:Int)≤(Yg.length:Int):=(by omega)
 have y1:((Yg.length:Int):Int)≤2147483648:=(by omega)
 refine fnS E0Ok Z7 (c:=X0 f53) [] (.own 0) [.vec 133 4 ((Z58 Yg).map Gs.c) false] func53 (sZ Gs.c Yg<|sC (show (Yg.length:Int)=(Yg.length:Int) from rfl)<|sC y0<|sC y1<|sL (mR false [0,1,1,6,15]) 1 (Xk (st2:=⟨.sl (Yg.map Gs.c) :: .any :: .nils :: .own 0 :: .i .i64 0 :: .sl (Yg.map Gs.c) :: .i .i64 (Yg.length:Int) :: .own 0 :: an 15 [],[.vec 133 4 (List.replicate (Int.toNat (Yg.length:Int)) [.i .i64 0, .i .i64 0, .f .f32 0, .f .f32 0]) false]⟩) (X1 (Z70 Yg) (x:=(Z58 Yg)) (ZdV Yg hp0 (((Yg.length:Int) - 0).toNat + 1) 0 (List.replicate (Yg.length:Int).toNat (⟨0,0,0,0⟩:Gs)) (show 0≤0 from (by omega)) (show (List.replicate (Yg.length:Int).toNat (⟨0,0,0,0⟩:Gs)).length=Yg.length from (by simp)) (Nat.lt_succ_self _)) rfl) (by simp [Z71,Gs.c]))<|sK [0] sN) rfl (by kernel_rfl) (by kernel_rfl) rfl ?_ ?_
 · rfl
 · simp [Z6s]
@[simp] theorem Zff (a:List Gs):Z6s a=a:=by
  unfold Z6s Z58
  rw [X2e (f:=id) (a:=a) (lo:=Z2X a) (fun k i r=>rfl)]
  exact List.map_id a
theorem ZfL (Yg:(List Gs)) (hp0:Yg.length≤1073741824):Fn prog 53 [.sl (Yg.map Gs.c)] (.own 0) [.vec 133 4 (Yg.map Gs.c) false]:=by
 simpa only [Zff] using ZfK  Yg hp0
def Z2L (Yg:(List Nat)):Nat→Int→(List Nat)→(List Nat)
  | 0,_,_=>default
  | k + 1,Yk,Ye=>(cond (decide (Yk < (Yg.length:Int)))
    (Z2L Yg k (Yk + 1) (Ye.set Yk.toNat (Yg.getD Yk.toNat default)))
    Ye)
def Z6t (Yg:(List Nat)) (r:(List Nat)):Ex × St:=((.exit 0),⟨.sl (Yg.map (cF .f32)) :: .any :: .nils :: .own 0 :: .any :: .sl (Yg.map (cF .f32)) :: .i .i64 (Yg.length:Int) :: .own 0 :: an 14 [],[.vec 27 1 (r.map (cF .f32)) false]⟩)
def Z6u (Yg:(List Nat)) (Yk:Int) (Ye:(List Nat)):St:=⟨.sl (Yg.map (cF .f32)) :: .any :: .nils :: .own 0 :: .i .i64 Yk :: .sl (Yg.map (cF .f32)) :: .i .i64 (Yg.length:Int) :: .own 0 :: an 14 [],[.vec 27 1 (Ye.map (cF .f32)) false]⟩
theorem Zdf (Yg:(List Nat)) (hp0:Yg.length≤1073741824):∀ (k:Nat) (Yk:Int) (Ye:(List Nat)) (Z8o:0≤Yk) (Z8p:Ye.length=Yg.length) (hk:((Yg.length:Int) - Yk).toNat < k),Lp prog 0 (sub (X0 f54) [1,1,0,1,0,0]) (Z6u Yg Yk Ye) (Z6t Yg (Z2L Yg k Yk Ye)).1 (Z6t Yg (Z2L Yg k Yk Ye)).2:=by
 intro k
 induction k with
 | zero=>intro Yk Ye Z8o Z8p hk;exact absurd hk (Nat.not_lt_zero _)
 | succ k ih =>
  intro Yk Ye Z8o Z8p hk
  have p {a C} (s:Scr a C):=sZ (cF .f32) Yg<|s
  cases Yv:(decide (Yk < (Yg.length:Int))) with
  | true =>
   have YI:=odt Yv
   have YT:(0:Int)≤Yk:=by clear p;exact (by assumption)
   have YV:Yk < (Yg.length:Int):=by clear p;exact (by assumption)
   have YX:Yk < (Ye.length:Int):=by clear p;exact (by omega)
   have YZ:Yk.toNat < Ye.length:=by clear p;exact (by omega)
   have y_4:(-9223372036854775808:Int)≤(Yk + 1):=by clear p;exact (by omega)
   have y_5:(Yk + 1)≤(9223372036854775807:Int):=by clear p;exact (by omega)
   have e:Z2L Yg (k + 1) Yk Ye=(Z2L Yg k (Yk + 1) (Ye.set Yk.toNat (Yg.getD Yk.toNat default))):=by simp only [Z2L,Yv,cond_true]
   rw [e]
   exact X9 E0Ok Z7 [] (mR false [0,1,1,6,14]) [0] (⟨.sl (Yg.map (cF .f32)) :: .any :: .nils :: .own 0 :: .i .i64 (Yk + 1) :: .sl (Yg.map (cF .f32)) :: .i .i64 (Yg.length:Int) :: .own 0 :: an 14 [],[.vec 27 1 ((Ye.map (cF .f32)).set Yk.toNat [.f .f32 (Yg.getD Yk.toNat default)]) false]⟩) (p (sB Yv<|sG (cF .f32) Yg Yk YT YV<|sX (cF .f32) Ye Yk YT YX<|sC (Xl (c:=(cF .f32)) (l:=Ye) YZ)<|sI (Yk + 1) y_4 y_5<|sN)) (by kernel_rfl) (by simp [Z6u,List.map_set,cF]) (ih (Yk + 1) (Ye.set Yk.toNat (Yg.getD Yk.toNat default)) (show 0≤(Yk + 1) from (by omega)) (show (Ye.set Yk.toNat (Yg.getD Yk.toNat default)).length=Yg.length from (by simp_all<;>omega)) (by omega))
  | false =>
   have YI:=odf Yv
   have e:Z2L Yg (k + 1) Yk Ye=Ye:=by simp only [Z2L,Yv,cond_false]
   rw [e]
   exact outR (e:=(.exit 0)) E0Ok Z7 [] (mR false [0,1,1,2,1,3,14]) [0] (p (sB Yv<|sN)) (by kernel_rfl) (by intro h;cases h)
def Z51 (Yg:(List Nat)):(List Nat):=(Z2L Yg (((Yg.length:Int) - 0).toNat + 1) 0 (List.replicate (Yg.length:Int).toNat 0))
def Z66 (Yg:(List Nat)):(List Nat):=(Z51 Yg)
theorem Zfg (Yg:(List Nat)) (hp0:Yg.length≤1073741824)  : Fn prog 54 [.sl (Yg.map (cF .f32))] (.own 0) [.vec 27 1 ((Z66 Yg).map (cF .f32)) false]:=by
 have y0:(0:Int)≤(Yg.length:Int):=(by omega)
 have y1:((Yg.length:Int):Int)≤2147483648:=(by omega)
 refine fnS E0Ok Z7 (c:=X0 f54) [] (.own 0) [.vec 27 1 ((Z51 Yg).map (cF .f32)) false] func54 (sZ (cF .f32) Yg<|sC (show (Yg.length:Int)=(Yg.length:Int) from rfl)<|sC y0<|sC y1<|sL (mR false [0,1,1,6,14]) 1 (Xk (st2:=⟨.sl (Yg.map (cF .f32)) :: .any :: .nils :: .own 0 :: .i .i64 0 :: .sl (Yg.map (cF .f32)) :: .i .i64 (Yg.length:Int) :: .own 0 :: an 14 [],[.vec 27 1 (List.replicate (Int.toNat (Yg.length:Int)) [.f .f32 0]) false]⟩) (X1 (Z6t Yg) (x:=(Z51 Yg)) (Zdf Yg hp0 (((Yg.length:Int) - 0).toNat + 1) 0 (List.replicate (Yg.length:Int).toNat 0) (show 0≤0 from (by omega)) (show (List.replicate (Yg.length:Int).toNat 0).length=Yg.length from (by simp)) (Nat.lt_succ_self _)) rfl) (by simp [Z6u,cF]))<|sK [0] sN) rfl (by kernel_rfl) (by kernel_rfl) rfl ?_ ?_
 · rfl
 · simp [Z66]
@[simp] theorem Zen (a:List Nat):Z66 a=a:=by
  unfold Z66 Z51
  rw [X2e (f:=id) (a:=a) (lo:=Z2L a) (fun k i r=>rfl)]
  exact List.map_id a
theorem Zfh (Yg:(List Nat)) (hp0:Yg.length≤1073741824):Fn prog 54 [.sl (Yg.map (cF .f32))] (.own 0) [.vec 27 1 (Yg.map (cF .f32)) false]:=by
 simpa only [Zen] using Zfg  Yg hp0
def Z3K (Yg:Gb):Gb:=Yg
theorem Zh6 (Yg:Gb) (hp0:Yg.Me.Pq.length≤1073741824) (hp1:Yg.Me.Tr.length≤1073741824) (hp2:∀ t∈Yg.Me.Tr,t.length≤1073741824) (hp3:Yg.Sp.length≤1073741824) (hp4:Yg.We.length≤1073741824)  : Fn prog 13 [.agg [.sl (Yg.Me.Pq.map Gv.c), .sl (Yg.Me.Tr.map (cL (cI .i64))), .sl (Yg.Sp.map Gs.c), .f .f32 Yg.Film, .f .f32 Yg.Bend, .sl (Yg.We.map (cF .f32)), .f .f32 Yg.Fall.X, .f .f32 Yg.Fall.Y, .f .f32 Yg.Fall.Z]] (.agg [.own 0, .own 1, .own 2, .f .f32 ((Z3K Yg).Film), .f .f32 ((Z3K Yg).Bend), .own 3, .f .f32 ((Z3K Yg).Fall.X), .f .f32 ((Z3K Yg).Fall.Y), .f .f32 ((Z3K Yg).Fall.Z)]) [.vec 40 3 (((Z3K Yg).Me.Pq).map Gv.c) false, .nest 49 (((Z3K Yg).Me.Tr).map fun l=>l.map (cI .i64)) false, .vec 133 4 (((Z3K Yg).Sp).map Gs.c) false, .vec 27 1 (((Z3K Yg).We).map (cF .f32)) false]:=by
 refine fnS E0Ok Z7 (c:=X0 f13) [] (.agg [.own 0, .own 1, .own 2, .f .f32 Yg.Film, .f .f32 Yg.Bend, .own 3, .f .f32 Yg.Fall.X, .f .f32 Yg.Fall.Y, .f .f32 Yg.Fall.Z]) [.vec 40 3 (Yg.Me.Pq.map Gv.c) false, .nest 49 (Yg.Me.Tr.map fun l=>l.map (cI .i64)) false, .vec 133 4 (Yg.Sp.map Gs.c) false, .vec 27 1 (Yg.We.map (cF .f32)) false] func13 (sF (Zh5 Yg.Me hp0 hp1 hp2)<|sF (ZfL Yg.Sp hp3)<|sF (Zfh Yg.We hp4)<|sF (Zcp Yg.Fall)<|sK [3,4,5,6] sN) rfl (by kernel_rfl) (by kernel_rfl) rfl ?_ ?_
 · rfl
 · simp [Z3K]
@[simp] theorem ZgC (a:Gb):Z3K a=a:=by
  simp [Z3K]
theorem Z8w (Yg:Gb) (hp0:Yg.Me.Pq.length≤1073741824) (hp1:Yg.Me.Tr.length≤1073741824) (hp2:∀ t∈Yg.Me.Tr,t.length≤1073741824) (hp3:Yg.Sp.length≤1073741824) (hp4:Yg.We.length≤1073741824):Fn prog 13 [.agg [.sl (Yg.Me.Pq.map Gv.c), .sl (Yg.Me.Tr.map (cL (cI .i64))), .sl (Yg.Sp.map Gs.c), .f .f32 Yg.Film, .f .f32 Yg.Bend, .sl (Yg.We.map (cF .f32)), .f .f32 Yg.Fall.X, .f .f32 Yg.Fall.Y, .f .f32 Yg.Fall.Z]] (.agg [.own 0, .own 1, .own 2, .f .f32 Yg.Film, .f .f32 Yg.Bend, .own 3, .f .f32 Yg.Fall.X, .f .f32 Yg.Fall.Y, .f .f32 Yg.Fall.Z]) [.vec 40 3 (Yg.Me.Pq.map Gv.c) false, .nest 49 (Yg.Me.Tr.map fun l=>l.map (cI .i64)) false, .vec 133 4 (Yg.Sp.map Gs.c) false, .vec 27 1 (Yg.We.map (cF .f32)) false]:=by
 simpa only [ZgC] using Zh6  Yg hp0 hp1 hp2 hp3 hp4
def Zl (n_0:Int) (Y10:Int) (YQ:Int):Bool:=(cond (decide (n_0 ≥ Y10))
  (decide (n_0≤YQ))
  false)
theorem Z5E (n_0:Int) (Y10:Int) (YQ:Int)   : Fn prog 81 [.i .i64 n_0, .i .i64 Y10, .i .i64 YQ] (.b (Zl n_0 Y10 YQ)) []:=by
 cases h0:(decide (n_0 ≥ Y10)) with
 | true =>
  have gh0:=odt h0
  refine fnS E0Ok Z7 (c:=X0 f81) [] (.b (decide (n_0≤YQ))) [] func81 (sB h0<|sB h0<|sB h0<|sB h0<|sK [] sN) rfl (by kernel_rfl) (by kernel_rfl) rfl ?_ ?_
  · simp only [Zl,h0,cond_true]
  · rfl
 | false =>
  have gh0:=odf h0
  refine fnS E0Ok Z7 (c:=X0 f81) [] (.b false) [] func81 (sB h0<|sB h0<|sB h0<|sB h0<|sK [] sN) rfl (by kernel_rfl) (by kernel_rfl) rfl ?_ ?_
  · simp only [Zl,h0,cond_false]
  · rfl
theorem Zib {x:Int} {n:Nat} (hn:n≤9223372036854775807) (h:Zl x 0 (IntKind.wrap .i64 ((n:Int) - 1))=true):0≤x∧x < (n:Int):=by
  unfold Zl at h
  rw [Xb (n:=(n:Int) - 1) (by omega) (by omega)] at h
  by_cases h1:x ≥ 0<;>simp [h1] at h
  omega
def Z12 (YY:(List Int)) (n_1:Int):Bool:=(cond ((YY.length:Int) != 3)
  false
  (cond ((YY.getD 0 default) == (YY.getD 1 default))
    false
    (cond ((YY.getD 1 default) == (YY.getD 2 default))
      false
      (cond ((YY.getD 0 default) == (YY.getD 2 default))
        false
        (cond (Zl (YY.getD 0 default) 0 (IntKind.wrap .i64 (n_1 - 1)))
          (cond (Zl (YY.getD 1 default) 0 (IntKind.wrap .i64 (n_1 - 1)))
            (Zl (YY.getD 2 default) 0 (IntKind.wrap .i64 (n_1 - 1)))
            false)
          false)))))
theorem Zeo (YY:(List Int)) (n_1:Int) (hp0:YY.length≤1073741824)  : Fn prog 135 [.sl (YY.map (cI .i64)), .i .i64 n_1] (.b (Z12 YY n_1)) []:=by
 have p {a C} (s:Scr a C):=sK [28,28]<|sZ (cI .i64) YY<|s
 cases h0:((YY.length:Int) != 3) with
 | true =>
  have gh0:=bne_iff_ne.1 h0
  refine fnS E0Ok Z7 (c:=X0 f135) [] (.b false) [] func135 (p (sB h0<|sB h0<|sB h0<|sB h0<|sB h0<|sB h0<|sB h0<|sB h0<|sB (show true=true from rfl)<|sB (show true=true from rfl)<|sB (show true=true from rfl)<|sB (show true=true from rfl)<|sB (show true=true from rfl)<|sB (show true=true from rfl)<|sB (show true=true from rfl)<|sB (show true=true from rfl)<|sB (show true=true from rfl)<|sB (show true=true from rfl)<|sB (show true=true from rfl)<|sB (show true=true from rfl)<|sB (show true=true from rfl)<|sB (show true=true from rfl)<|sB (show true=true from rfl)<|sB (show true=true from rfl)<|sB (show true=true from rfl)<|sK [] sN)) rfl (by kernel_rfl) (by kernel_rfl) rfl ?_ ?_
  · simp only [Z12,h0,cond_true]
  · rfl
 | false =>
  have gh0:=bne_eq_false_iff_eq.1 h0
  have y0:(0:Int)≤0:=by clear p;exact (by omega)
  have y1:0 < (YY.length:Int):=by clear p;exact (by omega)
  have y2:(0:Int)≤1:=by clear p;exact (by omega)
  have y3:1 < (YY.length:Int):=by clear p;exact (by omega)
  have q {a C} (s:Scr a C):=p (sB h0<|sB h0<|sG (cI .i64) YY 0 y0 y1<|sB h0<|sB h0<|sB h0<|sG (cI .i64) YY 1 y2 y3<|sB h0<|sB h0<|sB h0<|s)
  clear p
  cases h1:((YY.getD 0 default) == (YY.getD 1 default)) with
  | true =>
   have gh1:=eq_of_beq h1
   refine fnS E0Ok Z7 (c:=X0 f135) [] (.b false) [] func135 (q (sB h1<|sB h1<|sB h1<|sB h1<|sB h1<|sB h1<|sB h1<|sB h1<|sB (show true=true from rfl)<|sB (show true=true from rfl)<|sB (show true=true from rfl)<|sB (show true=true from rfl)<|sB (show true=true from rfl)<|sB (show true=true from rfl)<|sB (show true=true from rfl)<|sB (show true=true from rfl)<|sB (show true=true from rfl)<|sK [] sN)) rfl (by kernel_rfl) (by kernel_rfl) rfl ?_ ?_
   · simp only [Z12,h0,h1,cond_true,cond_false]
   · rfl
  | false =>
   have gh1:=ne_of_beq_false h1
   have y4:(0:Int)≤2:=by clear q;exact (by omega)
   have y5:2 < (YY.length:Int):=by clear q;exact (by omega)
   have p {a C} (s:Scr a C):=q (sB h1<|sB h1<|sG (cI .i64) YY 1 y2 y3<|sB h1<|sB h1<|sB h1<|sG (cI .i64) YY 2 y4 y5<|sB h1<|sB h1<|sB h1<|s)
   clear q
   cases h2:((YY.getD 1 default) == (YY.getD 2 default)) with
   | true =>
    have gh2:=eq_of_beq h2
    refine fnS E0Ok Z7 (c:=X0 f135) [] (.b false) [] func135 (p (sB h2<|sB h2<|sB h2<|sB h2<|sB h2<|sB h2<|sB h2<|sB h2<|sB (show true=true from rfl)<|sK [] sN)) rfl (by kernel_rfl) (by kernel_rfl) rfl ?_ ?_
    · simp only [Z12,h0,h1,h2,cond_true,cond_false]
    · rfl
   | false =>
    have gh2:=ne_of_beq_false h2
    have q {a C} (s:Scr a C):=p (sB h2<|sB h2<|sG (cI .i64) YY 0 y0 y1<|sB h2<|sB h2<|sB h2<|sG (cI .i64) YY 2 y4 y5<|sB h2<|sB h2<|sB h2<|s)
    clear p
    cases h3:((YY.getD 0 default) == (YY.getD 2 default)) with
    | true =>
     have gh3:=eq_of_beq h3
     refine fnS E0Ok Z7 (c:=X0 f135) [] (.b false) [] func135 (q (sB h3<|sK [] sN)) rfl (by kernel_rfl) (by kernel_rfl) rfl ?_ ?_
     · simp only [Z12,h0,h1,h2,h3,cond_true,cond_false]
     · rfl
    | false =>
     have gh3:=ne_of_beq_false h3
     have p {a C} (s:Scr a C):=q (sB h3<|sG (cI .i64) YY 0 y0 y1<|sW .i64 (n_1 - 1)<|sF (Z5E (YY.getD 0 default) 0 (IntKind.wrap .i64 (n_1 - 1)))<|s)
     clear q
     cases h4:(Zl (YY.getD 0 default) 0 (IntKind.wrap .i64 (n_1 - 1))) with
     | true =>
      have q {a C} (s:Scr a C):=p (sB h4<|sB h4<|sG (cI .i64) YY 1 y2 y3<|sB h4<|sB h4<|sB h4<|sW .i64 (n_1 - 1)<|sB h4<|sF (Z5E (YY.getD 1 default) 0 (IntKind.wrap .i64 (n_1 - 1)))<|sB h4<|s)
      clear p
      cases h5:(Zl (YY.getD 1 default) 0 (IntKind.wrap .i64 (n_1 - 1))) with
      | true =>
       refine fnS E0Ok Z7 (c:=X0 f135) [] (.b (Zl (YY.getD 2 default) 0 (IntKind.wrap .i64 (n_1 - 1)))) [] func135 (q (sB h5<|sB h5<|sG (cI .i64) YY 2 y4 y5<|sB h5<|sB h5<|sB h5<|sW .i64 (n_1 - 1)<|sB h5<|sF (Z5E (YY.getD 2 default) 0 (IntKind.wrap .i64 (n_1 - 1)))<|sB h5<|sK [] sN)) rfl (by kernel_rfl) (by kernel_rfl) rfl ?_ ?_
       · simp only [Z12,h0,h1,h2,h3,h4,h5,cond_true,cond_false]
       · rfl
      | false =>
       refine fnS E0Ok Z7 (c:=X0 f135) [] (.b false) [] func135 (q (sB h5<|sB h5<|sB h5<|sB h5<|sB h5<|sB h5<|sB h5<|sK [] sN)) rfl (by kernel_rfl) (by kernel_rfl) rfl ?_ ?_
       · simp only [Z12,h0,h1,h2,h3,h4,h5,cond_true,cond_false]
       · rfl
     | false =>
      refine fnS E0Ok Z7 (c:=X0 f135) [] (.b false) [] func135 (p (sB h4<|sB h4<|sB h4<|sB h4<|sB h4<|sB h4<|sB h4<|sB (show false=false from rfl)<|sB (show false=false from rfl)<|sB (show false=false from rfl)<|sB (show false=false from rfl)<|sB (show false=false from rfl)<|sB (show false=false from rfl)<|sB (show false=false from rfl)<|sK [] sN)) rfl (by kernel_rfl) (by kernel_rfl) rfl ?_ ?_
      · simp only [Z12,h0,h1,h2,h3,h4,cond_false]
      · rfl
def Z3d (Yi:Gm):Nat→Int→(Unit) ⊕ (Unit)
  | 0,_ => .inl default
  | k + 1,Yk=>(cond (decide (Yk < (Yi.Tr.length:Int)))
    (cond (Z12 (Yi.Tr.getD Yk.toNat default) (Yi.Pq.length:Int))
      (Z3d Yi k (Yk + 1))
      (.inl ()))
    (.inr ()))
def Z7h (Yi:Gm):(Unit) ⊕ (Unit)→Ex × St
  | .inl r=>(.ret,⟨.any :: .any :: .b false :: an 38 [],[]⟩)
  | .inr r=>((.exit 0),⟨.ref (Gm.c Yi) 0 :: .any :: .any :: .any :: .ref (Gm.c Yi) 0 :: .ref (Gm.c Yi) 0 :: .ref (Gm.c Yi) 0 :: .sl (Yi.Pq.map Gv.c) :: .i .i64 (Yi.Pq.length:Int) :: .b (decide ((Yi.Pq.length:Int) > 64)) :: .b (decide ((Yi.Pq.length:Int) > 64)) :: .ref (Gm.c Yi) 0 :: .ref (Gm.c Yi) 0 :: .ref (Gm.c Yi) 1 :: .sl (Yi.Tr.map (cL (cI .i64))) :: .i .i64 (Yi.Tr.length:Int) :: .b (decide ((Yi.Tr.length:Int) > 128)) :: .b (decide ((Yi.Tr.length:Int) > 128)) :: an 23 [],[]⟩)
def Zge (Yi:Gm) (Yk:Int):St:=⟨.ref (Gm.c Yi) 0 :: .any :: .any :: .i .i64 Yk :: .ref (Gm.c Yi) 0 :: .ref (Gm.c Yi) 0 :: .ref (Gm.c Yi) 0 :: .sl (Yi.Pq.map Gv.c) :: .i .i64 (Yi.Pq.length:Int) :: .b (decide ((Yi.Pq.length:Int) > 64)) :: .b (decide ((Yi.Pq.length:Int) > 64)) :: .ref (Gm.c Yi) 0 :: .ref (Gm.c Yi) 0 :: .ref (Gm.c Yi) 1 :: .sl (Yi.Tr.map (cL (cI .i64))) :: .i .i64 (Yi.Tr.length:Int) :: .b (decide ((Yi.Tr.length:Int) > 128)) :: .b (decide ((Yi.Tr.length:Int) > 128)) :: an 23 [],[]⟩
theorem Zcq (Yi:Gm) (hp0:Yi.Pq.length≤1073741824) (hp1:Yi.Tr.length≤1073741824) (hp2:∀ t∈Yi.Tr,t.length≤1073741824) (ZiM:(decide ((Yi.Pq.length:Int) > 64))=false) (ZiN:(decide ((Yi.Tr.length:Int) > 128))=false):∀ (k:Nat) (Yk:Int) (Zbw:0≤Yk) (hk:((Yi.Tr.length:Int) - Yk).toNat < k),Lp prog 0 (sub (X0 f94) [1,1,0,1,0,0]) (Zge Yi Yk) (Z7h Yi (Z3d Yi k Yk)).1 (Z7h Yi (Z3d Yi k Yk)).2:=by
 intro k
 induction k with
 | zero=>intro Yk Zbw hk;exact absurd hk (Nat.not_lt_zero _)
 | succ k ih =>
  intro Yk Zbw hk
  have p {a C} (s:Scr a C):=sZ (cL (cI .i64)) Yi.Tr<|s
  cases Yv:(decide (Yk < (Yi.Tr.length:Int))) with
  | true =>
   have YI:=odt Yv
   have YT:(0:Int)≤Yk:=by clear p;exact (by assumption)
   have YV:Yk < (Yi.Tr.length:Int):=by clear p;exact (by assumption)
   have YX:(Yi.Tr.getD Yk.toNat default).length≤1073741824:=by clear p;exact (by simp_all<;>omega)
   have q {a C} (s:Scr a C):=p (sB Yv<|sK [12,12]<|sG (cL (cI .i64)) Yi.Tr Yk YT YV<|sZ Gv.c Yi.Pq<|sF (Zeo (Yi.Tr.getD Yk.toNat default) (Yi.Pq.length:Int) YX)<|s)
   clear p
   cases YF:(Z12 (Yi.Tr.getD Yk.toNat default) (Yi.Pq.length:Int)) with
   | true =>
    have YZ:(-9223372036854775808:Int)≤(Yk + 1):=by clear q;exact (by omega)
    have y_4:(Yk + 1)≤(9223372036854775807:Int):=by clear q;exact (by omega)
    have e:Z3d Yi (k + 1) Yk=(Z3d Yi k (Yk + 1)):=by simp only [Z3d,Yv,YF,cond_true]
    rw [e]
    exact X8 E0Ok Z7 [] (mR false [0,1,2,15,23]) [] (ih (Yk + 1) (show 0≤(Yk + 1) from (by omega)) (by omega)) (q (sB' YF<|sI (Yk + 1) YZ y_4<|sN)) (by kernel_rfl)
   | false =>
    have e:Z3d Yi (k + 1) Yk=(.inl ()):=by simp only [Z3d,Yv,YF,cond_true,cond_false]
    rw [e]
    exact outR (e := .ret) E0Ok Z7 [] (mR false [2,1,38]) [] (q (sB' YF<|sN)) (by kernel_rfl) (by intro h;cases h)
  | false =>
   have YI:=odf Yv
   have e:Z3d Yi (k + 1) Yk=(.inr ()):=by simp only [Z3d,Yv,cond_false]
   rw [e]
   exact outR (e:=(.exit 0)) E0Ok Z7 [] (mR false [0,1,3,14,23]) [] (p (sB Yv<|sN)) (by kernel_rfl) (by intro h;cases h)
def Z5i (Yi:Gm):(Unit) ⊕ (Unit):=(Z3d Yi (((Yi.Tr.length:Int) - 0).toNat + 1) 0)
def Z1D (Yi:Gm):Bool:=(cond (decide ((Yi.Pq.length:Int) > 64))
  false
  (cond (decide ((Yi.Tr.length:Int) > 128))
    false
    (match (Z5i Yi) with
      | .inl r3=>false
      | .inr r3=>true)))
theorem Zhu (Yi:Gm) (hp0:Yi.Pq.length≤1073741824) (hp1:Yi.Tr.length≤1073741824) (hp2:∀ t∈Yi.Tr,t.length≤1073741824)  : Fn prog 94 [.ref (Gm.c Yi) 0] (.b (Z1D Yi)) []:=by
 have p {a C} (s:Scr a C):=sZ Gv.c Yi.Pq<|s
 cases h0:(decide ((Yi.Pq.length:Int) > 64)) with
 | true =>
  have gh0:=odt h0
  refine fnS E0Ok Z7 (c:=X0 f94) [] (.b false) [] func94 (p (sB h0<|sB h0<|sB h0<|sB h0<|sB h0<|sB h0<|sB h0<|sB (show true=true from rfl)<|sK [] sN)) rfl (by kernel_rfl) (by kernel_rfl) rfl ?_ ?_
  · simp only [Z1D,h0,cond_true]
  · rfl
 | false =>
  have gh0:=odf h0
  have q {a C} (s:Scr a C):=p (sB h0<|sB h0<|sB h0<|sB h0<|sB h0<|sZ (cL (cI .i64)) Yi.Tr<|sB h0<|sB h0<|s)
  clear p
  cases h1:(decide ((Yi.Tr.length:Int) > 128)) with
  | true =>
   have gh1:=odt h1
   refine fnS E0Ok Z7 (c:=X0 f94) [] (.b false) [] func94 (q (sB h1<|sK [] sN)) rfl (by kernel_rfl) (by kernel_rfl) rfl ?_ ?_
   · simp only [Z1D,h0,h1,cond_true,cond_false]
   · rfl
  | false =>
   have gh1:=odf h1
   have p {a C} (s:Scr a C):=q (sB h1<|s)
   clear q
   cases h2:(Z5i Yi) with
   | inl r3 =>
    refine fnS E0Ok Z7 (c:=X0 f94) [] (.b false) [] func94 (p (sL (mR false [0,1,2,15,23]) 0 (X1 (Z7h Yi) (x:=(Z5i Yi)) (Zcq Yi hp0 hp1 hp2 h0 h1 (((Yi.Tr.length:Int) - 0).toNat + 1) 0 (show 0≤0 from (by omega)) (Nat.lt_succ_self _)) h2)<|sK [] sN)) rfl (by kernel_rfl) (by kernel_rfl) rfl ?_ ?_
    · simp only [Z1D,h0,h1,h2,cond_false]
    · rfl
   | inr r3 =>
    refine fnS E0Ok Z7 (c:=X0 f94) [] (.b true) [] func94 (p (sL (mR false [0,1,2,15,23]) 0 (X1 (Z7h Yi) (x:=(Z5i Yi)) (Zcq Yi hp0 hp1 hp2 h0 h1 (((Yi.Tr.length:Int) - 0).toNat + 1) 0 (show 0≤0 from (by omega)) (Nat.lt_succ_self _)) h2)<|sK [] sN)) rfl (by kernel_rfl) (by kernel_rfl) rfl ?_ ?_
    · simp only [Z1D,h0,h1,h2,cond_false]
    · rfl
theorem ZaG (m:Gm):Z1D m=cond (decide ((m.Pq.length:Int) > 64)) false (cond (decide ((m.Tr.length:Int) > 128)) false (m.Tr.all fun t=>Z12 t (m.Pq.length:Int))):=by
  unfold Z1D Z5i
  rw [XO (a:=m.Tr) (p:=fun t=>Z12 t (m.Pq.length:Int)) (lo:=Z3d m) (x:=()) (y:=()) (fun k i=>rfl)]
  cases (m.Tr.all fun t=>Z12 t (m.Pq.length:Int))<;>rfl
theorem Zj5 {t:List Int} {n:Int} (h0:0≤n) (h1:n≤64) (h:Z12 t n=true):t.length=3∧∀ x∈t,0≤x∧x < n:=by
  unfold Z12 at h
  rw [X1I (by omega) (by omega)] at h
  cases hl:((t.length:Int) != 3) with
  | true=>rw [hl] at h;cases h
  | false =>
    rw [hl,cond_false] at h
    have hl3:t.length=3:=by simp at hl;omega
    match t,hl3 with
    | [a,b,c],_ =>
      refine ⟨rfl,?_⟩
      simp only [List.getD_cons_zero,List.getD_cons_succ,Zl] at h
      cases e1:(a == b)<;>rw [e1] at h<;>(try (cases h;done))
      cases e2:(b == c)<;>rw [e2] at h<;>(try (cases h;done))
      cases e3:(a == c)<;>rw [e3] at h<;>(try (cases h;done))
      simp only [cond_false] at h
      cases f1:decide (a ≥ 0)<;>rw [f1] at h<;>(try (cases h;done))
      cases f2:decide (a≤n - 1)<;>rw [f2] at h<;>(try (cases h;done))
      cases f3:decide (b ≥ 0)<;>rw [f3] at h<;>(try (cases h;done))
      cases f4:decide (b≤n - 1)<;>rw [f4] at h<;>(try (cases h;done))
      cases f5:decide (c ≥ 0)<;>rw [f5] at h<;>(try (cases h;done))
      simp only [cond_true,decide_eq_true_eq] at h f1 f2 f3 f4 f5
      intro x hx
      simp only [List.mem_cons,List.not_mem_nil,or_false] at hx
      rcases hx with rfl | rfl | rfl<;>omega
theorem Zis (m:Gm) (h:Z1D m=true):Xr m.Pq.length m.Tr:=by
  rw [ZaG] at h
  cases h1:decide ((m.Pq.length:Int) > 64)<;>rw [h1] at h<;>(try (cases h;done))
  cases h2:decide ((m.Tr.length:Int) > 128)<;>rw [h2] at h<;>(try (cases h;done))
  simp only [cond_false,List.all_eq_true,decide_eq_false_iff_not] at h h1
  intro t ht
  exact Zj5 (by omega) (by omega) (h t ht)
theorem Zj6 (m:Gm) (h:Z1D m=true):OkE m.Pq.length m.Tr:=by
  have h0:=Zis m h
  rw [ZaG] at h
  cases h1:decide ((m.Pq.length:Int) > 64)<;>rw [h1] at h<;>(try (cases h;done))
  cases h2:decide ((m.Tr.length:Int) > 128)<;>rw [h2] at h<;>(try (cases h;done))
  simp only [cond_false,List.all_eq_true,decide_eq_false_iff_not] at h h1 h2
  refine ⟨by omega,by omega,fun t ht => ?_⟩
  have h3:=h t ht
  obtain ⟨hl,hx⟩:=h0 t ht
  match t,hl with
  | [a,b,c],_ =>
    unfold Z12 at h3
    simp only [List.getD_cons_zero,List.getD_cons_succ] at h3
    cases e0:((([a,b,c]:List Int).length:Int) != 3)<;>rw [e0] at h3<;>(try (cases h3;done))
    cases e1:(a == b)<;>rw [e1] at h3<;>(try (cases h3;done))
    cases e2:(b == c)<;>rw [e2] at h3<;>(try (cases h3;done))
    cases e3:(a == c)<;>rw [e3] at h3<;>(try (cases h3;done))
    exact ⟨a,b,c,rfl,hx a (by simp),hx b (by simp),hx c (by simp),beq_eq_false_iff_ne.1 e1,beq_eq_false_iff_ne.1 e2,beq_eq_false_iff_ne.1 e3⟩
def Z1X (x_0:Gs) (n_1:Int):Bool:=(cond (Zl x_0.A 0 (IntKind.wrap .i64 (n_1 - 1)))
  (cond (Zl x_0.B 0 (IntKind.wrap .i64 (n_1 - 1)))
    (cond (x_0.A != x_0.B)
      (fcmp .geq .f32 x_0.Long 0)
      false)
    false)
  false)
theorem ZfM (x_0:Gs) (n_1:Int)   : Fn prog 95 [.ref (Gs.c x_0) 0, .i .i64 n_1] (.b (Z1X x_0 n_1)) []:=by
 have p {a C} (s:Scr a C):=sK [25,25]<|sW .i64 (n_1 - 1)<|sF (Z5E x_0.A 0 (IntKind.wrap .i64 (n_1 - 1)))<|s
 cases h0:(Zl x_0.A 0 (IntKind.wrap .i64 (n_1 - 1))) with
 | true =>
  have q {a C} (s:Scr a C):=p (sB h0<|sB h0<|sB h0<|sB h0<|sB h0<|sB h0<|sW .i64 (n_1 - 1)<|sB h0<|sF (Z5E x_0.B 0 (IntKind.wrap .i64 (n_1 - 1)))<|sB h0<|s)
  clear p
  cases h1:(Zl x_0.B 0 (IntKind.wrap .i64 (n_1 - 1))) with
  | true =>
   have p {a C} (s:Scr a C):=q (sB h1<|sB h1<|sB h1<|sB h1<|sB h1<|sB h1<|sB h1<|sB h1<|sB h1<|sB h1<|s)
   clear q
   cases h2:(x_0.A != x_0.B) with
   | true =>
    have gh2:=bne_iff_ne.1 h2
    refine fnS E0Ok Z7 (c:=X0 f95) [] (.b (fcmp .geq .f32 x_0.Long 0)) [] func95 (p (sB h2<|sB h2<|sB h2<|sB h2<|sB h2<|sB h2<|sK [] sN)) rfl (by kernel_rfl) (by kernel_rfl) rfl ?_ ?_
    · simp only [Z1X,h0,h1,h2,cond_true]
    · rfl
   | false =>
    have gh2:=bne_eq_false_iff_eq.1 h2
    refine fnS E0Ok Z7 (c:=X0 f95) [] (.b false) [] func95 (p (sB h2<|sB h2<|sB h2<|sB h2<|sB h2<|sB h2<|sK [] sN)) rfl (by kernel_rfl) (by kernel_rfl) rfl ?_ ?_
    · simp only [Z1X,h0,h1,h2,cond_true,cond_false]
    · rfl
  | false =>
   refine fnS E0Ok Z7 (c:=X0 f95) [] (.b false) [] func95 (q (sB h1<|sB h1<|sB h1<|sB h1<|sB h1<|sB h1<|sB h1<|sB h1<|sB h1<|sB h1<|sB (show false=false from rfl)<|sB (show false=false from rfl)<|sB (show false=false from rfl)<|sB (show false=false from rfl)<|sB (show false=false from rfl)<|sB (show false=false from rfl)<|sK [] sN)) rfl (by kernel_rfl) (by kernel_rfl) rfl ?_ ?_
   · simp only [Z1X,h0,h1,cond_true,cond_false]
   · rfl
 | false =>
  refine fnS E0Ok Z7 (c:=X0 f95) [] (.b false) [] func95 (p (sB h0<|sB h0<|sB h0<|sB h0<|sB h0<|sB h0<|sB h0<|sB h0<|sB (show false=false from rfl)<|sB (show false=false from rfl)<|sB (show false=false from rfl)<|sB (show false=false from rfl)<|sB (show false=false from rfl)<|sB (show false=false from rfl)<|sB (show false=false from rfl)<|sB (show false=false from rfl)<|sB (show false=false from rfl)<|sB (show false=false from rfl)<|sB (show false=false from rfl)<|sB (show false=false from rfl)<|sB (show false=false from rfl)<|sB (show false=false from rfl)<|sB (show false=false from rfl)<|sB (show false=false from rfl)<|sK [] sN)) rfl (by kernel_rfl) (by kernel_rfl) rfl ?_ ?_
  · simp only [Z1X,h0,cond_false]
  · rfl
def Z2R (Yd:Gb):Nat→Int→(Unit) ⊕ (Unit)
  | 0,_ => .inl default
  | k + 1,Y1=>(cond (decide (Y1 < (Yd.Sp.length:Int)))
    (cond (Z1X (Yd.Sp.getD Y1.toNat default) (Yd.Me.Pq.length:Int))
      (Z2R Yd k (Y1 + 1))
      (.inl ()))
    (.inr ()))
def Z7i (Yd:Gb):(Unit) ⊕ (Unit)→Ex × St
  | .inl r=>(.ret,⟨.any :: .any :: .b false :: an 51 [],[]⟩)
  | .inr r=>((.exit 0),⟨.ref (Gb.c Yd) 0 :: .any :: .any :: .any :: .ref (Gb.c Yd) 0 :: .ref (Gb.c Yd) 0 :: .ref (Gb.c Yd) 0 :: .b (Z1D Yd.Me) :: .b (!(Z1D Yd.Me)) :: .b (!(Z1D Yd.Me)) :: .ref (Gb.c Yd) 0 :: .ref (Gb.c Yd) 0 :: .ref (Gb.c Yd) 2 :: .sl (Yd.Sp.map Gs.c) :: .i .i64 (Yd.Sp.length:Int) :: .b (decide ((Yd.Sp.length:Int) > 200)) :: .b (decide ((Yd.Sp.length:Int) > 200)) :: .b (decide ((Yd.Sp.length:Int) > 200)) :: .ref (Gb.c Yd) 0 :: .ref (Gb.c Yd) 0 :: .ref (Gb.c Yd) 5 :: .sl (Yd.We.map (cF .f32)) :: .i .i64 (Yd.We.length:Int) :: .ref (Gb.c Yd) 0 :: .ref (Gb.c Yd) 0 :: .ref (Gb.c Yd) 0 :: .ref (Gb.c Yd) 0 :: .sl (Yd.Me.Pq.map Gv.c) :: .i .i64 (Yd.Me.Pq.length:Int) :: .b ((Yd.We.length:Int) != (Yd.Me.Pq.length:Int)) :: .b ((Yd.We.length:Int) != (Yd.Me.Pq.length:Int)) :: .ref (Gb.c Yd) 0 :: .ref (Gb.c Yd) 0 :: .ref (Gb.c Yd) 2 :: .sl (Yd.Sp.map Gs.c) :: an 19 [],[]⟩)
def Zgf (Yd:Gb) (Y1:Int):St:=⟨.ref (Gb.c Yd) 0 :: .any :: .any :: .any :: .ref (Gb.c Yd) 0 :: .ref (Gb.c Yd) 0 :: .ref (Gb.c Yd) 0 :: .b (Z1D Yd.Me) :: .b (!(Z1D Yd.Me)) :: .b (!(Z1D Yd.Me)) :: .ref (Gb.c Yd) 0 :: .ref (Gb.c Yd) 0 :: .ref (Gb.c Yd) 2 :: .sl (Yd.Sp.map Gs.c) :: .i .i64 (Yd.Sp.length:Int) :: .b (decide ((Yd.Sp.length:Int) > 200)) :: .b (decide ((Yd.Sp.length:Int) > 200)) :: .b (decide ((Yd.Sp.length:Int) > 200)) :: .ref (Gb.c Yd) 0 :: .ref (Gb.c Yd) 0 :: .ref (Gb.c Yd) 5 :: .sl (Yd.We.map (cF .f32)) :: .i .i64 (Yd.We.length:Int) :: .ref (Gb.c Yd) 0 :: .ref (Gb.c Yd) 0 :: .ref (Gb.c Yd) 0 :: .ref (Gb.c Yd) 0 :: .sl (Yd.Me.Pq.map Gv.c) :: .i .i64 (Yd.Me.Pq.length:Int) :: .b ((Yd.We.length:Int) != (Yd.Me.Pq.length:Int)) :: .b ((Yd.We.length:Int) != (Yd.Me.Pq.length:Int)) :: .ref (Gb.c Yd) 0 :: .ref (Gb.c Yd) 0 :: .ref (Gb.c Yd) 2 :: .sl (Yd.Sp.map Gs.c) :: .i .i64 (Yd.Sp.length:Int) :: .i .i64 Y1 :: an 17 [],[]⟩
theorem Zcr (Yd:Gb) (hp0:Yd.Me.Pq.length≤1073741824) (hp1:Yd.Me.Tr.length≤1073741824) (hp2:∀ t∈Yd.Me.Tr,t.length≤1073741824) (hp3:Yd.Sp.length≤1073741824) (hp4:Yd.We.length≤1073741824) (ZiO:((Yd.We.length:Int) != (Yd.Me.Pq.length:Int))=false) (ZiP:(decide ((Yd.Sp.length:Int) > 200))=false) (ZiQ:(Z1D Yd.Me)=true):∀ (k:Nat) (Y1:Int) (Zbx:0≤Y1) (hk:((Yd.Sp.length:Int) - Y1).toNat < k),Lp prog 0 (sub (X0 f50) [1,1,0,1,0,0]) (Zgf Yd Y1) (Z7i Yd (Z2R Yd k Y1)).1 (Z7i Yd (Z2R Yd k Y1)).2:=by
 intro k
 induction k with
 | zero=>intro Y1 Zbx hk;exact absurd hk (Nat.not_lt_zero _)
 | succ k ih =>
  intro Y1 Zbx hk
  cases Yv:(decide (Y1 < (Yd.Sp.length:Int))) with
  | true =>
   have YI:=odt Yv
   have YT:(0:Int)≤Y1:=(by assumption)
   have YV:Y1 < (Yd.Sp.length:Int):=(by assumption)
   have p {a C} (s:Scr a C):=sB Yv<|sK [12,12]<|sG Gs.c Yd.Sp Y1 YT YV<|sZ Gv.c Yd.Me.Pq<|sF (ZfM (Yd.Sp.getD Y1.toNat default) (Yd.Me.Pq.length:Int))<|s
   cases YF:(Z1X (Yd.Sp.getD Y1.toNat default) (Yd.Me.Pq.length:Int)) with
   | true =>
    have YX:(-9223372036854775808:Int)≤(Y1 + 1):=by clear p;exact (by omega)
    have YZ:(Y1 + 1)≤(9223372036854775807:Int):=by clear p;exact (by omega)
    have e:Z2R Yd (k + 1) Y1=(Z2R Yd k (Y1 + 1)):=by simp only [Z2R,Yv,YF,cond_true]
    rw [e]
    exact X8 E0Ok Z7 [] (mR false [0,1,3,33,17]) [] (ih (Y1 + 1) (show 0≤(Y1 + 1) from (by omega)) (by omega)) (p (sB' YF<|sI (Y1 + 1) YX YZ<|sN)) (by kernel_rfl)
   | false =>
    have e:Z2R Yd (k + 1) Y1=(.inl ()):=by simp only [Z2R,Yv,YF,cond_true,cond_false]
    rw [e]
    exact outR (e := .ret) E0Ok Z7 [] (mR false [2,1,51]) [] (p (sB' YF<|sN)) (by kernel_rfl) (by intro h;cases h)
  | false =>
   have YI:=odf Yv
   have e:Z2R Yd (k + 1) Y1=(.inr ()):=by simp only [Z2R,Yv,cond_false]
   rw [e]
   exact outR (e:=(.exit 0)) E0Ok Z7 [] (mR false [0,1,3,31,19]) [] (sB Yv<|sN) (by kernel_rfl) (by intro h;cases h)
def Z4W (Yd:Gb):(Unit) ⊕ (Unit):=(Z2R Yd (((Yd.Sp.length:Int) - 0).toNat + 1) 0)
def Zt (Yd:Gb):Bool:=(cond (Z1D Yd.Me)
  (cond (decide ((Yd.Sp.length:Int) > 200))
    false
    (cond ((Yd.We.length:Int) != (Yd.Me.Pq.length:Int))
      false
      (match (Z4W Yd) with
        | .inl r4=>false
        | .inr r4=>true)))
  false)
theorem Zhv (Yd:Gb) (hp0:Yd.Me.Pq.length≤1073741824) (hp1:Yd.Me.Tr.length≤1073741824) (hp2:∀ t∈Yd.Me.Tr,t.length≤1073741824) (hp3:Yd.Sp.length≤1073741824) (hp4:Yd.We.length≤1073741824)  : Fn prog 50 [.ref (Gb.c Yd) 0] (.b (Zt Yd)) []:=by
 have p {a C} (s:Scr a C):=sK [25,25]<|sF (Fn.sub (args:=[.ref (Gb.c Yd) 0]) (r := .b (Z1D Yd.Me)) (new:=[]) [some 2] (Zhu Yd.Me hp0 hp1 hp2))<|s
 cases h0:(Z1D Yd.Me) with
 | true =>
  have q {a C} (s:Scr a C):=p (sB' h0<|sB' h0<|sB' h0<|sB' h0<|sB' h0<|sZ Gs.c Yd.Sp<|sB' h0<|sB' h0<|s)
  clear p
  cases h1:(decide ((Yd.Sp.length:Int) > 200)) with
  | true =>
   have gh1:=odt h1
   refine fnS E0Ok Z7 (c:=X0 f50) [] (.b false) [] func50 (q (sB h1<|sB h1<|sB h1<|sB h1<|sB h1<|sB h1<|sB h1<|sB h1<|sB h1<|sB h1<|sB h1<|sB h1<|sB h1<|sB (show true=true from rfl)<|sK [] sN)) rfl (by kernel_rfl) (by kernel_rfl) rfl ?_ ?_
   · simp only [Zt,h0,h1,cond_true]
   · rfl
  | false =>
   have gh1:=odf h1
   have p {a C} (s:Scr a C):=q (sB h1<|sB h1<|sB h1<|sB h1<|sB h1<|sZ (cF .f32) Yd.We<|sB h1<|sB h1<|sB h1<|sB h1<|sB h1<|sB h1<|sZ Gv.c Yd.Me.Pq<|sB h1<|sB h1<|s)
   clear q
   cases h2:((Yd.We.length:Int) != (Yd.Me.Pq.length:Int)) with
   | true =>
    have gh2:=bne_iff_ne.1 h2
    refine fnS E0Ok Z7 (c:=X0 f50) [] (.b false) [] func50 (p (sB h2<|sK [] sN)) rfl (by kernel_rfl) (by kernel_rfl) rfl ?_ ?_
    · simp only [Zt,h0,h1,h2,cond_true,cond_false]
    · rfl
   | false =>
    have gh2:=bne_eq_false_iff_eq.1 h2
    have q {a C} (s:Scr a C):=p (sB h2<|sZ Gs.c Yd.Sp<|s)
    clear p
    cases h3:(Z4W Yd) with
    | inl r4 =>
     refine fnS E0Ok Z7 (c:=X0 f50) [] (.b false) [] func50 (q (sL (mR false [0,1,3,33,17]) 0 (X1 (Z7i Yd) (x:=(Z4W Yd)) (Zcr Yd hp0 hp1 hp2 hp3 hp4 h2 h1 h0 (((Yd.Sp.length:Int) - 0).toNat + 1) 0 (show 0≤0 from (by omega)) (Nat.lt_succ_self _)) h3)<|sK [] sN)) rfl (by kernel_rfl) (by kernel_rfl) rfl ?_ ?_
     · simp only [Zt,h0,h1,h2,h3,cond_true,cond_false]
     · rfl
    | inr r4 =>
     refine fnS E0Ok Z7 (c:=X0 f50) [] (.b true) [] func50 (q (sL (mR false [0,1,3,33,17]) 0 (X1 (Z7i Yd) (x:=(Z4W Yd)) (Zcr Yd hp0 hp1 hp2 hp3 hp4 h2 h1 h0 (((Yd.Sp.length:Int) - 0).toNat + 1) 0 (show 0≤0 from (by omega)) (Nat.lt_succ_self _)) h3)<|sK [] sN)) rfl (by kernel_rfl) (by kernel_rfl) rfl ?_ ?_
     · simp only [Zt,h0,h1,h2,h3,cond_true,cond_false]
     · rfl
 | false =>
  refine fnS E0Ok Z7 (c:=X0 f50) [] (.b false) [] func50 (p (sB' h0<|sB' h0<|sB' h0<|sB' h0<|sB' h0<|sB' h0<|sB' h0<|sB (show true=true from rfl)<|sB (show true=true from rfl)<|sB (show true=true from rfl)<|sB (show true=true from rfl)<|sB (show true=true from rfl)<|sB (show true=true from rfl)<|sB (show true=true from rfl)<|sB (show true=true from rfl)<|sB (show true=true from rfl)<|sB (show true=true from rfl)<|sB (show true=true from rfl)<|sB (show true=true from rfl)<|sB (show true=true from rfl)<|sB (show true=true from rfl)<|sK [] sN)) rfl (by kernel_rfl) (by kernel_rfl) rfl ?_ ?_
  · simp only [Zt,h0,cond_false]
  · rfl
theorem ZfN (b:Gb) (h:Zt b=true):Z1D b.Me=true∧(b.We.length:Int)=(b.Me.Pq.length:Int)∧(b.Sp.all fun s=>Z1X s (b.Me.Pq.length:Int))=true:=by
  unfold Zt Z4W at h
  rw [XO (a:=b.Sp) (p:=fun s=>Z1X s (b.Me.Pq.length:Int)) (lo:=Z2R b) (x:=()) (y:=()) (fun k i=>rfl)] at h
  cases h1:Z1D b.Me<;>rw [h1] at h<;>(try (cases h;done))
  cases h2:decide ((b.Sp.length:Int) > 200)<;>rw [h2] at h<;>(try (cases h;done))
  cases h3:((b.We.length:Int) != (b.Me.Pq.length:Int))<;>rw [h3] at h<;>(try (cases h;done))
  cases h4:(b.Sp.all fun s=>Z1X s (b.Me.Pq.length:Int))<;>rw [h4] at h<;>(try (cases h;done))
  simp only [bne_eq_false_iff_eq] at h3
  exact ⟨rfl,h3,rfl⟩
theorem Zit (s:Gs) {n:Nat} (hn:n≤9223372036854775807) (h:Z1X s (n:Int)=true):(0≤s.A∧s.A < (n:Int))∧(0≤s.B∧s.B < (n:Int)):=by
  unfold Z1X at h
  cases h1:Zl s.A 0 (IntKind.wrap .i64 ((n:Int) - 1))<;>rw [h1] at h<;>(try (cases h;done))
  cases h2:Zl s.B 0 (IntKind.wrap .i64 ((n:Int) - 1))<;>rw [h2] at h<;>(try (cases h;done))
  exact ⟨Zib hn h1,Zib hn h2⟩
theorem Zj7 (b:Gb) (h:Zt b=true):OkIx b.Me.Pq.length Gs.A b.Sp:=by
  obtain ⟨h1,_,h3⟩:=ZfN b h
  have hn:b.Me.Pq.length≤64:=by
    rw [ZaG] at h1
    cases h2:decide ((b.Me.Pq.length:Int) > 64)<;>rw [h2] at h1<;>(try (cases h1;done))
    simp only [decide_eq_false_iff_not] at h2
    omega
  rw [List.all_eq_true] at h3
  exact fun s hs=>(Zit s (by omega) (h3 s hs)).1
theorem Zj8 (b:Gb) (h:Zt b=true):OkIx b.Me.Pq.length Gs.B b.Sp:=by
  obtain ⟨h1,_,h3⟩:=ZfN b h
  have hn:b.Me.Pq.length≤64:=by
    rw [ZaG] at h1
    cases h2:decide ((b.Me.Pq.length:Int) > 64)<;>rw [h2] at h1<;>(try (cases h1;done))
    simp only [decide_eq_false_iff_not] at h2
    omega
  rw [List.all_eq_true] at h3
  exact fun s hs=>(Zit s (by omega) (h3 s hs)).2
structure OkBd (b:Gb):Prop where
  e:OkE b.Me.Pq.length b.Me.Tr
  w:b.We.length=b.Me.Pq.length
  a:OkIx b.Me.Pq.length Gs.A b.Sp
  b:OkIx b.Me.Pq.length Gs.B b.Sp
theorem Z6a (b:Gb) (h:Zt b=true):OkBd b:=by
  obtain ⟨h1,h2,h3⟩:=ZfN b h
  exact ⟨Zj6 _ h1,by omega,Zj7 b h,Zj8 b h⟩
theorem Z3O {b:Gb} (h:OkBd b) {i:Int} (h0:0≤i) (hi:decide (i < (b.Sp.length:Int))=true):(0≤(b.Sp.getD i.toNat default).A∧(b.Sp.getD i.toNat default).A < (b.Me.Pq.length:Int))∧(0≤(b.Sp.getD i.toNat default).B∧(b.Sp.getD i.toNat default).B < (b.Me.Pq.length:Int)) :=
  ⟨OkIx.at h.a h0 (odt hi),OkIx.at h.b h0 (odt hi)⟩
def ZR (YB:(List Int)) (Y10:Int) (YQ:Int):Nat→Int→(Unit) ⊕ (Unit)
  | 0,_ => .inl default
  | k + 1,Yk=>(cond (decide (Yk < (YB.length:Int)))
    (cond (Zl (YB.getD Yk.toNat default) Y10 YQ)
      (cond (decide (Yk > 0))
        (cond (decide ((YB.getD (Yk - 1).toNat default) ≥ (YB.getD Yk.toNat default)))
          (.inl ())
          (ZR YB Y10 YQ k (Yk + 1)))
        (ZR YB Y10 YQ k (Yk + 1)))
      (.inl ()))
    (.inr ()))
def Z5V (YB:(List Int)) (Y10:Int) (YQ:Int):(Unit) ⊕ (Unit)→Ex × St
  | .inl r=>(.ret,⟨an 6 (.b false :: an 31 []),[]⟩)
  | .inr r=>((.exit 0),⟨an 38 [],[]⟩)
def Zep (YB:(List Int)) (Y10:Int) (YQ:Int) (Yk:Int):St:=⟨.sl (YB.map (cI .i64)) :: .i .i64 Y10 :: .i .i64 YQ :: an 4 (.i .i64 Yk :: an 30 []),[]⟩
theorem ZaM (YB:(List Int)) (Y10:Int) (YQ:Int) (hp0:YB.length≤1073741824):∀ (k:Nat) (Yk:Int) (Z9g:0≤Yk) (hk:((YB.length:Int) - Yk).toNat < k),Lp prog 0 (sub (X0 f120) [1,0,1,0,0]) (Zep YB Y10 YQ Yk) (Z5V YB Y10 YQ (ZR YB Y10 YQ k Yk)).1 (Z5V YB Y10 YQ (ZR YB Y10 YQ k Yk)).2:=by
 intro k
 induction k with
 | zero=>intro Yk Z9g hk;exact absurd hk (Nat.not_lt_zero _)
 | succ k ih =>
  intro Yk Z9g hk
  have p {a C} (s:Scr a C):=sZ (cI .i64) YB<|s
  cases Yv:(decide (Yk < (YB.length:Int))) with
  | true =>
   have YI:=odt Yv
   have YT:(0:Int)≤Yk:=by clear p;exact (by assumption)
   have YV:Yk < (YB.length:Int):=by clear p;exact (by assumption)
   have q {a C} (s:Scr a C):=p (sB Yv<|sK [21,21]<|sG (cI .i64) YB Yk YT YV<|sF (Z5E (YB.getD Yk.toNat default) Y10 YQ)<|s)
   clear p
   cases YF:(Zl (YB.getD Yk.toNat default) Y10 YQ) with
   | true =>
    have p {a C} (s:Scr a C):=q (sB' YF<|sB' YF<|sB' YF<|s)
    clear q
    cases h_2:(decide (Yk > 0)) with
    | true =>
     have Y1A:=odt h_2
     have YX:(-9223372036854775808:Int)≤(Yk - 1):=by clear p;exact (by omega)
     have YZ:(Yk - 1)≤(9223372036854775807:Int):=by clear p;exact (by omega)
     have y_4:(0:Int)≤(Yk - 1):=by clear p;exact (by omega)
     have y_5:(Yk - 1) < (YB.length:Int):=by clear p;exact (by omega)
     have q {a C} (s:Scr a C):=p (sB h_2<|sB h_2<|sB h_2<|sI (Yk - 1) YX YZ<|sB h_2<|sG (cI .i64) YB (Yk - 1) y_4 y_5<|sB h_2<|sB h_2<|sB h_2<|sB h_2<|sG (cI .i64) YB Yk YT YV<|sB h_2<|sB h_2<|sB' YF<|sB h_2<|sB' YF<|s)
     clear p
     cases h_3:(decide ((YB.getD (Yk - 1).toNat default) ≥ (YB.getD Yk.toNat default))) with
     | true =>
      have Y1N:=odt h_3
      have e:ZR YB Y10 YQ (k + 1) Yk=(.inl ()):=by simp only [ZR,Yv,YF,h_2,h_3,cond_true]
      rw [e]
      exact outR (e := .ret) E0Ok Z7 [] (mR false [6,1,31]) [] (q (sB h_3<|sN)) (by kernel_rfl) (by intro h;cases h)
     | false =>
      have Y1N:=odf h_3
      have y_6:(-9223372036854775808:Int)≤(Yk + 1):=by clear q;exact (by omega)
      have y_7:(Yk + 1)≤(9223372036854775807:Int):=by clear q;exact (by omega)
      have e:ZR YB Y10 YQ (k + 1) Yk=(ZR YB Y10 YQ k (Yk + 1)):=by simp only [ZR,Yv,YF,h_2,h_3,cond_true,cond_false]
      rw [e]
      exact X8 E0Ok Z7 [] (mR false [0,3,4,1,30]) [] (ih (Yk + 1) (show 0≤(Yk + 1) from (by omega)) (by omega)) (q (sB h_3<|sI (Yk + 1) y_6 y_7<|sN)) (by kernel_rfl)
    | false =>
     have Y1A:=odf h_2
     have YX:(-9223372036854775808:Int)≤(Yk + 1):=by clear p;exact (by omega)
     have YZ:(Yk + 1)≤(9223372036854775807:Int):=by clear p;exact (by omega)
     have e:ZR YB Y10 YQ (k + 1) Yk=(ZR YB Y10 YQ k (Yk + 1)):=by simp only [ZR,Yv,YF,h_2,cond_true,cond_false]
     rw [e]
     exact X8 E0Ok Z7 [] (mR false [0,3,4,1,30]) [] (ih (Yk + 1) (show 0≤(Yk + 1) from (by omega)) (by omega)) (p (sB h_2<|sB h_2<|sB h_2<|sB h_2<|sB h_2<|sB h_2<|sB h_2<|sB h_2<|sB h_2<|sB h_2<|sB' YF<|sB h_2<|sB' YF<|sB (show false=false from rfl)<|sI (Yk + 1) YX YZ<|sN)) (by kernel_rfl)
   | false =>
    have e:ZR YB Y10 YQ (k + 1) Yk=(.inl ()):=by simp only [ZR,Yv,YF,cond_true,cond_false]
    rw [e]
    exact outR (e := .ret) E0Ok Z7 [] (mR false [6,1,31]) [] (q (sB' YF<|sB' YF<|sB' YF<|sB' YF<|sB' YF<|sB (show true=true from rfl)<|sN)) (by kernel_rfl) (by intro h;cases h)
  | false =>
   have YI:=odf Yv
   have e:ZR YB Y10 YQ (k + 1) Yk=(.inr ()):=by simp only [ZR,Yv,cond_false]
   rw [e]
   exact outR (e:=(.exit 0)) E0Ok Z7 [] (mR false [38]) [] (p (sB Yv<|sN)) (by kernel_rfl) (by intro h;cases h)
end Go.Ab
