/- The functions of this seat as plain Lean, and that the program's are these. Printed by a program of the prover's own. -/
import Derived.Test.YtiddhiepmakopaaB0
set_option linter.unusedVariables false
set_option linter.unusedSimpArgs false
set_option maxRecDepth 100000
namespace Go.Ab
open Go.RowKit Go.Proofs.Try
def ZE (Y1:(List Gv)) (Yd:Int):Int:=(cond (decide ((IntKind.wrap .i64 (Yd - (Y1.length:Int))) < 0))
  (-1)
  (IntKind.wrap .i64 (Yd - (Y1.length:Int))))
theorem Z6A (Y1:(List Gv)) (Yd:Int) (hp0:Y1.length≤9223372036854775807)  : Fn prog 38 [.sl (Y1.map Gv.c), .i .i64 Yd] (.i .i64 (ZE Y1 Yd)) []:=by
 have p {a C} (s:Scr a C):=sZ Gv.c Y1<|sW .i64 (Yd - (Y1.length:Int))<|s
 cases h0:(decide ((IntKind.wrap .i64 (Yd - (Y1.length:Int))) < 0)) with
 | true =>
  have gh0:=odt h0
  refine fnS E0Ok Z1 (c:=X0 f38) [] (.i .i64 (-1)) [] func38 (p (sB h0<|sK [] sN)) rfl (by kernel_rfl) (by kernel_rfl) rfl ?_ ?_
  · simp only [ZE,h0,cond_true]
  · rfl
 | false =>
  have gh0:=odf h0
  refine fnS E0Ok Z1 (c:=X0 f38) [] (.i .i64 (IntKind.wrap .i64 (Yd - (Y1.length:Int)))) [] func38 (p (sB h0<|sK [] sN)) rfl (by kernel_rfl) (by kernel_rfl) rfl ?_ ?_
  · simp only [ZE,h0,cond_false]
  · rfl
theorem Z6i (a:List Gv) (left:Int) (h0:a.length≤9223372036854775807) (h1:-1≤left) (h2:left≤1048576):-1≤ZE a left∧ZE a left≤left∧(ZE a left < 0∨(a.length:Int)≤left):=by
  unfold ZE
  rw [X2P (by omega) (by omega)]
  by_cases h:left - (a.length:Int) < 0
  · simp [h];omega
  · simp [h];omega
def Z11 (Y1:(List Int)) (Yd:Int):Int:=(cond (decide ((IntKind.wrap .i64 (Yd - (Y1.length:Int))) < 0))
  (-1)
  (IntKind.wrap .i64 (Yd - (Y1.length:Int))))
theorem Z6Y (Y1:(List Int)) (Yd:Int) (hp0:Y1.length≤9223372036854775807)  : Fn prog 90 [.sl (Y1.map (cI .i64)), .i .i64 Yd] (.i .i64 (Z11 Y1 Yd)) []:=by
 have p {a C} (s:Scr a C):=sZ (cI .i64) Y1<|sW .i64 (Yd - (Y1.length:Int))<|s
 cases h0:(decide ((IntKind.wrap .i64 (Yd - (Y1.length:Int))) < 0)) with
 | true =>
  have gh0:=odt h0
  refine fnS E0Ok Z1 (c:=X0 f90) [] (.i .i64 (-1)) [] func90 (p (sB h0<|sK [] sN)) rfl (by kernel_rfl) (by kernel_rfl) rfl ?_ ?_
  · simp only [Z11,h0,cond_true]
  · rfl
 | false =>
  have gh0:=odf h0
  refine fnS E0Ok Z1 (c:=X0 f90) [] (.i .i64 (IntKind.wrap .i64 (Yd - (Y1.length:Int)))) [] func90 (p (sB h0<|sK [] sN)) rfl (by kernel_rfl) (by kernel_rfl) rfl ?_ ?_
  · simp only [Z11,h0,cond_false]
  · rfl
theorem Z6B (a:List Int) (left:Int) (h0:a.length≤9223372036854775807) (h1:-1≤left) (h2:left≤1048576):-1≤Z11 a left∧Z11 a left≤left∧(Z11 a left < 0∨(a.length:Int)≤left):=by
  unfold Z11
  rw [X2P (by omega) (by omega)]
  by_cases h:left - (a.length:Int) < 0
  · simp [h];omega
  · simp [h];omega
def ZI (Y1:(List (List Int))) (Yd:Int):Nat→Int→Int→(Unit) ⊕ (Int)
  | 0,_,_ => .inl default
  | k + 1,Yu,Y3=>(cond (decide (Y3 < (Y1.length:Int)))
    (cond (decide ((Z11 (Y1.getD Y3.toNat default) Yu) < 0))
      (.inl ())
      (ZI Y1 Yd k (Z11 (Y1.getD Y3.toNat default) Yu) (Y3 + 1)))
    (.inr Yu))
def Z2i (Y1:(List (List Int))) (Yd:Int):(Unit) ⊕ (Int)→Ex × St
  | .inl r=>(.ret,⟨an 4 (.i .i64 (-1) :: an 22 []),[]⟩)
  | .inr r=>((.exit 0),⟨.sl (Y1.map (cL (cI .i64))) :: .i .i64 r :: an 4 (.i .i64 Yd :: .sl (Y1.map (cL (cI .i64))) :: .i .i64 (Y1.length:Int) :: .i .i64 (IntKind.wrap .i64 (Yd - (Y1.length:Int))) :: .i .i64 (IntKind.wrap .i64 (Yd - (Y1.length:Int))) :: .b (decide ((IntKind.wrap .i64 (Yd - (Y1.length:Int))) < 0)) :: an 15 []),[]⟩)
def Z5T (Y1:(List (List Int))) (Yd:Int) (Yu:Int) (Y3:Int):St:=⟨.sl (Y1.map (cL (cI .i64))) :: .i .i64 Yu :: .any :: .any :: .any :: .i .i64 Y3 :: .i .i64 Yd :: .sl (Y1.map (cL (cI .i64))) :: .i .i64 (Y1.length:Int) :: .i .i64 (IntKind.wrap .i64 (Yd - (Y1.length:Int))) :: .i .i64 (IntKind.wrap .i64 (Yd - (Y1.length:Int))) :: .b (decide ((IntKind.wrap .i64 (Yd - (Y1.length:Int))) < 0)) :: an 15 [],[]⟩
theorem Z4i (Y1:(List (List Int))) (Yd:Int) (hp0:Y1.length≤9223372036854775807) (hp1:∀ t∈Y1,t.length≤9223372036854775807) (Z7Y:(decide ((IntKind.wrap .i64 (Yd - (Y1.length:Int))) < 0))=false):∀ (k:Nat) (Yu:Int) (Y3:Int) (Z40:0≤Y3) (hk:((Y1.length:Int) - Y3).toNat < k),Lp prog 0 (sub (X0 f39) [1,1,1,0,1,0,0]) (Z5T Y1 Yd Yu Y3) (Z2i Y1 Yd (ZI Y1 Yd k Yu Y3)).1 (Z2i Y1 Yd (ZI Y1 Yd k Yu Y3)).2:=by
 intro k
 induction k with
 | zero=>intro Yu Y3 Z40 hk;exact absurd hk (Nat.not_lt_zero _)
 | succ k ih =>
  intro Yu Y3 Z40 hk
  have p {a C} (s:Scr a C):=sZ (cL (cI .i64)) Y1<|s
  cases Ye:(decide (Y3 < (Y1.length:Int))) with
  | true =>
   have Yt:=odt Ye
   have Y9:(0:Int)≤Y3:=by clear p;exact (by assumption)
   have Yz:Y3 < (Y1.length:Int):=by clear p;exact (by assumption)
   have YA:(Y1.getD Y3.toNat default).length≤9223372036854775807:=by clear p;exact (by simp_all<;>omega)
   have q {a C} (s:Scr a C):=p (sB Ye<|sG (cL (cI .i64)) Y1 Y3 Y9 Yz<|sF (Z6Y (Y1.getD Y3.toNat default) Yu YA)<|s)
   clear p
   cases Yw:(decide ((Z11 (Y1.getD Y3.toNat default) Yu) < 0)) with
   | true =>
    have YN:=odt Yw
    have e:ZI Y1 Yd (k + 1) Yu Y3=(.inl ()):=by simp only [ZI,Ye,Yw,cond_true]
    rw [e]
    exact outR (e := .ret) E0Ok Z1 [] (mR false [4,1,22]) [] (q (sB Yw<|sN)) (by kernel_rfl) (by intro h;cases h)
   | false =>
    have YN:=odf Yw
    have YD:(-9223372036854775808:Int)≤(Y3 + 1):=by clear q;exact (by omega)
    have YG:(Y3 + 1)≤(9223372036854775807:Int):=by clear q;exact (by omega)
    have e:ZI Y1 Yd (k + 1) Yu Y3=(ZI Y1 Yd k (Z11 (Y1.getD Y3.toNat default) Yu) (Y3 + 1)):=by simp only [ZI,Ye,Yw,cond_true,cond_false]
    rw [e]
    exact Xo E0Ok Z1 [] (mR false [0,2,3,7,15]) [] (ih (Z11 (Y1.getD Y3.toNat default) Yu) (Y3 + 1) (show 0≤(Y3 + 1) from (by omega)) (by omega)) (q (sB Yw<|sI (Y3 + 1) YD YG<|sN)) (by kernel_rfl)
  | false =>
   have Yt:=odf Ye
   have e:ZI Y1 Yd (k + 1) Yu Y3=(.inr Yu):=by simp only [ZI,Ye,cond_false]
   rw [e]
   exact outR (e:=(.exit 0)) E0Ok Z1 [] (mR false [0,2,4,6,15]) [] (p (sB Ye<|sN)) (by kernel_rfl) (by intro h;cases h)
def Z1S (Y1:(List (List Int))) (Yd:Int):(Unit) ⊕ (Int):=(ZI Y1 Yd (((Y1.length:Int) - 0).toNat + 1) (IntKind.wrap .i64 (Yd - (Y1.length:Int))) 0)
def Z13 (Y1:(List (List Int))) (Yd:Int):Int:=(cond (decide ((IntKind.wrap .i64 (Yd - (Y1.length:Int))) < 0))
  (-1)
  (match (Z1S Y1 Yd) with
    | .inl r2=>(-1)
    | .inr r2=>r2))
theorem Z6C (Y1:(List (List Int))) (Yd:Int) (hp0:Y1.length≤9223372036854775807) (hp1:∀ t∈Y1,t.length≤9223372036854775807)  : Fn prog 39 [.sl (Y1.map (cL (cI .i64))), .i .i64 Yd] (.i .i64 (Z13 Y1 Yd)) []:=by
 have p {a C} (s:Scr a C):=sZ (cL (cI .i64)) Y1<|sW .i64 (Yd - (Y1.length:Int))<|s
 cases h0:(decide ((IntKind.wrap .i64 (Yd - (Y1.length:Int))) < 0)) with
 | true =>
  have gh0:=odt h0
  refine fnS E0Ok Z1 (c:=X0 f39) [] (.i .i64 (-1)) [] func39 (p (sB h0<|sK [] sN)) rfl (by kernel_rfl) (by kernel_rfl) rfl ?_ ?_
  · simp only [Z13,h0,cond_true]
  · rfl
 | false =>
  have gh0:=odf h0
  have q {a C} (s:Scr a C):=p (sB h0<|s)
  clear p
  cases h1:(Z1S Y1 Yd) with
  | inl r2 =>
   refine fnS E0Ok Z1 (c:=X0 f39) [] (.i .i64 (-1)) [] func39 (q (sL (mR false [0,2,3,7,15]) 0 (X4 (Z2i Y1 Yd) (x:=(Z1S Y1 Yd)) (Z4i Y1 Yd hp0 hp1 h0 (((Y1.length:Int) - 0).toNat + 1) (IntKind.wrap .i64 (Yd - (Y1.length:Int))) 0 (show 0≤0 from (by omega)) (Nat.lt_succ_self _)) h1)<|sK [] sN)) rfl (by kernel_rfl) (by kernel_rfl) rfl ?_ ?_
   · simp only [Z13,h0,h1,cond_false]
   · rfl
  | inr r2 =>
   refine fnS E0Ok Z1 (c:=X0 f39) [] (.i .i64 r2) [] func39 (q (sL (mR false [0,2,3,7,15]) 0 (X4 (Z2i Y1 Yd) (x:=(Z1S Y1 Yd)) (Z4i Y1 Yd hp0 hp1 h0 (((Y1.length:Int) - 0).toNat + 1) (IntKind.wrap .i64 (Yd - (Y1.length:Int))) 0 (show 0≤0 from (by omega)) (Nat.lt_succ_self _)) h1)<|sK [] sN)) rfl (by kernel_rfl) (by kernel_rfl) rfl ?_ ?_
   · simp only [Z13,h0,h1,cond_false]
   · rfl
theorem Z7I (a:List (List Int)) (left:Int) (hb:∀ t∈a,t.length≤9223372036854775807):∀ (k:Nat) (l i:Int),0≤i→((a.length:Int) - i).toNat < k→-1≤l→l≤1048576 →
    ZI a left k l i = .inl ()∨∃ r,ZI a left k l i = .inr r∧-1≤r∧r≤l∧∀ j,i.toNat≤j→j < a.length→((a.getD j default).length:Int)≤l:=by
  intro k
  induction k with
  | zero=>intro l i h0 hk;exact absurd hk (Nat.not_lt_zero _)
  | succ k ih =>
    intro l i h0 hk h1 h2
    rw [ZI]
    by_cases hi:i < (a.length:Int)
    · have hn:i.toNat < a.length:=by omega
      rw [decide_eq_true hi,cond_true]
      have hm:(a.getD i.toNat default)∈a:=by rw [List.getD_eq_getElem?_getD,List.getElem?_eq_getElem hn];exact List.getElem_mem hn
      obtain ⟨q1,q2,q3⟩:=Z6B (a.getD i.toNat default) l (hb _ hm) h1 h2
      cases hc:decide (Z11 (a.getD i.toNat default) l < 0) with
      | true=>left;rfl
      | false =>
        simp only [decide_eq_false_iff_not] at hc
        rw [cond_false]
        rcases ih (Z11 (a.getD i.toNat default) l) (i + 1) (by omega) (by omega) q1 (by omega) with e | ⟨r,e,r1,r2,r3⟩
        · left;exact e
        · right
          refine ⟨r,e,r1,by omega,fun j hj hjl => ?_⟩
          by_cases hji:j=i.toNat
          · subst hji;omega
          · have:=r3 j (by omega) hjl;omega
    · rw [decide_eq_false hi,cond_false]
      exact .inr ⟨l,rfl,h1,Int.le_refl _,fun j hj hjl=>by omega⟩
theorem Z6j (a:List (List Int)) (left:Int) (h0:a.length≤9223372036854775807) (hb:∀ t∈a,t.length≤9223372036854775807) (h1:-1≤left) (h2:left≤1048576) :
    -1≤Z13 a left∧Z13 a left≤left∧(Z13 a left < 0∨((a.length:Int)≤left∧∀ t∈a,(t.length:Int)≤left)):=by
  unfold Z13 Z1S
  rw [X2P (by omega) (by omega)]
  cases h:decide (left - (a.length:Int) < 0) with
  | true=>simp only [decide_eq_true_eq] at h;rw [cond_true];omega
  | false =>
    simp only [decide_eq_false_iff_not] at h
    rw [cond_false]
    rcases Z7I a left hb _ (left - (a.length:Int)) 0 (Int.le_refl _) (Nat.lt_succ_self _) (by omega) (by omega) with e | ⟨r,e,r1,r2,r3⟩
    · rw [e];simp only;omega
    · rw [e];simp only
      refine ⟨r1,by omega, .inr ⟨by omega,fun t ht => ?_⟩⟩
      obtain ⟨j,hj,rfl⟩:=List.getElem_of_mem ht
      have:=r3 j (by simp) hj
      rw [List.getD_eq_getElem?_getD,List.getElem?_eq_getElem hj,Option.getD_some] at this
      omega
def Z14 (Y1:Gm) (Yd:Int):Int:=(cond (decide ((ZE Y1.Pq Yd) < 0))
  (-1)
  (cond (decide ((Z13 Y1.Tr (ZE Y1.Pq Yd)) < 0))
    (-1)
    (Z13 Y1.Tr (ZE Y1.Pq Yd))))
theorem Z7v (Y1:Gm) (Yd:Int) (hp0:Y1.Pq.length≤9223372036854775807) (hp1:Y1.Tr.length≤9223372036854775807) (hp2:∀ t∈Y1.Tr,t.length≤9223372036854775807)  : Fn prog 12 [.agg [.sl (Y1.Pq.map Gv.c), .sl (Y1.Tr.map (cL (cI .i64)))], .i .i64 Yd] (.i .i64 (Z14 Y1 Yd)) []:=by
 have p {a C} (s:Scr a C):=sF (Z6A Y1.Pq Yd hp0)<|s
 cases h0:(decide ((ZE Y1.Pq Yd) < 0)) with
 | true =>
  have gh0:=odt h0
  refine fnS E0Ok Z1 (c:=X0 f12) [] (.i .i64 (-1)) [] func12 (p (sB h0<|sK [] sN)) rfl (by kernel_rfl) (by kernel_rfl) rfl ?_ ?_
  · simp only [Z14,h0,cond_true]
  · rfl
 | false =>
  have gh0:=odf h0
  have q {a C} (s:Scr a C):=p (sB h0<|sF (Z6C Y1.Tr (ZE Y1.Pq Yd) hp1 hp2)<|s)
  clear p
  cases h1:(decide ((Z13 Y1.Tr (ZE Y1.Pq Yd)) < 0)) with
  | true =>
   have gh1:=odt h1
   refine fnS E0Ok Z1 (c:=X0 f12) [] (.i .i64 (-1)) [] func12 (q (sB h1<|sK [] sN)) rfl (by kernel_rfl) (by kernel_rfl) rfl ?_ ?_
   · simp only [Z14,h0,h1,cond_true,cond_false]
   · rfl
  | false =>
   have gh1:=odf h1
   refine fnS E0Ok Z1 (c:=X0 f12) [] (.i .i64 (Z13 Y1.Tr (ZE Y1.Pq Yd))) [] func12 (q (sB h1<|sK [] sN)) rfl (by kernel_rfl) (by kernel_rfl) rfl ?_ ?_
   · simp only [Z14,h0,h1,cond_false]
   · rfl
theorem Z5m (a:Gm) (left:Int) (h0:a.Pq.length≤9223372036854775807) (h3:a.Tr.length≤9223372036854775807) (hb:∀ t∈a.Tr,t.length≤9223372036854775807) (h1:-1≤left) (h2:left≤1048576) :
    -1≤Z14 a left∧Z14 a left≤left∧(Z14 a left < 0∨(a.Pq.length:Int)≤left)∧(Z14 a left < 0∨(a.Tr.length:Int)≤left)∧∀ t∈a.Tr,Z14 a left < 0∨(t.length:Int)≤left:=by
  have key:-1≤Z14 a left∧Z14 a left≤left∧(Z14 a left < 0∨((a.Pq.length:Int)≤left∧(a.Tr.length:Int)≤left∧∀ t∈a.Tr,(t.length:Int)≤left)):=by
    unfold Z14
    obtain ⟨p1,p2,p3⟩:=Z6i a.Pq left h0 h1 h2
    cases h:decide (ZE a.Pq left < 0) with
    | true=>simp only [decide_eq_true_eq] at h;rw [cond_true];refine ⟨by omega,by omega, .inl (by omega)⟩
    | false =>
      simp only [decide_eq_false_iff_not] at h
      rw [cond_false]
      obtain ⟨q1,q2,q3⟩:=Z6j a.Tr (ZE a.Pq left) h3 hb p1 (by omega)
      cases h':decide (Z13 a.Tr (ZE a.Pq left) < 0) with
      | true=>rw [cond_true];exact ⟨by omega,by omega, .inl (by omega)⟩
      | false =>
        simp only [decide_eq_false_iff_not] at h'
        rw [cond_false]
        rcases q3 with q | ⟨qa,qb⟩
        · omega
        · exact ⟨q1,by omega, .inr ⟨by omega,by omega,fun t ht=>by have:=qb t ht;omega⟩⟩
  obtain ⟨k1,k2,k3⟩:=key
  rcases k3 with k3 | ⟨ka,kb,kc⟩
  · exact ⟨k1,k2, .inl k3, .inl k3,fun t ht => .inl k3⟩
  · exact ⟨k1,k2, .inr ka, .inr kb,fun t ht => .inr (kc t ht)⟩
def Z34 (Y1:Gv):Gv:=Y1
theorem Z6Z (Y1:Gv)   : Fn prog 97 [.agg [.f .f32 Y1.X, .f .f32 Y1.Y, .f .f32 Y1.Z]] (.agg [.f .f32 ((Z34 Y1).X), .f .f32 ((Z34 Y1).Y), .f .f32 ((Z34 Y1).Z)]) []:=by
 refine fnS E0Ok Z1 (c:=X0 f97) [] (.agg [.f .f32 Y1.X, .f .f32 Y1.Y, .f .f32 Y1.Z]) [] func97 (sK [] sN) rfl (by kernel_rfl) (by kernel_rfl) rfl ?_ ?_
 · rfl
 · rfl
@[simp] theorem Z6D (a:Gv):Z34 a=a:=rfl
theorem Z70 (Y1:Gv)  : Fn prog 97 [.agg [.f .f32 Y1.X, .f .f32 Y1.Y, .f .f32 Y1.Z]] (.agg [.f .f32 Y1.X, .f .f32 Y1.Y, .f .f32 Y1.Z]) []:=by
 simpa only [Z6D] using Z6Z  Y1 
def Z1b (Y1:(List Gv)):Nat→Int→(List Gv)→(List Gv)
  | 0,_,_=>default
  | k + 1,Y2,Yi=>(cond (decide (Y2 < (Y1.length:Int)))
    (Z1b Y1 k (Y2 + 1) (Yi.set Y2.toNat (Y1.getD Y2.toNat default)))
    Yi)
def Z2X (Y1:(List Gv)) (r:(List Gv)):Ex × St:=((.exit 0),⟨.sl (Y1.map Gv.c) :: .any :: .nils :: .own 0 :: .any :: .sl (Y1.map Gv.c) :: .i .i64 (Y1.length:Int) :: .own 0 :: an 15 [],[.vec 62 3 (r.map Gv.c) false]⟩)
def Z2Y (Y1:(List Gv)) (Y2:Int) (Yi:(List Gv)):St:=⟨.sl (Y1.map Gv.c) :: .any :: .nils :: .own 0 :: .i .i64 Y2 :: .sl (Y1.map Gv.c) :: .i .i64 (Y1.length:Int) :: .own 0 :: an 15 [],[.vec 62 3 (Yi.map Gv.c) false]⟩
theorem Z5U (Y1:(List Gv)) (hp0:Y1.length≤1073741824):∀ (k:Nat) (Y2:Int) (Yi:(List Gv)) (Z41:0≤Y2) (Z42:Yi.length=Y1.length) (hk:((Y1.length:Int) - Y2).toNat < k),Lp prog 0 (sub (X0 f50) [1,1,0,1,0,0]) (Z2Y Y1 Y2 Yi) (Z2X Y1 (Z1b Y1 k Y2 Yi)).1 (Z2X Y1 (Z1b Y1 k Y2 Yi)).2:=by
 intro k
 induction k with
 | zero=>intro Y2 Yi Z41 Z42 hk;exact absurd hk (Nat.not_lt_zero _)
 | succ k ih =>
  intro Y2 Yi Z41 Z42 hk
  have p {a C} (s:Scr a C):=sZ Gv.c Y1<|s
  cases Ye:(decide (Y2 < (Y1.length:Int))) with
  | true =>
   have Yt:=odt Ye
   have Y9:(0:Int)≤Y2:=by clear p;exact (by assumption)
   have Yz:Y2 < (Y1.length:Int):=by clear p;exact (by assumption)
   have YA:Y2 < (Yi.length:Int):=by clear p;exact (by omega)
   have YD:Y2.toNat < Yi.length:=by clear p;exact (by omega)
   have YG:(-9223372036854775808:Int)≤(Y2 + 1):=by clear p;exact (by omega)
   have YM:(Y2 + 1)≤(9223372036854775807:Int):=by clear p;exact (by omega)
   have e:Z1b Y1 (k + 1) Y2 Yi=(Z1b Y1 k (Y2 + 1) (Yi.set Y2.toNat (Y1.getD Y2.toNat default))):=by simp only [Z1b,Ye,cond_true]
   rw [e]
   exact X1O E0Ok Z1 [] (mR false [0,1,1,6,15]) [0] (⟨.sl (Y1.map Gv.c) :: .any :: .nils :: .own 0 :: .i .i64 (Y2 + 1) :: .sl (Y1.map Gv.c) :: .i .i64 (Y1.length:Int) :: .own 0 :: an 15 [],[.vec 62 3 ((Yi.map Gv.c).set Y2.toNat [.f .f32 ((Y1.getD Y2.toNat default).X), .f .f32 ((Y1.getD Y2.toNat default).Y), .f .f32 ((Y1.getD Y2.toNat default).Z)]) false]⟩) (p (sB Ye<|sG Gv.c Y1 Y2 Y9 Yz<|sF (Z70 (Y1.getD Y2.toNat default))<|sX Gv.c Yi Y2 Y9 YA<|sC (X45 (c:=Gv.c) (l:=Yi) YD)<|sI (Y2 + 1) YG YM<|sN)) (by kernel_rfl) (by simp [Z2Y,List.map_set,Gv.c]) (ih (Y2 + 1) (Yi.set Y2.toNat (Y1.getD Y2.toNat default)) (show 0≤(Y2 + 1) from (by omega)) (show (Yi.set Y2.toNat (Y1.getD Y2.toNat default)).length=Y1.length from (by simp_all<;>omega)) (by omega))
  | false =>
   have Yt:=odf Ye
   have e:Z1b Y1 (k + 1) Y2 Yi=Yi:=by simp only [Z1b,Ye,cond_false]
   rw [e]
   exact outR (e:=(.exit 0)) E0Ok Z1 [] (mR false [0,1,1,2,1,3,15]) [0] (p (sB Ye<|sN)) (by kernel_rfl) (by intro h;cases h)
def Z25 (Y1:(List Gv)):(List Gv):=(Z1b Y1 (((Y1.length:Int) - 0).toNat + 1) 0 (List.replicate (Y1.length:Int).toNat (⟨0,0,0⟩:Gv)))
def Z2E (Y1:(List Gv)):(List Gv):=(Z25 Y1)
theorem Z6E (Y1:(List Gv)) (hp0:Y1.length≤1073741824)  : Fn prog 50 [.sl (Y1.map Gv.c)] (.own 0) [.vec 62 3 ((Z2E Y1).map Gv.c) false]:=by
 have y0:(0:Int)≤(Y1.length:Int):=(by omega)
 have y1:((Y1.length:Int):Int)≤2147483648:=(by omega)
 refine fnS E0Ok Z1 (c:=X0 f50) [] (.own 0) [.vec 62 3 ((Z25 Y1).map Gv.c) false] func50 (sZ Gv.c Y1<|sC (show (Y1.length:Int)=(Y1.length:Int) from rfl)<|sC y0<|sC y1<|sL (mR false [0,1,1,6,15]) 1 (X2y (st2:=⟨.sl (Y1.map Gv.c) :: .any :: .nils :: .own 0 :: .i .i64 0 :: .sl (Y1.map Gv.c) :: .i .i64 (Y1.length:Int) :: .own 0 :: an 15 [],[.vec 62 3 (List.replicate (Int.toNat (Y1.length:Int)) [.f .f32 0, .f .f32 0, .f .f32 0]) false]⟩) (X4 (Z2X Y1) (x:=(Z25 Y1)) (Z5U Y1 hp0 (((Y1.length:Int) - 0).toNat + 1) 0 (List.replicate (Y1.length:Int).toNat (⟨0,0,0⟩:Gv)) (show 0≤0 from (by omega)) (show (List.replicate (Y1.length:Int).toNat (⟨0,0,0⟩:Gv)).length=Y1.length from (by simp)) (Nat.lt_succ_self _)) rfl) (by simp [Z2Y,Gv.c]))<|sK [0] sN) rfl (by kernel_rfl) (by kernel_rfl) rfl ?_ ?_
 · rfl
 · simp [Z2E]
@[simp] theorem Z6k (a:List Gv):Z2E a=a:=by
  unfold Z2E Z25
  rw [X3E (f:=id) (a:=a) (lo:=Z1b a) (fun k i r=>rfl)]
  exact List.map_id a
theorem Z6F (Y1:(List Gv)) (hp0:Y1.length≤1073741824):Fn prog 50 [.sl (Y1.map Gv.c)] (.own 0) [.vec 62 3 (Y1.map Gv.c) false]:=by
 simpa only [Z6k] using Z6E  Y1 hp0
def Z1g (Y1:(List Int)):Nat→Int→(List Int)→(List Int)
  | 0,_,_=>default
  | k + 1,Y2,Yi=>(cond (decide (Y2 < (Y1.length:Int)))
    (Z1g Y1 k (Y2 + 1) (Yi.set Y2.toNat (Y1.getD Y2.toNat default)))
    Yi)
def Z3a (Y1:(List Int)) (r:(List Int)):Ex × St:=((.exit 0),⟨.sl (Y1.map (cI .i64)) :: .any :: .nils :: .own 0 :: .any :: .sl (Y1.map (cI .i64)) :: .i .i64 (Y1.length:Int) :: .own 0 :: an 14 [],[.vec 2 1 (r.map (cI .i64)) false]⟩)
def Z3b (Y1:(List Int)) (Y2:Int) (Yi:(List Int)):St:=⟨.sl (Y1.map (cI .i64)) :: .any :: .nils :: .own 0 :: .i .i64 Y2 :: .sl (Y1.map (cI .i64)) :: .i .i64 (Y1.length:Int) :: .own 0 :: an 14 [],[.vec 2 1 (Yi.map (cI .i64)) false]⟩
theorem Z68 (Y1:(List Int)) (hp0:Y1.length≤1073741824):∀ (k:Nat) (Y2:Int) (Yi:(List Int)) (Z4a:0≤Y2) (Z4b:Yi.length=Y1.length) (hk:((Y1.length:Int) - Y2).toNat < k),Lp prog 0 (sub (X0 f98) [1,1,0,1,0,0]) (Z3b Y1 Y2 Yi) (Z3a Y1 (Z1g Y1 k Y2 Yi)).1 (Z3a Y1 (Z1g Y1 k Y2 Yi)).2:=by
 intro k
 induction k with
 | zero=>intro Y2 Yi Z4a Z4b hk;exact absurd hk (Nat.not_lt_zero _)
 | succ k ih =>
  intro Y2 Yi Z4a Z4b hk
  have p {a C} (s:Scr a C):=sZ (cI .i64) Y1<|s
  cases Ye:(decide (Y2 < (Y1.length:Int))) with
  | true =>
   have Yt:=odt Ye
   have Y9:(0:Int)≤Y2:=by clear p;exact (by assumption)
   have Yz:Y2 < (Y1.length:Int):=by clear p;exact (by assumption)
   have YA:Y2 < (Yi.length:Int):=by clear p;exact (by omega)
   have YD:Y2.toNat < Yi.length:=by clear p;exact (by omega)
   have YG:(-9223372036854775808:Int)≤(Y2 + 1):=by clear p;exact (by omega)
   have YM:(Y2 + 1)≤(9223372036854775807:Int):=by clear p;exact (by omega)
   have e:Z1g Y1 (k + 1) Y2 Yi=(Z1g Y1 k (Y2 + 1) (Yi.set Y2.toNat (Y1.getD Y2.toNat default))):=by simp only [Z1g,Ye,cond_true]
   rw [e]
   exact X1O E0Ok Z1 [] (mR false [0,1,1,6,14]) [0] (⟨.sl (Y1.map (cI .i64)) :: .any :: .nils :: .own 0 :: .i .i64 (Y2 + 1) :: .sl (Y1.map (cI .i64)) :: .i .i64 (Y1.length:Int) :: .own 0 :: an 14 [],[.vec 2 1 ((Yi.map (cI .i64)).set Y2.toNat [.i .i64 (Y1.getD Y2.toNat default)]) false]⟩) (p (sB Ye<|sG (cI .i64) Y1 Y2 Y9 Yz<|sX (cI .i64) Yi Y2 Y9 YA<|sC (X45 (c:=(cI .i64)) (l:=Yi) YD)<|sI (Y2 + 1) YG YM<|sN)) (by kernel_rfl) (by simp [Z3b,List.map_set,cI]) (ih (Y2 + 1) (Yi.set Y2.toNat (Y1.getD Y2.toNat default)) (show 0≤(Y2 + 1) from (by omega)) (show (Yi.set Y2.toNat (Y1.getD Y2.toNat default)).length=Y1.length from (by simp_all<;>omega)) (by omega))
  | false =>
   have Yt:=odf Ye
   have e:Z1g Y1 (k + 1) Y2 Yi=Yi:=by simp only [Z1g,Ye,cond_false]
   rw [e]
   exact outR (e:=(.exit 0)) E0Ok Z1 [] (mR false [0,1,1,2,1,3,14]) [0] (p (sB Ye<|sN)) (by kernel_rfl) (by intro h;cases h)
def Z2a (Y1:(List Int)):(List Int):=(Z1g Y1 (((Y1.length:Int) - 0).toNat + 1) 0 (List.replicate (Y1.length:Int).toNat 0))
def Z35 (Y1:(List Int)):(List Int):=(Z2a Y1)
theorem Z71 (Y1:(List Int)) (hp0:Y1.length≤1073741824)  : Fn prog 98 [.sl (Y1.map (cI .i64))] (.own 0) [.vec 2 1 ((Z35 Y1).map (cI .i64)) false]:=by
 have y0:(0:Int)≤(Y1.length:Int):=(by omega)
 have y1:((Y1.length:Int):Int)≤2147483648:=(by omega)
 refine fnS E0Ok Z1 (c:=X0 f98) [] (.own 0) [.vec 2 1 ((Z2a Y1).map (cI .i64)) false] func98 (sZ (cI .i64) Y1<|sC (show (Y1.length:Int)=(Y1.length:Int) from rfl)<|sC y0<|sC y1<|sL (mR false [0,1,1,6,14]) 1 (X2y (st2:=⟨.sl (Y1.map (cI .i64)) :: .any :: .nils :: .own 0 :: .i .i64 0 :: .sl (Y1.map (cI .i64)) :: .i .i64 (Y1.length:Int) :: .own 0 :: an 14 [],[.vec 2 1 (List.replicate (Int.toNat (Y1.length:Int)) [.i .i64 0]) false]⟩) (X4 (Z3a Y1) (x:=(Z2a Y1)) (Z68 Y1 hp0 (((Y1.length:Int) - 0).toNat + 1) 0 (List.replicate (Y1.length:Int).toNat 0) (show 0≤0 from (by omega)) (show (List.replicate (Y1.length:Int).toNat 0).length=Y1.length from (by simp)) (Nat.lt_succ_self _)) rfl) (by simp [Z3b,cI]))<|sK [0] sN) rfl (by kernel_rfl) (by kernel_rfl) rfl ?_ ?_
 · rfl
 · simp [Z35]
@[simp] theorem Z6G (a:List Int):Z35 a=a:=by
  unfold Z35 Z2a
  rw [X3E (f:=id) (a:=a) (lo:=Z1g a) (fun k i r=>rfl)]
  exact List.map_id a
theorem Z72 (Y1:(List Int)) (hp0:Y1.length≤1073741824):Fn prog 98 [.sl (Y1.map (cI .i64))] (.own 0) [.vec 2 1 (Y1.map (cI .i64)) false]:=by
 simpa only [Z6G] using Z71  Y1 hp0
def Z1c (Y1:(List (List Int))):Nat→Int→(List (List Int))→(List (List Int))
  | 0,_,_=>default
  | k + 1,Y2,Yi=>(cond (decide (Y2 < (Y1.length:Int)))
    (Z1c Y1 k (Y2 + 1) (Yi.set Y2.toNat (Y1.getD Y2.toNat default)))
    Yi)
def Z2Z (Y1:(List (List Int))) (r:(List (List Int))):Ex × St:=((.exit 0),⟨.sl (Y1.map (cL (cI .i64))) :: .any :: .nils :: .own 0 :: .any :: .sl (Y1.map (cL (cI .i64))) :: .i .i64 (Y1.length:Int) :: .own 0 :: an 15 [],[.nest 79 (r.map fun l=>l.map (cI .i64)) false]⟩)
def Z30 (Y1:(List (List Int))) (Y2:Int) (Yi:(List (List Int))):St:=⟨.sl (Y1.map (cL (cI .i64))) :: .any :: .nils :: .own 0 :: .i .i64 Y2 :: .sl (Y1.map (cL (cI .i64))) :: .i .i64 (Y1.length:Int) :: .own 0 :: an 15 [],[.nest 79 (Yi.map fun l=>l.map (cI .i64)) false]⟩
theorem Z5V (Y1:(List (List Int))) (hp0:Y1.length≤1073741824) (hp1:∀ t∈Y1,t.length≤1073741824):∀ (k:Nat) (Y2:Int) (Yi:(List (List Int))) (Z43:0≤Y2) (Z44:Yi.length=Y1.length) (hk:((Y1.length:Int) - Y2).toNat < k),Lp prog 0 (sub (X0 f51) [1,1,0,1,0,0]) (Z30 Y1 Y2 Yi) (Z2Z Y1 (Z1c Y1 k Y2 Yi)).1 (Z2Z Y1 (Z1c Y1 k Y2 Yi)).2:=by
 intro k
 induction k with
 | zero=>intro Y2 Yi Z43 Z44 hk;exact absurd hk (Nat.not_lt_zero _)
 | succ k ih =>
  intro Y2 Yi Z43 Z44 hk
  have p {a C} (s:Scr a C):=sZ (cL (cI .i64)) Y1<|s
  cases Ye:(decide (Y2 < (Y1.length:Int))) with
  | true =>
   have Yt:=odt Ye
   have Y9:(0:Int)≤Y2:=by clear p;exact (by assumption)
   have Yz:Y2 < (Y1.length:Int):=by clear p;exact (by assumption)
   have YA:(Y1.getD Y2.toNat default).length≤1073741824:=by clear p;exact (by simp_all<;>omega)
   have YD:Int.toNat Y2 < Yi.length:=by clear p;exact (by omega)
   have YG:Y2.toNat < Yi.length:=by clear p;exact (by assumption)
   have YM:(-9223372036854775808:Int)≤(Y2 + 1):=by clear p;exact (by omega)
   have YU:(Y2 + 1)≤(9223372036854775807:Int):=by clear p;exact (by omega)
   have e:Z1c Y1 (k + 1) Y2 Yi=(Z1c Y1 k (Y2 + 1) (Yi.set Y2.toNat (Y1.getD Y2.toNat default))):=by simp only [Z1c,Ye,cond_true]
   rw [e]
   exact X1O E0Ok Z1 [] (mR false [0,1,1,6,15]) [0] (⟨.sl (Y1.map (cL (cI .i64))) :: .any :: .nils :: .own 0 :: .i .i64 (Y2 + 1) :: .sl (Y1.map (cL (cI .i64))) :: .i .i64 (Y1.length:Int) :: .own 0 :: an 15 [],[.nest 79 ((Yi.map fun l=>l.map (cI .i64)).set Y2.toNat ((Y1.getD Y2.toNat default).map (cI .i64))) false]⟩) (p (sB Ye<|sG (cL (cI .i64)) Y1 Y2 Y9 Yz<|sF (Z72 (Y1.getD Y2.toNat default) YA)<|sC (X7a (c:=(cI .i64)) (l:=Yi) (i:=Y2) Y9 YD)<|sC (show Y2.toNat < (Yi.map fun l=>l.map (cI .i64)).length from (by simpa using YG))<|sI (Y2 + 1) YM YU<|sN)) (by kernel_rfl) (by simp [Z30,List.map_set,cL,cI]) (ih (Y2 + 1) (Yi.set Y2.toNat (Y1.getD Y2.toNat default)) (show 0≤(Y2 + 1) from (by omega)) (show (Yi.set Y2.toNat (Y1.getD Y2.toNat default)).length=Y1.length from (by simp_all<;>omega)) (by omega))
  | false =>
   have Yt:=odf Ye
   have e:Z1c Y1 (k + 1) Y2 Yi=Yi:=by simp only [Z1c,Ye,cond_false]
   rw [e]
   exact outR (e:=(.exit 0)) E0Ok Z1 [] (mR false [0,1,1,2,1,3,15]) [0] (p (sB Ye<|sN)) (by kernel_rfl) (by intro h;cases h)
def Z26 (Y1:(List (List Int))):(List (List Int)):=(Z1c Y1 (((Y1.length:Int) - 0).toNat + 1) 0 (List.replicate (Y1.length:Int).toNat ([]:(List Int))))
def Z2F (Y1:(List (List Int))):(List (List Int)):=(Z26 Y1)
theorem Z6H (Y1:(List (List Int))) (hp0:Y1.length≤1073741824) (hp1:∀ t∈Y1,t.length≤1073741824)  : Fn prog 51 [.sl (Y1.map (cL (cI .i64)))] (.own 0) [.nest 79 ((Z2F Y1).map fun l=>l.map (cI .i64)) false]:=by
 have y0:(0:Int)≤(Y1.length:Int):=(by omega)
 have y1:((Y1.length:Int):Int)≤2147483648:=(by omega)
 refine fnS E0Ok Z1 (c:=X0 f51) [] (.own 0) [.nest 79 ((Z26 Y1).map fun l=>l.map (cI .i64)) false] func51 (sZ (cL (cI .i64)) Y1<|sC (show (Y1.length:Int)=(Y1.length:Int) from rfl)<|sC y0<|sC y1<|sL (mR false [0,1,1,6,15]) 1 (X2y (st2:=⟨.sl (Y1.map (cL (cI .i64))) :: .any :: .nils :: .own 0 :: .i .i64 0 :: .sl (Y1.map (cL (cI .i64))) :: .i .i64 (Y1.length:Int) :: .own 0 :: an 15 [],[.nest 79 (List.replicate (Y1.length:Int).toNat []) false]⟩) (X4 (Z2Z Y1) (x:=(Z26 Y1)) (Z5V Y1 hp0 hp1 (((Y1.length:Int) - 0).toNat + 1) 0 (List.replicate (Y1.length:Int).toNat ([]:(List Int))) (show 0≤0 from (by omega)) (show (List.replicate (Y1.length:Int).toNat ([]:(List Int))).length=Y1.length from (by simp)) (Nat.lt_succ_self _)) rfl) (by simp [Z30,cL,cI]))<|sK [0] sN) rfl (by kernel_rfl) (by kernel_rfl) rfl ?_ ?_
 · rfl
 · simp [Z2F]
@[simp] theorem Z6l (a:List (List Int)):Z2F a=a:=by
  unfold Z2F Z26
  rw [X3E (f:=id) (a:=a) (lo:=Z1c a) (fun k i r=>rfl)]
  exact List.map_id a
theorem Z6I (Y1:(List (List Int))) (hp0:Y1.length≤1073741824) (hp1:∀ t∈Y1,t.length≤1073741824):Fn prog 51 [.sl (Y1.map (cL (cI .i64)))] (.own 0) [.nest 79 (Y1.map fun l=>l.map (cI .i64)) false]:=by
 simpa only [Z6l] using Z6H  Y1 hp0 hp1
def Z2Q (Y1:Gm):Gm:=Y1
theorem Z7w (Y1:Gm) (hp0:Y1.Pq.length≤1073741824) (hp1:Y1.Tr.length≤1073741824) (hp2:∀ t∈Y1.Tr,t.length≤1073741824)  : Fn prog 14 [.agg [.sl (Y1.Pq.map Gv.c), .sl (Y1.Tr.map (cL (cI .i64)))]] (.agg [.own 0, .own 1]) [.vec 62 3 (((Z2Q Y1).Pq).map Gv.c) false, .nest 79 (((Z2Q Y1).Tr).map fun l=>l.map (cI .i64)) false]:=by
 refine fnS E0Ok Z1 (c:=X0 f14) [] (.agg [.own 0, .own 1]) [.vec 62 3 (Y1.Pq.map Gv.c) false, .nest 79 (Y1.Tr.map fun l=>l.map (cI .i64)) false] func14 (sF (Z6F Y1.Pq hp0)<|sF (Z6I Y1.Tr hp1 hp2)<|sK [3,4] sN) rfl (by kernel_rfl) (by kernel_rfl) rfl ?_ ?_
 · rfl
 · simp [Z2Q]
@[simp] theorem Z7f (a:Gm):Z2Q a=a:=by
  simp [Z2Q]
theorem Z3T (Y1:Gm) (hp0:Y1.Pq.length≤1073741824) (hp1:Y1.Tr.length≤1073741824) (hp2:∀ t∈Y1.Tr,t.length≤1073741824):Fn prog 14 [.agg [.sl (Y1.Pq.map Gv.c), .sl (Y1.Tr.map (cL (cI .i64)))]] (.agg [.own 0, .own 1]) [.vec 62 3 (Y1.Pq.map Gv.c) false, .nest 79 (Y1.Tr.map fun l=>l.map (cI .i64)) false]:=by
 simpa only [Z7f] using Z7w  Y1 hp0 hp1 hp2
def Z1o (YR:Int) (YH:Int) (YB:Int):Bool:=(cond (decide (YR ≥ YH))
  (decide (YR≤YB))
  false)
theorem Z4T (YR:Int) (YH:Int) (YB:Int)   : Fn prog 73 [.i .i64 YR, .i .i64 YH, .i .i64 YB] (.b (Z1o YR YH YB)) []:=by
 cases h0:(decide (YR ≥ YH)) with
 | true =>
  have gh0:=odt h0
  refine fnS E0Ok Z1 (c:=X0 f73) [] (.b (decide (YR≤YB))) [] func73 (sB h0<|sB h0<|sB h0<|sB h0<|sK [] sN) rfl (by kernel_rfl) (by kernel_rfl) rfl ?_ ?_
  · simp only [Z1o,h0,cond_true]
  · rfl
 | false =>
  have gh0:=odf h0
  refine fnS E0Ok Z1 (c:=X0 f73) [] (.b false) [] func73 (sB h0<|sB h0<|sB h0<|sB h0<|sK [] sN) rfl (by kernel_rfl) (by kernel_rfl) rfl ?_ ?_
  · simp only [Z1o,h0,cond_false]
  · rfl
def Zm (YF:(List Int)) (YS:Int):Bool:=(cond ((YF.length:Int) != 3)
  false
  (cond ((YF.getD 0 default) == (YF.getD 1 default))
    false
    (cond ((YF.getD 1 default) == (YF.getD 2 default))
      false
      (cond ((YF.getD 0 default) == (YF.getD 2 default))
        false
        (cond (Z1o (YF.getD 0 default) 0 (IntKind.wrap .i64 (YS - 1)))
          (cond (Z1o (YF.getD 1 default) 0 (IntKind.wrap .i64 (YS - 1)))
            (Z1o (YF.getD 2 default) 0 (IntKind.wrap .i64 (YS - 1)))
            false)
          false)))))
theorem Z69 (YF:(List Int)) (YS:Int) (hp0:YF.length≤1073741824)  : Fn prog 91 [.sl (YF.map (cI .i64)), .i .i64 YS] (.b (Zm YF YS)) []:=by
 have p {a C} (s:Scr a C):=sK [28,28]<|sZ (cI .i64) YF<|s
 cases h0:((YF.length:Int) != 3) with
 | true =>
  have gh0:=bne_iff_ne.1 h0
  refine fnS E0Ok Z1 (c:=X0 f91) [] (.b false) [] func91 (p (sB h0<|sB h0<|sB h0<|sB h0<|sB h0<|sB h0<|sB h0<|sB h0<|sB (show true=true from rfl)<|sB (show true=true from rfl)<|sB (show true=true from rfl)<|sB (show true=true from rfl)<|sB (show true=true from rfl)<|sB (show true=true from rfl)<|sB (show true=true from rfl)<|sB (show true=true from rfl)<|sB (show true=true from rfl)<|sB (show true=true from rfl)<|sB (show true=true from rfl)<|sB (show true=true from rfl)<|sB (show true=true from rfl)<|sB (show true=true from rfl)<|sB (show true=true from rfl)<|sB (show true=true from rfl)<|sB (show true=true from rfl)<|sK [] sN)) rfl (by kernel_rfl) (by kernel_rfl) rfl ?_ ?_
  · simp only [Zm,h0,cond_true]
  · rfl
 | false =>
  have gh0:=bne_eq_false_iff_eq.1 h0
  have y0:(0:Int)≤0:=by clear p;exact (by omega)
  have y1:0 < (YF.length:Int):=by clear p;exact (by omega)
  have y2:(0:Int)≤1:=by clear p;exact (by omega)
  have y3:1 < (YF.length:Int):=by clear p;exact (by omega)
  have q {a C} (s:Scr a C):=p (sB h0<|sB h0<|sG (cI .i64) YF 0 y0 y1<|sB h0<|sB h0<|sB h0<|sG (cI .i64) YF 1 y2 y3<|sB h0<|sB h0<|sB h0<|s)
  clear p
  cases h1:((YF.getD 0 default) == (YF.getD 1 default)) with
  | true =>
   have gh1:=eq_of_beq h1
   refine fnS E0Ok Z1 (c:=X0 f91) [] (.b false) [] func91 (q (sB h1<|sB h1<|sB h1<|sB h1<|sB h1<|sB h1<|sB h1<|sB h1<|sB (show true=true from rfl)<|sB (show true=true from rfl)<|sB (show true=true from rfl)<|sB (show true=true from rfl)<|sB (show true=true from rfl)<|sB (show true=true from rfl)<|sB (show true=true from rfl)<|sB (show true=true from rfl)<|sB (show true=true from rfl)<|sK [] sN)) rfl (by kernel_rfl) (by kernel_rfl) rfl ?_ ?_
   · simp only [Zm,h0,h1,cond_true,cond_false]
   · rfl
  | false =>
   have gh1:=ne_of_beq_false h1
   have y4:(0:Int)≤2:=by clear q;exact (by omega)
   have y5:2 < (YF.length:Int):=by clear q;exact (by omega)
   have p {a C} (s:Scr a C):=q (sB h1<|sB h1<|sG (cI .i64) YF 1 y2 y3<|sB h1<|sB h1<|sB h1<|sG (cI .i64) YF 2 y4 y5<|sB h1<|sB h1<|sB h1<|s)
   clear q
   cases h2:((YF.getD 1 default) == (YF.getD 2 default)) with
   | true =>
    have gh2:=eq_of_beq h2
    refine fnS E0Ok Z1 (c:=X0 f91) [] (.b false) [] func91 (p (sB h2<|sB h2<|sB h2<|sB h2<|sB h2<|sB h2<|sB h2<|sB h2<|sB (show true=true from rfl)<|sK [] sN)) rfl (by kernel_rfl) (by kernel_rfl) rfl ?_ ?_
    · simp only [Zm,h0,h1,h2,cond_true,cond_false]
    · rfl
   | false =>
    have gh2:=ne_of_beq_false h2
    have q {a C} (s:Scr a C):=p (sB h2<|sB h2<|sG (cI .i64) YF 0 y0 y1<|sB h2<|sB h2<|sB h2<|sG (cI .i64) YF 2 y4 y5<|sB h2<|sB h2<|sB h2<|s)
    clear p
    cases h3:((YF.getD 0 default) == (YF.getD 2 default)) with
    | true =>
     have gh3:=eq_of_beq h3
     refine fnS E0Ok Z1 (c:=X0 f91) [] (.b false) [] func91 (q (sB h3<|sK [] sN)) rfl (by kernel_rfl) (by kernel_rfl) rfl ?_ ?_
     · simp only [Zm,h0,h1,h2,h3,cond_true,cond_false]
     · rfl
    | false =>
     have gh3:=ne_of_beq_false h3
     have p {a C} (s:Scr a C):=q (sB h3<|sG (cI .i64) YF 0 y0 y1<|sW .i64 (YS - 1)<|sF (Z4T (YF.getD 0 default) 0 (IntKind.wrap .i64 (YS - 1)))<|s)
     clear q
     cases h4:(Z1o (YF.getD 0 default) 0 (IntKind.wrap .i64 (YS - 1))) with
     | true =>
      have q {a C} (s:Scr a C):=p (sB h4<|sB h4<|sG (cI .i64) YF 1 y2 y3<|sB h4<|sB h4<|sB h4<|sW .i64 (YS - 1)<|sB h4<|sF (Z4T (YF.getD 1 default) 0 (IntKind.wrap .i64 (YS - 1)))<|sB h4<|s)
      clear p
      cases h5:(Z1o (YF.getD 1 default) 0 (IntKind.wrap .i64 (YS - 1))) with
      | true =>
       refine fnS E0Ok Z1 (c:=X0 f91) [] (.b (Z1o (YF.getD 2 default) 0 (IntKind.wrap .i64 (YS - 1)))) [] func91 (q (sB h5<|sB h5<|sG (cI .i64) YF 2 y4 y5<|sB h5<|sB h5<|sB h5<|sW .i64 (YS - 1)<|sB h5<|sF (Z4T (YF.getD 2 default) 0 (IntKind.wrap .i64 (YS - 1)))<|sB h5<|sK [] sN)) rfl (by kernel_rfl) (by kernel_rfl) rfl ?_ ?_
       · simp only [Zm,h0,h1,h2,h3,h4,h5,cond_true,cond_false]
       · rfl
      | false =>
       refine fnS E0Ok Z1 (c:=X0 f91) [] (.b false) [] func91 (q (sB h5<|sB h5<|sB h5<|sB h5<|sB h5<|sB h5<|sB h5<|sK [] sN)) rfl (by kernel_rfl) (by kernel_rfl) rfl ?_ ?_
       · simp only [Zm,h0,h1,h2,h3,h4,h5,cond_true,cond_false]
       · rfl
     | false =>
      refine fnS E0Ok Z1 (c:=X0 f91) [] (.b false) [] func91 (p (sB h4<|sB h4<|sB h4<|sB h4<|sB h4<|sB h4<|sB h4<|sB (show false=false from rfl)<|sB (show false=false from rfl)<|sB (show false=false from rfl)<|sB (show false=false from rfl)<|sB (show false=false from rfl)<|sB (show false=false from rfl)<|sB (show false=false from rfl)<|sK [] sN)) rfl (by kernel_rfl) (by kernel_rfl) rfl ?_ ?_
      · simp only [Zm,h0,h1,h2,h3,h4,cond_false]
      · rfl
def Z1k (Y0:Gm):Nat→Int→(Unit) ⊕ (Unit)
  | 0,_ => .inl default
  | k + 1,Y2=>(cond (decide (Y2 < (Y0.Tr.length:Int)))
    (cond (Zm (Y0.Tr.getD Y2.toNat default) (Y0.Pq.length:Int))
      (Z1k Y0 k (Y2 + 1))
      (.inl ()))
    (.inr ()))
def Z36 (Y0:Gm):(Unit) ⊕ (Unit)→Ex × St
  | .inl r=>(.ret,⟨.any :: .any :: .b false :: an 38 [],[]⟩)
  | .inr r=>((.exit 0),⟨.ref (Gm.c Y0) 0 :: .any :: .any :: .any :: .ref (Gm.c Y0) 0 :: .ref (Gm.c Y0) 0 :: .ref (Gm.c Y0) 0 :: .sl (Y0.Pq.map Gv.c) :: .i .i64 (Y0.Pq.length:Int) :: .b (decide ((Y0.Pq.length:Int) > 64)) :: .b (decide ((Y0.Pq.length:Int) > 64)) :: .ref (Gm.c Y0) 0 :: .ref (Gm.c Y0) 0 :: .ref (Gm.c Y0) 1 :: .sl (Y0.Tr.map (cL (cI .i64))) :: .i .i64 (Y0.Tr.length:Int) :: .b (decide ((Y0.Tr.length:Int) > 128)) :: .b (decide ((Y0.Tr.length:Int) > 128)) :: an 23 [],[]⟩)
def Z73 (Y0:Gm) (Y2:Int):St:=⟨.ref (Gm.c Y0) 0 :: .any :: .any :: .i .i64 Y2 :: .ref (Gm.c Y0) 0 :: .ref (Gm.c Y0) 0 :: .ref (Gm.c Y0) 0 :: .sl (Y0.Pq.map Gv.c) :: .i .i64 (Y0.Pq.length:Int) :: .b (decide ((Y0.Pq.length:Int) > 64)) :: .b (decide ((Y0.Pq.length:Int) > 64)) :: .ref (Gm.c Y0) 0 :: .ref (Gm.c Y0) 0 :: .ref (Gm.c Y0) 1 :: .sl (Y0.Tr.map (cL (cI .i64))) :: .i .i64 (Y0.Tr.length:Int) :: .b (decide ((Y0.Tr.length:Int) > 128)) :: .b (decide ((Y0.Tr.length:Int) > 128)) :: an 23 [],[]⟩
theorem Z54 (Y0:Gm) (hp0:Y0.Pq.length≤1073741824) (hp1:Y0.Tr.length≤1073741824) (hp2:∀ t∈Y0.Tr,t.length≤1073741824) (Z8f:(decide ((Y0.Pq.length:Int) > 64))=false) (Z8g:(decide ((Y0.Tr.length:Int) > 128))=false):∀ (k:Nat) (Y2:Int) (Z4I:0≤Y2) (hk:((Y0.Tr.length:Int) - Y2).toNat < k),Lp prog 0 (sub (X0 f40) [1,1,0,1,0,0]) (Z73 Y0 Y2) (Z36 Y0 (Z1k Y0 k Y2)).1 (Z36 Y0 (Z1k Y0 k Y2)).2:=by
 intro k
 induction k with
 | zero=>intro Y2 Z4I hk;exact absurd hk (Nat.not_lt_zero _)
 | succ k ih =>
  intro Y2 Z4I hk
  have p {a C} (s:Scr a C):=sZ (cL (cI .i64)) Y0.Tr<|s
  cases Ye:(decide (Y2 < (Y0.Tr.length:Int))) with
  | true =>
   have Yt:=odt Ye
   have Y9:(0:Int)≤Y2:=by clear p;exact (by assumption)
   have Yz:Y2 < (Y0.Tr.length:Int):=by clear p;exact (by assumption)
   have YA:(Y0.Tr.getD Y2.toNat default).length≤1073741824:=by clear p;exact (by simp_all<;>omega)
   have q {a C} (s:Scr a C):=p (sB Ye<|sK [12,12]<|sG (cL (cI .i64)) Y0.Tr Y2 Y9 Yz<|sZ Gv.c Y0.Pq<|sF (Z69 (Y0.Tr.getD Y2.toNat default) (Y0.Pq.length:Int) YA)<|s)
   clear p
   cases Yw:(Zm (Y0.Tr.getD Y2.toNat default) (Y0.Pq.length:Int)) with
   | true =>
    have YD:(-9223372036854775808:Int)≤(Y2 + 1):=by clear q;exact (by omega)
    have YG:(Y2 + 1)≤(9223372036854775807:Int):=by clear q;exact (by omega)
    have e:Z1k Y0 (k + 1) Y2=(Z1k Y0 k (Y2 + 1)):=by simp only [Z1k,Ye,Yw,cond_true]
    rw [e]
    exact Xo E0Ok Z1 [] (mR false [0,1,2,15,23]) [] (ih (Y2 + 1) (show 0≤(Y2 + 1) from (by omega)) (by omega)) (q (sB' Yw<|sI (Y2 + 1) YD YG<|sN)) (by kernel_rfl)
   | false =>
    have e:Z1k Y0 (k + 1) Y2=(.inl ()):=by simp only [Z1k,Ye,Yw,cond_true,cond_false]
    rw [e]
    exact outR (e := .ret) E0Ok Z1 [] (mR false [2,1,38]) [] (q (sB' Yw<|sN)) (by kernel_rfl) (by intro h;cases h)
  | false =>
   have Yt:=odf Ye
   have e:Z1k Y0 (k + 1) Y2=(.inr ()):=by simp only [Z1k,Ye,cond_false]
   rw [e]
   exact outR (e:=(.exit 0)) E0Ok Z1 [] (mR false [0,1,3,14,23]) [] (p (sB Ye<|sN)) (by kernel_rfl) (by intro h;cases h)
def Z29 (Y0:Gm):(Unit) ⊕ (Unit):=(Z1k Y0 (((Y0.Tr.length:Int) - 0).toNat + 1) 0)
def Zr (Y0:Gm):Bool:=(cond (decide ((Y0.Pq.length:Int) > 64))
  false
  (cond (decide ((Y0.Tr.length:Int) > 128))
    false
    (match (Z29 Y0) with
      | .inl r3=>false
      | .inr r3=>true)))
theorem Z7J (Y0:Gm) (hp0:Y0.Pq.length≤1073741824) (hp1:Y0.Tr.length≤1073741824) (hp2:∀ t∈Y0.Tr,t.length≤1073741824)  : Fn prog 40 [.ref (Gm.c Y0) 0] (.b (Zr Y0)) []:=by
 have p {a C} (s:Scr a C):=sZ Gv.c Y0.Pq<|s
 cases h0:(decide ((Y0.Pq.length:Int) > 64)) with
 | true =>
  have gh0:=odt h0
  refine fnS E0Ok Z1 (c:=X0 f40) [] (.b false) [] func40 (p (sB h0<|sB h0<|sB h0<|sB h0<|sB h0<|sB h0<|sB h0<|sB (show true=true from rfl)<|sK [] sN)) rfl (by kernel_rfl) (by kernel_rfl) rfl ?_ ?_
  · simp only [Zr,h0,cond_true]
  · rfl
 | false =>
  have gh0:=odf h0
  have q {a C} (s:Scr a C):=p (sB h0<|sB h0<|sB h0<|sB h0<|sB h0<|sZ (cL (cI .i64)) Y0.Tr<|sB h0<|sB h0<|s)
  clear p
  cases h1:(decide ((Y0.Tr.length:Int) > 128)) with
  | true =>
   have gh1:=odt h1
   refine fnS E0Ok Z1 (c:=X0 f40) [] (.b false) [] func40 (q (sB h1<|sK [] sN)) rfl (by kernel_rfl) (by kernel_rfl) rfl ?_ ?_
   · simp only [Zr,h0,h1,cond_true,cond_false]
   · rfl
  | false =>
   have gh1:=odf h1
   have p {a C} (s:Scr a C):=q (sB h1<|s)
   clear q
   cases h2:(Z29 Y0) with
   | inl r3 =>
    refine fnS E0Ok Z1 (c:=X0 f40) [] (.b false) [] func40 (p (sL (mR false [0,1,2,15,23]) 0 (X4 (Z36 Y0) (x:=(Z29 Y0)) (Z54 Y0 hp0 hp1 hp2 h0 h1 (((Y0.Tr.length:Int) - 0).toNat + 1) 0 (show 0≤0 from (by omega)) (Nat.lt_succ_self _)) h2)<|sK [] sN)) rfl (by kernel_rfl) (by kernel_rfl) rfl ?_ ?_
    · simp only [Zr,h0,h1,h2,cond_false]
    · rfl
   | inr r3 =>
    refine fnS E0Ok Z1 (c:=X0 f40) [] (.b true) [] func40 (p (sL (mR false [0,1,2,15,23]) 0 (X4 (Z36 Y0) (x:=(Z29 Y0)) (Z54 Y0 hp0 hp1 hp2 h0 h1 (((Y0.Tr.length:Int) - 0).toNat + 1) 0 (show 0≤0 from (by omega)) (Nat.lt_succ_self _)) h2)<|sK [] sN)) rfl (by kernel_rfl) (by kernel_rfl) rfl ?_ ?_
    · simp only [Zr,h0,h1,h2,cond_false]
    · rfl
theorem Z6J (m:Gm):Zr m=cond (decide ((m.Pq.length:Int) > 64)) false (cond (decide ((m.Tr.length:Int) > 128)) false (m.Tr.all fun t=>Zm t (m.Pq.length:Int))):=by
  unfold Zr Z29
  rw [X2c (a:=m.Tr) (p:=fun t=>Zm t (m.Pq.length:Int)) (lo:=Z1k m) (x:=()) (y:=()) (fun k i=>rfl)]
  cases (m.Tr.all fun t=>Zm t (m.Pq.length:Int))<;>rfl
theorem Z8s {t:List Int} {n:Int} (h0:0≤n) (h1:n≤64) (h:Zm t n=true):t.length=3∧∀ x∈t,0≤x∧x < n:=by
  unfold Zm at h
  rw [X2P (by omega) (by omega)] at h
  cases hl:((t.length:Int) != 3) with
  | true=>rw [hl] at h;cases h
  | false =>
    rw [hl,cond_false] at h
    have hl3:t.length=3:=by simp at hl;omega
    match t,hl3 with
    | [a,b,c],_ =>
      refine ⟨rfl,?_⟩
      simp only [List.getD_cons_zero,List.getD_cons_succ,Z1o] at h
      cases e1:(a == b)<;>rw [e1] at h<;>(try (cases h;done))
      cases e2:(b == c)<;>rw [e2] at h<;>(try (cases h;done))
      cases e3:(a == c)<;>rw [e3] at h<;>(try (cases h;done))
      simp only [cond_false] at h
      cases f1:decide (a ≥ 0)<;>rw [f1] at h<;>(try (cases h;done))
      cases f2:decide (a≤n - 1)<;>rw [f2] at h<;>(try (cases h;done))
      cases f3:decide (b ≥ 0)<;>rw [f3] at h<;>(try (cases h;done))
      cases f4:decide (b≤n - 1)<;>rw [f4] at h<;>(try (cases h;done))
      cases f5:decide (c ≥ 0)<;>rw [f5] at h<;>(try (cases h;done))
      simp only [cond_true,decide_eq_true_eq] at h f1 f2 f3 f4 f5
      intro x hx
      simp only [List.mem_cons,List.not_mem_nil,or_false] at hx
      rcases hx with rfl | rfl | rfl<;>omega
theorem Z55 (m:Gm) (h:Zr m=true):X7 m.Pq.length m.Tr:=by
  rw [Z6J] at h
  cases h1:decide ((m.Pq.length:Int) > 64)<;>rw [h1] at h<;>(try (cases h;done))
  cases h2:decide ((m.Tr.length:Int) > 128)<;>rw [h2] at h<;>(try (cases h;done))
  simp only [cond_false,List.all_eq_true,decide_eq_false_iff_not] at h h1
  intro t ht
  exact Z8s (by omega) (by omega) (h t ht)
theorem Z8t (m:Gm) (h:Zr m=true):OkE m.Pq.length m.Tr:=by
  have h0:=Z55 m h
  rw [Z6J] at h
  cases h1:decide ((m.Pq.length:Int) > 64)<;>rw [h1] at h<;>(try (cases h;done))
  cases h2:decide ((m.Tr.length:Int) > 128)<;>rw [h2] at h<;>(try (cases h;done))
  simp only [cond_false,List.all_eq_true,decide_eq_false_iff_not] at h h1 h2
  refine ⟨by omega,by omega,fun t ht => ?_⟩
  have h3:=h t ht
  obtain ⟨hl,hx⟩:=h0 t ht
  match t,hl with
  | [a,b,c],_ =>
    unfold Zm at h3
    simp only [List.getD_cons_zero,List.getD_cons_succ] at h3
    cases e0:((([a,b,c]:List Int).length:Int) != 3)<;>rw [e0] at h3<;>(try (cases h3;done))
    cases e1:(a == b)<;>rw [e1] at h3<;>(try (cases h3;done))
    cases e2:(b == c)<;>rw [e2] at h3<;>(try (cases h3;done))
    cases e3:(a == c)<;>rw [e3] at h3<;>(try (cases h3;done))
    exact ⟨a,b,c,rfl,hx a (by simp),hx b (by simp),hx c (by simp),beq_eq_false_iff_ne.1 e1,beq_eq_false_iff_ne.1 e2,beq_eq_false_iff_ne.1 e3⟩
def ZL (Yb:Nat):Bool:=(fcmp .eql .f32 (fop .sub .f32 Yb Yb) 0)
theorem Z4U (Yb:Nat)   : Fn prog 44 [.f .f32 Yb] (.b (ZL Yb)) []:=by
 refine fnS E0Ok Z1 (c:=X0 f44) [] (.b (fcmp .eql .f32 (fop .sub .f32 Yb Yb) 0)) [] func44 (sK [] sN) rfl (by kernel_rfl) (by kernel_rfl) rfl ?_ ?_
 · rfl
 · rfl
def Zc (Yb:Nat):Bool:=(cond (ZL Yb)
  (fcmp .gtr .f32 Yb 0)
  false)
theorem Z5n (Yb:Nat)   : Fn prog 41 [.f .f32 Yb] (.b (Zc Yb)) []:=by
 have p {a C} (s:Scr a C):=sF (Z4U Yb)<|s
 cases h0:(ZL Yb) with
 | true =>
  refine fnS E0Ok Z1 (c:=X0 f41) [] (.b (fcmp .gtr .f32 Yb 0)) [] func41 (p (sB h0<|sB h0<|sB h0<|sK [] sN)) rfl (by kernel_rfl) (by kernel_rfl) rfl ?_ ?_
  · simp only [Zc,h0,cond_true]
  · rfl
 | false =>
  refine fnS E0Ok Z1 (c:=X0 f41) [] (.b false) [] func41 (p (sB h0<|sB h0<|sB h0<|sK [] sN)) rfl (by kernel_rfl) (by kernel_rfl) rfl ?_ ?_
  · simp only [Zc,h0,cond_false]
  · rfl
def Z37 (Y1:Gv) (Yc:Gv):Gv:=(⟨(fop .sub .f32 (fop .mul .f32 Y1.Y Yc.Z) (fop .mul .f32 Y1.Z Yc.Y)),(fop .sub .f32 (fop .mul .f32 Y1.Z Yc.X) (fop .mul .f32 Y1.X Yc.Z)),(fop .sub .f32 (fop .mul .f32 Y1.X Yc.Y) (fop .mul .f32 Y1.Y Yc.X))⟩:Gv)
theorem Z74 (Y1:Gv) (Yc:Gv)   : Fn prog 93 [.agg [.f .f32 Y1.X, .f .f32 Y1.Y, .f .f32 Y1.Z], .agg [.f .f32 Yc.X, .f .f32 Yc.Y, .f .f32 Yc.Z]] (.agg [.f .f32 ((Z37 Y1 Yc).X), .f .f32 ((Z37 Y1 Yc).Y), .f .f32 ((Z37 Y1 Yc).Z)]) []:=by
 refine fnS E0Ok Z1 (c:=X0 f93) [] (.agg [.f .f32 (fop .sub .f32 (fop .mul .f32 Y1.Y Yc.Z) (fop .mul .f32 Y1.Z Yc.Y)), .f .f32 (fop .sub .f32 (fop .mul .f32 Y1.Z Yc.X) (fop .mul .f32 Y1.X Yc.Z)), .f .f32 (fop .sub .f32 (fop .mul .f32 Y1.X Yc.Y) (fop .mul .f32 Y1.Y Yc.X))]) [] func93 (sK [] sN) rfl (by kernel_rfl) (by kernel_rfl) rfl ?_ ?_
 · rfl
 · rfl
def Z56 (Y1:Gv) (Yc:Gv):Nat:=(fop .add .f32 (fop .add .f32 (fop .mul .f32 Y1.X Yc.X) (fop .mul .f32 Y1.Y Yc.Y)) (fop .mul .f32 Y1.Z Yc.Z))
theorem Z75 (Y1:Gv) (Yc:Gv)   : Fn prog 92 [.agg [.f .f32 Y1.X, .f .f32 Y1.Y, .f .f32 Y1.Z], .agg [.f .f32 Yc.X, .f .f32 Yc.Y, .f .f32 Yc.Z]] (.f .f32 (Z56 Y1 Yc)) []:=by
 refine fnS E0Ok Z1 (c:=X0 f92) [] (.f .f32 (fop .add .f32 (fop .add .f32 (fop .mul .f32 Y1.X Yc.X) (fop .mul .f32 Y1.Y Yc.Y)) (fop .mul .f32 Y1.Z Yc.Z))) [] func92 (sK [] sN) rfl (by kernel_rfl) (by kernel_rfl) rfl ?_ ?_
 · rfl
 · rfl
def Z4j (Y0:Gm) (Y3:Int):Gv:=(Z37 (Y0.Pq.getD ((Y0.Tr.getD Y3.toNat default).getD 1 default).toNat default) (Y0.Pq.getD ((Y0.Tr.getD Y3.toNat default).getD 2 default).toNat default))
def Z31 (Y0:Gm) (Y3:Int):Nat:=(fop .quo .f32 (Z56 (Y0.Pq.getD ((Y0.Tr.getD Y3.toNat default).getD 0 default).toNat default) (Z4j Y0 Y3)) 1086324736)
def ZS (Y0:Gm):Nat→Nat→Int→Nat
  | 0,_,_=>default
  | k + 1,Yr,Y3=>(cond (decide (Y3 < (Y0.Tr.length:Int)))
    (ZS Y0 k (fop .add .f32 Yr (Z31 Y0 Y3)) (Y3 + 1))
    Yr)
def Z32 (Y0:Gm) (r:Nat):Ex × St:=((.exit 0),⟨.any :: .any :: .f .f32 0 :: .f .f32 r :: an 51 [],[]⟩)
def Z5W (Y0:Gm) (Yr:Nat) (Y3:Int):St:=⟨.ref (Gm.c Y0) 0 :: .any :: .f .f32 0 :: .f .f32 Yr :: .i .i64 Y3 :: an 50 [],[]⟩
theorem Z5X (Y0:Gm) (hp0:Y0.Pq.length≤1073741824) (hp1:Y0.Tr.length≤1073741824) (hp2:∀ t∈Y0.Tr,t.length≤1073741824) (hp3:X7 Y0.Pq.length Y0.Tr):∀ (k:Nat) (Yr:Nat) (Y3:Int) (ZP:0≤Y3) (hk:((Y0.Tr.length:Int) - Y3).toNat < k),Lp prog 0 (sub (X0 f42) [1,1,0,1,0,0]) (Z5W Y0 Yr Y3) (Z32 Y0 (ZS Y0 k Yr Y3)).1 (Z32 Y0 (ZS Y0 k Yr Y3)).2:=by
 intro k
 induction k with
 | zero=>intro Yr Y3 ZP hk;exact absurd hk (Nat.not_lt_zero _)
 | succ k ih =>
  intro Yr Y3 ZP hk
  have p {a C} (s:Scr a C):=sZ (cL (cI .i64)) Y0.Tr<|s
  cases Ye:(decide (Y3 < (Y0.Tr.length:Int))) with
  | true =>
   have Yt:=odt Ye
   have Y9:(0:Int)≤Y3:=by clear p;exact (by assumption)
   have Yz:Y3 < (Y0.Tr.length:Int):=by clear p;exact (by assumption)
   have YA:(0:Int)≤0:=by clear p;exact (by omega)
   have YD:0 < ((Y0.Tr.getD Y3.toNat default).length:Int):=by clear p;exact (by have q:=X7.at hp3 ZP (odt Ye);omega)
   have YG:(0:Int)≤((Y0.Tr.getD Y3.toNat default).getD 0 default):=by clear p;exact (by have q:=X7.at hp3 ZP (odt Ye);omega)
   have YM:((Y0.Tr.getD Y3.toNat default).getD 0 default) < (Y0.Pq.length:Int):=by clear p;exact (by have q:=X7.at hp3 ZP (odt Ye);omega)
   have YU:(0:Int)≤1:=by clear p;exact (by omega)
   have y_7:1 < ((Y0.Tr.getD Y3.toNat default).length:Int):=by clear p;exact (by have q:=X7.at hp3 ZP (odt Ye);omega)
   have y_8:(0:Int)≤((Y0.Tr.getD Y3.toNat default).getD 1 default):=by clear p;exact (by have q:=X7.at hp3 ZP (odt Ye);omega)
   have y_9:((Y0.Tr.getD Y3.toNat default).getD 1 default) < (Y0.Pq.length:Int):=by clear p;exact (by have q:=X7.at hp3 ZP (odt Ye);omega)
   have YZ:(0:Int)≤2:=by clear p;exact (by omega)
   have Y10:2 < ((Y0.Tr.getD Y3.toNat default).length:Int):=by clear p;exact (by have q:=X7.at hp3 ZP (odt Ye);omega)
   have Y11:(0:Int)≤((Y0.Tr.getD Y3.toNat default).getD 2 default):=by clear p;exact (by have q:=X7.at hp3 ZP (odt Ye);omega)
   have Y12:((Y0.Tr.getD Y3.toNat default).getD 2 default) < (Y0.Pq.length:Int):=by clear p;exact (by have q:=X7.at hp3 ZP (odt Ye);omega)
   have Y13:(-9223372036854775808:Int)≤(Y3 + 1):=by clear p;exact (by omega)
   have Y14:(Y3 + 1)≤(9223372036854775807:Int):=by clear p;exact (by omega)
   have e:ZS Y0 (k + 1) Yr Y3=(ZS Y0 k (fop .add .f32 Yr (Z31 Y0 Y3)) (Y3 + 1)):=by simp only [ZS,Ye,cond_true]
   rw [e]
   exact Xo E0Ok Z1 [] (mR false [0,1,1,3,50]) [] (ih (fop .add .f32 Yr (Z31 Y0 Y3)) (Y3 + 1) (show 0≤(Y3 + 1) from (by omega)) (by omega)) (p (sB Ye<|sG (cL (cI .i64)) Y0.Tr Y3 Y9 Yz<|sK [31,31]<|sG (cI .i64) (Y0.Tr.getD Y3.toNat default) 0 YA YD<|sG Gv.c Y0.Pq ((Y0.Tr.getD Y3.toNat default).getD 0 default) YG YM<|sG (cI .i64) (Y0.Tr.getD Y3.toNat default) 1 YU y_7<|sG Gv.c Y0.Pq ((Y0.Tr.getD Y3.toNat default).getD 1 default) y_8 y_9<|sG (cI .i64) (Y0.Tr.getD Y3.toNat default) 2 YZ Y10<|sG Gv.c Y0.Pq ((Y0.Tr.getD Y3.toNat default).getD 2 default) Y11 Y12<|sF (Z74 (Y0.Pq.getD ((Y0.Tr.getD Y3.toNat default).getD 1 default).toNat default) (Y0.Pq.getD ((Y0.Tr.getD Y3.toNat default).getD 2 default).toNat default))<|sF (Z75 (Y0.Pq.getD ((Y0.Tr.getD Y3.toNat default).getD 0 default).toNat default) (Z4j Y0 Y3))<|sI (Y3 + 1) Y13 Y14<|sN)) (by kernel_rfl)
  | false =>
   have Yt:=odf Ye
   have e:ZS Y0 (k + 1) Yr Y3=Yr:=by simp only [ZS,Ye,cond_false]
   rw [e]
   exact outR (e:=(.exit 0)) E0Ok Z1 [] (mR false [2,2,51]) [] (p (sB Ye<|sN)) (by kernel_rfl) (by intro h;cases h)
def Z1T (Y0:Gm):Nat:=(ZS Y0 (((Y0.Tr.length:Int) - 0).toNat + 1) 0 0)
def Z4 (Y0:Gm):Nat:=(Z1T Y0)
theorem Z4V (Y0:Gm) (hp0:Y0.Pq.length≤1073741824) (hp1:Y0.Tr.length≤1073741824) (hp2:∀ t∈Y0.Tr,t.length≤1073741824) (hp3:X7 Y0.Pq.length Y0.Tr)  : Fn prog 42 [.ref (Gm.c Y0) 0] (.f .f32 (Z4 Y0)) []:=by
 refine fnS E0Ok Z1 (c:=X0 f42) [] (.f .f32 (Z1T Y0)) [] func42 (sL (mR false [0,1,1,3,50]) 0 (X4 (Z32 Y0) (x:=(Z1T Y0)) (Z5X Y0 hp0 hp1 hp2 hp3 (((Y0.Tr.length:Int) - 0).toNat + 1) 0 0 (show 0≤0 from (by omega)) (Nat.lt_succ_self _)) rfl)<|sK [] sN) rfl (by kernel_rfl) (by kernel_rfl) rfl ?_ ?_
 · rfl
 · rfl
def ZN  : Nat:=(cn .f64 (Int.toNat 9221120237041090561))
theorem Z4N    : Fn prog 88 [] (.f .f64 (ZN)) []:=by
 have y0:Int.toNat 9221120237041090561 < 2 ^ 64:=(by omega)
 refine fnS E0Ok Z1 (c:=X0 f88) [] (.f .f64 (cn .f64 (Int.toNat 9221120237041090561))) [] func88 (sC y0<|sK [] sN) rfl (by kernel_rfl) (by kernel_rfl) rfl ?_ ?_
 · rfl
 · rfl
def Z1a (YL:Int):Nat:=(cond (decide (YL ≥ 0))
  (cn .f64 (Int.toNat 9218868437227405312))
  (cn .f64 (Int.toNat 18442240474082181120)))
theorem Z4O (YL:Int)   : Fn prog 87 [.i .i64 YL] (.f .f64 (Z1a YL)) []:=by
 cases h0:(decide (YL ≥ 0)) with
 | true =>
  have gh0:=odt h0
  have y0:Int.toNat 9218868437227405312 < 2 ^ 64:=(by omega)
  refine fnS E0Ok Z1 (c:=X0 f87) [] (.f .f64 (cn .f64 (Int.toNat 9218868437227405312))) [] func87 (sB h0<|sC y0<|sK [] sN) rfl (by kernel_rfl) (by kernel_rfl) rfl ?_ ?_
  · simp only [Z1a,h0,cond_true]
  · rfl
 | false =>
  have gh0:=odf h0
  have y0:Int.toNat 18442240474082181120 < 2 ^ 64:=(by omega)
  refine fnS E0Ok Z1 (c:=X0 f87) [] (.f .f64 (cn .f64 (Int.toNat 18442240474082181120))) [] func87 (sB h0<|sC y0<|sK [] sN) rfl (by kernel_rfl) (by kernel_rfl) rfl ?_ ?_
  · simp only [Z1a,h0,cond_false]
  · rfl
def Z5w (Yb:Nat):Nat:=(cn .f64 (Int.toNat (bitsOf .andNot .u64 ((Yb:Nat):Int) 9223372036854775808)))
theorem Z86 (Yb:Nat) (hp0:X9 .f64 Yb=false)  : Fn prog 126 [.f .f64 Yb] (.f .f64 (Z5w Yb)) []:=by
 have y0:Int.toNat (bitsOf .andNot .u64 ((Yb:Nat):Int) 9223372036854775808) < 2 ^ 64:=(by (have q:=X5S ((Yb:Nat):Int) 9223372036854775808;omega))
 refine fnS E0Ok Z1 (c:=X0 f126) [] (.f .f64 (cn .f64 (Int.toNat (bitsOf .andNot .u64 ((Yb:Nat):Int) 9223372036854775808)))) [] func126 (sC (show X9 .f64 Yb=false from (by assumption))<|sQ (bitsOf .andNot .u64 ((Yb:Nat):Int) 9223372036854775808)<|sC y0<|sK [] sN) rfl (by kernel_rfl) (by kernel_rfl) rfl ?_ ?_
 · rfl
 · rfl
def ZF (YV:Nat) (YI:Int):Bool:=(cond (YI == 0)
  (fcmp .gtr .f64 (Z5w YV) 9218868437227405311)
  (cond (decide (YI < 0))
    (fcmp .gtr .f64 (fneg .f64 YV) 9218868437227405311)
    (fcmp .gtr .f64 YV 9218868437227405311)))
theorem Z7K (YV:Nat) (YI:Int) (hp0:X9 .f64 YV=false)  : Fn prog 116 [.f .f64 YV, .i .i64 YI] (.b (ZF YV YI)) []:=by
 cases h0:(YI == 0) with
 | true =>
  have gh0:=eq_of_beq h0
  refine fnS E0Ok Z1 (c:=X0 f116) [] (.b (fcmp .gtr .f64 (Z5w YV) 9218868437227405311)) [] func116 (sB h0<|sF (Z86 YV hp0)<|sK [] sN) rfl (by kernel_rfl) (by kernel_rfl) rfl ?_ ?_
  · simp only [ZF,h0,cond_true]
  · rfl
 | false =>
  have gh0:=ne_of_beq_false h0
  have p {a C} (s:Scr a C):=sB h0<|s
  cases h1:(decide (YI < 0)) with
  | true =>
   have gh1:=odt h1
   refine fnS E0Ok Z1 (c:=X0 f116) [] (.b (fcmp .gtr .f64 (fneg .f64 YV) 9218868437227405311)) [] func116 (p (sB h1<|sK [] sN)) rfl (by kernel_rfl) (by kernel_rfl) rfl ?_ ?_
   · simp only [ZF,h0,h1,cond_true,cond_false]
   · rfl
  | false =>
   have gh1:=odf h1
   refine fnS E0Ok Z1 (c:=X0 f116) [] (.b (fcmp .gtr .f64 YV 9218868437227405311)) [] func116 (p (sB h1<|sK [] sN)) rfl (by kernel_rfl) (by kernel_rfl) rfl ?_ ?_
   · simp only [ZF,h0,h1,cond_false]
   · rfl
def Zl (Y9:Nat):Nat→Nat→Int→Nat × Int
  | 0,_,_=>default
  | k + 1,Yv,Ym=>(cond (fcmp .geq .f64 Yv 4609434218613702656)
    (Zl Y9 k (fop .quo .f64 Yv 4611686018427387904) (Ym + 1))
    (Yv,Ym))
def Z2G (Y9:Nat) (r:Nat × Int):Ex × St:=((.exit 1),⟨.f .f64 r.1 :: .any :: .f .f64 0 :: .i .i64 r.2 :: an 4 (.b (fcmp .lss .f64 Y9 0) :: .f .f64 Y9 :: .f .f64 Y9 :: .b (fcmp .neq .f64 Y9 Y9) :: .b (fcmp .neq .f64 Y9 Y9) :: .f .f64 Y9 :: .b (fcmp .lss .f64 Y9 0) :: .b (fcmp .lss .f64 Y9 0) :: .any :: .b (fcmp .eql .f64 Y9 0) :: .f .f64 Y9 :: .b (fcmp .eql .f64 Y9 0) :: .any :: .b (ZF Y9 1) :: .f .f64 Y9 :: .b (ZF Y9 1) :: an 40 []),[]⟩)
def Z5x (Y9:Nat) (Yv:Nat) (Ym:Int):St:=⟨.f .f64 Yv :: .any :: .f .f64 0 :: .i .i64 Ym :: an 4 (.b (fcmp .lss .f64 Y9 0) :: .f .f64 Y9 :: .f .f64 Y9 :: .b (fcmp .neq .f64 Y9 Y9) :: .b (fcmp .neq .f64 Y9 Y9) :: .f .f64 Y9 :: .b (fcmp .lss .f64 Y9 0) :: .b (fcmp .lss .f64 Y9 0) :: .any :: .b (fcmp .eql .f64 Y9 0) :: .f .f64 Y9 :: .b (fcmp .eql .f64 Y9 0) :: .any :: .b (ZF Y9 1) :: .f .f64 Y9 :: .b (ZF Y9 1) :: an 40 []),[]⟩
def Z2r:List Bool:=(mR false [0,1,1,2,4,8,1,3,1,3,40])
theorem Z5y (Y9:Nat) (hp0:∃ x:Nat,Y9=fcv .f32 .f64 x):∀ (k:Nat) (Yv:Nat) (Ym:Int) (Z3n:0≤Ym) (Z3o:Nw Yv) (Z3p:Ym + (fld Yv:Int)=(fld Y9:Int)) (Z3q:800≤fld Y9) (Z3r:fld Y9≤1200) (hk:fld Yv < k),Lp prog 0 (sub (X0 f86) [1,1,1,0,0,0]) (Z5x Y9 Yv Ym) (Z2G Y9 (Zl Y9 k Yv Ym)).1 (Z2G Y9 (Zl Y9 k Yv Ym)).2:=by
 intro k
 induction k with
 | zero=>intro Yv Ym Z3n Z3o Z3p Z3q Z3r hk;exact absurd hk (Nat.not_lt_zero _)
 | succ k ih =>
  intro Yv Ym Z3n Z3o Z3p Z3q Z3r hk
  cases Ye:(fcmp .geq .f64 Yv 4609434218613702656) with
  | true =>
   have YO:(-9223372036854775808:Int)≤(Ym + 1):=(by omega)
   have YP:(Ym + 1)≤(9223372036854775807:Int):=(by omega)
   have e:Zl Y9 (k + 1) Yv Ym=(Zl Y9 k (fop .quo .f64 Yv 4611686018427387904) (Ym + 1)):=by simp only [Zl,Ye,cond_true]
   rw [e]
   exact Xo E0Ok Z1 [] Z2r [] (ih (fop .quo .f64 Yv 4611686018427387904) (Ym + 1) (show 0≤(Ym + 1) from (by omega)) (show Nw (fop .quo .f64 Yv 4611686018427387904) from (by have g:=XW (by assumption) Ye;have w:=XY (by assumption) g;rw [XV (by assumption) (by omega)];exact w.1)) (show (Ym + 1) + (fld (fop .quo .f64 Yv 4611686018427387904):Int)=(fld Y9:Int) from (by have g:=XW (by assumption) Ye;have w:=XY (by assumption) g;rw [XV (by assumption) (by omega)];(rw [w.2];omega))) (show 800≤fld Y9 from (by assumption)) (show fld Y9≤1200 from (by assumption)) (by have g:=XW (by assumption) Ye;have w:=XY (by assumption) g;rw [XV (by assumption) (by omega)];(rw [w.2];omega))) (sB Ye<|sI (Ym + 1) YO YP<|sN) (by kernel_rfl)
  | false =>
   have e:Zl Y9 (k + 1) Yv Ym=(Yv,Ym):=by simp only [Zl,Ye,cond_false]
   rw [e]
   exact outR (e:=(.exit 1)) E0Ok Z1 [] Z2r [] (sB Ye<|sN) (by kernel_rfl) (by intro h;cases h)
def Zb (Y9:Nat):Nat × Int:=(Zl Y9 (fld Y9 + 1) Y9 0)
theorem Z2R {y:Nat} (h:∃ x,y=fcv .f32 .f64 x) (h0:fcmp .neq .f64 y y=false) (h1:fcmp .lss .f64 y 0=false) (h2:fcmp .eql .f64 y 0=false) (h3:ZF y 1=false):Nw y∧800≤fld y∧fld y≤1200:=by
  obtain ⟨x,rfl⟩:=h
  exact X3I h0 h1 h2 h3
theorem Z8l (y0:Nat):∀ (k y:Nat) (e:Int),fld y < k→Nw y→Nw (Zl y0 k y e).1∧(Zl y0 k y e).2 + (fld (Zl y0 k y e).1:Int)=e + (fld y:Int)∧fld (Zl y0 k y e).1≤1023:=by
  intro k
  induction k with
  | zero=>intro y e hk;exact absurd hk (Nat.not_lt_zero _)
  | succ k ih =>
    intro y e hk hw
    rw [Zl]
    cases h:fcmp .geq .f64 y 4609434218613702656 with
    | false=>rw [cond_false];exact ⟨hw,rfl,X7L hw h⟩
    | true =>
      have g:=XW hw h
      have w:=XY hw g
      rw [cond_true,XV hw (by omega)]
      obtain ⟨a,b,c⟩:=ih (y - 4503599627370496) (e + 1) (by omega) w.1
      exact ⟨a,by omega,c⟩
theorem Z5o (y:Nat) (hw:Nw y):Nw (Zb y).1∧(Zb y).2 + (fld (Zb y).1:Int)=(fld y:Int)∧fld (Zb y).1≤1023:=by
  obtain ⟨a,b,c⟩:=Z8l y (fld y + 1) y 0 (Nat.lt_succ_self _) hw
  rw [Int.zero_add] at b
  exact ⟨a,b,c⟩
def Zn (Y9:Nat):Nat→Nat→Int→Nat × Int
  | 0,_,_=>default
  | k + 1,Yv,Ym=>(cond (fcmp .lss .f64 Yv 4604930618986332160)
    (Zn Y9 k (fop .mul .f64 Yv 4611686018427387904) (Ym - 1))
    (Yv,Ym))
def Z2H (Y9:Nat) (r:Nat × Int):Ex × St:=((.exit 3),⟨.f .f64 r.1 :: .any :: .f .f64 0 :: .i .i64 r.2 :: an 4 (.b (fcmp .lss .f64 Y9 0) :: .f .f64 Y9 :: .f .f64 Y9 :: .b (fcmp .neq .f64 Y9 Y9) :: .b (fcmp .neq .f64 Y9 Y9) :: .f .f64 Y9 :: .b (fcmp .lss .f64 Y9 0) :: .b (fcmp .lss .f64 Y9 0) :: .any :: .b (fcmp .eql .f64 Y9 0) :: .f .f64 Y9 :: .b (fcmp .eql .f64 Y9 0) :: .any :: .b (ZF Y9 1) :: .f .f64 Y9 :: .b (ZF Y9 1) :: an 40 []),[]⟩)
def Z5z (Y9:Nat) (Yv:Nat) (Ym:Int):St:=⟨.f .f64 Yv :: .any :: .f .f64 0 :: .i .i64 Ym :: an 4 (.b (fcmp .lss .f64 Y9 0) :: .f .f64 Y9 :: .f .f64 Y9 :: .b (fcmp .neq .f64 Y9 Y9) :: .b (fcmp .neq .f64 Y9 Y9) :: .f .f64 Y9 :: .b (fcmp .lss .f64 Y9 0) :: .b (fcmp .lss .f64 Y9 0) :: .any :: .b (fcmp .eql .f64 Y9 0) :: .f .f64 Y9 :: .b (fcmp .eql .f64 Y9 0) :: .any :: .b (ZF Y9 1) :: .f .f64 Y9 :: .b (ZF Y9 1) :: an 40 []),[]⟩
def Z2s:List Bool:=(mR false [0,1,1,2,4,8,1,3,1,3,40])
theorem Z5A (Y9:Nat) (hp0:∃ x:Nat,Y9=fcv .f32 .f64 x):∀ (k:Nat) (Yv:Nat) (Ym:Int) (Z3s:Nw Yv) (Z3t:Ym + (fld Yv:Int)=(fld Y9:Int)) (Z3u:800≤fld Y9) (Z3v:fld Y9≤1200) (Z3w:fld Yv≤1023) (hk:(1023 - fld Yv:Nat) < k),Lp prog 0 (sub (X0 f86) [1,1,1,1,0,0,0]) (Z5z Y9 Yv Ym) (Z2H Y9 (Zn Y9 k Yv Ym)).1 (Z2H Y9 (Zn Y9 k Yv Ym)).2:=by
 intro k
 induction k with
 | zero=>intro Yv Ym Z3s Z3t Z3u Z3v Z3w hk;exact absurd hk (Nat.not_lt_zero _)
 | succ k ih =>
  intro Yv Ym Z3s Z3t Z3u Z3v Z3w hk
  cases Ye:(fcmp .lss .f64 Yv 4604930618986332160) with
  | true =>
   have YO:(-9223372036854775808:Int)≤(Ym - 1):=(by omega)
   have YP:(Ym - 1)≤(9223372036854775807:Int):=(by omega)
   have e:Zn Y9 (k + 1) Yv Ym=(Zn Y9 k (fop .mul .f64 Yv 4611686018427387904) (Ym - 1)):=by simp only [Zn,Ye,cond_true]
   rw [e]
   exact Xo E0Ok Z1 [] Z2s [] (ih (fop .mul .f64 Yv 4611686018427387904) (Ym - 1) (show Nw (fop .mul .f64 Yv 4611686018427387904) from (by have g:=XX (by assumption) Ye;have w:=X1d (by assumption) g;rw [X1c (by assumption) (by omega)];exact w.1)) (show (Ym - 1) + (fld (fop .mul .f64 Yv 4611686018427387904):Int)=(fld Y9:Int) from (by have g:=XX (by assumption) Ye;have w:=X1d (by assumption) g;rw [X1c (by assumption) (by omega)];(rw [w.2];omega))) (show 800≤fld Y9 from (by assumption)) (show fld Y9≤1200 from (by assumption)) (show fld (fop .mul .f64 Yv 4611686018427387904)≤1023 from (by have g:=XX (by assumption) Ye;have w:=X1d (by assumption) g;rw [X1c (by assumption) (by omega)];(rw [w.2];omega))) (by have g:=XX (by assumption) Ye;have w:=X1d (by assumption) g;rw [X1c (by assumption) (by omega)];(rw [w.2];omega))) (sB Ye<|sI (Ym - 1) YO YP<|sN) (by kernel_rfl)
  | false =>
   have e:Zn Y9 (k + 1) Yv Ym=(Yv,Ym):=by simp only [Zn,Ye,cond_false]
   rw [e]
   exact outR (e:=(.exit 3)) E0Ok Z1 [] Z2s [] (sB Ye<|sN) (by kernel_rfl) (by intro h;cases h)
def Z0 (Y9:Nat):Nat × Int:=(Zn Y9 ((1023 - fld ((Zb Y9).1):Nat) + 1) ((Zb Y9).1) ((Zb Y9).2))
theorem Z8m (y0:Nat):∀ (k y:Nat) (e:Int),1023 - fld y < k→Nw y→fld y≤1023→Nw (Zn y0 k y e).1∧(Zn y0 k y e).2 + (fld (Zn y0 k y e).1:Int)=e + (fld y:Int)∧1022≤fld (Zn y0 k y e).1∧fld (Zn y0 k y e).1≤1023:=by
  intro k
  induction k with
  | zero=>intro y e hk;exact absurd hk (Nat.not_lt_zero _)
  | succ k ih =>
    intro y e hk hw hl
    rw [Zn]
    cases h:fcmp .lss .f64 y 4604930618986332160 with
    | false=>rw [cond_false];exact ⟨hw,rfl,X7M hw h,hl⟩
    | true =>
      have g:=XX hw h
      have w:=X1d hw g
      rw [cond_true,X1c hw (by omega)]
      obtain ⟨a,b,c⟩:=ih (y + 4503599627370496) (e - 1) (by omega) w.1 (by omega)
      exact ⟨a,by omega,c⟩
theorem Z7Z (y:Nat) (hw:Nw y):Nw (Z0 y).1∧(Z0 y).2 + (fld (Z0 y).1:Int)=(fld y:Int)∧1022≤fld (Z0 y).1∧fld (Z0 y).1≤1023:=by
  obtain ⟨a,b,c⟩:=Z5o y hw
  obtain ⟨d,e,f⟩:=Z8m y (1023 - fld (Zb y).1 + 1) (Zb y).1 (Zb y).2 (Nat.lt_succ_self _) a c
  rw [b] at e
  exact ⟨d,e,f⟩
def ZA (Y9:Nat):Nat→Nat→Int→Nat
  | 0,_,_=>default
  | k + 1,Yx,Yg=>(cond (decide (Yg ≥ 1))
    (ZA Y9 k (fop .add .f64 (fop .quo .f64 4607182418800017408 (X1 .f64 Yg)) (fop .mul .f64 (fop .mul .f64 (fop .quo .f64 (fop .sub .f64 ((Z0 Y9).1) 4607182418800017408) (fop .add .f64 ((Z0 Y9).1) 4607182418800017408)) (fop .quo .f64 (fop .sub .f64 ((Z0 Y9).1) 4607182418800017408) (fop .add .f64 ((Z0 Y9).1) 4607182418800017408))) Yx)) (Yg - 2))
    Yx)
def Z2I (Y9:Nat) (r:Nat):Ex × St:=((.exit 5),⟨.f .f64 ((Z0 Y9).1) :: .any :: .f .f64 0 :: .i .i64 ((Z0 Y9).2) :: .f .f64 (fop .quo .f64 (fop .sub .f64 ((Z0 Y9).1) 4607182418800017408) (fop .add .f64 ((Z0 Y9).1) 4607182418800017408)) :: .any :: .f .f64 r :: .any :: .b (fcmp .lss .f64 Y9 0) :: .f .f64 Y9 :: .f .f64 Y9 :: .b (fcmp .neq .f64 Y9 Y9) :: .b (fcmp .neq .f64 Y9 Y9) :: .f .f64 Y9 :: .b (fcmp .lss .f64 Y9 0) :: .b (fcmp .lss .f64 Y9 0) :: .any :: .b (fcmp .eql .f64 Y9 0) :: .f .f64 Y9 :: .b (fcmp .eql .f64 Y9 0) :: .any :: .b (ZF Y9 1) :: .f .f64 Y9 :: .b (ZF Y9 1) :: an 13 (.f .f64 ((Z0 Y9).1) :: .f .f64 (fop .sub .f64 ((Z0 Y9).1) 4607182418800017408) :: .f .f64 ((Z0 Y9).1) :: .f .f64 (fop .add .f64 ((Z0 Y9).1) 4607182418800017408) :: .f .f64 (fop .quo .f64 (fop .sub .f64 ((Z0 Y9).1) 4607182418800017408) (fop .add .f64 ((Z0 Y9).1) 4607182418800017408)) :: .f .f64 (fop .quo .f64 (fop .sub .f64 ((Z0 Y9).1) 4607182418800017408) (fop .add .f64 ((Z0 Y9).1) 4607182418800017408)) :: .f .f64 (fop .quo .f64 (fop .sub .f64 ((Z0 Y9).1) 4607182418800017408) (fop .add .f64 ((Z0 Y9).1) 4607182418800017408)) :: .f .f64 (fop .mul .f64 (fop .quo .f64 (fop .sub .f64 ((Z0 Y9).1) 4607182418800017408) (fop .add .f64 ((Z0 Y9).1) 4607182418800017408)) (fop .quo .f64 (fop .sub .f64 ((Z0 Y9).1) 4607182418800017408) (fop .add .f64 ((Z0 Y9).1) 4607182418800017408))) :: an 19 []),[]⟩)
def Z5B (Y9:Nat) (Yx:Nat) (Yg:Int):St:=⟨.f .f64 ((Z0 Y9).1) :: .any :: .f .f64 0 :: .i .i64 ((Z0 Y9).2) :: .f .f64 (fop .quo .f64 (fop .sub .f64 ((Z0 Y9).1) 4607182418800017408) (fop .add .f64 ((Z0 Y9).1) 4607182418800017408)) :: .f .f64 (fop .mul .f64 (fop .quo .f64 (fop .sub .f64 ((Z0 Y9).1) 4607182418800017408) (fop .add .f64 ((Z0 Y9).1) 4607182418800017408)) (fop .quo .f64 (fop .sub .f64 ((Z0 Y9).1) 4607182418800017408) (fop .add .f64 ((Z0 Y9).1) 4607182418800017408))) :: .f .f64 Yx :: .i .i64 Yg :: .b (fcmp .lss .f64 Y9 0) :: .f .f64 Y9 :: .f .f64 Y9 :: .b (fcmp .neq .f64 Y9 Y9) :: .b (fcmp .neq .f64 Y9 Y9) :: .f .f64 Y9 :: .b (fcmp .lss .f64 Y9 0) :: .b (fcmp .lss .f64 Y9 0) :: .any :: .b (fcmp .eql .f64 Y9 0) :: .f .f64 Y9 :: .b (fcmp .eql .f64 Y9 0) :: .any :: .b (ZF Y9 1) :: .f .f64 Y9 :: .b (ZF Y9 1) :: an 13 (.f .f64 ((Z0 Y9).1) :: .f .f64 (fop .sub .f64 ((Z0 Y9).1) 4607182418800017408) :: .f .f64 ((Z0 Y9).1) :: .f .f64 (fop .add .f64 ((Z0 Y9).1) 4607182418800017408) :: .f .f64 (fop .quo .f64 (fop .sub .f64 ((Z0 Y9).1) 4607182418800017408) (fop .add .f64 ((Z0 Y9).1) 4607182418800017408)) :: .f .f64 (fop .quo .f64 (fop .sub .f64 ((Z0 Y9).1) 4607182418800017408) (fop .add .f64 ((Z0 Y9).1) 4607182418800017408)) :: .f .f64 (fop .quo .f64 (fop .sub .f64 ((Z0 Y9).1) 4607182418800017408) (fop .add .f64 ((Z0 Y9).1) 4607182418800017408)) :: .f .f64 (fop .mul .f64 (fop .quo .f64 (fop .sub .f64 ((Z0 Y9).1) 4607182418800017408) (fop .add .f64 ((Z0 Y9).1) 4607182418800017408)) (fop .quo .f64 (fop .sub .f64 ((Z0 Y9).1) 4607182418800017408) (fop .add .f64 ((Z0 Y9).1) 4607182418800017408))) :: an 19 []),[]⟩
def Z3x:List Bool:=(mR false [0,1,1,14,1,3,1,3,13,8,19])
def Z5c:List Bool:=(mR false [0,1,1,3,1,1,1,8,1,3,1,3,13,8,19])
theorem Z5C (Y9:Nat) (hp0:∃ x:Nat,Y9=fcv .f32 .f64 x):∀ (k:Nat) (Yx:Nat) (Yg:Int) (Z3y:-1≤Yg) (Z3z:Yg≤25) (hk:(Yg + 1:Int).toNat + Y9 < k),Lp prog 0 (sub (X0 f86) [1,1,1,1,1,1,1,1,0,1,0,0]) (Z5B Y9 Yx Yg) (Z2I Y9 (ZA Y9 k Yx Yg)).1 (Z2I Y9 (ZA Y9 k Yx Yg)).2:=by
 intro k
 induction k with
 | zero=>intro Yx Yg Z3y Z3z hk;exact absurd hk (Nat.not_lt_zero _)
 | succ k ih =>
  intro Yx Yg Z3y Z3z hk
  cases Ye:(decide (Yg ≥ 1)) with
  | true =>
   have Yt:=odt Ye
   have YO:(-9223372036854775808:Int)≤(Yg - 2):=(by omega)
   have YP:(Yg - 2)≤(9223372036854775807:Int):=(by omega)
   have e:ZA Y9 (k + 1) Yx Yg=(ZA Y9 k (fop .add .f64 (fop .quo .f64 4607182418800017408 (X1 .f64 Yg)) (fop .mul .f64 (fop .mul .f64 (fop .quo .f64 (fop .sub .f64 ((Z0 Y9).1) 4607182418800017408) (fop .add .f64 ((Z0 Y9).1) 4607182418800017408)) (fop .quo .f64 (fop .sub .f64 ((Z0 Y9).1) 4607182418800017408) (fop .add .f64 ((Z0 Y9).1) 4607182418800017408))) Yx)) (Yg - 2)):=by simp only [ZA,Ye,cond_true]
   rw [e]
   exact Xo E0Ok Z1 [] Z3x [] (ih (fop .add .f64 (fop .quo .f64 4607182418800017408 (X1 .f64 Yg)) (fop .mul .f64 (fop .mul .f64 (fop .quo .f64 (fop .sub .f64 ((Z0 Y9).1) 4607182418800017408) (fop .add .f64 ((Z0 Y9).1) 4607182418800017408)) (fop .quo .f64 (fop .sub .f64 ((Z0 Y9).1) 4607182418800017408) (fop .add .f64 ((Z0 Y9).1) 4607182418800017408))) Yx)) (Yg - 2) (show -1≤(Yg - 2) from (by omega)) (show (Yg - 2)≤25 from (by omega)) (by omega)) (sB Ye<|sI (Yg - 2) YO YP<|sN) (by kernel_rfl)
  | false =>
   have Yt:=odf Ye
   have e:ZA Y9 (k + 1) Yx Yg=Yx:=by simp only [ZA,Ye,cond_false]
   rw [e]
   exact outR (e:=(.exit 5)) E0Ok Z1 [] Z5c [] (sB Ye<|sN) (by kernel_rfl) (by intro h;cases h)
def Z1h (Y9:Nat):Nat:=(ZA Y9 ((25 + 1:Int).toNat + Y9 + 1) 0 25)
def Z7 (Y9:Nat):Nat:=(cond (fcmp .neq .f64 Y9 Y9)
  (ZN)
  (cond (fcmp .lss .f64 Y9 0)
    (ZN)
    (cond (fcmp .eql .f64 Y9 0)
      (Z1a (-1))
      (cond (ZF Y9 1)
        Y9
        (fop .add .f64 (fop .mul .f64 4611686018427387904 (fop .mul .f64 (fop .quo .f64 (fop .sub .f64 ((Z0 Y9).1) 4607182418800017408) (fop .add .f64 ((Z0 Y9).1) 4607182418800017408)) (Z1h Y9))) (fop .mul .f64 (X1 .f64 ((Z0 Y9).2)) 4604418534313441775))))))
theorem Z6m (Y9:Nat) (hp0:∃ x:Nat,Y9=fcv .f32 .f64 x)  : Fn prog 86 [.f .f64 Y9] (.f .f64 (Z7 Y9)) []:=by
 cases h0:(fcmp .neq .f64 Y9 Y9) with
 | true =>
  have hv:Z7 Y9=(ZN):=by unfold Z7;rw [h0,cond_true]
  refine fnS E0Ok Z1 (c:=X0 f86) [] (.f .f64 (ZN)) [] func86 (sB h0<|sB h0<|sB h0<|sB (show true=true from rfl)<|sF (Z4N )<|sK [] sN) rfl (by kernel_rfl) (by kernel_rfl) rfl ?_ ?_
  · rw [hv]
  · rfl
 | false =>
  have p {a C} (s:Scr a C):=sB h0<|sB h0<|sB h0<|s
  cases h1:(fcmp .lss .f64 Y9 0) with
  | true =>
   have hv:Z7 Y9=(ZN):=by unfold Z7;rw [h0,cond_false,h1,cond_true]
   refine fnS E0Ok Z1 (c:=X0 f86) [] (.f .f64 (ZN)) [] func86 (p (sB h1<|sF (Z4N )<|sK [] sN)) rfl (by kernel_rfl) (by kernel_rfl) rfl ?_ ?_
   · rw [hv]
   · rfl
  | false =>
   have q {a C} (s:Scr a C):=p (sB h1<|s)
   clear p
   cases h2:(fcmp .eql .f64 Y9 0) with
   | true =>
    have hv:Z7 Y9=(Z1a (-1)):=by unfold Z7;rw [h0,cond_false,h1,cond_false,h2,cond_true]
    refine fnS E0Ok Z1 (c:=X0 f86) [] (.f .f64 (Z1a (-1))) [] func86 (q (sB h2<|sF (Z4O (-1))<|sK [] sN)) rfl (by kernel_rfl) (by kernel_rfl) rfl ?_ ?_
    · rw [hv]
    · rfl
   | false =>
    have yf0:X9 .f64 Y9=false:=by clear q;exact (by exact X6O h0)
    have p {a C} (s:Scr a C):=q (sB h2<|sF (Z7K Y9 1 yf0)<|s)
    clear q
    cases h3:(ZF Y9 1) with
    | true =>
     have hv:Z7 Y9=Y9:=by unfold Z7;rw [h0,cond_false,h1,cond_false,h2,cond_false,h3,cond_true]
     refine fnS E0Ok Z1 (c:=X0 f86) [] (.f .f64 Y9) [] func86 (p (sB h3<|sK [] sN)) rfl (by kernel_rfl) (by kernel_rfl) rfl ?_ ?_
     · rw [hv]
     · rfl
    | false =>
     have hv:Z7 Y9=(fop .add .f64 (fop .mul .f64 4611686018427387904 (fop .mul .f64 (fop .quo .f64 (fop .sub .f64 ((Z0 Y9).1) 4607182418800017408) (fop .add .f64 ((Z0 Y9).1) 4607182418800017408)) (Z1h Y9))) (fop .mul .f64 (X1 .f64 ((Z0 Y9).2)) 4604418534313441775)):=by unfold Z7;rw [h0,cond_false,h1,cond_false,h2,cond_false,h3,cond_false]
     refine fnS E0Ok Z1 (c:=X0 f86) [] (.f .f64 (fop .add .f64 (fop .mul .f64 4611686018427387904 (fop .mul .f64 (fop .quo .f64 (fop .sub .f64 ((Z0 Y9).1) 4607182418800017408) (fop .add .f64 ((Z0 Y9).1) 4607182418800017408)) (Z1h Y9))) (fop .mul .f64 (X1 .f64 ((Z0 Y9).2)) 4604418534313441775))) [] func86 (p (sB h3<|sL Z2r 0 (X4 (Z2G Y9) (x:=(Zb Y9)) (Z5y Y9 hp0 (fld Y9 + 1) Y9 0 (show 0≤0 from (by have lp_:=Z2R hp0 h0 h1 h2 h3;omega)) (show Nw Y9 from (by have lp_:=Z2R hp0 h0 h1 h2 h3;exact lp_.1)) (show 0 + (fld Y9:Int)=(fld Y9:Int) from (by have lp_:=Z2R hp0 h0 h1 h2 h3;omega)) (show 800≤fld Y9 from (by have lp_:=Z2R hp0 h0 h1 h2 h3;exact lp_.2.1)) (show fld Y9≤1200 from (by have lp_:=Z2R hp0 h0 h1 h2 h3;exact lp_.2.2)) (Nat.lt_succ_self _)) rfl)<|sL Z2s 0 (X4 (Z2H Y9) (x:=(Z0 Y9)) (Z5A Y9 hp0 ((1023 - fld ((Zb Y9).1):Nat) + 1) ((Zb Y9).1) ((Zb Y9).2) (show Nw ((Zb Y9).1) from (by have lp_:=Z2R hp0 h0 h1 h2 h3;exact (Z5o Y9 lp_.1).1)) (show ((Zb Y9).2) + (fld ((Zb Y9).1):Int)=(fld Y9:Int) from (by have lp_:=Z2R hp0 h0 h1 h2 h3;exact (Z5o Y9 lp_.1).2.1)) (show 800≤fld Y9 from (by have lp_:=Z2R hp0 h0 h1 h2 h3;exact lp_.2.1)) (show fld Y9≤1200 from (by have lp_:=Z2R hp0 h0 h1 h2 h3;exact lp_.2.2)) (show fld ((Zb Y9).1)≤1023 from (by have lp_:=Z2R hp0 h0 h1 h2 h3;exact (Z5o Y9 lp_.1).2.2)) (Nat.lt_succ_self _)) rfl)<|sL Z3x 0 (X4 (Z2I Y9) (x:=(Z1h Y9)) (Z5C Y9 hp0 ((25 + 1:Int).toNat + Y9 + 1) 0 25 (show -1≤25 from (by have lp_:=Z2R hp0 h0 h1 h2 h3;omega)) (show 25≤25 from (by have lp_:=Z2R hp0 h0 h1 h2 h3;omega)) (Nat.lt_succ_self _)) rfl)<|sK [] sN)) rfl (by kernel_rfl) (by kernel_rfl) rfl ?_ ?_
     · rw [hv]
     · rfl
theorem Z8n (y:Nat) (hw:Nw y):∀ (n q:Nat) (b:Rat) (k:Int),Vl .f64 q b→-3≤b→b≤3→k≤25→∃ r,Vl .f64 (ZA y n q k) r∧-3≤r∧r≤3:=by
  obtain ⟨a1,-,a3,a4⟩:=Z7Z y hw
  obtain ⟨s,s1,s2,s3⟩:=X7S a1 a3 a4
  obtain ⟨u,u1,u2,u3⟩:=X8E s1 s2 s3
  intro n
  induction n with
  | zero=>intro q b k hq h1 h2 hk;exact ⟨0,by show Vl .f64 0 0;unfold Vl;decide +kernel,by decide +kernel,by decide +kernel⟩
  | succ n ih =>
    intro q b k hq h1 h2 hk
    rw [ZA]
    cases h:decide (k ≥ 1) with
    | false=>exact ⟨b,hq,h1,h2⟩
    | true =>
      have h:=odt h
      obtain ⟨r,r1,r2,r3⟩:=X7N u1 u2 u3 hq h1 h2 h hk
      rw [cond_true]
      exact ih _ _ _ r1 r2 r3 (by omega)
theorem Z7g (y:Nat) (hw:Nw y) (hl:800≤fld y) (hu:fld y≤1200):∃ r,Vl .f64 (fop .add .f64 (fop .mul .f64 4611686018427387904 (fop .mul .f64 (fop .quo .f64 (fop .sub .f64 ((Z0 y).1) 4607182418800017408) (fop .add .f64 ((Z0 y).1) 4607182418800017408)) (Z1h y))) (fop .mul .f64 (X1 .f64 ((Z0 y).2)) 4604418534313441775)) r∧-165≤r∧r≤165:=by
  obtain ⟨a1,a2,a3,a4⟩:=Z7Z y hw
  obtain ⟨s,s1,s2,s3⟩:=X7S a1 a3 a4
  have z:Vl .f64 0 0:=by unfold Vl;decide +kernel
  obtain ⟨b,b1,b2,b3⟩:=Z8n y hw ((25 + 1:Int).toNat + y + 1) 0 0 25 z (by decide) (by decide) (by omega)
  exact X8c s1 s2 s3 b1 b2 b3 (by omega) (by omega)
theorem Z5d {y:Nat} (h0:fcmp .neq .f64 y y=false) (h1:fcmp .lss .f64 y 0=false) (h2:fcmp .eql .f64 y 0=false) (h3:ZF y 1=false):Z7 y=fop .add .f64 (fop .mul .f64 4611686018427387904 (fop .mul .f64 (fop .quo .f64 (fop .sub .f64 ((Z0 y).1) 4607182418800017408) (fop .add .f64 ((Z0 y).1) 4607182418800017408)) (Z1h y))) (fop .mul .f64 (X1 .f64 ((Z0 y).2)) 4604418534313441775):=by
  unfold Z7
  rw [h0,cond_false,h1,cond_false,h2,cond_false,h3,cond_false]
theorem Z7S (x:Nat):Xu .f64 .f32 (Z7 (fcv .f32 .f64 x))=true:=by
  cases h0:fcmp .neq .f64 (fcv .f32 .f64 x) (fcv .f32 .f64 x) with
  | true =>
    have e:Z7 (fcv .f32 .f64 x)=ZN:=by unfold Z7;rw [h0,cond_true]
    rw [e];decide +kernel
  | false =>
    cases h1:fcmp .lss .f64 (fcv .f32 .f64 x) 0 with
    | true =>
      have e:Z7 (fcv .f32 .f64 x)=ZN:=by unfold Z7;rw [h0,cond_false,h1,cond_true]
      rw [e];decide +kernel
    | false =>
      cases h2:fcmp .eql .f64 (fcv .f32 .f64 x) 0 with
      | true =>
        have e:Z7 (fcv .f32 .f64 x)=Z1a (-1):=by unfold Z7;rw [h0,cond_false,h1,cond_false,h2,cond_true]
        rw [e];decide +kernel
      | false =>
        cases h3:ZF (fcv .f32 .f64 x) 1 with
        | true =>
          have e:Z7 (fcv .f32 .f64 x)=fcv .f32 .f64 x:=by unfold Z7;rw [h0,cond_false,h1,cond_false,h2,cond_false,h3,cond_true]
          rw [e,(X3J h3).1];decide +kernel
        | false =>
          obtain ⟨a,b,c⟩:=X3I h0 h1 h2 h3
          obtain ⟨r,r1,r2,r3⟩:=Z7g _ a b c
          rw [Z5d h0 h1 h2 h3]
          exact X4r r1 (by grind) (by grind)
end Go.Ab
