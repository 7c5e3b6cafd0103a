/- The functions of this seat as plain Lean, and that the program's are these. Printed by a program of the prover's own. -/
import Derived.Test.YtiddhiepmakopaaB0
set_option linter.unusedVariables false
set_option linter.unusedSimpArgs false
set_option maxRecDepth 100000
namespace Go.Ab
open Go.RowKit Go.Proofs.Try
def Zu (Y3:(List Gv)) (Yb:Int):Int:=(cond (decide ((IntKind.wrap .i64 (Yb - (Y3.length:Int))) < 0))
  (-1)
  (IntKind.wrap .i64 (Yb - (Y3.length:Int))))
theorem Z4J (Y3:(List Gv)) (Yb:Int) (hp0:Y3.length≤9223372036854775807)  : Fn prog 38 [.sl (Y3.map Gv.c), .i .i64 Yb] (.i .i64 (Zu Y3 Yb)) []:=by
 have p {a C} (s:Scr a C):=sZ Gv.c Y3<|sW .i64 (Yb - (Y3.length:Int))<|s
 cases h0:(decide ((IntKind.wrap .i64 (Yb - (Y3.length:Int))) < 0)) with
 | true =>
  have gh0:=odt h0
  refine fnS E0Ok Z2 (c:=X0 f38) [] (.i .i64 (-1)) [] func38 (p (sB h0<|sK [] sN)) rfl (by kernel_rfl) (by kernel_rfl) rfl ?_ ?_
  · simp only [Zu,h0,cond_true]
  · rfl
 | false =>
  have gh0:=odf h0
  refine fnS E0Ok Z2 (c:=X0 f38) [] (.i .i64 (IntKind.wrap .i64 (Yb - (Y3.length:Int)))) [] func38 (p (sB h0<|sK [] sN)) rfl (by kernel_rfl) (by kernel_rfl) rfl ?_ ?_
  · simp only [Zu,h0,cond_false]
  · rfl
theorem Z4A (a:List Gv) (left:Int) (h0:a.length≤9223372036854775807) (h1:-1≤left) (h2:left≤1048576):-1≤Zu a left∧Zu a left≤left∧(Zu a left < 0∨(a.length:Int)≤left):=by
  unfold Zu
  rw [X2N (by omega) (by omega)]
  by_cases h:left - (a.length:Int) < 0
  · simp [h];omega
  · simp [h];omega
def ZK (Y3:(List Int)) (Yb:Int):Int:=(cond (decide ((IntKind.wrap .i64 (Yb - (Y3.length:Int))) < 0))
  (-1)
  (IntKind.wrap .i64 (Yb - (Y3.length:Int))))
theorem Z4Y (Y3:(List Int)) (Yb:Int) (hp0:Y3.length≤9223372036854775807)  : Fn prog 90 [.sl (Y3.map (cI .i64)), .i .i64 Yb] (.i .i64 (ZK Y3 Yb)) []:=by
 have p {a C} (s:Scr a C):=sZ (cI .i64) Y3<|sW .i64 (Yb - (Y3.length:Int))<|s
 cases h0:(decide ((IntKind.wrap .i64 (Yb - (Y3.length:Int))) < 0)) with
 | true =>
  have gh0:=odt h0
  refine fnS E0Ok Z2 (c:=X0 f90) [] (.i .i64 (-1)) [] func90 (p (sB h0<|sK [] sN)) rfl (by kernel_rfl) (by kernel_rfl) rfl ?_ ?_
  · simp only [ZK,h0,cond_true]
  · rfl
 | false =>
  have gh0:=odf h0
  refine fnS E0Ok Z2 (c:=X0 f90) [] (.i .i64 (IntKind.wrap .i64 (Yb - (Y3.length:Int)))) [] func90 (p (sB h0<|sK [] sN)) rfl (by kernel_rfl) (by kernel_rfl) rfl ?_ ?_
  · simp only [ZK,h0,cond_false]
  · rfl
theorem Z4K (a:List Int) (left:Int) (h0:a.length≤9223372036854775807) (h1:-1≤left) (h2:left≤1048576):-1≤ZK a left∧ZK a left≤left∧(ZK a left < 0∨(a.length:Int)≤left):=by
  unfold ZK
  rw [X2N (by omega) (by omega)]
  by_cases h:left - (a.length:Int) < 0
  · simp [h];omega
  · simp [h];omega
def Zw (Y3:(List (List Int))) (Yb:Int):Nat→Int→Int→(Unit) ⊕ (Int)
  | 0,_,_ => .inl default
  | k + 1,Yo,Y6=>(cond (decide (Y6 < (Y3.length:Int)))
    (cond (decide ((ZK (Y3.getD Y6.toNat default) Yo) < 0))
      (.inl ())
      (Zw Y3 Yb k (ZK (Y3.getD Y6.toNat default) Yo) (Y6 + 1)))
    (.inr Yo))
def Z1U (Y3:(List (List Int))) (Yb:Int):(Unit) ⊕ (Int)→Ex × St
  | .inl r=>(.ret,⟨an 4 (.i .i64 (-1) :: an 22 []),[]⟩)
  | .inr r=>((.exit 0),⟨.sl (Y3.map (cL (cI .i64))) :: .i .i64 r :: an 4 (.i .i64 Yb :: .sl (Y3.map (cL (cI .i64))) :: .i .i64 (Y3.length:Int) :: .i .i64 (IntKind.wrap .i64 (Yb - (Y3.length:Int))) :: .i .i64 (IntKind.wrap .i64 (Yb - (Y3.length:Int))) :: .b (decide ((IntKind.wrap .i64 (Yb - (Y3.length:Int))) < 0)) :: an 15 []),[]⟩)
def Z4j (Y3:(List (List Int))) (Yb:Int) (Yo:Int) (Y6:Int):St:=⟨.sl (Y3.map (cL (cI .i64))) :: .i .i64 Yo :: .any :: .any :: .any :: .i .i64 Y6 :: .i .i64 Yb :: .sl (Y3.map (cL (cI .i64))) :: .i .i64 (Y3.length:Int) :: .i .i64 (IntKind.wrap .i64 (Yb - (Y3.length:Int))) :: .i .i64 (IntKind.wrap .i64 (Yb - (Y3.length:Int))) :: .b (decide ((IntKind.wrap .i64 (Yb - (Y3.length:Int))) < 0)) :: an 15 [],[]⟩
theorem Z3d (Y3:(List (List Int))) (Yb:Int) (hp0:Y3.length≤9223372036854775807) (hp1:∀ t∈Y3,t.length≤9223372036854775807) (Z5z:(decide ((IntKind.wrap .i64 (Yb - (Y3.length:Int))) < 0))=false):∀ (k:Nat) (Yo:Int) (Y6:Int) (Z2Q:0≤Y6) (hk:((Y3.length:Int) - Y6).toNat < k),Lp prog 0 (sub (X0 f39) [1,1,1,0,1,0,0]) (Z4j Y3 Yb Yo Y6) (Z1U Y3 Yb (Zw Y3 Yb k Yo Y6)).1 (Z1U Y3 Yb (Zw Y3 Yb k Yo Y6)).2:=by
 intro k
 induction k with
 | zero=>intro Yo Y6 Z2Q hk;exact absurd hk (Nat.not_lt_zero _)
 | succ k ih =>
  intro Yo Y6 Z2Q hk
  have p {a C} (s:Scr a C):=sZ (cL (cI .i64)) Y3<|s
  cases Yh:(decide (Y6 < (Y3.length:Int))) with
  | true =>
   have Yq:=odt Yh
   have Yu:(0:Int)≤Y6:=by clear p;exact (by assumption)
   have Ys:Y6 < (Y3.length:Int):=by clear p;exact (by assumption)
   have Yw:(Y3.getD Y6.toNat default).length≤9223372036854775807:=by clear p;exact (by simp_all<;>omega)
   have q {a C} (s:Scr a C):=p (sB Yh<|sG (cL (cI .i64)) Y3 Y6 Yu Ys<|sF (Z4Y (Y3.getD Y6.toNat default) Yo Yw)<|s)
   clear p
   cases Yl:(decide ((ZK (Y3.getD Y6.toNat default) Yo) < 0)) with
   | true =>
    have YG:=odt Yl
    have e:Zw Y3 Yb (k + 1) Yo Y6=(.inl ()):=by simp only [Zw,Yh,Yl,cond_true]
    rw [e]
    exact outR (e := .ret) E0Ok Z2 [] (mR false [4,1,22]) [] (q (sB Yl<|sN)) (by kernel_rfl) (by intro h;cases h)
   | false =>
    have YG:=odf Yl
    have Yv:(-9223372036854775808:Int)≤(Y6 + 1):=by clear q;exact (by omega)
    have Yz:(Y6 + 1)≤(9223372036854775807:Int):=by clear q;exact (by omega)
    have e:Zw Y3 Yb (k + 1) Yo Y6=(Zw Y3 Yb k (ZK (Y3.getD Y6.toNat default) Yo) (Y6 + 1)):=by simp only [Zw,Yh,Yl,cond_true,cond_false]
    rw [e]
    exact Xw E0Ok Z2 [] (mR false [0,2,3,7,15]) [] (ih (ZK (Y3.getD Y6.toNat default) Yo) (Y6 + 1) (show 0≤(Y6 + 1) from (by omega)) (by omega)) (q (sB Yl<|sI (Y6 + 1) Yv Yz<|sN)) (by kernel_rfl)
  | false =>
   have Yq:=odf Yh
   have e:Zw Y3 Yb (k + 1) Yo Y6=(.inr Yo):=by simp only [Zw,Yh,cond_false]
   rw [e]
   exact outR (e:=(.exit 0)) E0Ok Z2 [] (mR false [0,2,4,6,15]) [] (p (sB Yh<|sN)) (by kernel_rfl) (by intro h;cases h)
def Z1o (Y3:(List (List Int))) (Yb:Int):(Unit) ⊕ (Int):=(Zw Y3 Yb (((Y3.length:Int) - 0).toNat + 1) (IntKind.wrap .i64 (Yb - (Y3.length:Int))) 0)
def ZL (Y3:(List (List Int))) (Yb:Int):Int:=(cond (decide ((IntKind.wrap .i64 (Yb - (Y3.length:Int))) < 0))
  (-1)
  (match (Z1o Y3 Yb) with
    | .inl r2=>(-1)
    | .inr r2=>r2))
theorem Z4L (Y3:(List (List Int))) (Yb:Int) (hp0:Y3.length≤9223372036854775807) (hp1:∀ t∈Y3,t.length≤9223372036854775807)  : Fn prog 39 [.sl (Y3.map (cL (cI .i64))), .i .i64 Yb] (.i .i64 (ZL Y3 Yb)) []:=by
 have p {a C} (s:Scr a C):=sZ (cL (cI .i64)) Y3<|sW .i64 (Yb - (Y3.length:Int))<|s
 cases h0:(decide ((IntKind.wrap .i64 (Yb - (Y3.length:Int))) < 0)) with
 | true =>
  have gh0:=odt h0
  refine fnS E0Ok Z2 (c:=X0 f39) [] (.i .i64 (-1)) [] func39 (p (sB h0<|sK [] sN)) rfl (by kernel_rfl) (by kernel_rfl) rfl ?_ ?_
  · simp only [ZL,h0,cond_true]
  · rfl
 | false =>
  have gh0:=odf h0
  have q {a C} (s:Scr a C):=p (sB h0<|s)
  clear p
  cases h1:(Z1o Y3 Yb) with
  | inl r2 =>
   refine fnS E0Ok Z2 (c:=X0 f39) [] (.i .i64 (-1)) [] func39 (q (sL (mR false [0,2,3,7,15]) 0 (X6 (Z1U Y3 Yb) (x:=(Z1o Y3 Yb)) (Z3d Y3 Yb hp0 hp1 h0 (((Y3.length:Int) - 0).toNat + 1) (IntKind.wrap .i64 (Yb - (Y3.length:Int))) 0 (show 0≤0 from (by omega)) (Nat.lt_succ_self _)) h1)<|sK [] sN)) rfl (by kernel_rfl) (by kernel_rfl) rfl ?_ ?_
   · simp only [ZL,h0,h1,cond_false]
   · rfl
  | inr r2 =>
   refine fnS E0Ok Z2 (c:=X0 f39) [] (.i .i64 r2) [] func39 (q (sL (mR false [0,2,3,7,15]) 0 (X6 (Z1U Y3 Yb) (x:=(Z1o Y3 Yb)) (Z3d Y3 Yb hp0 hp1 h0 (((Y3.length:Int) - 0).toNat + 1) (IntKind.wrap .i64 (Yb - (Y3.length:Int))) 0 (show 0≤0 from (by omega)) (Nat.lt_succ_self _)) h1)<|sK [] sN)) rfl (by kernel_rfl) (by kernel_rfl) rfl ?_ ?_
   · simp only [ZL,h0,h1,cond_false]
   · rfl
theorem Z5r (a:List (List Int)) (left:Int) (hb:∀ t∈a,t.length≤9223372036854775807):∀ (k:Nat) (l i:Int),0≤i→((a.length:Int) - i).toNat < k→-1≤l→l≤1048576 →
    Zw a left k l i = .inl ()∨∃ r,Zw a left k l i = .inr r∧-1≤r∧r≤l∧∀ j,i.toNat≤j→j < a.length→((a.getD j default).length:Int)≤l:=by
  intro k
  induction k with
  | zero=>intro l i h0 hk;exact absurd hk (Nat.not_lt_zero _)
  | succ k ih =>
    intro l i h0 hk h1 h2
    rw [Zw]
    by_cases hi:i < (a.length:Int)
    · have hn:i.toNat < a.length:=by omega
      rw [decide_eq_true hi,cond_true]
      have hm:(a.getD i.toNat default)∈a:=by rw [List.getD_eq_getElem?_getD,List.getElem?_eq_getElem hn];exact List.getElem_mem hn
      obtain ⟨q1,q2,q3⟩:=Z4K (a.getD i.toNat default) l (hb _ hm) h1 h2
      cases hc:decide (ZK (a.getD i.toNat default) l < 0) with
      | true=>left;rfl
      | false =>
        simp only [decide_eq_false_iff_not] at hc
        rw [cond_false]
        rcases ih (ZK (a.getD i.toNat default) l) (i + 1) (by omega) (by omega) q1 (by omega) with e | ⟨r,e,r1,r2,r3⟩
        · left;exact e
        · right
          refine ⟨r,e,r1,by omega,fun j hj hjl => ?_⟩
          by_cases hji:j=i.toNat
          · subst hji;omega
          · have:=r3 j (by omega) hjl;omega
    · rw [decide_eq_false hi,cond_false]
      exact .inr ⟨l,rfl,h1,Int.le_refl _,fun j hj hjl=>by omega⟩
theorem Z4B (a:List (List Int)) (left:Int) (h0:a.length≤9223372036854775807) (hb:∀ t∈a,t.length≤9223372036854775807) (h1:-1≤left) (h2:left≤1048576) :
    -1≤ZL a left∧ZL a left≤left∧(ZL a left < 0∨((a.length:Int)≤left∧∀ t∈a,(t.length:Int)≤left)):=by
  unfold ZL Z1o
  rw [X2N (by omega) (by omega)]
  cases h:decide (left - (a.length:Int) < 0) with
  | true=>simp only [decide_eq_true_eq] at h;rw [cond_true];omega
  | false =>
    simp only [decide_eq_false_iff_not] at h
    rw [cond_false]
    rcases Z5r a left hb _ (left - (a.length:Int)) 0 (Int.le_refl _) (Nat.lt_succ_self _) (by omega) (by omega) with e | ⟨r,e,r1,r2,r3⟩
    · rw [e];simp only;omega
    · rw [e];simp only
      refine ⟨r1,by omega, .inr ⟨by omega,fun t ht => ?_⟩⟩
      obtain ⟨j,hj,rfl⟩:=List.getElem_of_mem ht
      have:=r3 j (by simp) hj
      rw [List.getD_eq_getElem?_getD,List.getElem?_eq_getElem hj,Option.getD_some] at this
      omega
def ZM (Y3:Gm) (Yb:Int):Int:=(cond (decide ((Zu Y3.Pq Yb) < 0))
  (-1)
  (cond (decide ((ZL Y3.Tr (Zu Y3.Pq Yb)) < 0))
    (-1)
    (ZL Y3.Tr (Zu Y3.Pq Yb))))
theorem Z5i (Y3:Gm) (Yb:Int) (hp0:Y3.Pq.length≤9223372036854775807) (hp1:Y3.Tr.length≤9223372036854775807) (hp2:∀ t∈Y3.Tr,t.length≤9223372036854775807)  : Fn prog 12 [.agg [.sl (Y3.Pq.map Gv.c), .sl (Y3.Tr.map (cL (cI .i64)))], .i .i64 Yb] (.i .i64 (ZM Y3 Yb)) []:=by
 have p {a C} (s:Scr a C):=sF (Z4J Y3.Pq Yb hp0)<|s
 cases h0:(decide ((Zu Y3.Pq Yb) < 0)) with
 | true =>
  have gh0:=odt h0
  refine fnS E0Ok Z2 (c:=X0 f12) [] (.i .i64 (-1)) [] func12 (p (sB h0<|sK [] sN)) rfl (by kernel_rfl) (by kernel_rfl) rfl ?_ ?_
  · simp only [ZM,h0,cond_true]
  · rfl
 | false =>
  have gh0:=odf h0
  have q {a C} (s:Scr a C):=p (sB h0<|sF (Z4L Y3.Tr (Zu Y3.Pq Yb) hp1 hp2)<|s)
  clear p
  cases h1:(decide ((ZL Y3.Tr (Zu Y3.Pq Yb)) < 0)) with
  | true =>
   have gh1:=odt h1
   refine fnS E0Ok Z2 (c:=X0 f12) [] (.i .i64 (-1)) [] func12 (q (sB h1<|sK [] sN)) rfl (by kernel_rfl) (by kernel_rfl) rfl ?_ ?_
   · simp only [ZM,h0,h1,cond_true,cond_false]
   · rfl
  | false =>
   have gh1:=odf h1
   refine fnS E0Ok Z2 (c:=X0 f12) [] (.i .i64 (ZL Y3.Tr (Zu Y3.Pq Yb))) [] func12 (q (sB h1<|sK [] sN)) rfl (by kernel_rfl) (by kernel_rfl) rfl ?_ ?_
   · simp only [ZM,h0,h1,cond_false]
   · rfl
theorem Z44 (a:Gm) (left:Int) (h0:a.Pq.length≤9223372036854775807) (h3:a.Tr.length≤9223372036854775807) (hb:∀ t∈a.Tr,t.length≤9223372036854775807) (h1:-1≤left) (h2:left≤1048576) :
    -1≤ZM a left∧ZM a left≤left∧(ZM a left < 0∨(a.Pq.length:Int)≤left)∧(ZM a left < 0∨(a.Tr.length:Int)≤left)∧∀ t∈a.Tr,ZM a left < 0∨(t.length:Int)≤left:=by
  have key:-1≤ZM a left∧ZM a left≤left∧(ZM a left < 0∨((a.Pq.length:Int)≤left∧(a.Tr.length:Int)≤left∧∀ t∈a.Tr,(t.length:Int)≤left)):=by
    unfold ZM
    obtain ⟨p1,p2,p3⟩:=Z4A a.Pq left h0 h1 h2
    cases h:decide (Zu a.Pq left < 0) with
    | true=>simp only [decide_eq_true_eq] at h;rw [cond_true];refine ⟨by omega,by omega, .inl (by omega)⟩
    | false =>
      simp only [decide_eq_false_iff_not] at h
      rw [cond_false]
      obtain ⟨q1,q2,q3⟩:=Z4B a.Tr (Zu a.Pq left) h3 hb p1 (by omega)
      cases h':decide (ZL a.Tr (Zu a.Pq left) < 0) with
      | true=>rw [cond_true];exact ⟨by omega,by omega, .inl (by omega)⟩
      | false =>
        simp only [decide_eq_false_iff_not] at h'
        rw [cond_false]
        rcases q3 with q | ⟨qa,qb⟩
        · omega
        · exact ⟨q1,by omega, .inr ⟨by omega,by omega,fun t ht=>by have:=qb t ht;omega⟩⟩
  obtain ⟨k1,k2,k3⟩:=key
  rcases k3 with k3 | ⟨ka,kb,kc⟩
  · exact ⟨k1,k2, .inl k3, .inl k3,fun t ht => .inl k3⟩
  · exact ⟨k1,k2, .inr ka, .inr kb,fun t ht => .inr (kc t ht)⟩
def Z2p (Y3:Gv):Gv:=Y3
theorem Z4Z (Y3:Gv)   : Fn prog 97 [.agg [.f .f32 Y3.X, .f .f32 Y3.Y, .f .f32 Y3.Z]] (.agg [.f .f32 ((Z2p Y3).X), .f .f32 ((Z2p Y3).Y), .f .f32 ((Z2p Y3).Z)]) []:=by
 refine fnS E0Ok Z2 (c:=X0 f97) [] (.agg [.f .f32 Y3.X, .f .f32 Y3.Y, .f .f32 Y3.Z]) [] func97 (sK [] sN) rfl (by kernel_rfl) (by kernel_rfl) rfl ?_ ?_
 · rfl
 · rfl
@[simp] theorem Z4M (a:Gv):Z2p a=a:=rfl
theorem Z50 (Y3:Gv)  : Fn prog 97 [.agg [.f .f32 Y3.X, .f .f32 Y3.Y, .f .f32 Y3.Z]] (.agg [.f .f32 Y3.X, .f .f32 Y3.Y, .f .f32 Y3.Z]) []:=by
 simpa only [Z4M] using Z4Z  Y3 
def ZQ (Y3:(List Gv)):Nat→Int→(List Gv)→(List Gv)
  | 0,_,_=>default
  | k + 1,Y2,Y7=>(cond (decide (Y2 < (Y3.length:Int)))
    (ZQ Y3 k (Y2 + 1) (Y7.set Y2.toNat (Y3.getD Y2.toNat default)))
    Y7)
def Z2k (Y3:(List Gv)) (r:(List Gv)):Ex × St:=((.exit 0),⟨.sl (Y3.map Gv.c) :: .any :: .nils :: .own 0 :: .any :: .sl (Y3.map Gv.c) :: .i .i64 (Y3.length:Int) :: .own 0 :: an 15 [],[.vec 62 3 (r.map Gv.c) false]⟩)
def Z2l (Y3:(List Gv)) (Y2:Int) (Y7:(List Gv)):St:=⟨.sl (Y3.map Gv.c) :: .any :: .nils :: .own 0 :: .i .i64 Y2 :: .sl (Y3.map Gv.c) :: .i .i64 (Y3.length:Int) :: .own 0 :: an 15 [],[.vec 62 3 (Y7.map Gv.c) false]⟩
theorem Z4k (Y3:(List Gv)) (hp0:Y3.length≤1073741824):∀ (k:Nat) (Y2:Int) (Y7:(List Gv)) (Z2R:0≤Y2) (Z2S:Y7.length=Y3.length) (hk:((Y3.length:Int) - Y2).toNat < k),Lp prog 0 (sub (X0 f50) [1,1,0,1,0,0]) (Z2l Y3 Y2 Y7) (Z2k Y3 (ZQ Y3 k Y2 Y7)).1 (Z2k Y3 (ZQ Y3 k Y2 Y7)).2:=by
 intro k
 induction k with
 | zero=>intro Y2 Y7 Z2R Z2S hk;exact absurd hk (Nat.not_lt_zero _)
 | succ k ih =>
  intro Y2 Y7 Z2R Z2S hk
  have p {a C} (s:Scr a C):=sZ Gv.c Y3<|s
  cases Yh:(decide (Y2 < (Y3.length:Int))) with
  | true =>
   have Yq:=odt Yh
   have Yu:(0:Int)≤Y2:=by clear p;exact (by assumption)
   have Ys:Y2 < (Y3.length:Int):=by clear p;exact (by assumption)
   have Yw:Y2 < (Y7.length:Int):=by clear p;exact (by omega)
   have Yv:Y2.toNat < Y7.length:=by clear p;exact (by omega)
   have Yz:(-9223372036854775808:Int)≤(Y2 + 1):=by clear p;exact (by omega)
   have YI:(Y2 + 1)≤(9223372036854775807:Int):=by clear p;exact (by omega)
   have e:ZQ Y3 (k + 1) Y2 Y7=(ZQ Y3 k (Y2 + 1) (Y7.set Y2.toNat (Y3.getD Y2.toNat default))):=by simp only [ZQ,Yh,cond_true]
   rw [e]
   exact XP E0Ok Z2 [] (mR false [0,1,1,6,15]) [0] (⟨.sl (Y3.map Gv.c) :: .any :: .nils :: .own 0 :: .i .i64 (Y2 + 1) :: .sl (Y3.map Gv.c) :: .i .i64 (Y3.length:Int) :: .own 0 :: an 15 [],[.vec 62 3 ((Y7.map Gv.c).set Y2.toNat [.f .f32 ((Y3.getD Y2.toNat default).X), .f .f32 ((Y3.getD Y2.toNat default).Y), .f .f32 ((Y3.getD Y2.toNat default).Z)]) false]⟩) (p (sB Yh<|sG Gv.c Y3 Y2 Yu Ys<|sF (Z50 (Y3.getD Y2.toNat default))<|sX Gv.c Y7 Y2 Yu Yw<|sC (X4R (c:=Gv.c) (l:=Y7) Yv)<|sI (Y2 + 1) Yz YI<|sN)) (by kernel_rfl) (by simp [Z2l,List.map_set,Gv.c]) (ih (Y2 + 1) (Y7.set Y2.toNat (Y3.getD Y2.toNat default)) (show 0≤(Y2 + 1) from (by omega)) (show (Y7.set Y2.toNat (Y3.getD Y2.toNat default)).length=Y3.length from (by simp_all<;>omega)) (by omega))
  | false =>
   have Yq:=odf Yh
   have e:ZQ Y3 (k + 1) Y2 Y7=Y7:=by simp only [ZQ,Yh,cond_false]
   rw [e]
   exact outR (e:=(.exit 0)) E0Ok Z2 [] (mR false [0,1,1,2,1,3,15]) [0] (p (sB Yh<|sN)) (by kernel_rfl) (by intro h;cases h)
def Z1z (Y3:(List Gv)):(List Gv):=(ZQ Y3 (((Y3.length:Int) - 0).toNat + 1) 0 (List.replicate (Y3.length:Int).toNat (⟨0,0,0⟩:Gv)))
def Z2b (Y3:(List Gv)):(List Gv):=(Z1z Y3)
theorem Z4N (Y3:(List Gv)) (hp0:Y3.length≤1073741824)  : Fn prog 50 [.sl (Y3.map Gv.c)] (.own 0) [.vec 62 3 ((Z2b Y3).map Gv.c) false]:=by
 have y0:(0:Int)≤(Y3.length:Int):=(by omega)
 have y1:((Y3.length:Int):Int)≤2147483648:=(by omega)
 refine fnS E0Ok Z2 (c:=X0 f50) [] (.own 0) [.vec 62 3 ((Z1z Y3).map Gv.c) false] func50 (sZ Gv.c Y3<|sC (show (Y3.length:Int)=(Y3.length:Int) from rfl)<|sC y0<|sC y1<|sL (mR false [0,1,1,6,15]) 1 (XU (st2:=⟨.sl (Y3.map Gv.c) :: .any :: .nils :: .own 0 :: .i .i64 0 :: .sl (Y3.map Gv.c) :: .i .i64 (Y3.length:Int) :: .own 0 :: an 15 [],[.vec 62 3 (List.replicate (Int.toNat (Y3.length:Int)) [.f .f32 0, .f .f32 0, .f .f32 0]) false]⟩) (X6 (Z2k Y3) (x:=(Z1z Y3)) (Z4k Y3 hp0 (((Y3.length:Int) - 0).toNat + 1) 0 (List.replicate (Y3.length:Int).toNat (⟨0,0,0⟩:Gv)) (show 0≤0 from (by omega)) (show (List.replicate (Y3.length:Int).toNat (⟨0,0,0⟩:Gv)).length=Y3.length from (by simp)) (Nat.lt_succ_self _)) rfl) (by simp [Z2l,Gv.c]))<|sK [0] sN) rfl (by kernel_rfl) (by kernel_rfl) rfl ?_ ?_
 · rfl
 · simp [Z2b]
@[simp] theorem Z4C (a:List Gv):Z2b a=a:=by
  unfold Z2b Z1z
  rw [X3w (f:=id) (a:=a) (lo:=ZQ a) (fun k i r=>rfl)]
  exact List.map_id a
theorem Z4O (Y3:(List Gv)) (hp0:Y3.length≤1073741824):Fn prog 50 [.sl (Y3.map Gv.c)] (.own 0) [.vec 62 3 (Y3.map Gv.c) false]:=by
 simpa only [Z4C] using Z4N  Y3 hp0
def ZU (Y3:(List Int)):Nat→Int→(List Int)→(List Int)
  | 0,_,_=>default
  | k + 1,Y2,Y7=>(cond (decide (Y2 < (Y3.length:Int)))
    (ZU Y3 k (Y2 + 1) (Y7.set Y2.toNat (Y3.getD Y2.toNat default)))
    Y7)
def Z2v (Y3:(List Int)) (r:(List Int)):Ex × St:=((.exit 0),⟨.sl (Y3.map (cI .i64)) :: .any :: .nils :: .own 0 :: .any :: .sl (Y3.map (cI .i64)) :: .i .i64 (Y3.length:Int) :: .own 0 :: an 14 [],[.vec 2 1 (r.map (cI .i64)) false]⟩)
def Z2w (Y3:(List Int)) (Y2:Int) (Y7:(List Int)):St:=⟨.sl (Y3.map (cI .i64)) :: .any :: .nils :: .own 0 :: .i .i64 Y2 :: .sl (Y3.map (cI .i64)) :: .i .i64 (Y3.length:Int) :: .own 0 :: an 14 [],[.vec 2 1 (Y7.map (cI .i64)) false]⟩
theorem Z4q (Y3:(List Int)) (hp0:Y3.length≤1073741824):∀ (k:Nat) (Y2:Int) (Y7:(List Int)) (Z30:0≤Y2) (Z31:Y7.length=Y3.length) (hk:((Y3.length:Int) - Y2).toNat < k),Lp prog 0 (sub (X0 f98) [1,1,0,1,0,0]) (Z2w Y3 Y2 Y7) (Z2v Y3 (ZU Y3 k Y2 Y7)).1 (Z2v Y3 (ZU Y3 k Y2 Y7)).2:=by
 intro k
 induction k with
 | zero=>intro Y2 Y7 Z30 Z31 hk;exact absurd hk (Nat.not_lt_zero _)
 | succ k ih =>
  intro Y2 Y7 Z30 Z31 hk
  have p {a C} (s:Scr a C):=sZ (cI .i64) Y3<|s
  cases Yh:(decide (Y2 < (Y3.length:Int))) with
  | true =>
   have Yq:=odt Yh
   have Yu:(0:Int)≤Y2:=by clear p;exact (by assumption)
   have Ys:Y2 < (Y3.length:Int):=by clear p;exact (by assumption)
   have Yw:Y2 < (Y7.length:Int):=by clear p;exact (by omega)
   have Yv:Y2.toNat < Y7.length:=by clear p;exact (by omega)
   have Yz:(-9223372036854775808:Int)≤(Y2 + 1):=by clear p;exact (by omega)
   have YI:(Y2 + 1)≤(9223372036854775807:Int):=by clear p;exact (by omega)
   have e:ZU Y3 (k + 1) Y2 Y7=(ZU Y3 k (Y2 + 1) (Y7.set Y2.toNat (Y3.getD Y2.toNat default))):=by simp only [ZU,Yh,cond_true]
   rw [e]
   exact XP E0Ok Z2 [] (mR false [0,1,1,6,14]) [0] (⟨.sl (Y3.map (cI .i64)) :: .any :: .nils :: .own 0 :: .i .i64 (Y2 + 1) :: .sl (Y3.map (cI .i64)) :: .i .i64 (Y3.length:Int) :: .own 0 :: an 14 [],[.vec 2 1 ((Y7.map (cI .i64)).set Y2.toNat [.i .i64 (Y3.getD Y2.toNat default)]) false]⟩) (p (sB Yh<|sG (cI .i64) Y3 Y2 Yu Ys<|sX (cI .i64) Y7 Y2 Yu Yw<|sC (X4R (c:=(cI .i64)) (l:=Y7) Yv)<|sI (Y2 + 1) Yz YI<|sN)) (by kernel_rfl) (by simp [Z2w,List.map_set,cI]) (ih (Y2 + 1) (Y7.set Y2.toNat (Y3.getD Y2.toNat default)) (show 0≤(Y2 + 1) from (by omega)) (show (Y7.set Y2.toNat (Y3.getD Y2.toNat default)).length=Y3.length from (by simp_all<;>omega)) (by omega))
  | false =>
   have Yq:=odf Yh
   have e:ZU Y3 (k + 1) Y2 Y7=Y7:=by simp only [ZU,Yh,cond_false]
   rw [e]
   exact outR (e:=(.exit 0)) E0Ok Z2 [] (mR false [0,1,1,2,1,3,14]) [0] (p (sB Yh<|sN)) (by kernel_rfl) (by intro h;cases h)
def Z1E (Y3:(List Int)):(List Int):=(ZU Y3 (((Y3.length:Int) - 0).toNat + 1) 0 (List.replicate (Y3.length:Int).toNat 0))
def Z2q (Y3:(List Int)):(List Int):=(Z1E Y3)
theorem Z51 (Y3:(List Int)) (hp0:Y3.length≤1073741824)  : Fn prog 98 [.sl (Y3.map (cI .i64))] (.own 0) [.vec 2 1 ((Z2q Y3).map (cI .i64)) false]:=by
 have y0:(0:Int)≤(Y3.length:Int):=(by omega)
 have y1:((Y3.length:Int):Int)≤2147483648:=(by omega)
 refine fnS E0Ok Z2 (c:=X0 f98) [] (.own 0) [.vec 2 1 ((Z1E Y3).map (cI .i64)) false] func98 (sZ (cI .i64) Y3<|sC (show (Y3.length:Int)=(Y3.length:Int) from rfl)<|sC y0<|sC y1<|sL (mR false [0,1,1,6,14]) 1 (XU (st2:=⟨.sl (Y3.map (cI .i64)) :: .any :: .nils :: .own 0 :: .i .i64 0 :: .sl (Y3.map (cI .i64)) :: .i .i64 (Y3.length:Int) :: .own 0 :: an 14 [],[.vec 2 1 (List.replicate (Int.toNat (Y3.length:Int)) [.i .i64 0]) false]⟩) (X6 (Z2v Y3) (x:=(Z1E Y3)) (Z4q Y3 hp0 (((Y3.length:Int) - 0).toNat + 1) 0 (List.replicate (Y3.length:Int).toNat 0) (show 0≤0 from (by omega)) (show (List.replicate (Y3.length:Int).toNat 0).length=Y3.length from (by simp)) (Nat.lt_succ_self _)) rfl) (by simp [Z2w,cI]))<|sK [0] sN) rfl (by kernel_rfl) (by kernel_rfl) rfl ?_ ?_
 · rfl
 · simp [Z2q]
@[simp] theorem Z4P (a:List Int):Z2q a=a:=by
  unfold Z2q Z1E
  rw [X3w (f:=id) (a:=a) (lo:=ZU a) (fun k i r=>rfl)]
  exact List.map_id a
theorem Z52 (Y3:(List Int)) (hp0:Y3.length≤1073741824):Fn prog 98 [.sl (Y3.map (cI .i64))] (.own 0) [.vec 2 1 (Y3.map (cI .i64)) false]:=by
 simpa only [Z4P] using Z51  Y3 hp0
def ZR (Y3:(List (List Int))):Nat→Int→(List (List Int))→(List (List Int))
  | 0,_,_=>default
  | k + 1,Y2,Y7=>(cond (decide (Y2 < (Y3.length:Int)))
    (ZR Y3 k (Y2 + 1) (Y7.set Y2.toNat (Y3.getD Y2.toNat default)))
    Y7)
def Z2m (Y3:(List (List Int))) (r:(List (List Int))):Ex × St:=((.exit 0),⟨.sl (Y3.map (cL (cI .i64))) :: .any :: .nils :: .own 0 :: .any :: .sl (Y3.map (cL (cI .i64))) :: .i .i64 (Y3.length:Int) :: .own 0 :: an 15 [],[.nest 79 (r.map fun l=>l.map (cI .i64)) false]⟩)
def Z2n (Y3:(List (List Int))) (Y2:Int) (Y7:(List (List Int))):St:=⟨.sl (Y3.map (cL (cI .i64))) :: .any :: .nils :: .own 0 :: .i .i64 Y2 :: .sl (Y3.map (cL (cI .i64))) :: .i .i64 (Y3.length:Int) :: .own 0 :: an 15 [],[.nest 79 (Y7.map fun l=>l.map (cI .i64)) false]⟩
theorem Z4l (Y3:(List (List Int))) (hp0:Y3.length≤1073741824) (hp1:∀ t∈Y3,t.length≤1073741824):∀ (k:Nat) (Y2:Int) (Y7:(List (List Int))) (Z2T:0≤Y2) (Z2U:Y7.length=Y3.length) (hk:((Y3.length:Int) - Y2).toNat < k),Lp prog 0 (sub (X0 f51) [1,1,0,1,0,0]) (Z2n Y3 Y2 Y7) (Z2m Y3 (ZR Y3 k Y2 Y7)).1 (Z2m Y3 (ZR Y3 k Y2 Y7)).2:=by
 intro k
 induction k with
 | zero=>intro Y2 Y7 Z2T Z2U hk;exact absurd hk (Nat.not_lt_zero _)
 | succ k ih =>
  intro Y2 Y7 Z2T Z2U hk
  have p {a C} (s:Scr a C):=sZ (cL (cI .i64)) Y3<|s
  cases Yh:(decide (Y2 < (Y3.length:Int))) with
  | true =>
   have Yq:=odt Yh
   have Yu:(0:Int)≤Y2:=by clear p;exact (by assumption)
   have Ys:Y2 < (Y3.length:Int):=by clear p;exact (by assumption)
   have Yw:(Y3.getD Y2.toNat default).length≤1073741824:=by clear p;exact (by simp_all<;>omega)
   have Yv:Int.toNat Y2 < Y7.length:=by clear p;exact (by omega)
   have Yz:Y2.toNat < Y7.length:=by clear p;exact (by assumption)
   have YI:(-9223372036854775808:Int)≤(Y2 + 1):=by clear p;exact (by omega)
   have YV:(Y2 + 1)≤(9223372036854775807:Int):=by clear p;exact (by omega)
   have e:ZR Y3 (k + 1) Y2 Y7=(ZR Y3 k (Y2 + 1) (Y7.set Y2.toNat (Y3.getD Y2.toNat default))):=by simp only [ZR,Yh,cond_true]
   rw [e]
   exact XP E0Ok Z2 [] (mR false [0,1,1,6,15]) [0] (⟨.sl (Y3.map (cL (cI .i64))) :: .any :: .nils :: .own 0 :: .i .i64 (Y2 + 1) :: .sl (Y3.map (cL (cI .i64))) :: .i .i64 (Y3.length:Int) :: .own 0 :: an 15 [],[.nest 79 ((Y7.map fun l=>l.map (cI .i64)).set Y2.toNat ((Y3.getD Y2.toNat default).map (cI .i64))) false]⟩) (p (sB Yh<|sG (cL (cI .i64)) Y3 Y2 Yu Ys<|sF (Z52 (Y3.getD Y2.toNat default) Yw)<|sC (X3c (c:=(cI .i64)) (l:=Y7) (i:=Y2) Yu Yv)<|sC (show Y2.toNat < (Y7.map fun l=>l.map (cI .i64)).length from (by simpa using Yz))<|sI (Y2 + 1) YI YV<|sN)) (by kernel_rfl) (by simp [Z2n,List.map_set,cL,cI]) (ih (Y2 + 1) (Y7.set Y2.toNat (Y3.getD Y2.toNat default)) (show 0≤(Y2 + 1) from (by omega)) (show (Y7.set Y2.toNat (Y3.getD Y2.toNat default)).length=Y3.length from (by simp_all<;>omega)) (by omega))
  | false =>
   have Yq:=odf Yh
   have e:ZR Y3 (k + 1) Y2 Y7=Y7:=by simp only [ZR,Yh,cond_false]
   rw [e]
   exact outR (e:=(.exit 0)) E0Ok Z2 [] (mR false [0,1,1,2,1,3,15]) [0] (p (sB Yh<|sN)) (by kernel_rfl) (by intro h;cases h)
def Z1A (Y3:(List (List Int))):(List (List Int)):=(ZR Y3 (((Y3.length:Int) - 0).toNat + 1) 0 (List.replicate (Y3.length:Int).toNat ([]:(List Int))))
def Z2c (Y3:(List (List Int))):(List (List Int)):=(Z1A Y3)
theorem Z4Q (Y3:(List (List Int))) (hp0:Y3.length≤1073741824) (hp1:∀ t∈Y3,t.length≤1073741824)  : Fn prog 51 [.sl (Y3.map (cL (cI .i64)))] (.own 0) [.nest 79 ((Z2c Y3).map fun l=>l.map (cI .i64)) false]:=by
 have y0:(0:Int)≤(Y3.length:Int):=(by omega)
 have y1:((Y3.length:Int):Int)≤2147483648:=(by omega)
 refine fnS E0Ok Z2 (c:=X0 f51) [] (.own 0) [.nest 79 ((Z1A Y3).map fun l=>l.map (cI .i64)) false] func51 (sZ (cL (cI .i64)) Y3<|sC (show (Y3.length:Int)=(Y3.length:Int) from rfl)<|sC y0<|sC y1<|sL (mR false [0,1,1,6,15]) 1 (XU (st2:=⟨.sl (Y3.map (cL (cI .i64))) :: .any :: .nils :: .own 0 :: .i .i64 0 :: .sl (Y3.map (cL (cI .i64))) :: .i .i64 (Y3.length:Int) :: .own 0 :: an 15 [],[.nest 79 (List.replicate (Y3.length:Int).toNat []) false]⟩) (X6 (Z2m Y3) (x:=(Z1A Y3)) (Z4l Y3 hp0 hp1 (((Y3.length:Int) - 0).toNat + 1) 0 (List.replicate (Y3.length:Int).toNat ([]:(List Int))) (show 0≤0 from (by omega)) (show (List.replicate (Y3.length:Int).toNat ([]:(List Int))).length=Y3.length from (by simp)) (Nat.lt_succ_self _)) rfl) (by simp [Z2n,cL,cI]))<|sK [0] sN) rfl (by kernel_rfl) (by kernel_rfl) rfl ?_ ?_
 · rfl
 · simp [Z2c]
@[simp] theorem Z4D (a:List (List Int)):Z2c a=a:=by
  unfold Z2c Z1A
  rw [X3w (f:=id) (a:=a) (lo:=ZR a) (fun k i r=>rfl)]
  exact List.map_id a
theorem Z4R (Y3:(List (List Int))) (hp0:Y3.length≤1073741824) (hp1:∀ t∈Y3,t.length≤1073741824):Fn prog 51 [.sl (Y3.map (cL (cI .i64)))] (.own 0) [.nest 79 (Y3.map fun l=>l.map (cI .i64)) false]:=by
 simpa only [Z4D] using Z4Q  Y3 hp0 hp1
def Z2f (Y3:Gm):Gm:=Y3
theorem Z5j (Y3:Gm) (hp0:Y3.Pq.length≤1073741824) (hp1:Y3.Tr.length≤1073741824) (hp2:∀ t∈Y3.Tr,t.length≤1073741824)  : Fn prog 14 [.agg [.sl (Y3.Pq.map Gv.c), .sl (Y3.Tr.map (cL (cI .i64)))]] (.agg [.own 0, .own 1]) [.vec 62 3 (((Z2f Y3).Pq).map Gv.c) false, .nest 79 (((Z2f Y3).Tr).map fun l=>l.map (cI .i64)) false]:=by
 refine fnS E0Ok Z2 (c:=X0 f14) [] (.agg [.own 0, .own 1]) [.vec 62 3 (Y3.Pq.map Gv.c) false, .nest 79 (Y3.Tr.map fun l=>l.map (cI .i64)) false] func14 (sF (Z4O Y3.Pq hp0)<|sF (Z4R Y3.Tr hp1 hp2)<|sK [3,4] sN) rfl (by kernel_rfl) (by kernel_rfl) rfl ?_ ?_
 · rfl
 · simp [Z2f]
@[simp] theorem Z5b (a:Gm):Z2f a=a:=by
  simp [Z2f]
theorem Z2N (Y3:Gm) (hp0:Y3.Pq.length≤1073741824) (hp1:Y3.Tr.length≤1073741824) (hp2:∀ t∈Y3.Tr,t.length≤1073741824):Fn prog 14 [.agg [.sl (Y3.Pq.map Gv.c), .sl (Y3.Tr.map (cL (cI .i64)))]] (.agg [.own 0, .own 1]) [.vec 62 3 (Y3.Pq.map Gv.c) false, .nest 79 (Y3.Tr.map fun l=>l.map (cI .i64)) false]:=by
 simpa only [Z5b] using Z5j  Y3 hp0 hp1 hp2
def Z10 (YO:Int) (YC:Int) (Yy:Int):Bool:=(cond (decide (YO ≥ YC))
  (decide (YO≤Yy))
  false)
theorem Z3J (YO:Int) (YC:Int) (Yy:Int)   : Fn prog 73 [.i .i64 YO, .i .i64 YC, .i .i64 Yy] (.b (Z10 YO YC Yy)) []:=by
 cases h0:(decide (YO ≥ YC)) with
 | true =>
  have gh0:=odt h0
  refine fnS E0Ok Z2 (c:=X0 f73) [] (.b (decide (YO≤Yy))) [] func73 (sB h0<|sB h0<|sB h0<|sB h0<|sK [] sN) rfl (by kernel_rfl) (by kernel_rfl) rfl ?_ ?_
  · simp only [Z10,h0,cond_true]
  · rfl
 | false =>
  have gh0:=odf h0
  refine fnS E0Ok Z2 (c:=X0 f73) [] (.b false) [] func73 (sB h0<|sB h0<|sB h0<|sB h0<|sK [] sN) rfl (by kernel_rfl) (by kernel_rfl) rfl ?_ ?_
  · simp only [Z10,h0,cond_false]
  · rfl
def Zf (Yt:(List Int)) (YP:Int):Bool:=(cond ((Yt.length:Int) != 3)
  false
  (cond ((Yt.getD 0 default) == (Yt.getD 1 default))
    false
    (cond ((Yt.getD 1 default) == (Yt.getD 2 default))
      false
      (cond ((Yt.getD 0 default) == (Yt.getD 2 default))
        false
        (cond (Z10 (Yt.getD 0 default) 0 (IntKind.wrap .i64 (YP - 1)))
          (cond (Z10 (Yt.getD 1 default) 0 (IntKind.wrap .i64 (YP - 1)))
            (Z10 (Yt.getD 2 default) 0 (IntKind.wrap .i64 (YP - 1)))
            false)
          false)))))
theorem Z4r (Yt:(List Int)) (YP:Int) (hp0:Yt.length≤1073741824)  : Fn prog 91 [.sl (Yt.map (cI .i64)), .i .i64 YP] (.b (Zf Yt YP)) []:=by
 have p {a C} (s:Scr a C):=sK [28,28]<|sZ (cI .i64) Yt<|s
 cases h0:((Yt.length:Int) != 3) with
 | true =>
  have gh0:=bne_iff_ne.1 h0
  refine fnS E0Ok Z2 (c:=X0 f91) [] (.b false) [] func91 (p (sB h0<|sB h0<|sB h0<|sB h0<|sB h0<|sB h0<|sB h0<|sB h0<|sB (show true=true from rfl)<|sB (show true=true from rfl)<|sB (show true=true from rfl)<|sB (show true=true from rfl)<|sB (show true=true from rfl)<|sB (show true=true from rfl)<|sB (show true=true from rfl)<|sB (show true=true from rfl)<|sB (show true=true from rfl)<|sB (show true=true from rfl)<|sB (show true=true from rfl)<|sB (show true=true from rfl)<|sB (show true=true from rfl)<|sB (show true=true from rfl)<|sB (show true=true from rfl)<|sB (show true=true from rfl)<|sB (show true=true from rfl)<|sK [] sN)) rfl (by kernel_rfl) (by kernel_rfl) rfl ?_ ?_
  · simp only [Zf,h0,cond_true]
  · rfl
 | false =>
  have gh0:=bne_eq_false_iff_eq.1 h0
  have y0:(0:Int)≤0:=by clear p;exact (by omega)
  have y1:0 < (Yt.length:Int):=by clear p;exact (by omega)
  have y2:(0:Int)≤1:=by clear p;exact (by omega)
  have y3:1 < (Yt.length:Int):=by clear p;exact (by omega)
  have q {a C} (s:Scr a C):=p (sB h0<|sB h0<|sG (cI .i64) Yt 0 y0 y1<|sB h0<|sB h0<|sB h0<|sG (cI .i64) Yt 1 y2 y3<|sB h0<|sB h0<|sB h0<|s)
  clear p
  cases h1:((Yt.getD 0 default) == (Yt.getD 1 default)) with
  | true =>
   have gh1:=eq_of_beq h1
   refine fnS E0Ok Z2 (c:=X0 f91) [] (.b false) [] func91 (q (sB h1<|sB h1<|sB h1<|sB h1<|sB h1<|sB h1<|sB h1<|sB h1<|sB (show true=true from rfl)<|sB (show true=true from rfl)<|sB (show true=true from rfl)<|sB (show true=true from rfl)<|sB (show true=true from rfl)<|sB (show true=true from rfl)<|sB (show true=true from rfl)<|sB (show true=true from rfl)<|sB (show true=true from rfl)<|sK [] sN)) rfl (by kernel_rfl) (by kernel_rfl) rfl ?_ ?_
   · simp only [Zf,h0,h1,cond_true,cond_false]
   · rfl
  | false =>
   have gh1:=ne_of_beq_false h1
   have y4:(0:Int)≤2:=by clear q;exact (by omega)
   have y5:2 < (Yt.length:Int):=by clear q;exact (by omega)
   have p {a C} (s:Scr a C):=q (sB h1<|sB h1<|sG (cI .i64) Yt 1 y2 y3<|sB h1<|sB h1<|sB h1<|sG (cI .i64) Yt 2 y4 y5<|sB h1<|sB h1<|sB h1<|s)
   clear q
   cases h2:((Yt.getD 1 default) == (Yt.getD 2 default)) with
   | true =>
    have gh2:=eq_of_beq h2
    refine fnS E0Ok Z2 (c:=X0 f91) [] (.b false) [] func91 (p (sB h2<|sB h2<|sB h2<|sB h2<|sB h2<|sB h2<|sB h2<|sB h2<|sB (show true=true from rfl)<|sK [] sN)) rfl (by kernel_rfl) (by kernel_rfl) rfl ?_ ?_
    · simp only [Zf,h0,h1,h2,cond_true,cond_false]
    · rfl
   | false =>
    have gh2:=ne_of_beq_false h2
    have q {a C} (s:Scr a C):=p (sB h2<|sB h2<|sG (cI .i64) Yt 0 y0 y1<|sB h2<|sB h2<|sB h2<|sG (cI .i64) Yt 2 y4 y5<|sB h2<|sB h2<|sB h2<|s)
    clear p
    cases h3:((Yt.getD 0 default) == (Yt.getD 2 default)) with
    | true =>
     have gh3:=eq_of_beq h3
     refine fnS E0Ok Z2 (c:=X0 f91) [] (.b false) [] func91 (q (sB h3<|sK [] sN)) rfl (by kernel_rfl) (by kernel_rfl) rfl ?_ ?_
     · simp only [Zf,h0,h1,h2,h3,cond_true,cond_false]
     · rfl
    | false =>
     have gh3:=ne_of_beq_false h3
     have p {a C} (s:Scr a C):=q (sB h3<|sG (cI .i64) Yt 0 y0 y1<|sW .i64 (YP - 1)<|sF (Z3J (Yt.getD 0 default) 0 (IntKind.wrap .i64 (YP - 1)))<|s)
     clear q
     cases h4:(Z10 (Yt.getD 0 default) 0 (IntKind.wrap .i64 (YP - 1))) with
     | true =>
      have q {a C} (s:Scr a C):=p (sB h4<|sB h4<|sG (cI .i64) Yt 1 y2 y3<|sB h4<|sB h4<|sB h4<|sW .i64 (YP - 1)<|sB h4<|sF (Z3J (Yt.getD 1 default) 0 (IntKind.wrap .i64 (YP - 1)))<|sB h4<|s)
      clear p
      cases h5:(Z10 (Yt.getD 1 default) 0 (IntKind.wrap .i64 (YP - 1))) with
      | true =>
       refine fnS E0Ok Z2 (c:=X0 f91) [] (.b (Z10 (Yt.getD 2 default) 0 (IntKind.wrap .i64 (YP - 1)))) [] func91 (q (sB h5<|sB h5<|sG (cI .i64) Yt 2 y4 y5<|sB h5<|sB h5<|sB h5<|sW .i64 (YP - 1)<|sB h5<|sF (Z3J (Yt.getD 2 default) 0 (IntKind.wrap .i64 (YP - 1)))<|sB h5<|sK [] sN)) rfl (by kernel_rfl) (by kernel_rfl) rfl ?_ ?_
       · simp only [Zf,h0,h1,h2,h3,h4,h5,cond_true,cond_false]
       · rfl
      | false =>
       refine fnS E0Ok Z2 (c:=X0 f91) [] (.b false) [] func91 (q (sB h5<|sB h5<|sB h5<|sB h5<|sB h5<|sB h5<|sB h5<|sK [] sN)) rfl (by kernel_rfl) (by kernel_rfl) rfl ?_ ?_
       · simp only [Zf,h0,h1,h2,h3,h4,h5,cond_true,cond_false]
       · rfl
     | false =>
      refine fnS E0Ok Z2 (c:=X0 f91) [] (.b false) [] func91 (p (sB h4<|sB h4<|sB h4<|sB h4<|sB h4<|sB h4<|sB h4<|sB (show false=false from rfl)<|sB (show false=false from rfl)<|sB (show false=false from rfl)<|sB (show false=false from rfl)<|sB (show false=false from rfl)<|sB (show false=false from rfl)<|sB (show false=false from rfl)<|sK [] sN)) rfl (by kernel_rfl) (by kernel_rfl) rfl ?_ ?_
      · simp only [Zf,h0,h1,h2,h3,h4,cond_false]
      · rfl
def ZX (Y0:Gm):Nat→Int→(Unit) ⊕ (Unit)
  | 0,_ => .inl default
  | k + 1,Y2=>(cond (decide (Y2 < (Y0.Tr.length:Int)))
    (cond (Zf (Y0.Tr.getD Y2.toNat default) (Y0.Pq.length:Int))
      (ZX Y0 k (Y2 + 1))
      (.inl ()))
    (.inr ()))
def Z2r (Y0:Gm):(Unit) ⊕ (Unit)→Ex × St
  | .inl r=>(.ret,⟨.any :: .any :: .b false :: an 38 [],[]⟩)
  | .inr r=>((.exit 0),⟨.ref (Gm.c Y0) 0 :: .any :: .any :: .any :: .ref (Gm.c Y0) 0 :: .ref (Gm.c Y0) 0 :: .ref (Gm.c Y0) 0 :: .sl (Y0.Pq.map Gv.c) :: .i .i64 (Y0.Pq.length:Int) :: .b (decide ((Y0.Pq.length:Int) > 64)) :: .b (decide ((Y0.Pq.length:Int) > 64)) :: .ref (Gm.c Y0) 0 :: .ref (Gm.c Y0) 0 :: .ref (Gm.c Y0) 1 :: .sl (Y0.Tr.map (cL (cI .i64))) :: .i .i64 (Y0.Tr.length:Int) :: .b (decide ((Y0.Tr.length:Int) > 128)) :: .b (decide ((Y0.Tr.length:Int) > 128)) :: an 23 [],[]⟩)
def Z53 (Y0:Gm) (Y2:Int):St:=⟨.ref (Gm.c Y0) 0 :: .any :: .any :: .i .i64 Y2 :: .ref (Gm.c Y0) 0 :: .ref (Gm.c Y0) 0 :: .ref (Gm.c Y0) 0 :: .sl (Y0.Pq.map Gv.c) :: .i .i64 (Y0.Pq.length:Int) :: .b (decide ((Y0.Pq.length:Int) > 64)) :: .b (decide ((Y0.Pq.length:Int) > 64)) :: .ref (Gm.c Y0) 0 :: .ref (Gm.c Y0) 0 :: .ref (Gm.c Y0) 1 :: .sl (Y0.Tr.map (cL (cI .i64))) :: .i .i64 (Y0.Tr.length:Int) :: .b (decide ((Y0.Tr.length:Int) > 128)) :: .b (decide ((Y0.Tr.length:Int) > 128)) :: an 23 [],[]⟩
theorem Z3W (Y0:Gm) (hp0:Y0.Pq.length≤1073741824) (hp1:Y0.Tr.length≤1073741824) (hp2:∀ t∈Y0.Tr,t.length≤1073741824) (Z5P:(decide ((Y0.Pq.length:Int) > 64))=false) (Z5Q:(decide ((Y0.Tr.length:Int) > 128))=false):∀ (k:Nat) (Y2:Int) (Z3A:0≤Y2) (hk:((Y0.Tr.length:Int) - Y2).toNat < k),Lp prog 0 (sub (X0 f40) [1,1,0,1,0,0]) (Z53 Y0 Y2) (Z2r Y0 (ZX Y0 k Y2)).1 (Z2r Y0 (ZX Y0 k Y2)).2:=by
 intro k
 induction k with
 | zero=>intro Y2 Z3A hk;exact absurd hk (Nat.not_lt_zero _)
 | succ k ih =>
  intro Y2 Z3A hk
  have p {a C} (s:Scr a C):=sZ (cL (cI .i64)) Y0.Tr<|s
  cases Yh:(decide (Y2 < (Y0.Tr.length:Int))) with
  | true =>
   have Yq:=odt Yh
   have Yu:(0:Int)≤Y2:=by clear p;exact (by assumption)
   have Ys:Y2 < (Y0.Tr.length:Int):=by clear p;exact (by assumption)
   have Yw:(Y0.Tr.getD Y2.toNat default).length≤1073741824:=by clear p;exact (by simp_all<;>omega)
   have q {a C} (s:Scr a C):=p (sB Yh<|sK [12,12]<|sG (cL (cI .i64)) Y0.Tr Y2 Yu Ys<|sZ Gv.c Y0.Pq<|sF (Z4r (Y0.Tr.getD Y2.toNat default) (Y0.Pq.length:Int) Yw)<|s)
   clear p
   cases Yl:(Zf (Y0.Tr.getD Y2.toNat default) (Y0.Pq.length:Int)) with
   | true =>
    have Yv:(-9223372036854775808:Int)≤(Y2 + 1):=by clear q;exact (by omega)
    have Yz:(Y2 + 1)≤(9223372036854775807:Int):=by clear q;exact (by omega)
    have e:ZX Y0 (k + 1) Y2=(ZX Y0 k (Y2 + 1)):=by simp only [ZX,Yh,Yl,cond_true]
    rw [e]
    exact Xw E0Ok Z2 [] (mR false [0,1,2,15,23]) [] (ih (Y2 + 1) (show 0≤(Y2 + 1) from (by omega)) (by omega)) (q (sB' Yl<|sI (Y2 + 1) Yv Yz<|sN)) (by kernel_rfl)
   | false =>
    have e:ZX Y0 (k + 1) Y2=(.inl ()):=by simp only [ZX,Yh,Yl,cond_true,cond_false]
    rw [e]
    exact outR (e := .ret) E0Ok Z2 [] (mR false [2,1,38]) [] (q (sB' Yl<|sN)) (by kernel_rfl) (by intro h;cases h)
  | false =>
   have Yq:=odf Yh
   have e:ZX Y0 (k + 1) Y2=(.inr ()):=by simp only [ZX,Yh,cond_false]
   rw [e]
   exact outR (e:=(.exit 0)) E0Ok Z2 [] (mR false [0,1,3,14,23]) [] (p (sB Yh<|sN)) (by kernel_rfl) (by intro h;cases h)
def Z1C (Y0:Gm):(Unit) ⊕ (Unit):=(ZX Y0 (((Y0.Tr.length:Int) - 0).toNat + 1) 0)
def Zl (Y0:Gm):Bool:=(cond (decide ((Y0.Pq.length:Int) > 64))
  false
  (cond (decide ((Y0.Tr.length:Int) > 128))
    false
    (match (Z1C Y0) with
      | .inl r3=>false
      | .inr r3=>true)))
theorem Z5s (Y0:Gm) (hp0:Y0.Pq.length≤1073741824) (hp1:Y0.Tr.length≤1073741824) (hp2:∀ t∈Y0.Tr,t.length≤1073741824)  : Fn prog 40 [.ref (Gm.c Y0) 0] (.b (Zl Y0)) []:=by
 have p {a C} (s:Scr a C):=sZ Gv.c Y0.Pq<|s
 cases h0:(decide ((Y0.Pq.length:Int) > 64)) with
 | true =>
  have gh0:=odt h0
  refine fnS E0Ok Z2 (c:=X0 f40) [] (.b false) [] func40 (p (sB h0<|sB h0<|sB h0<|sB h0<|sB h0<|sB h0<|sB h0<|sB (show true=true from rfl)<|sK [] sN)) rfl (by kernel_rfl) (by kernel_rfl) rfl ?_ ?_
  · simp only [Zl,h0,cond_true]
  · rfl
 | false =>
  have gh0:=odf h0
  have q {a C} (s:Scr a C):=p (sB h0<|sB h0<|sB h0<|sB h0<|sB h0<|sZ (cL (cI .i64)) Y0.Tr<|sB h0<|sB h0<|s)
  clear p
  cases h1:(decide ((Y0.Tr.length:Int) > 128)) with
  | true =>
   have gh1:=odt h1
   refine fnS E0Ok Z2 (c:=X0 f40) [] (.b false) [] func40 (q (sB h1<|sK [] sN)) rfl (by kernel_rfl) (by kernel_rfl) rfl ?_ ?_
   · simp only [Zl,h0,h1,cond_true,cond_false]
   · rfl
  | false =>
   have gh1:=odf h1
   have p {a C} (s:Scr a C):=q (sB h1<|s)
   clear q
   cases h2:(Z1C Y0) with
   | inl r3 =>
    refine fnS E0Ok Z2 (c:=X0 f40) [] (.b false) [] func40 (p (sL (mR false [0,1,2,15,23]) 0 (X6 (Z2r Y0) (x:=(Z1C Y0)) (Z3W Y0 hp0 hp1 hp2 h0 h1 (((Y0.Tr.length:Int) - 0).toNat + 1) 0 (show 0≤0 from (by omega)) (Nat.lt_succ_self _)) h2)<|sK [] sN)) rfl (by kernel_rfl) (by kernel_rfl) rfl ?_ ?_
    · simp only [Zl,h0,h1,h2,cond_false]
    · rfl
   | inr r3 =>
    refine fnS E0Ok Z2 (c:=X0 f40) [] (.b true) [] func40 (p (sL (mR false [0,1,2,15,23]) 0 (X6 (Z2r Y0) (x:=(Z1C Y0)) (Z3W Y0 hp0 hp1 hp2 h0 h1 (((Y0.Tr.length:Int) - 0).toNat + 1) 0 (show 0≤0 from (by omega)) (Nat.lt_succ_self _)) h2)<|sK [] sN)) rfl (by kernel_rfl) (by kernel_rfl) rfl ?_ ?_
    · simp only [Zl,h0,h1,h2,cond_false]
    · rfl
theorem Z4S (m:Gm):Zl m=cond (decide ((m.Pq.length:Int) > 64)) false (cond (decide ((m.Tr.length:Int) > 128)) false (m.Tr.all fun t=>Zf t (m.Pq.length:Int))):=by
  unfold Zl Z1C
  rw [X2d (a:=m.Tr) (p:=fun t=>Zf t (m.Pq.length:Int)) (lo:=ZX m) (x:=()) (y:=()) (fun k i=>rfl)]
  cases (m.Tr.all fun t=>Zf t (m.Pq.length:Int))<;>rfl
theorem Z60 {t:List Int} {n:Int} (h0:0≤n) (h1:n≤64) (h:Zf t n=true):t.length=3∧∀ x∈t,0≤x∧x < n:=by
  unfold Zf at h
  rw [X2N (by omega) (by omega)] at h
  cases hl:((t.length:Int) != 3) with
  | true=>rw [hl] at h;cases h
  | false =>
    rw [hl,cond_false] at h
    have hl3:t.length=3:=by simp at hl;omega
    match t,hl3 with
    | [a,b,c],_ =>
      refine ⟨rfl,?_⟩
      simp only [List.getD_cons_zero,List.getD_cons_succ,Z10] at h
      cases e1:(a == b)<;>rw [e1] at h<;>(try (cases h;done))
      cases e2:(b == c)<;>rw [e2] at h<;>(try (cases h;done))
      cases e3:(a == c)<;>rw [e3] at h<;>(try (cases h;done))
      simp only [cond_false] at h
      cases f1:decide (a ≥ 0)<;>rw [f1] at h<;>(try (cases h;done))
      cases f2:decide (a≤n - 1)<;>rw [f2] at h<;>(try (cases h;done))
      cases f3:decide (b ≥ 0)<;>rw [f3] at h<;>(try (cases h;done))
      cases f4:decide (b≤n - 1)<;>rw [f4] at h<;>(try (cases h;done))
      cases f5:decide (c ≥ 0)<;>rw [f5] at h<;>(try (cases h;done))
      simp only [cond_true,decide_eq_true_eq] at h f1 f2 f3 f4 f5
      intro x hx
      simp only [List.mem_cons,List.not_mem_nil,or_false] at hx
      rcases hx with rfl | rfl | rfl<;>omega
theorem Z5L (m:Gm) (h:Zl m=true):X1x m.Pq.length m.Tr:=by
  rw [Z4S] at h
  cases h1:decide ((m.Pq.length:Int) > 64)<;>rw [h1] at h<;>(try (cases h;done))
  cases h2:decide ((m.Tr.length:Int) > 128)<;>rw [h2] at h<;>(try (cases h;done))
  simp only [cond_false,List.all_eq_true,decide_eq_false_iff_not] at h h1
  intro t ht
  exact Z60 (by omega) (by omega) (h t ht)
theorem Z1R (m:Gm) (h:Zl m=true):OkE m.Pq.length m.Tr:=by
  have h0:=Z5L m h
  rw [Z4S] at h
  cases h1:decide ((m.Pq.length:Int) > 64)<;>rw [h1] at h<;>(try (cases h;done))
  cases h2:decide ((m.Tr.length:Int) > 128)<;>rw [h2] at h<;>(try (cases h;done))
  simp only [cond_false,List.all_eq_true,decide_eq_false_iff_not] at h h1 h2
  refine ⟨by omega,by omega,fun t ht => ?_⟩
  have h3:=h t ht
  obtain ⟨hl,hx⟩:=h0 t ht
  match t,hl with
  | [a,b,c],_ =>
    unfold Zf at h3
    simp only [List.getD_cons_zero,List.getD_cons_succ] at h3
    cases e0:((([a,b,c]:List Int).length:Int) != 3)<;>rw [e0] at h3<;>(try (cases h3;done))
    cases e1:(a == b)<;>rw [e1] at h3<;>(try (cases h3;done))
    cases e2:(b == c)<;>rw [e2] at h3<;>(try (cases h3;done))
    cases e3:(a == c)<;>rw [e3] at h3<;>(try (cases h3;done))
    exact ⟨a,b,c,rfl,hx a (by simp),hx b (by simp),hx c (by simp),beq_eq_false_iff_ne.1 e1,beq_eq_false_iff_ne.1 e2,beq_eq_false_iff_ne.1 e3⟩
def Z15 (Y3:Int) (Yc:Int):Int:=(cond (decide (Y3 < Yc))
  Y3
  Yc)
theorem Z5k (Y3:Int) (Yc:Int)   : Fn prog 106 [.i .i64 Y3, .i .i64 Yc] (.i .i64 (Z15 Y3 Yc)) []:=by
 cases h0:(decide (Y3 < Yc)) with
 | true =>
  have gh0:=odt h0
  refine fnS E0Ok Z2 (c:=X0 f106) [] (.i .i64 Y3) [] func106 (sB h0<|sK [] sN) rfl (by kernel_rfl) (by kernel_rfl) rfl ?_ ?_
  · simp only [Z15,h0,cond_true]
  · rfl
 | false =>
  have gh0:=odf h0
  refine fnS E0Ok Z2 (c:=X0 f106) [] (.i .i64 Yc) [] func106 (sB h0<|sK [] sN) rfl (by kernel_rfl) (by kernel_rfl) rfl ?_ ?_
  · simp only [Z15,h0,cond_false]
  · rfl
theorem Z3K {a b n:Int} (h1:0≤a∧a < n) (h2:0≤b∧b < n):0≤Z15 a b∧Z15 a b < n:=by
  unfold Z15;cases decide (a < b)<;>simp only [cond_true,cond_false]<;>omega
def Z16 (Y3:Int) (Yc:Int):Int:=(cond (decide (Y3 > Yc))
  Y3
  Yc)
theorem Z5l (Y3:Int) (Yc:Int)   : Fn prog 107 [.i .i64 Y3, .i .i64 Yc] (.i .i64 (Z16 Y3 Yc)) []:=by
 cases h0:(decide (Y3 > Yc)) with
 | true =>
  have gh0:=odt h0
  refine fnS E0Ok Z2 (c:=X0 f107) [] (.i .i64 Y3) [] func107 (sB h0<|sK [] sN) rfl (by kernel_rfl) (by kernel_rfl) rfl ?_ ?_
  · simp only [Z16,h0,cond_true]
  · rfl
 | false =>
  have gh0:=odf h0
  refine fnS E0Ok Z2 (c:=X0 f107) [] (.i .i64 Yc) [] func107 (sB h0<|sK [] sN) rfl (by kernel_rfl) (by kernel_rfl) rfl ?_ ?_
  · simp only [Z16,h0,cond_false]
  · rfl
theorem Z3L {a b n:Int} (h1:0≤a∧a < n) (h2:0≤b∧b < n):0≤Z16 a b∧Z16 a b < n:=by
  unfold Z16;cases decide (a > b)<;>simp only [cond_true,cond_false]<;>omega
theorem Z4a (a b:Int):(⟨Z15 a b,Z16 a b⟩:Gedge)=mkE a b:=by
  unfold Z15 Z16 mkE
  by_cases h:a < b
  · rw [decide_eq_true h,decide_eq_false (by omega),if_pos (by omega)];rfl
  · rw [decide_eq_false h]
    by_cases h2:a > b
    · rw [decide_eq_true h2,if_neg (by omega)];rfl
    · rw [decide_eq_false h2,show a=b from by omega,if_pos (by omega)];rfl
def Zr (Y0:Gm) (Y2:Int) (Y8:Int):Int:=(Z15 ((Y0.Tr.getD Y2.toNat default).getD Y8.toNat default) ((Y0.Tr.getD Y2.toNat default).getD (Int.tmod (Y8 + 1) 3).toNat default))
def Zv (Y0:Gm) (Y2:Int) (Y8:Int):Int:=(Z16 ((Y0.Tr.getD Y2.toNat default).getD Y8.toNat default) ((Y0.Tr.getD Y2.toNat default).getD (Int.tmod (Y8 + 1) 3).toNat default))
def Zh (Y0:Gm) (Y2:Int) (Y7:(List Bool)):Nat→Int→(List Bool)→(List Bool)
  | 0,_,_=>default
  | k + 1,Y8,Yk=>(cond (decide (Y8 < 3))
    (Zh Y0 Y2 Y7 k (Y8 + 1) (Yk.set ((IntKind.wrap .i64 ((IntKind.wrap .i64 ((Zr Y0 Y2 Y8) * (Y0.Pq.length:Int))) + (Zv Y0 Y2 Y8))).toNat) true))
    Yk)
def Z2x (Y0:Gm) (Y2:Int) (Y7:(List Bool)) (r:(List Bool)):Ex × St:=((.exit 2),⟨.ref (Gm.c Y0) 0 :: .any :: .nils :: .i .i64 (Y0.Pq.length:Int) :: .own 0 :: .i .i64 Y2 :: .sl ((Y0.Tr.getD Y2.toNat default).map (cI .i64)) :: an 6 (.ref (Gm.c Y0) 0 :: .ref (Gm.c Y0) 0 :: .ref (Gm.c Y0) 0 :: .sl (Y0.Pq.map Gv.c) :: .i .i64 (Y0.Pq.length:Int) :: .i .i64 (Y0.Pq.length:Int) :: .i .i64 (Y0.Pq.length:Int) :: .i .i64 (IntKind.wrap .i64 ((Y0.Pq.length:Int) * (Y0.Pq.length:Int))) :: .own 0 :: .i .i64 Y2 :: .ref (Gm.c Y0) 0 :: .ref (Gm.c Y0) 0 :: .ref (Gm.c Y0) 1 :: .sl (Y0.Tr.map (cL (cI .i64))) :: .i .i64 (Y0.Tr.length:Int) :: .b (decide (Y2 < (Y0.Tr.length:Int))) :: .any :: .any :: .ref (Gm.c Y0) 0 :: .ref (Gm.c Y0) 0 :: .ref (Gm.c Y0) 1 :: .sl (Y0.Tr.map (cL (cI .i64))) :: .i .i64 Y2 :: .ref [.sl ((Y0.Tr.getD Y2.toNat default).map (cI .i64))] 0 :: .sl ((Y0.Tr.getD Y2.toNat default).map (cI .i64)) :: an 53 []),[.vec 4 1 (r.map cB) false]⟩)
def Z3l (Y0:Gm) (Y2:Int) (Y7:(List Bool)) (Y8:Int) (Yk:(List Bool)):St:=⟨.ref (Gm.c Y0) 0 :: .any :: .nils :: .i .i64 (Y0.Pq.length:Int) :: .own 0 :: .i .i64 Y2 :: .sl ((Y0.Tr.getD Y2.toNat default).map (cI .i64)) :: .i .i64 Y8 :: an 5 (.ref (Gm.c Y0) 0 :: .ref (Gm.c Y0) 0 :: .ref (Gm.c Y0) 0 :: .sl (Y0.Pq.map Gv.c) :: .i .i64 (Y0.Pq.length:Int) :: .i .i64 (Y0.Pq.length:Int) :: .i .i64 (Y0.Pq.length:Int) :: .i .i64 (IntKind.wrap .i64 ((Y0.Pq.length:Int) * (Y0.Pq.length:Int))) :: .own 0 :: .i .i64 Y2 :: .ref (Gm.c Y0) 0 :: .ref (Gm.c Y0) 0 :: .ref (Gm.c Y0) 1 :: .sl (Y0.Tr.map (cL (cI .i64))) :: .i .i64 (Y0.Tr.length:Int) :: .b (decide (Y2 < (Y0.Tr.length:Int))) :: .any :: .any :: .ref (Gm.c Y0) 0 :: .ref (Gm.c Y0) 0 :: .ref (Gm.c Y0) 1 :: .sl (Y0.Tr.map (cL (cI .i64))) :: .i .i64 Y2 :: .ref [.sl ((Y0.Tr.getD Y2.toNat default).map (cI .i64))] 0 :: .sl ((Y0.Tr.getD Y2.toNat default).map (cI .i64)) :: an 53 []),[.vec 4 1 (Yk.map cB) false]⟩
def Z32:List Bool:=(mR false [0,1,1,6,5,16,2,7,53])
def Z4b:List Bool:=(mR false [0,1,1,5,6,16,2,7,53])
set_option maxHeartbeats 1000000 in
theorem Z4s (Y0:Gm) (Y2:Int) (Y7:(List Bool)) (hp0:Y0.Pq.length≤1073741824) (hp1:Y0.Tr.length≤1073741824) (hp2:∀ t∈Y0.Tr,t.length≤1073741824) (hp3:OkE Y0.Pq.length Y0.Tr) (ZT:0≤Y2) (Z1F:Y7.length=(IntKind.wrap .i64 ((Y0.Pq.length:Int) * (Y0.Pq.length:Int))).toNat) (Z5H:(decide (Y2 < (Y0.Tr.length:Int)))=true):∀ (k:Nat) (Y8:Int) (Yk:(List Bool)) (Z1c:0≤Y8) (Z33:Yk.length=Y7.length) (hk:((3:Int) - Y8).toNat < k),Lp prog 0 (sub (X0 f66) [1,1,1,0,1,0,0,1,0,0,1,1,0,0]) (Z3l Y0 Y2 Y7 Y8 Yk) (Z2x Y0 Y2 Y7 (Zh Y0 Y2 Y7 k Y8 Yk)).1 (Z2x Y0 Y2 Y7 (Zh Y0 Y2 Y7 k Y8 Yk)).2:=by
 intro k
 induction k with
 | zero=>intro Y8 Yk Z1c Z33 hk;exact absurd hk (Nat.not_lt_zero _)
 | succ k ih =>
  intro Y8 Yk Z1c Z33 hk
  cases Yr:(decide (Y8 < 3)) with
  | true =>
   have YJ:=odt Yr
   have YQ:(0:Int)≤Y8:=(by assumption)
   have YR:Y8 < ((Y0.Tr.getD Y2.toNat default).length:Int):=(by ((have q:=OkE.at (by assumption) ZT (odt (by assumption)) Z1c (odt (by assumption));omega)))
   have YK:(-9223372036854775808:Int)≤(Y8 + 1):=(by omega)
   have YH:(Y8 + 1)≤(9223372036854775807:Int):=(by omega)
   have YS:(0:Int)≤(Int.tmod (Y8 + 1) 3):=(by ((have q:=OkE.at (by assumption) ZT (odt (by assumption)) Z1c (odt (by assumption));omega)))
   have YW:(Int.tmod (Y8 + 1) 3) < ((Y0.Tr.getD Y2.toNat default).length:Int):=(by ((have q:=OkE.at (by assumption) ZT (odt (by assumption)) Z1c (odt (by assumption));omega)))
   have YN:(0:Int)≤(IntKind.wrap .i64 ((IntKind.wrap .i64 ((Zr Y0 Y2 Y8) * (Y0.Pq.length:Int))) + (Zv Y0 Y2 Y8))):=(by ((have q:=OkE.at (by assumption) ZT (odt (by assumption)) Z1c (odt (by assumption));have q2:=ix2F q.2.2.2.2.2.1 (Z3K q.2.2.2.1 q.2.2.2.2.1).1 (Z3K q.2.2.2.1 q.2.2.2.2.1).2 (Z3L q.2.2.2.1 q.2.2.2.2.1).1 (Z3L q.2.2.2.1 q.2.2.2.2.1).2;unfold Zr Zv;omega)))
   have YT:(IntKind.wrap .i64 ((IntKind.wrap .i64 ((Zr Y0 Y2 Y8) * (Y0.Pq.length:Int))) + (Zv Y0 Y2 Y8))) < (Yk.length:Int):=(by ((have q:=OkE.at (by assumption) ZT (odt (by assumption)) Z1c (odt (by assumption));have q2:=ix2F q.2.2.2.2.2.1 (Z3K q.2.2.2.1 q.2.2.2.2.1).1 (Z3K q.2.2.2.1 q.2.2.2.2.1).2 (Z3L q.2.2.2.1 q.2.2.2.2.1).1 (Z3L q.2.2.2.1 q.2.2.2.2.1).2;unfold Zr Zv;omega)))
   have YZ:(IntKind.wrap .i64 ((IntKind.wrap .i64 ((Zr Y0 Y2 Y8) * (Y0.Pq.length:Int))) + (Zv Y0 Y2 Y8))).toNat < Yk.length:=(by omega)
   have e:Zh Y0 Y2 Y7 (k + 1) Y8 Yk=(Zh Y0 Y2 Y7 k (Y8 + 1) (Yk.set ((IntKind.wrap .i64 ((IntKind.wrap .i64 ((Zr Y0 Y2 Y8) * (Y0.Pq.length:Int))) + (Zv Y0 Y2 Y8))).toNat) true)):=by simp only [Zh,Yr,cond_true]
   rw [e]
   exact XP E0Ok Z2 [] Z32 [0] (⟨.ref (Gm.c Y0) 0 :: .any :: .nils :: .i .i64 (Y0.Pq.length:Int) :: .own 0 :: .i .i64 Y2 :: .sl ((Y0.Tr.getD Y2.toNat default).map (cI .i64)) :: .i .i64 (Y8 + 1) :: an 5 (.ref (Gm.c Y0) 0 :: .ref (Gm.c Y0) 0 :: .ref (Gm.c Y0) 0 :: .sl (Y0.Pq.map Gv.c) :: .i .i64 (Y0.Pq.length:Int) :: .i .i64 (Y0.Pq.length:Int) :: .i .i64 (Y0.Pq.length:Int) :: .i .i64 (IntKind.wrap .i64 ((Y0.Pq.length:Int) * (Y0.Pq.length:Int))) :: .own 0 :: .i .i64 Y2 :: .ref (Gm.c Y0) 0 :: .ref (Gm.c Y0) 0 :: .ref (Gm.c Y0) 1 :: .sl (Y0.Tr.map (cL (cI .i64))) :: .i .i64 (Y0.Tr.length:Int) :: .b (decide (Y2 < (Y0.Tr.length:Int))) :: .any :: .any :: .ref (Gm.c Y0) 0 :: .ref (Gm.c Y0) 0 :: .ref (Gm.c Y0) 1 :: .sl (Y0.Tr.map (cL (cI .i64))) :: .i .i64 Y2 :: .ref [.sl ((Y0.Tr.getD Y2.toNat default).map (cI .i64))] 0 :: .sl ((Y0.Tr.getD Y2.toNat default).map (cI .i64)) :: an 53 []),[.vec 4 1 ((Yk.map cB).set ((IntKind.wrap .i64 ((IntKind.wrap .i64 ((Zr Y0 Y2 Y8) * (Y0.Pq.length:Int))) + (Zv Y0 Y2 Y8))).toNat) [.b true]) false]⟩) (sB Yr<|sG (cI .i64) (Y0.Tr.getD Y2.toNat default) Y8 YQ YR<|sI (Y8 + 1) YK YH<|sC (show (3:Int)≠0 from (by decide))<|sQ (Int.tmod (Y8 + 1) 3)<|sG (cI .i64) (Y0.Tr.getD Y2.toNat default) (Int.tmod (Y8 + 1) 3) YS YW<|sF (Z5k ((Y0.Tr.getD Y2.toNat default).getD Y8.toNat default) ((Y0.Tr.getD Y2.toNat default).getD (Int.tmod (Y8 + 1) 3).toNat default))<|sW .i64 ((Zr Y0 Y2 Y8) * (Y0.Pq.length:Int))<|sF (Z5l ((Y0.Tr.getD Y2.toNat default).getD Y8.toNat default) ((Y0.Tr.getD Y2.toNat default).getD (Int.tmod (Y8 + 1) 3).toNat default))<|sW .i64 ((IntKind.wrap .i64 ((Zr Y0 Y2 Y8) * (Y0.Pq.length:Int))) + (Zv Y0 Y2 Y8))<|sX cB Yk (IntKind.wrap .i64 ((IntKind.wrap .i64 ((Zr Y0 Y2 Y8) * (Y0.Pq.length:Int))) + (Zv Y0 Y2 Y8))) YN YT<|sC (X4R (c:=cB) (l:=Yk) YZ)<|sI (Y8 + 1) YK YH<|sN) (by kernel_rfl) (by simp [Z3l,cL,cI,cB]) (ih (Y8 + 1) (Yk.set ((IntKind.wrap .i64 ((IntKind.wrap .i64 ((Zr Y0 Y2 Y8) * (Y0.Pq.length:Int))) + (Zv Y0 Y2 Y8))).toNat) true) (show 0≤(Y8 + 1) from (by omega)) (show (Yk.set ((IntKind.wrap .i64 ((IntKind.wrap .i64 ((Zr Y0 Y2 Y8) * (Y0.Pq.length:Int))) + (Zv Y0 Y2 Y8))).toNat) true).length=Y7.length from (by simp_all<;>omega)) (by omega))
  | false =>
   have YJ:=odf Yr
   have e:Zh Y0 Y2 Y7 (k + 1) Y8 Yk=Yk:=by simp only [Zh,Yr,cond_false]
   rw [e]
   exact outR (e:=(.exit 2)) E0Ok Z2 [] Z4b [0] (sB Yr<|sN) (by kernel_rfl) (by intro h;cases h)
theorem Z4c (Y0:Gm) (Y2:Int) (Y7:(List Bool)):∀ (k:Nat) (Y8:Int) (Yk:(List Bool)) (hk:((3:Int) - Y8).toNat < k),(Zh Y0 Y2 Y7 k Y8 Yk).length=Yk.length:=by
  intro k
  induction k with
  | zero=>intro Y8 Yk hk;exact absurd hk (Nat.not_lt_zero _)
  | succ k ih =>
    intro Y8 Yk hk
    cases Yr:(decide (Y8 < 3)) with
    | true =>
      have e:Zh Y0 Y2 Y7 (k + 1) Y8 Yk=(Zh Y0 Y2 Y7 k (Y8 + 1) (Yk.set ((IntKind.wrap .i64 ((IntKind.wrap .i64 ((Zr Y0 Y2 Y8) * (Y0.Pq.length:Int))) + (Zv Y0 Y2 Y8))).toNat) true)):=by simp only [Zh,Yr,cond_true]
      rw [e,ih (Y8 + 1) (Yk.set ((IntKind.wrap .i64 ((IntKind.wrap .i64 ((Zr Y0 Y2 Y8) * (Y0.Pq.length:Int))) + (Zv Y0 Y2 Y8))).toNat) true) (by simp_all<;>omega)];simp
    | false =>
      have e:Zh Y0 Y2 Y7 (k + 1) Y8 Yk=Yk:=by simp only [Zh,Yr,cond_false]
      first | (rw [e];done) | (rw [e];rfl)
def ZI (Y0:Gm) (Y2:Int) (Y7:(List Bool)):(List Bool):=(Zh Y0 Y2 Y7 (((3:Int) - 0).toNat + 1) 0 Y7)
@[simp] theorem Z3x (Y0:Gm) (Y2:Int) (Y7:(List Bool)):(ZI Y0 Y2 Y7).length=(Y7:(List Bool)).length:=Z4c Y0 Y2 Y7 (((3:Int) - 0).toNat + 1) 0 Y7 (by exact Nat.lt_succ_self _)
def Zo (Y0:Gm):Nat→Int→(List Bool)→(List Bool)
  | 0,_,_=>default
  | k + 1,Y2,Y7=>(cond (decide (Y2 < (Y0.Tr.length:Int)))
    (Zo Y0 k (Y2 + 1) (ZI Y0 Y2 Y7))
    Y7)
def Z2y (Y0:Gm) (r:(List Bool)):Ex × St:=((.exit 0),⟨.ref (Gm.c Y0) 0 :: .any :: .nils :: .i .i64 (Y0.Pq.length:Int) :: .own 0 :: an 8 (.ref (Gm.c Y0) 0 :: .ref (Gm.c Y0) 0 :: .ref (Gm.c Y0) 0 :: .sl (Y0.Pq.map Gv.c) :: .i .i64 (Y0.Pq.length:Int) :: .i .i64 (Y0.Pq.length:Int) :: .i .i64 (Y0.Pq.length:Int) :: .i .i64 (IntKind.wrap .i64 ((Y0.Pq.length:Int) * (Y0.Pq.length:Int))) :: .own 0 :: an 69 []),[.vec 4 1 (r.map cB) false]⟩)
def Z3m (Y0:Gm) (Y2:Int) (Y7:(List Bool)):St:=⟨.ref (Gm.c Y0) 0 :: .any :: .nils :: .i .i64 (Y0.Pq.length:Int) :: .own 0 :: .i .i64 Y2 :: an 7 (.ref (Gm.c Y0) 0 :: .ref (Gm.c Y0) 0 :: .ref (Gm.c Y0) 0 :: .sl (Y0.Pq.map Gv.c) :: .i .i64 (Y0.Pq.length:Int) :: .i .i64 (Y0.Pq.length:Int) :: .i .i64 (Y0.Pq.length:Int) :: .i .i64 (IntKind.wrap .i64 ((Y0.Pq.length:Int) * (Y0.Pq.length:Int))) :: .own 0 :: an 69 []),[.vec 4 1 (Y7.map cB) false]⟩
theorem Z4t (Y0:Gm) (hp0:Y0.Pq.length≤1073741824) (hp1:Y0.Tr.length≤1073741824) (hp2:∀ t∈Y0.Tr,t.length≤1073741824) (hp3:OkE Y0.Pq.length Y0.Tr):∀ (k:Nat) (Y2:Int) (Y7:(List Bool)) (ZT:0≤Y2) (Z1F:Y7.length=(IntKind.wrap .i64 ((Y0.Pq.length:Int) * (Y0.Pq.length:Int))).toNat) (hk:((Y0.Tr.length:Int) - Y2).toNat < k),Lp prog 0 (sub (X0 f66) [1,1,1,0,1,0,0]) (Z3m Y0 Y2 Y7) (Z2y Y0 (Zo Y0 k Y2 Y7)).1 (Z2y Y0 (Zo Y0 k Y2 Y7)).2:=by
 intro k
 induction k with
 | zero=>intro Y2 Y7 ZT Z1F hk;exact absurd hk (Nat.not_lt_zero _)
 | succ k ih =>
  intro Y2 Y7 ZT Z1F hk
  have p {a C} (s:Scr a C):=sZ (cL (cI .i64)) Y0.Tr<|s
  cases Yh:(decide (Y2 < (Y0.Tr.length:Int))) with
  | true =>
   have Yq:=odt Yh
   have Yu:(0:Int)≤Y2:=by clear p;exact (by assumption)
   have Ys:Y2 < (Y0.Tr.length:Int):=by clear p;exact (by assumption)
   have Yw:(-9223372036854775808:Int)≤(Y2 + 1):=by clear p;exact (by omega)
   have Yv:(Y2 + 1)≤(9223372036854775807:Int):=by clear p;exact (by omega)
   have e:Zo Y0 (k + 1) Y2 Y7=(Zo Y0 k (Y2 + 1) (ZI Y0 Y2 Y7)):=by simp only [Zo,Yh,cond_true]
   rw [e]
   exact Xw E0Ok Z2 [] (mR false [0,1,1,4,7,9,69]) [0] (ih (Y2 + 1) (ZI Y0 Y2 Y7) (show 0≤(Y2 + 1) from (by omega)) (show (ZI Y0 Y2 Y7).length=(IntKind.wrap .i64 ((Y0.Pq.length:Int) * (Y0.Pq.length:Int))).toNat from (by simp_all<;>omega)) (by omega)) (p (sB Yh<|sG (cL (cI .i64)) Y0.Tr Y2 Yu Ys<|sL Z32 1 (X6 (Z2x Y0 Y2 Y7) (x:=(ZI Y0 Y2 Y7)) (Z4s Y0 Y2 Y7 hp0 hp1 hp2 hp3 ZT Z1F Yh (((3:Int) - 0).toNat + 1) 0 Y7 (show 0≤0 from (by omega)) (show Y7.length=Y7.length from (by omega)) (Nat.lt_succ_self _)) rfl)<|sI (Y2 + 1) Yw Yv<|sN)) (by kernel_rfl)
  | false =>
   have Yq:=odf Yh
   have e:Zo Y0 (k + 1) Y2 Y7=Y7:=by simp only [Zo,Yh,cond_false]
   rw [e]
   exact outR (e:=(.exit 0)) E0Ok Z2 [] (mR false [0,1,1,3,8,9,69]) [0] (p (sB Yh<|sN)) (by kernel_rfl) (by intro h;cases h)
theorem Z4d (Y0:Gm):∀ (k:Nat) (Y2:Int) (Y7:(List Bool)) (hk:((Y0.Tr.length:Int) - Y2).toNat < k),(Zo Y0 k Y2 Y7).length=Y7.length:=by
  intro k
  induction k with
  | zero=>intro Y2 Y7 hk;exact absurd hk (Nat.not_lt_zero _)
  | succ k ih =>
    intro Y2 Y7 hk
    cases Yh:(decide (Y2 < (Y0.Tr.length:Int))) with
    | true =>
      have e:Zo Y0 (k + 1) Y2 Y7=(Zo Y0 k (Y2 + 1) (ZI Y0 Y2 Y7)):=by simp only [Zo,Yh,cond_true]
      rw [e,ih (Y2 + 1) (ZI Y0 Y2 Y7) (by simp_all<;>omega)];simp
    | false =>
      have e:Zo Y0 (k + 1) Y2 Y7=Y7:=by simp only [Zo,Yh,cond_false]
      first | (rw [e];done) | (rw [e];rfl)
def Zb (Y0:Gm):(List Bool):=(Zo Y0 (((Y0.Tr.length:Int) - 0).toNat + 1) 0 (List.replicate (IntKind.wrap .i64 ((Y0.Pq.length:Int) * (Y0.Pq.length:Int))).toNat false))
@[simp] theorem Z3y (Y0:Gm):(Zb Y0).length=((List.replicate (IntKind.wrap .i64 ((Y0.Pq.length:Int) * (Y0.Pq.length:Int))).toNat false):(List Bool)).length:=Z4d Y0 (((Y0.Tr.length:Int) - 0).toNat + 1) 0 (List.replicate (IntKind.wrap .i64 ((Y0.Pq.length:Int) * (Y0.Pq.length:Int))).toNat false) (by exact Nat.lt_succ_self _)
def Zp (Y0:Gm) (Yg:Int) (Ya:(List (List Int))):Nat→Int→(List (List Int))→(List (List Int))
  | 0,_,_=>default
  | k + 1,Yn,Y4=>(cond (decide (Yn < (Y0.Pq.length:Int)))
    (cond ((Zb Y0).getD ((IntKind.wrap .i64 ((IntKind.wrap .i64 (Yg * (Y0.Pq.length:Int))) + Yn)).toNat) default)
      (Zp Y0 Yg Ya k (Yn + 1) (Y4 ++ [[Yg,Yn]]))
      (Zp Y0 Yg Ya k (Yn + 1) Y4))
    Y4)
def Z2z (Y0:Gm) (Yg:Int) (Ya:(List (List Int))) (r:(List (List Int))):Ex × St:=((.exit 6),⟨.ref (Gm.c Y0) 0 :: .any :: .nils :: .i .i64 (Y0.Pq.length:Int) :: .own 0 :: an 5 (.own 1 :: .i .i64 Yg :: .any :: .ref (Gm.c Y0) 0 :: .ref (Gm.c Y0) 0 :: .ref (Gm.c Y0) 0 :: .sl (Y0.Pq.map Gv.c) :: .i .i64 (Y0.Pq.length:Int) :: .i .i64 (Y0.Pq.length:Int) :: .i .i64 (Y0.Pq.length:Int) :: .i .i64 (IntKind.wrap .i64 ((Y0.Pq.length:Int) * (Y0.Pq.length:Int))) :: .own 0 :: an 42 (.i .i64 Yg :: .i .i64 (Y0.Pq.length:Int) :: .b (decide (Yg < (Y0.Pq.length:Int))) :: .any :: .any :: .i .i64 Yg :: .i .i64 (Yg + 1) :: an 20 [])),[.vec 4 1 ((Zb Y0).map cB) false, .nest 79 (r.map fun l=>l.map (cI .i64)) false]⟩)
def Z3n (Y0:Gm) (Yg:Int) (Ya:(List (List Int))) (Yn:Int) (Y4:(List (List Int))):St:=⟨.ref (Gm.c Y0) 0 :: .any :: .nils :: .i .i64 (Y0.Pq.length:Int) :: .own 0 :: an 5 (.own 1 :: .i .i64 Yg :: .i .i64 Yn :: .ref (Gm.c Y0) 0 :: .ref (Gm.c Y0) 0 :: .ref (Gm.c Y0) 0 :: .sl (Y0.Pq.map Gv.c) :: .i .i64 (Y0.Pq.length:Int) :: .i .i64 (Y0.Pq.length:Int) :: .i .i64 (Y0.Pq.length:Int) :: .i .i64 (IntKind.wrap .i64 ((Y0.Pq.length:Int) * (Y0.Pq.length:Int))) :: .own 0 :: an 42 (.i .i64 Yg :: .i .i64 (Y0.Pq.length:Int) :: .b (decide (Yg < (Y0.Pq.length:Int))) :: .any :: .any :: .i .i64 Yg :: .i .i64 (Yg + 1) :: an 20 [])),[.vec 4 1 ((Zb Y0).map cB) false, .nest 79 (Y4.map fun l=>l.map (cI .i64)) false]⟩
def Z2d:List Bool:=(mR false [0,1,1,3,5,12,42,3,2,2,20])
def Z4e:List Bool:=(mR false [0,1,1,3,5,2,1,9,42,3,2,2,20])
set_option maxHeartbeats 1000000 in
theorem Z4u (Y0:Gm) (Yg:Int) (Ya:(List (List Int))) (hp0:Y0.Pq.length≤1073741824) (hp1:Y0.Tr.length≤1073741824) (hp2:∀ t∈Y0.Tr,t.length≤1073741824) (hp3:OkE Y0.Pq.length Y0.Tr) (Z1G:0≤Yg) (Z1H:(Ya.length:Int)≤64 * Yg) (Z1I:(decide (Yg < (Y0.Pq.length:Int)))=true):∀ (k:Nat) (Yn:Int) (Y4:(List (List Int))) (Z34:Yg < Yn) (Z35:(Y4.length:Int)≤(Ya.length:Int) + Yn) (hk:((Y0.Pq.length:Int) - Yn).toNat < k),Lp prog 0 (sub (X0 f66) [1,1,1,1,1,0,1,0,0,1,0,0,1,0,0]) (Z3n Y0 Yg Ya Yn Y4) (Z2z Y0 Yg Ya (Zp Y0 Yg Ya k Yn Y4)).1 (Z2z Y0 Yg Ya (Zp Y0 Yg Ya k Yn Y4)).2:=by
 intro k
 induction k with
 | zero=>intro Yn Y4 Z34 Z35 hk;exact absurd hk (Nat.not_lt_zero _)
 | succ k ih =>
  intro Yn Y4 Z34 Z35 hk
  cases Yr:(decide (Yn < (Y0.Pq.length:Int))) with
  | true =>
   have YJ:=odt Yr
   have YQ:(0:Int)≤(IntKind.wrap .i64 ((IntKind.wrap .i64 (Yg * (Y0.Pq.length:Int))) + Yn)):=(by ((have:=hp3.1;have g4:=odt Z1I;(have q2:=ix2F (n:=(Y0.Pq.length:Int)) (a:=Yg) (b:=Yn) (by omega) (by omega) (by omega) (by omega) (by omega);omega))))
   have YR:(IntKind.wrap .i64 ((IntKind.wrap .i64 (Yg * (Y0.Pq.length:Int))) + Yn)) < ((Zb Y0).length:Int):=(by ((have:=hp3.1;have g4:=odt Z1I;(have q2:=ix2F (n:=(Y0.Pq.length:Int)) (a:=Yg) (b:=Yn) (by omega) (by omega) (by omega) (by omega) (by omega);(simp only [Z3y,List.length_replicate];omega)))))
   have YK:(IntKind.wrap .i64 ((IntKind.wrap .i64 (Yg * (Y0.Pq.length:Int))) + Yn)).toNat < (Zb Y0).length:=(by omega)
   have p {a C} (s:Scr a C):=sB Yr<|sW .i64 (Yg * (Y0.Pq.length:Int))<|sW .i64 ((IntKind.wrap .i64 (Yg * (Y0.Pq.length:Int))) + Yn)<|sX cB (Zb Y0) (IntKind.wrap .i64 ((IntKind.wrap .i64 (Yg * (Y0.Pq.length:Int))) + Yn)) YQ YR<|sV cB (Zb Y0) ((IntKind.wrap .i64 ((IntKind.wrap .i64 (Yg * (Y0.Pq.length:Int))) + Yn)).toNat) YK<|s
   cases YA:((Zb Y0).getD ((IntKind.wrap .i64 ((IntKind.wrap .i64 (Yg * (Y0.Pq.length:Int))) + Yn)).toNat) default) with
   | true =>
    have YH:Y4.length + [[Yg,Yn]].length≤1073741824:=by clear p;exact (by ((have:=hp3.1;have g4:=odt Z1I;(simp only [List.length_append,List.length_cons,List.length_nil];omega))))
    have YS:(-9223372036854775808:Int)≤(Yn + 1):=by clear p;exact (by omega)
    have YW:(Yn + 1)≤(9223372036854775807:Int):=by clear p;exact (by omega)
    have e:Zp Y0 Yg Ya (k + 1) Yn Y4=(Zp Y0 Yg Ya k (Yn + 1) (Y4 ++ [[Yg,Yn]])):=by simp only [Zp,Yr,YA,cond_true]
    rw [e]
    exact XP E0Ok Z2 [] Z2d [0,1] (⟨.ref (Gm.c Y0) 0 :: .any :: .nils :: .i .i64 (Y0.Pq.length:Int) :: .own 0 :: an 5 (.own 1 :: .i .i64 Yg :: .i .i64 (Yn + 1) :: .ref (Gm.c Y0) 0 :: .ref (Gm.c Y0) 0 :: .ref (Gm.c Y0) 0 :: .sl (Y0.Pq.map Gv.c) :: .i .i64 (Y0.Pq.length:Int) :: .i .i64 (Y0.Pq.length:Int) :: .i .i64 (Y0.Pq.length:Int) :: .i .i64 (IntKind.wrap .i64 ((Y0.Pq.length:Int) * (Y0.Pq.length:Int))) :: .own 0 :: an 42 (.i .i64 Yg :: .i .i64 (Y0.Pq.length:Int) :: .b (decide (Yg < (Y0.Pq.length:Int))) :: .any :: .any :: .i .i64 Yg :: .i .i64 (Yg + 1) :: an 20 [])),[.vec 4 1 ((Zb Y0).map cB) false, .nest 79 ((Y4.map fun l=>l.map (cI .i64)) ++ [([[.i .i64 Yg],[.i .i64 Yn]]:List (List AV))]) false]⟩) (p (sB YA<|sC (show (Y4.map fun l=>l.map (cI .i64)).length + [([[.i .i64 Yg],[.i .i64 Yn]]:List (List AV))].length≤1073741824 from (by simpa using YH))<|sI (Yn + 1) YS YW<|sN)) (by kernel_rfl) (by simp [Z3n,cL,cI,cB]) (ih (Yn + 1) (Y4 ++ [[Yg,Yn]]) (show Yg < (Yn + 1) from (by omega)) (show ((Y4 ++ [[Yg,Yn]]).length:Int)≤(Ya.length:Int) + (Yn + 1) from (by ((have:=hp3.1;have g4:=odt Z1I;(simp only [List.length_append,List.length_cons,List.length_nil];omega))))) (by omega))
   | false =>
    have YH:(-9223372036854775808:Int)≤(Yn + 1):=by clear p;exact (by omega)
    have YS:(Yn + 1)≤(9223372036854775807:Int):=by clear p;exact (by omega)
    have e:Zp Y0 Yg Ya (k + 1) Yn Y4=(Zp Y0 Yg Ya k (Yn + 1) Y4):=by simp only [Zp,Yr,YA,cond_true,cond_false]
    rw [e]
    exact Xw E0Ok Z2 [] Z2d [0,1] (ih (Yn + 1) Y4 (show Yg < (Yn + 1) from (by omega)) (show (Y4.length:Int)≤(Ya.length:Int) + (Yn + 1) from (by omega)) (by omega)) (p (sB YA<|sI (Yn + 1) YH YS<|sN)) (by kernel_rfl)
  | false =>
   have YJ:=odf Yr
   have e:Zp Y0 Yg Ya (k + 1) Yn Y4=Y4:=by simp only [Zp,Yr,cond_false]
   rw [e]
   exact outR (e:=(.exit 6)) E0Ok Z2 [] Z4e [0,1] (sB Yr<|sN) (by kernel_rfl) (by intro h;cases h)
end Go.Ab
