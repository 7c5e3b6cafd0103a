/- The functions of this seat as plain Lean, and that the program's are these. Printed by a program of the prover's own. -/
import Derived.Test.YtiddhiepmakopaaB0
set_option linter.unusedVariables false
set_option linter.unusedSimpArgs false
set_option maxRecDepth 100000
namespace Go.Ab
open Go.RowKit Go.Proofs.Try
def Zq (Y5:(List Gv)) (Ya:Int):Int:=(cond (decide ((IntKind.wrap .i64 (Ya - (Y5.length:Int))) < 0))
  (-1)
  (IntKind.wrap .i64 (Ya - (Y5.length:Int))))
theorem Z49 (Y5:(List Gv)) (Ya:Int) (hp0:Y5.length≤9223372036854775807)  : Fn prog 38 [.sl (Y5.map Gv.c), .i .i64 Ya] (.i .i64 (Zq Y5 Ya)) []:=by
 have p {a C} (s:Scr a C):=sZ Gv.c Y5<|sW .i64 (Ya - (Y5.length:Int))<|s
 cases h0:(decide ((IntKind.wrap .i64 (Ya - (Y5.length:Int))) < 0)) with
 | true =>
  have gh0:=odt h0
  refine fnS E0Ok Z4 (c:=X0 f38) [] (.i .i64 (-1)) [] func38 (p (sB h0<|sK [] sN)) rfl (by kernel_rfl) (by kernel_rfl) rfl ?_ ?_
  · simp only [Zq,h0,cond_true]
  · rfl
 | false =>
  have gh0:=odf h0
  refine fnS E0Ok Z4 (c:=X0 f38) [] (.i .i64 (IntKind.wrap .i64 (Ya - (Y5.length:Int)))) [] func38 (p (sB h0<|sK [] sN)) rfl (by kernel_rfl) (by kernel_rfl) rfl ?_ ?_
  · simp only [Zq,h0,cond_false]
  · rfl
theorem Z43 (a:List Gv) (left:Int) (h0:a.length≤9223372036854775807) (h1:-1≤left) (h2:left≤1048576):-1≤Zq a left∧Zq a left≤left∧(Zq a left < 0∨(a.length:Int)≤left):=by
  unfold Zq
  rw [X2R (by omega) (by omega)]
  by_cases h:left - (a.length:Int) < 0
  · simp [h];omega
  · simp [h];omega
def ZG (Y5:(List Int)) (Ya:Int):Int:=(cond (decide ((IntKind.wrap .i64 (Ya - (Y5.length:Int))) < 0))
  (-1)
  (IntKind.wrap .i64 (Ya - (Y5.length:Int))))
theorem Z4q (Y5:(List Int)) (Ya:Int) (hp0:Y5.length≤9223372036854775807)  : Fn prog 90 [.sl (Y5.map (cI .i64)), .i .i64 Ya] (.i .i64 (ZG Y5 Ya)) []:=by
 have p {a C} (s:Scr a C):=sZ (cI .i64) Y5<|sW .i64 (Ya - (Y5.length:Int))<|s
 cases h0:(decide ((IntKind.wrap .i64 (Ya - (Y5.length:Int))) < 0)) with
 | true =>
  have gh0:=odt h0
  refine fnS E0Ok Z4 (c:=X0 f90) [] (.i .i64 (-1)) [] func90 (p (sB h0<|sK [] sN)) rfl (by kernel_rfl) (by kernel_rfl) rfl ?_ ?_
  · simp only [ZG,h0,cond_true]
  · rfl
 | false =>
  have gh0:=odf h0
  refine fnS E0Ok Z4 (c:=X0 f90) [] (.i .i64 (IntKind.wrap .i64 (Ya - (Y5.length:Int)))) [] func90 (p (sB h0<|sK [] sN)) rfl (by kernel_rfl) (by kernel_rfl) rfl ?_ ?_
  · simp only [ZG,h0,cond_false]
  · rfl
theorem Z4a (a:List Int) (left:Int) (h0:a.length≤9223372036854775807) (h1:-1≤left) (h2:left≤1048576):-1≤ZG a left∧ZG a left≤left∧(ZG a left < 0∨(a.length:Int)≤left):=by
  unfold ZG
  rw [X2R (by omega) (by omega)]
  by_cases h:left - (a.length:Int) < 0
  · simp [h];omega
  · simp [h];omega
def Zs (Y5:(List (List Int))) (Ya:Int):Nat→Int→Int→(Unit) ⊕ (Int)
  | 0,_,_ => .inl default
  | k + 1,Yp,Yc=>(cond (decide (Yc < (Y5.length:Int)))
    (cond (decide ((ZG (Y5.getD Yc.toNat default) Yp) < 0))
      (.inl ())
      (Zs Y5 Ya k (ZG (Y5.getD Yc.toNat default) Yp) (Yc + 1)))
    (.inr Yp))
def Z1Q (Y5:(List (List Int))) (Ya:Int):(Unit) ⊕ (Int)→Ex × St
  | .inl r=>(.ret,⟨an 4 (.i .i64 (-1) :: an 22 []),[]⟩)
  | .inr r=>((.exit 0),⟨.sl (Y5.map (cL (cI .i64))) :: .i .i64 r :: an 4 (.i .i64 Ya :: .sl (Y5.map (cL (cI .i64))) :: .i .i64 (Y5.length:Int) :: .i .i64 (IntKind.wrap .i64 (Ya - (Y5.length:Int))) :: .i .i64 (IntKind.wrap .i64 (Ya - (Y5.length:Int))) :: .b (decide ((IntKind.wrap .i64 (Ya - (Y5.length:Int))) < 0)) :: an 15 []),[]⟩)
def Z3J (Y5:(List (List Int))) (Ya:Int) (Yp:Int) (Yc:Int):St:=⟨.sl (Y5.map (cL (cI .i64))) :: .i .i64 Yp :: .any :: .any :: .any :: .i .i64 Yc :: .i .i64 Ya :: .sl (Y5.map (cL (cI .i64))) :: .i .i64 (Y5.length:Int) :: .i .i64 (IntKind.wrap .i64 (Ya - (Y5.length:Int))) :: .i .i64 (IntKind.wrap .i64 (Ya - (Y5.length:Int))) :: .b (decide ((IntKind.wrap .i64 (Ya - (Y5.length:Int))) < 0)) :: an 15 [],[]⟩
theorem Z2V (Y5:(List (List Int))) (Ya:Int) (hp0:Y5.length≤9223372036854775807) (hp1:∀ t∈Y5,t.length≤9223372036854775807) (Z55:(decide ((IntKind.wrap .i64 (Ya - (Y5.length:Int))) < 0))=false):∀ (k:Nat) (Yp:Int) (Yc:Int) (Z2A:0≤Yc) (hk:((Y5.length:Int) - Yc).toNat < k),Lp prog 0 (sub (X0 f39) [1,1,1,0,1,0,0]) (Z3J Y5 Ya Yp Yc) (Z1Q Y5 Ya (Zs Y5 Ya k Yp Yc)).1 (Z1Q Y5 Ya (Zs Y5 Ya k Yp Yc)).2:=by
 intro k
 induction k with
 | zero=>intro Yp Yc Z2A hk;exact absurd hk (Nat.not_lt_zero _)
 | succ k ih =>
  intro Yp Yc Z2A hk
  have p {a C} (s:Scr a C):=sZ (cL (cI .i64)) Y5<|s
  cases Yf:(decide (Yc < (Y5.length:Int))) with
  | true =>
   have Yt:=odt Yf
   have Yx:(0:Int)≤Yc:=by clear p;exact (by assumption)
   have Yw:Yc < (Y5.length:Int):=by clear p;exact (by assumption)
   have YC:(Y5.getD Yc.toNat default).length≤9223372036854775807:=by clear p;exact (by simp_all<;>omega)
   have q {a C} (s:Scr a C):=p (sB Yf<|sG (cL (cI .i64)) Y5 Yc Yx Yw<|sF (Z4q (Y5.getD Yc.toNat default) Yp YC)<|s)
   clear p
   cases Yi:(decide ((ZG (Y5.getD Yc.toNat default) Yp) < 0)) with
   | true =>
    have YM:=odt Yi
    have e:Zs Y5 Ya (k + 1) Yp Yc=(.inl ()):=by simp only [Zs,Yf,Yi,cond_true]
    rw [e]
    exact outR (e := .ret) E0Ok Z4 [] (mR false [4,1,22]) [] (q (sB Yi<|sN)) (by kernel_rfl) (by intro h;cases h)
   | false =>
    have YM:=odf Yi
    have YA:(-9223372036854775808:Int)≤(Yc + 1):=by clear q;exact (by omega)
    have YE:(Yc + 1)≤(9223372036854775807:Int):=by clear q;exact (by omega)
    have e:Zs Y5 Ya (k + 1) Yp Yc=(Zs Y5 Ya k (ZG (Y5.getD Yc.toNat default) Yp) (Yc + 1)):=by simp only [Zs,Yf,Yi,cond_true,cond_false]
    rw [e]
    exact Xp E0Ok Z4 [] (mR false [0,2,3,7,15]) [] (ih (ZG (Y5.getD Yc.toNat default) Yp) (Yc + 1) (show 0≤(Yc + 1) from (by omega)) (by omega)) (q (sB Yi<|sI (Yc + 1) YA YE<|sN)) (by kernel_rfl)
  | false =>
   have Yt:=odf Yf
   have e:Zs Y5 Ya (k + 1) Yp Yc=(.inr Yp):=by simp only [Zs,Yf,cond_false]
   rw [e]
   exact outR (e:=(.exit 0)) E0Ok Z4 [] (mR false [0,2,4,6,15]) [] (p (sB Yf<|sN)) (by kernel_rfl) (by intro h;cases h)
def Z1k (Y5:(List (List Int))) (Ya:Int):(Unit) ⊕ (Int):=(Zs Y5 Ya (((Y5.length:Int) - 0).toNat + 1) (IntKind.wrap .i64 (Ya - (Y5.length:Int))) 0)
def ZH (Y5:(List (List Int))) (Ya:Int):Int:=(cond (decide ((IntKind.wrap .i64 (Ya - (Y5.length:Int))) < 0))
  (-1)
  (match (Z1k Y5 Ya) with
    | .inl r2=>(-1)
    | .inr r2=>r2))
theorem Z4b (Y5:(List (List Int))) (Ya:Int) (hp0:Y5.length≤9223372036854775807) (hp1:∀ t∈Y5,t.length≤9223372036854775807)  : Fn prog 39 [.sl (Y5.map (cL (cI .i64))), .i .i64 Ya] (.i .i64 (ZH Y5 Ya)) []:=by
 have p {a C} (s:Scr a C):=sZ (cL (cI .i64)) Y5<|sW .i64 (Ya - (Y5.length:Int))<|s
 cases h0:(decide ((IntKind.wrap .i64 (Ya - (Y5.length:Int))) < 0)) with
 | true =>
  have gh0:=odt h0
  refine fnS E0Ok Z4 (c:=X0 f39) [] (.i .i64 (-1)) [] func39 (p (sB h0<|sK [] sN)) rfl (by kernel_rfl) (by kernel_rfl) rfl ?_ ?_
  · simp only [ZH,h0,cond_true]
  · rfl
 | false =>
  have gh0:=odf h0
  have q {a C} (s:Scr a C):=p (sB h0<|s)
  clear p
  cases h1:(Z1k Y5 Ya) with
  | inl r2 =>
   refine fnS E0Ok Z4 (c:=X0 f39) [] (.i .i64 (-1)) [] func39 (q (sL (mR false [0,2,3,7,15]) 0 (X6 (Z1Q Y5 Ya) (x:=(Z1k Y5 Ya)) (Z2V Y5 Ya hp0 hp1 h0 (((Y5.length:Int) - 0).toNat + 1) (IntKind.wrap .i64 (Ya - (Y5.length:Int))) 0 (show 0≤0 from (by omega)) (Nat.lt_succ_self _)) h1)<|sK [] sN)) rfl (by kernel_rfl) (by kernel_rfl) rfl ?_ ?_
   · simp only [ZH,h0,h1,cond_false]
   · rfl
  | inr r2 =>
   refine fnS E0Ok Z4 (c:=X0 f39) [] (.i .i64 r2) [] func39 (q (sL (mR false [0,2,3,7,15]) 0 (X6 (Z1Q Y5 Ya) (x:=(Z1k Y5 Ya)) (Z2V Y5 Ya hp0 hp1 h0 (((Y5.length:Int) - 0).toNat + 1) (IntKind.wrap .i64 (Ya - (Y5.length:Int))) 0 (show 0≤0 from (by omega)) (Nat.lt_succ_self _)) h1)<|sK [] sN)) rfl (by kernel_rfl) (by kernel_rfl) rfl ?_ ?_
   · simp only [ZH,h0,h1,cond_false]
   · rfl
theorem Z4V (a:List (List Int)) (left:Int) (hb:∀ t∈a,t.length≤9223372036854775807):∀ (k:Nat) (l i:Int),0≤i→((a.length:Int) - i).toNat < k→-1≤l→l≤1048576 →
    Zs a left k l i = .inl ()∨∃ r,Zs a left k l i = .inr r∧-1≤r∧r≤l∧∀ j,i.toNat≤j→j < a.length→((a.getD j default).length:Int)≤l:=by
  intro k
  induction k with
  | zero=>intro l i h0 hk;exact absurd hk (Nat.not_lt_zero _)
  | succ k ih =>
    intro l i h0 hk h1 h2
    rw [Zs]
    by_cases hi:i < (a.length:Int)
    · have hn:i.toNat < a.length:=by omega
      rw [decide_eq_true hi,cond_true]
      have hm:(a.getD i.toNat default)∈a:=by rw [List.getD_eq_getElem?_getD,List.getElem?_eq_getElem hn];exact List.getElem_mem hn
      obtain ⟨q1,q2,q3⟩:=Z4a (a.getD i.toNat default) l (hb _ hm) h1 h2
      cases hc:decide (ZG (a.getD i.toNat default) l < 0) with
      | true=>left;rfl
      | false =>
        simp only [decide_eq_false_iff_not] at hc
        rw [cond_false]
        rcases ih (ZG (a.getD i.toNat default) l) (i + 1) (by omega) (by omega) q1 (by omega) with e | ⟨r,e,r1,r2,r3⟩
        · left;exact e
        · right
          refine ⟨r,e,r1,by omega,fun j hj hjl => ?_⟩
          by_cases hji:j=i.toNat
          · subst hji;omega
          · have:=r3 j (by omega) hjl;omega
    · rw [decide_eq_false hi,cond_false]
      exact .inr ⟨l,rfl,h1,Int.le_refl _,fun j hj hjl=>by omega⟩
theorem Z44 (a:List (List Int)) (left:Int) (h0:a.length≤9223372036854775807) (hb:∀ t∈a,t.length≤9223372036854775807) (h1:-1≤left) (h2:left≤1048576) :
    -1≤ZH a left∧ZH a left≤left∧(ZH a left < 0∨((a.length:Int)≤left∧∀ t∈a,(t.length:Int)≤left)):=by
  unfold ZH Z1k
  rw [X2R (by omega) (by omega)]
  cases h:decide (left - (a.length:Int) < 0) with
  | true=>simp only [decide_eq_true_eq] at h;rw [cond_true];omega
  | false =>
    simp only [decide_eq_false_iff_not] at h
    rw [cond_false]
    rcases Z4V a left hb _ (left - (a.length:Int)) 0 (Int.le_refl _) (Nat.lt_succ_self _) (by omega) (by omega) with e | ⟨r,e,r1,r2,r3⟩
    · rw [e];simp only;omega
    · rw [e];simp only
      refine ⟨r1,by omega, .inr ⟨by omega,fun t ht => ?_⟩⟩
      obtain ⟨j,hj,rfl⟩:=List.getElem_of_mem ht
      have:=r3 j (by simp) hj
      rw [List.getD_eq_getElem?_getD,List.getElem?_eq_getElem hj,Option.getD_some] at this
      omega
def ZM (Y5:Gm) (Ya:Int):Int:=(cond (decide ((Zq Y5.Pq Ya) < 0))
  (-1)
  (cond (decide ((ZH Y5.Tr (Zq Y5.Pq Ya)) < 0))
    (-1)
    (ZH Y5.Tr (Zq Y5.Pq Ya))))
theorem Z4N (Y5:Gm) (Ya:Int) (hp0:Y5.Pq.length≤9223372036854775807) (hp1:Y5.Tr.length≤9223372036854775807) (hp2:∀ t∈Y5.Tr,t.length≤9223372036854775807)  : Fn prog 12 [.agg [.sl (Y5.Pq.map Gv.c), .sl (Y5.Tr.map (cL (cI .i64)))], .i .i64 Ya] (.i .i64 (ZM Y5 Ya)) []:=by
 have p {a C} (s:Scr a C):=sF (Z49 Y5.Pq Ya hp0)<|s
 cases h0:(decide ((Zq Y5.Pq Ya) < 0)) with
 | true =>
  have gh0:=odt h0
  refine fnS E0Ok Z4 (c:=X0 f12) [] (.i .i64 (-1)) [] func12 (p (sB h0<|sK [] sN)) rfl (by kernel_rfl) (by kernel_rfl) rfl ?_ ?_
  · simp only [ZM,h0,cond_true]
  · rfl
 | false =>
  have gh0:=odf h0
  have q {a C} (s:Scr a C):=p (sB h0<|sF (Z4b Y5.Tr (Zq Y5.Pq Ya) hp1 hp2)<|s)
  clear p
  cases h1:(decide ((ZH Y5.Tr (Zq Y5.Pq Ya)) < 0)) with
  | true =>
   have gh1:=odt h1
   refine fnS E0Ok Z4 (c:=X0 f12) [] (.i .i64 (-1)) [] func12 (q (sB h1<|sK [] sN)) rfl (by kernel_rfl) (by kernel_rfl) rfl ?_ ?_
   · simp only [ZM,h0,h1,cond_true,cond_false]
   · rfl
  | false =>
   have gh1:=odf h1
   refine fnS E0Ok Z4 (c:=X0 f12) [] (.i .i64 (ZH Y5.Tr (Zq Y5.Pq Ya))) [] func12 (q (sB h1<|sK [] sN)) rfl (by kernel_rfl) (by kernel_rfl) rfl ?_ ?_
   · simp only [ZM,h0,h1,cond_false]
   · rfl
theorem Z4F (a:Gm) (left:Int) (h0:a.Pq.length≤9223372036854775807) (h3:a.Tr.length≤9223372036854775807) (hb:∀ t∈a.Tr,t.length≤9223372036854775807) (h1:-1≤left) (h2:left≤1048576) :
    -1≤ZM a left∧ZM a left≤left∧(ZM a left < 0∨(a.Pq.length:Int)≤left)∧(ZM a left < 0∨(a.Tr.length:Int)≤left)∧∀ t∈a.Tr,ZM a left < 0∨(t.length:Int)≤left:=by
  have key:-1≤ZM a left∧ZM a left≤left∧(ZM a left < 0∨((a.Pq.length:Int)≤left∧(a.Tr.length:Int)≤left∧∀ t∈a.Tr,(t.length:Int)≤left)):=by
    unfold ZM
    obtain ⟨p1,p2,p3⟩:=Z43 a.Pq left h0 h1 h2
    cases h:decide (Zq a.Pq left < 0) with
    | true=>simp only [decide_eq_true_eq] at h;rw [cond_true];refine ⟨by omega,by omega, .inl (by omega)⟩
    | false =>
      simp only [decide_eq_false_iff_not] at h
      rw [cond_false]
      obtain ⟨q1,q2,q3⟩:=Z44 a.Tr (Zq a.Pq left) h3 hb p1 (by omega)
      cases h':decide (ZH a.Tr (Zq a.Pq left) < 0) with
      | true=>rw [cond_true];exact ⟨by omega,by omega, .inl (by omega)⟩
      | false =>
        simp only [decide_eq_false_iff_not] at h'
        rw [cond_false]
        rcases q3 with q | ⟨qa,qb⟩
        · omega
        · exact ⟨q1,by omega, .inr ⟨by omega,by omega,fun t ht=>by have:=qb t ht;omega⟩⟩
  obtain ⟨k1,k2,k3⟩:=key
  rcases k3 with k3 | ⟨ka,kb,kc⟩
  · exact ⟨k1,k2, .inl k3, .inl k3,fun t ht => .inl k3⟩
  · exact ⟨k1,k2, .inr ka, .inr kb,fun t ht => .inr (kc t ht)⟩
def Z2i (Y5:Gv):Gv:=Y5
theorem Z4r (Y5:Gv)   : Fn prog 97 [.agg [.f .f32 Y5.X, .f .f32 Y5.Y, .f .f32 Y5.Z]] (.agg [.f .f32 ((Z2i Y5).X), .f .f32 ((Z2i Y5).Y), .f .f32 ((Z2i Y5).Z)]) []:=by
 refine fnS E0Ok Z4 (c:=X0 f97) [] (.agg [.f .f32 Y5.X, .f .f32 Y5.Y, .f .f32 Y5.Z]) [] func97 (sK [] sN) rfl (by kernel_rfl) (by kernel_rfl) rfl ?_ ?_
 · rfl
 · rfl
@[simp] theorem Z4c (a:Gv):Z2i a=a:=rfl
theorem Z4s (Y5:Gv)  : Fn prog 97 [.agg [.f .f32 Y5.X, .f .f32 Y5.Y, .f .f32 Y5.Z]] (.agg [.f .f32 Y5.X, .f .f32 Y5.Y, .f .f32 Y5.Z]) []:=by
 simpa only [Z4c] using Z4r  Y5 
def ZK (Y5:(List Gv)):Nat→Int→(List Gv)→(List Gv)
  | 0,_,_=>default
  | k + 1,Y3,Y7=>(cond (decide (Y3 < (Y5.length:Int)))
    (ZK Y5 k (Y3 + 1) (Y7.set Y3.toNat (Y5.getD Y3.toNat default)))
    Y7)
def Z2a (Y5:(List Gv)) (r:(List Gv)):Ex × St:=((.exit 0),⟨.sl (Y5.map Gv.c) :: .any :: .nils :: .own 0 :: .any :: .sl (Y5.map Gv.c) :: .i .i64 (Y5.length:Int) :: .own 0 :: an 15 [],[.vec 62 3 (r.map Gv.c) false]⟩)
def Z2b (Y5:(List Gv)) (Y3:Int) (Y7:(List Gv)):St:=⟨.sl (Y5.map Gv.c) :: .any :: .nils :: .own 0 :: .i .i64 Y3 :: .sl (Y5.map Gv.c) :: .i .i64 (Y5.length:Int) :: .own 0 :: an 15 [],[.vec 62 3 (Y7.map Gv.c) false]⟩
theorem Z3K (Y5:(List Gv)) (hp0:Y5.length≤1073741824):∀ (k:Nat) (Y3:Int) (Y7:(List Gv)) (Z2B:0≤Y3) (Z2C:Y7.length=Y5.length) (hk:((Y5.length:Int) - Y3).toNat < k),Lp prog 0 (sub (X0 f50) [1,1,0,1,0,0]) (Z2b Y5 Y3 Y7) (Z2a Y5 (ZK Y5 k Y3 Y7)).1 (Z2a Y5 (ZK Y5 k Y3 Y7)).2:=by
 intro k
 induction k with
 | zero=>intro Y3 Y7 Z2B Z2C hk;exact absurd hk (Nat.not_lt_zero _)
 | succ k ih =>
  intro Y3 Y7 Z2B Z2C hk
  have p {a C} (s:Scr a C):=sZ Gv.c Y5<|s
  cases Yf:(decide (Y3 < (Y5.length:Int))) with
  | true =>
   have Yt:=odt Yf
   have Yx:(0:Int)≤Y3:=by clear p;exact (by assumption)
   have Yw:Y3 < (Y5.length:Int):=by clear p;exact (by assumption)
   have YC:Y3 < (Y7.length:Int):=by clear p;exact (by omega)
   have YA:Y3.toNat < Y7.length:=by clear p;exact (by omega)
   have YE:(-9223372036854775808:Int)≤(Y3 + 1):=by clear p;exact (by omega)
   have YL:(Y3 + 1)≤(9223372036854775807:Int):=by clear p;exact (by omega)
   have e:ZK Y5 (k + 1) Y3 Y7=(ZK Y5 k (Y3 + 1) (Y7.set Y3.toNat (Y5.getD Y3.toNat default))):=by simp only [ZK,Yf,cond_true]
   rw [e]
   exact XW E0Ok Z4 [] (mR false [0,1,1,6,15]) [0] (⟨.sl (Y5.map Gv.c) :: .any :: .nils :: .own 0 :: .i .i64 (Y3 + 1) :: .sl (Y5.map Gv.c) :: .i .i64 (Y5.length:Int) :: .own 0 :: an 15 [],[.vec 62 3 ((Y7.map Gv.c).set Y3.toNat [.f .f32 ((Y5.getD Y3.toNat default).X), .f .f32 ((Y5.getD Y3.toNat default).Y), .f .f32 ((Y5.getD Y3.toNat default).Z)]) false]⟩) (p (sB Yf<|sG Gv.c Y5 Y3 Yx Yw<|sF (Z4s (Y5.getD Y3.toNat default))<|sX Gv.c Y7 Y3 Yx YC<|sC (X6D (c:=Gv.c) (l:=Y7) YA)<|sI (Y3 + 1) YE YL<|sN)) (by kernel_rfl) (by simp [Z2b,List.map_set,Gv.c]) (ih (Y3 + 1) (Y7.set Y3.toNat (Y5.getD Y3.toNat default)) (show 0≤(Y3 + 1) from (by omega)) (show (Y7.set Y3.toNat (Y5.getD Y3.toNat default)).length=Y5.length from (by simp_all<;>omega)) (by omega))
  | false =>
   have Yt:=odf Yf
   have e:ZK Y5 (k + 1) Y3 Y7=Y7:=by simp only [ZK,Yf,cond_false]
   rw [e]
   exact outR (e:=(.exit 0)) E0Ok Z4 [] (mR false [0,1,1,2,1,3,15]) [0] (p (sB Yf<|sN)) (by kernel_rfl) (by intro h;cases h)
def Z1C (Y5:(List Gv)):(List Gv):=(ZK Y5 (((Y5.length:Int) - 0).toNat + 1) 0 (List.replicate (Y5.length:Int).toNat (⟨0,0,0⟩:Gv)))
def Z25 (Y5:(List Gv)):(List Gv):=(Z1C Y5)
theorem Z4d (Y5:(List Gv)) (hp0:Y5.length≤1073741824)  : Fn prog 50 [.sl (Y5.map Gv.c)] (.own 0) [.vec 62 3 ((Z25 Y5).map Gv.c) false]:=by
 have y0:(0:Int)≤(Y5.length:Int):=(by omega)
 have y1:((Y5.length:Int):Int)≤2147483648:=(by omega)
 refine fnS E0Ok Z4 (c:=X0 f50) [] (.own 0) [.vec 62 3 ((Z1C Y5).map Gv.c) false] func50 (sZ Gv.c Y5<|sC (show (Y5.length:Int)=(Y5.length:Int) from rfl)<|sC y0<|sC y1<|sL (mR false [0,1,1,6,15]) 1 (XV (st2:=⟨.sl (Y5.map Gv.c) :: .any :: .nils :: .own 0 :: .i .i64 0 :: .sl (Y5.map Gv.c) :: .i .i64 (Y5.length:Int) :: .own 0 :: an 15 [],[.vec 62 3 (List.replicate (Int.toNat (Y5.length:Int)) [.f .f32 0, .f .f32 0, .f .f32 0]) false]⟩) (X6 (Z2a Y5) (x:=(Z1C Y5)) (Z3K Y5 hp0 (((Y5.length:Int) - 0).toNat + 1) 0 (List.replicate (Y5.length:Int).toNat (⟨0,0,0⟩:Gv)) (show 0≤0 from (by omega)) (show (List.replicate (Y5.length:Int).toNat (⟨0,0,0⟩:Gv)).length=Y5.length from (by simp)) (Nat.lt_succ_self _)) rfl) (by simp [Z2b,Gv.c]))<|sK [0] sN) rfl (by kernel_rfl) (by kernel_rfl) rfl ?_ ?_
 · rfl
 · simp [Z25]
@[simp] theorem Z45 (a:List Gv):Z25 a=a:=by
  unfold Z25 Z1C
  rw [X3z (f:=id) (a:=a) (lo:=ZK a) (fun k i r=>rfl)]
  exact List.map_id a
theorem Z4e (Y5:(List Gv)) (hp0:Y5.length≤1073741824):Fn prog 50 [.sl (Y5.map Gv.c)] (.own 0) [.vec 62 3 (Y5.map Gv.c) false]:=by
 simpa only [Z45] using Z4d  Y5 hp0
def ZP (Y5:(List Int)):Nat→Int→(List Int)→(List Int)
  | 0,_,_=>default
  | k + 1,Y3,Y7=>(cond (decide (Y3 < (Y5.length:Int)))
    (ZP Y5 k (Y3 + 1) (Y7.set Y3.toNat (Y5.getD Y3.toNat default)))
    Y7)
def Z2m (Y5:(List Int)) (r:(List Int)):Ex × St:=((.exit 0),⟨.sl (Y5.map (cI .i64)) :: .any :: .nils :: .own 0 :: .any :: .sl (Y5.map (cI .i64)) :: .i .i64 (Y5.length:Int) :: .own 0 :: an 14 [],[.vec 2 1 (r.map (cI .i64)) false]⟩)
def Z2n (Y5:(List Int)) (Y3:Int) (Y7:(List Int)):St:=⟨.sl (Y5.map (cI .i64)) :: .any :: .nils :: .own 0 :: .i .i64 Y3 :: .sl (Y5.map (cI .i64)) :: .i .i64 (Y5.length:Int) :: .own 0 :: an 14 [],[.vec 2 1 (Y7.map (cI .i64)) false]⟩
theorem Z3S (Y5:(List Int)) (hp0:Y5.length≤1073741824):∀ (k:Nat) (Y3:Int) (Y7:(List Int)) (Z2K:0≤Y3) (Z2L:Y7.length=Y5.length) (hk:((Y5.length:Int) - Y3).toNat < k),Lp prog 0 (sub (X0 f98) [1,1,0,1,0,0]) (Z2n Y5 Y3 Y7) (Z2m Y5 (ZP Y5 k Y3 Y7)).1 (Z2m Y5 (ZP Y5 k Y3 Y7)).2:=by
 intro k
 induction k with
 | zero=>intro Y3 Y7 Z2K Z2L hk;exact absurd hk (Nat.not_lt_zero _)
 | succ k ih =>
  intro Y3 Y7 Z2K Z2L hk
  have p {a C} (s:Scr a C):=sZ (cI .i64) Y5<|s
  cases Yf:(decide (Y3 < (Y5.length:Int))) with
  | true =>
   have Yt:=odt Yf
   have Yx:(0:Int)≤Y3:=by clear p;exact (by assumption)
   have Yw:Y3 < (Y5.length:Int):=by clear p;exact (by assumption)
   have YC:Y3 < (Y7.length:Int):=by clear p;exact (by omega)
   have YA:Y3.toNat < Y7.length:=by clear p;exact (by omega)
   have YE:(-9223372036854775808:Int)≤(Y3 + 1):=by clear p;exact (by omega)
   have YL:(Y3 + 1)≤(9223372036854775807:Int):=by clear p;exact (by omega)
   have e:ZP Y5 (k + 1) Y3 Y7=(ZP Y5 k (Y3 + 1) (Y7.set Y3.toNat (Y5.getD Y3.toNat default))):=by simp only [ZP,Yf,cond_true]
   rw [e]
   exact XW E0Ok Z4 [] (mR false [0,1,1,6,14]) [0] (⟨.sl (Y5.map (cI .i64)) :: .any :: .nils :: .own 0 :: .i .i64 (Y3 + 1) :: .sl (Y5.map (cI .i64)) :: .i .i64 (Y5.length:Int) :: .own 0 :: an 14 [],[.vec 2 1 ((Y7.map (cI .i64)).set Y3.toNat [.i .i64 (Y5.getD Y3.toNat default)]) false]⟩) (p (sB Yf<|sG (cI .i64) Y5 Y3 Yx Yw<|sX (cI .i64) Y7 Y3 Yx YC<|sC (X6D (c:=(cI .i64)) (l:=Y7) YA)<|sI (Y3 + 1) YE YL<|sN)) (by kernel_rfl) (by simp [Z2n,List.map_set,cI]) (ih (Y3 + 1) (Y7.set Y3.toNat (Y5.getD Y3.toNat default)) (show 0≤(Y3 + 1) from (by omega)) (show (Y7.set Y3.toNat (Y5.getD Y3.toNat default)).length=Y5.length from (by simp_all<;>omega)) (by omega))
  | false =>
   have Yt:=odf Yf
   have e:ZP Y5 (k + 1) Y3 Y7=Y7:=by simp only [ZP,Yf,cond_false]
   rw [e]
   exact outR (e:=(.exit 0)) E0Ok Z4 [] (mR false [0,1,1,2,1,3,14]) [0] (p (sB Yf<|sN)) (by kernel_rfl) (by intro h;cases h)
def Z1H (Y5:(List Int)):(List Int):=(ZP Y5 (((Y5.length:Int) - 0).toNat + 1) 0 (List.replicate (Y5.length:Int).toNat 0))
def Z2j (Y5:(List Int)):(List Int):=(Z1H Y5)
theorem Z4t (Y5:(List Int)) (hp0:Y5.length≤1073741824)  : Fn prog 98 [.sl (Y5.map (cI .i64))] (.own 0) [.vec 2 1 ((Z2j Y5).map (cI .i64)) false]:=by
 have y0:(0:Int)≤(Y5.length:Int):=(by omega)
 have y1:((Y5.length:Int):Int)≤2147483648:=(by omega)
 refine fnS E0Ok Z4 (c:=X0 f98) [] (.own 0) [.vec 2 1 ((Z1H Y5).map (cI .i64)) false] func98 (sZ (cI .i64) Y5<|sC (show (Y5.length:Int)=(Y5.length:Int) from rfl)<|sC y0<|sC y1<|sL (mR false [0,1,1,6,14]) 1 (XV (st2:=⟨.sl (Y5.map (cI .i64)) :: .any :: .nils :: .own 0 :: .i .i64 0 :: .sl (Y5.map (cI .i64)) :: .i .i64 (Y5.length:Int) :: .own 0 :: an 14 [],[.vec 2 1 (List.replicate (Int.toNat (Y5.length:Int)) [.i .i64 0]) false]⟩) (X6 (Z2m Y5) (x:=(Z1H Y5)) (Z3S Y5 hp0 (((Y5.length:Int) - 0).toNat + 1) 0 (List.replicate (Y5.length:Int).toNat 0) (show 0≤0 from (by omega)) (show (List.replicate (Y5.length:Int).toNat 0).length=Y5.length from (by simp)) (Nat.lt_succ_self _)) rfl) (by simp [Z2n,cI]))<|sK [0] sN) rfl (by kernel_rfl) (by kernel_rfl) rfl ?_ ?_
 · rfl
 · simp [Z2j]
@[simp] theorem Z4f (a:List Int):Z2j a=a:=by
  unfold Z2j Z1H
  rw [X3z (f:=id) (a:=a) (lo:=ZP a) (fun k i r=>rfl)]
  exact List.map_id a
theorem Z4u (Y5:(List Int)) (hp0:Y5.length≤1073741824):Fn prog 98 [.sl (Y5.map (cI .i64))] (.own 0) [.vec 2 1 (Y5.map (cI .i64)) false]:=by
 simpa only [Z4f] using Z4t  Y5 hp0
def ZL (Y5:(List (List Int))):Nat→Int→(List (List Int))→(List (List Int))
  | 0,_,_=>default
  | k + 1,Y3,Y7=>(cond (decide (Y3 < (Y5.length:Int)))
    (ZL Y5 k (Y3 + 1) (Y7.set Y3.toNat (Y5.getD Y3.toNat default)))
    Y7)
def Z2c (Y5:(List (List Int))) (r:(List (List Int))):Ex × St:=((.exit 0),⟨.sl (Y5.map (cL (cI .i64))) :: .any :: .nils :: .own 0 :: .any :: .sl (Y5.map (cL (cI .i64))) :: .i .i64 (Y5.length:Int) :: .own 0 :: an 15 [],[.nest 79 (r.map fun l=>l.map (cI .i64)) false]⟩)
def Z2d (Y5:(List (List Int))) (Y3:Int) (Y7:(List (List Int))):St:=⟨.sl (Y5.map (cL (cI .i64))) :: .any :: .nils :: .own 0 :: .i .i64 Y3 :: .sl (Y5.map (cL (cI .i64))) :: .i .i64 (Y5.length:Int) :: .own 0 :: an 15 [],[.nest 79 (Y7.map fun l=>l.map (cI .i64)) false]⟩
theorem Z3L (Y5:(List (List Int))) (hp0:Y5.length≤1073741824) (hp1:∀ t∈Y5,t.length≤1073741824):∀ (k:Nat) (Y3:Int) (Y7:(List (List Int))) (Z2D:0≤Y3) (Z2E:Y7.length=Y5.length) (hk:((Y5.length:Int) - Y3).toNat < k),Lp prog 0 (sub (X0 f51) [1,1,0,1,0,0]) (Z2d Y5 Y3 Y7) (Z2c Y5 (ZL Y5 k Y3 Y7)).1 (Z2c Y5 (ZL Y5 k Y3 Y7)).2:=by
 intro k
 induction k with
 | zero=>intro Y3 Y7 Z2D Z2E hk;exact absurd hk (Nat.not_lt_zero _)
 | succ k ih =>
  intro Y3 Y7 Z2D Z2E hk
  have p {a C} (s:Scr a C):=sZ (cL (cI .i64)) Y5<|s
  cases Yf:(decide (Y3 < (Y5.length:Int))) with
  | true =>
   have Yt:=odt Yf
   have Yx:(0:Int)≤Y3:=by clear p;exact (by assumption)
   have Yw:Y3 < (Y5.length:Int):=by clear p;exact (by assumption)
   have YC:(Y5.getD Y3.toNat default).length≤1073741824:=by clear p;exact (by simp_all<;>omega)
   have YA:Int.toNat Y3 < Y7.length:=by clear p;exact (by omega)
   have YE:Y3.toNat < Y7.length:=by clear p;exact (by assumption)
   have YL:(-9223372036854775808:Int)≤(Y3 + 1):=by clear p;exact (by omega)
   have YW:(Y3 + 1)≤(9223372036854775807:Int):=by clear p;exact (by omega)
   have e:ZL Y5 (k + 1) Y3 Y7=(ZL Y5 k (Y3 + 1) (Y7.set Y3.toNat (Y5.getD Y3.toNat default))):=by simp only [ZL,Yf,cond_true]
   rw [e]
   exact XW E0Ok Z4 [] (mR false [0,1,1,6,15]) [0] (⟨.sl (Y5.map (cL (cI .i64))) :: .any :: .nils :: .own 0 :: .i .i64 (Y3 + 1) :: .sl (Y5.map (cL (cI .i64))) :: .i .i64 (Y5.length:Int) :: .own 0 :: an 15 [],[.nest 79 ((Y7.map fun l=>l.map (cI .i64)).set Y3.toNat ((Y5.getD Y3.toNat default).map (cI .i64))) false]⟩) (p (sB Yf<|sG (cL (cI .i64)) Y5 Y3 Yx Yw<|sF (Z4u (Y5.getD Y3.toNat default) YC)<|sC (X2a (c:=(cI .i64)) (l:=Y7) (i:=Y3) Yx YA)<|sC (show Y3.toNat < (Y7.map fun l=>l.map (cI .i64)).length from (by simpa using YE))<|sI (Y3 + 1) YL YW<|sN)) (by kernel_rfl) (by simp [Z2d,List.map_set,cL,cI]) (ih (Y3 + 1) (Y7.set Y3.toNat (Y5.getD Y3.toNat default)) (show 0≤(Y3 + 1) from (by omega)) (show (Y7.set Y3.toNat (Y5.getD Y3.toNat default)).length=Y5.length from (by simp_all<;>omega)) (by omega))
  | false =>
   have Yt:=odf Yf
   have e:ZL Y5 (k + 1) Y3 Y7=Y7:=by simp only [ZL,Yf,cond_false]
   rw [e]
   exact outR (e:=(.exit 0)) E0Ok Z4 [] (mR false [0,1,1,2,1,3,15]) [0] (p (sB Yf<|sN)) (by kernel_rfl) (by intro h;cases h)
def Z1D (Y5:(List (List Int))):(List (List Int)):=(ZL Y5 (((Y5.length:Int) - 0).toNat + 1) 0 (List.replicate (Y5.length:Int).toNat ([]:(List Int))))
def Z26 (Y5:(List (List Int))):(List (List Int)):=(Z1D Y5)
theorem Z4g (Y5:(List (List Int))) (hp0:Y5.length≤1073741824) (hp1:∀ t∈Y5,t.length≤1073741824)  : Fn prog 51 [.sl (Y5.map (cL (cI .i64)))] (.own 0) [.nest 79 ((Z26 Y5).map fun l=>l.map (cI .i64)) false]:=by
 have y0:(0:Int)≤(Y5.length:Int):=(by omega)
 have y1:((Y5.length:Int):Int)≤2147483648:=(by omega)
 refine fnS E0Ok Z4 (c:=X0 f51) [] (.own 0) [.nest 79 ((Z1D Y5).map fun l=>l.map (cI .i64)) false] func51 (sZ (cL (cI .i64)) Y5<|sC (show (Y5.length:Int)=(Y5.length:Int) from rfl)<|sC y0<|sC y1<|sL (mR false [0,1,1,6,15]) 1 (XV (st2:=⟨.sl (Y5.map (cL (cI .i64))) :: .any :: .nils :: .own 0 :: .i .i64 0 :: .sl (Y5.map (cL (cI .i64))) :: .i .i64 (Y5.length:Int) :: .own 0 :: an 15 [],[.nest 79 (List.replicate (Y5.length:Int).toNat []) false]⟩) (X6 (Z2c Y5) (x:=(Z1D Y5)) (Z3L Y5 hp0 hp1 (((Y5.length:Int) - 0).toNat + 1) 0 (List.replicate (Y5.length:Int).toNat ([]:(List Int))) (show 0≤0 from (by omega)) (show (List.replicate (Y5.length:Int).toNat ([]:(List Int))).length=Y5.length from (by simp)) (Nat.lt_succ_self _)) rfl) (by simp [Z2d,cL,cI]))<|sK [0] sN) rfl (by kernel_rfl) (by kernel_rfl) rfl ?_ ?_
 · rfl
 · simp [Z26]
@[simp] theorem Z46 (a:List (List Int)):Z26 a=a:=by
  unfold Z26 Z1D
  rw [X3z (f:=id) (a:=a) (lo:=ZL a) (fun k i r=>rfl)]
  exact List.map_id a
theorem Z4h (Y5:(List (List Int))) (hp0:Y5.length≤1073741824) (hp1:∀ t∈Y5,t.length≤1073741824):Fn prog 51 [.sl (Y5.map (cL (cI .i64)))] (.own 0) [.nest 79 (Y5.map fun l=>l.map (cI .i64)) false]:=by
 simpa only [Z46] using Z4g  Y5 hp0 hp1
def Z28 (Y5:Gm):Gm:=Y5
theorem Z4O (Y5:Gm) (hp0:Y5.Pq.length≤1073741824) (hp1:Y5.Tr.length≤1073741824) (hp2:∀ t∈Y5.Tr,t.length≤1073741824)  : Fn prog 14 [.agg [.sl (Y5.Pq.map Gv.c), .sl (Y5.Tr.map (cL (cI .i64)))]] (.agg [.own 0, .own 1]) [.vec 62 3 (((Z28 Y5).Pq).map Gv.c) false, .nest 79 (((Z28 Y5).Tr).map fun l=>l.map (cI .i64)) false]:=by
 refine fnS E0Ok Z4 (c:=X0 f14) [] (.agg [.own 0, .own 1]) [.vec 62 3 (Y5.Pq.map Gv.c) false, .nest 79 (Y5.Tr.map fun l=>l.map (cI .i64)) false] func14 (sF (Z4e Y5.Pq hp0)<|sF (Z4h Y5.Tr hp1 hp2)<|sK [3,4] sN) rfl (by kernel_rfl) (by kernel_rfl) rfl ?_ ?_
 · rfl
 · simp [Z28]
@[simp] theorem Z4G (a:Gm):Z28 a=a:=by
  simp [Z28]
theorem Z3c (Y5:Gm) (hp0:Y5.Pq.length≤1073741824) (hp1:Y5.Tr.length≤1073741824) (hp2:∀ t∈Y5.Tr,t.length≤1073741824):Fn prog 14 [.agg [.sl (Y5.Pq.map Gv.c), .sl (Y5.Tr.map (cL (cI .i64)))]] (.agg [.own 0, .own 1]) [.vec 62 3 (Y5.Pq.map Gv.c) false, .nest 79 (Y5.Tr.map fun l=>l.map (cI .i64)) false]:=by
 simpa only [Z4G] using Z4O  Y5 hp0 hp1 hp2
def ZT (YT:Int) (YG:Int) (YD:Int):Bool:=(cond (decide (YT ≥ YG))
  (decide (YT≤YD))
  false)
theorem Z3o (YT:Int) (YG:Int) (YD:Int)   : Fn prog 73 [.i .i64 YT, .i .i64 YG, .i .i64 YD] (.b (ZT YT YG YD)) []:=by
 cases h0:(decide (YT ≥ YG)) with
 | true =>
  have gh0:=odt h0
  refine fnS E0Ok Z4 (c:=X0 f73) [] (.b (decide (YT≤YD))) [] func73 (sB h0<|sB h0<|sB h0<|sB h0<|sK [] sN) rfl (by kernel_rfl) (by kernel_rfl) rfl ?_ ?_
  · simp only [ZT,h0,cond_true]
  · rfl
 | false =>
  have gh0:=odf h0
  refine fnS E0Ok Z4 (c:=X0 f73) [] (.b false) [] func73 (sB h0<|sB h0<|sB h0<|sB h0<|sK [] sN) rfl (by kernel_rfl) (by kernel_rfl) rfl ?_ ?_
  · simp only [ZT,h0,cond_false]
  · rfl
def Zc (Yl:(List Int)) (Ys:Int):Bool:=(cond ((Yl.length:Int) != 3)
  false
  (cond ((Yl.getD 0 default) == (Yl.getD 1 default))
    false
    (cond ((Yl.getD 1 default) == (Yl.getD 2 default))
      false
      (cond ((Yl.getD 0 default) == (Yl.getD 2 default))
        false
        (cond (ZT (Yl.getD 0 default) 0 (IntKind.wrap .i64 (Ys - 1)))
          (cond (ZT (Yl.getD 1 default) 0 (IntKind.wrap .i64 (Ys - 1)))
            (ZT (Yl.getD 2 default) 0 (IntKind.wrap .i64 (Ys - 1)))
            false)
          false)))))
theorem Z3T (Yl:(List Int)) (Ys:Int) (hp0:Yl.length≤1073741824)  : Fn prog 91 [.sl (Yl.map (cI .i64)), .i .i64 Ys] (.b (Zc Yl Ys)) []:=by
 have p {a C} (s:Scr a C):=sK [28,28]<|sZ (cI .i64) Yl<|s
 cases h0:((Yl.length:Int) != 3) with
 | true =>
  have gh0:=bne_iff_ne.1 h0
  refine fnS E0Ok Z4 (c:=X0 f91) [] (.b false) [] func91 (p (sB h0<|sB h0<|sB h0<|sB h0<|sB h0<|sB h0<|sB h0<|sB h0<|sB (show true=true from rfl)<|sB (show true=true from rfl)<|sB (show true=true from rfl)<|sB (show true=true from rfl)<|sB (show true=true from rfl)<|sB (show true=true from rfl)<|sB (show true=true from rfl)<|sB (show true=true from rfl)<|sB (show true=true from rfl)<|sB (show true=true from rfl)<|sB (show true=true from rfl)<|sB (show true=true from rfl)<|sB (show true=true from rfl)<|sB (show true=true from rfl)<|sB (show true=true from rfl)<|sB (show true=true from rfl)<|sB (show true=true from rfl)<|sK [] sN)) rfl (by kernel_rfl) (by kernel_rfl) rfl ?_ ?_
  · simp only [Zc,h0,cond_true]
  · rfl
 | false =>
  have gh0:=bne_eq_false_iff_eq.1 h0
  have y0:(0:Int)≤0:=by clear p;exact (by omega)
  have y1:0 < (Yl.length:Int):=by clear p;exact (by omega)
  have y2:(0:Int)≤1:=by clear p;exact (by omega)
  have y3:1 < (Yl.length:Int):=by clear p;exact (by omega)
  have q {a C} (s:Scr a C):=p (sB h0<|sB h0<|sG (cI .i64) Yl 0 y0 y1<|sB h0<|sB h0<|sB h0<|sG (cI .i64) Yl 1 y2 y3<|sB h0<|sB h0<|sB h0<|s)
  clear p
  cases h1:((Yl.getD 0 default) == (Yl.getD 1 default)) with
  | true =>
   have gh1:=eq_of_beq h1
   refine fnS E0Ok Z4 (c:=X0 f91) [] (.b false) [] func91 (q (sB h1<|sB h1<|sB h1<|sB h1<|sB h1<|sB h1<|sB h1<|sB h1<|sB (show true=true from rfl)<|sB (show true=true from rfl)<|sB (show true=true from rfl)<|sB (show true=true from rfl)<|sB (show true=true from rfl)<|sB (show true=true from rfl)<|sB (show true=true from rfl)<|sB (show true=true from rfl)<|sB (show true=true from rfl)<|sK [] sN)) rfl (by kernel_rfl) (by kernel_rfl) rfl ?_ ?_
   · simp only [Zc,h0,h1,cond_true,cond_false]
   · rfl
  | false =>
   have gh1:=ne_of_beq_false h1
   have y4:(0:Int)≤2:=by clear q;exact (by omega)
   have y5:2 < (Yl.length:Int):=by clear q;exact (by omega)
   have p {a C} (s:Scr a C):=q (sB h1<|sB h1<|sG (cI .i64) Yl 1 y2 y3<|sB h1<|sB h1<|sB h1<|sG (cI .i64) Yl 2 y4 y5<|sB h1<|sB h1<|sB h1<|s)
   clear q
   cases h2:((Yl.getD 1 default) == (Yl.getD 2 default)) with
   | true =>
    have gh2:=eq_of_beq h2
    refine fnS E0Ok Z4 (c:=X0 f91) [] (.b false) [] func91 (p (sB h2<|sB h2<|sB h2<|sB h2<|sB h2<|sB h2<|sB h2<|sB h2<|sB (show true=true from rfl)<|sK [] sN)) rfl (by kernel_rfl) (by kernel_rfl) rfl ?_ ?_
    · simp only [Zc,h0,h1,h2,cond_true,cond_false]
    · rfl
   | false =>
    have gh2:=ne_of_beq_false h2
    have q {a C} (s:Scr a C):=p (sB h2<|sB h2<|sG (cI .i64) Yl 0 y0 y1<|sB h2<|sB h2<|sB h2<|sG (cI .i64) Yl 2 y4 y5<|sB h2<|sB h2<|sB h2<|s)
    clear p
    cases h3:((Yl.getD 0 default) == (Yl.getD 2 default)) with
    | true =>
     have gh3:=eq_of_beq h3
     refine fnS E0Ok Z4 (c:=X0 f91) [] (.b false) [] func91 (q (sB h3<|sK [] sN)) rfl (by kernel_rfl) (by kernel_rfl) rfl ?_ ?_
     · simp only [Zc,h0,h1,h2,h3,cond_true,cond_false]
     · rfl
    | false =>
     have gh3:=ne_of_beq_false h3
     have p {a C} (s:Scr a C):=q (sB h3<|sG (cI .i64) Yl 0 y0 y1<|sW .i64 (Ys - 1)<|sF (Z3o (Yl.getD 0 default) 0 (IntKind.wrap .i64 (Ys - 1)))<|s)
     clear q
     cases h4:(ZT (Yl.getD 0 default) 0 (IntKind.wrap .i64 (Ys - 1))) with
     | true =>
      have q {a C} (s:Scr a C):=p (sB h4<|sB h4<|sG (cI .i64) Yl 1 y2 y3<|sB h4<|sB h4<|sB h4<|sW .i64 (Ys - 1)<|sB h4<|sF (Z3o (Yl.getD 1 default) 0 (IntKind.wrap .i64 (Ys - 1)))<|sB h4<|s)
      clear p
      cases h5:(ZT (Yl.getD 1 default) 0 (IntKind.wrap .i64 (Ys - 1))) with
      | true =>
       refine fnS E0Ok Z4 (c:=X0 f91) [] (.b (ZT (Yl.getD 2 default) 0 (IntKind.wrap .i64 (Ys - 1)))) [] func91 (q (sB h5<|sB h5<|sG (cI .i64) Yl 2 y4 y5<|sB h5<|sB h5<|sB h5<|sW .i64 (Ys - 1)<|sB h5<|sF (Z3o (Yl.getD 2 default) 0 (IntKind.wrap .i64 (Ys - 1)))<|sB h5<|sK [] sN)) rfl (by kernel_rfl) (by kernel_rfl) rfl ?_ ?_
       · simp only [Zc,h0,h1,h2,h3,h4,h5,cond_true,cond_false]
       · rfl
      | false =>
       refine fnS E0Ok Z4 (c:=X0 f91) [] (.b false) [] func91 (q (sB h5<|sB h5<|sB h5<|sB h5<|sB h5<|sB h5<|sB h5<|sK [] sN)) rfl (by kernel_rfl) (by kernel_rfl) rfl ?_ ?_
       · simp only [Zc,h0,h1,h2,h3,h4,h5,cond_true,cond_false]
       · rfl
     | false =>
      refine fnS E0Ok Z4 (c:=X0 f91) [] (.b false) [] func91 (p (sB h4<|sB h4<|sB h4<|sB h4<|sB h4<|sB h4<|sB h4<|sB (show false=false from rfl)<|sB (show false=false from rfl)<|sB (show false=false from rfl)<|sB (show false=false from rfl)<|sB (show false=false from rfl)<|sB (show false=false from rfl)<|sB (show false=false from rfl)<|sK [] sN)) rfl (by kernel_rfl) (by kernel_rfl) rfl ?_ ?_
      · simp only [Zc,h0,h1,h2,h3,h4,cond_false]
      · rfl
def ZR (Y0:Gm):Nat→Int→(Unit) ⊕ (Unit)
  | 0,_ => .inl default
  | k + 1,Y3=>(cond (decide (Y3 < (Y0.Tr.length:Int)))
    (cond (Zc (Y0.Tr.getD Y3.toNat default) (Y0.Pq.length:Int))
      (ZR Y0 k (Y3 + 1))
      (.inl ()))
    (.inr ()))
def Z2k (Y0:Gm):(Unit) ⊕ (Unit)→Ex × St
  | .inl r=>(.ret,⟨.any :: .any :: .b false :: an 38 [],[]⟩)
  | .inr r=>((.exit 0),⟨.ref (Gm.c Y0) 0 :: .any :: .any :: .any :: .ref (Gm.c Y0) 0 :: .ref (Gm.c Y0) 0 :: .ref (Gm.c Y0) 0 :: .sl (Y0.Pq.map Gv.c) :: .i .i64 (Y0.Pq.length:Int) :: .b (decide ((Y0.Pq.length:Int) > 64)) :: .b (decide ((Y0.Pq.length:Int) > 64)) :: .ref (Gm.c Y0) 0 :: .ref (Gm.c Y0) 0 :: .ref (Gm.c Y0) 1 :: .sl (Y0.Tr.map (cL (cI .i64))) :: .i .i64 (Y0.Tr.length:Int) :: .b (decide ((Y0.Tr.length:Int) > 128)) :: .b (decide ((Y0.Tr.length:Int) > 128)) :: an 23 [],[]⟩)
def Z4v (Y0:Gm) (Y3:Int):St:=⟨.ref (Gm.c Y0) 0 :: .any :: .any :: .i .i64 Y3 :: .ref (Gm.c Y0) 0 :: .ref (Gm.c Y0) 0 :: .ref (Gm.c Y0) 0 :: .sl (Y0.Pq.map Gv.c) :: .i .i64 (Y0.Pq.length:Int) :: .b (decide ((Y0.Pq.length:Int) > 64)) :: .b (decide ((Y0.Pq.length:Int) > 64)) :: .ref (Gm.c Y0) 0 :: .ref (Gm.c Y0) 0 :: .ref (Gm.c Y0) 1 :: .sl (Y0.Tr.map (cL (cI .i64))) :: .i .i64 (Y0.Tr.length:Int) :: .b (decide ((Y0.Tr.length:Int) > 128)) :: .b (decide ((Y0.Tr.length:Int) > 128)) :: an 23 [],[]⟩
theorem Z3t (Y0:Gm) (hp0:Y0.Pq.length≤1073741824) (hp1:Y0.Tr.length≤1073741824) (hp2:∀ t∈Y0.Tr,t.length≤1073741824) (Z5n:(decide ((Y0.Pq.length:Int) > 64))=false) (Z5o:(decide ((Y0.Tr.length:Int) > 128))=false):∀ (k:Nat) (Y3:Int) (Z3f:0≤Y3) (hk:((Y0.Tr.length:Int) - Y3).toNat < k),Lp prog 0 (sub (X0 f40) [1,1,0,1,0,0]) (Z4v Y0 Y3) (Z2k Y0 (ZR Y0 k Y3)).1 (Z2k Y0 (ZR Y0 k Y3)).2:=by
 intro k
 induction k with
 | zero=>intro Y3 Z3f hk;exact absurd hk (Nat.not_lt_zero _)
 | succ k ih =>
  intro Y3 Z3f hk
  have p {a C} (s:Scr a C):=sZ (cL (cI .i64)) Y0.Tr<|s
  cases Yf:(decide (Y3 < (Y0.Tr.length:Int))) with
  | true =>
   have Yt:=odt Yf
   have Yx:(0:Int)≤Y3:=by clear p;exact (by assumption)
   have Yw:Y3 < (Y0.Tr.length:Int):=by clear p;exact (by assumption)
   have YC:(Y0.Tr.getD Y3.toNat default).length≤1073741824:=by clear p;exact (by simp_all<;>omega)
   have q {a C} (s:Scr a C):=p (sB Yf<|sK [12,12]<|sG (cL (cI .i64)) Y0.Tr Y3 Yx Yw<|sZ Gv.c Y0.Pq<|sF (Z3T (Y0.Tr.getD Y3.toNat default) (Y0.Pq.length:Int) YC)<|s)
   clear p
   cases Yi:(Zc (Y0.Tr.getD Y3.toNat default) (Y0.Pq.length:Int)) with
   | true =>
    have YA:(-9223372036854775808:Int)≤(Y3 + 1):=by clear q;exact (by omega)
    have YE:(Y3 + 1)≤(9223372036854775807:Int):=by clear q;exact (by omega)
    have e:ZR Y0 (k + 1) Y3=(ZR Y0 k (Y3 + 1)):=by simp only [ZR,Yf,Yi,cond_true]
    rw [e]
    exact Xp E0Ok Z4 [] (mR false [0,1,2,15,23]) [] (ih (Y3 + 1) (show 0≤(Y3 + 1) from (by omega)) (by omega)) (q (sB' Yi<|sI (Y3 + 1) YA YE<|sN)) (by kernel_rfl)
   | false =>
    have e:ZR Y0 (k + 1) Y3=(.inl ()):=by simp only [ZR,Yf,Yi,cond_true,cond_false]
    rw [e]
    exact outR (e := .ret) E0Ok Z4 [] (mR false [2,1,38]) [] (q (sB' Yi<|sN)) (by kernel_rfl) (by intro h;cases h)
  | false =>
   have Yt:=odf Yf
   have e:ZR Y0 (k + 1) Y3=(.inr ()):=by simp only [ZR,Yf,cond_false]
   rw [e]
   exact outR (e:=(.exit 0)) E0Ok Z4 [] (mR false [0,1,3,14,23]) [] (p (sB Yf<|sN)) (by kernel_rfl) (by intro h;cases h)
def Z1F (Y0:Gm):(Unit) ⊕ (Unit):=(ZR Y0 (((Y0.Tr.length:Int) - 0).toNat + 1) 0)
def ZN (Y0:Gm):Bool:=(cond (decide ((Y0.Pq.length:Int) > 64))
  false
  (cond (decide ((Y0.Tr.length:Int) > 128))
    false
    (match (Z1F Y0) with
      | .inl r3=>false
      | .inr r3=>true)))
theorem Z4W (Y0:Gm) (hp0:Y0.Pq.length≤1073741824) (hp1:Y0.Tr.length≤1073741824) (hp2:∀ t∈Y0.Tr,t.length≤1073741824)  : Fn prog 40 [.ref (Gm.c Y0) 0] (.b (ZN Y0)) []:=by
 have p {a C} (s:Scr a C):=sZ Gv.c Y0.Pq<|s
 cases h0:(decide ((Y0.Pq.length:Int) > 64)) with
 | true =>
  have gh0:=odt h0
  refine fnS E0Ok Z4 (c:=X0 f40) [] (.b false) [] func40 (p (sB h0<|sB h0<|sB h0<|sB h0<|sB h0<|sB h0<|sB h0<|sB (show true=true from rfl)<|sK [] sN)) rfl (by kernel_rfl) (by kernel_rfl) rfl ?_ ?_
  · simp only [ZN,h0,cond_true]
  · rfl
 | false =>
  have gh0:=odf h0
  have q {a C} (s:Scr a C):=p (sB h0<|sB h0<|sB h0<|sB h0<|sB h0<|sZ (cL (cI .i64)) Y0.Tr<|sB h0<|sB h0<|s)
  clear p
  cases h1:(decide ((Y0.Tr.length:Int) > 128)) with
  | true =>
   have gh1:=odt h1
   refine fnS E0Ok Z4 (c:=X0 f40) [] (.b false) [] func40 (q (sB h1<|sK [] sN)) rfl (by kernel_rfl) (by kernel_rfl) rfl ?_ ?_
   · simp only [ZN,h0,h1,cond_true,cond_false]
   · rfl
  | false =>
   have gh1:=odf h1
   have p {a C} (s:Scr a C):=q (sB h1<|s)
   clear q
   cases h2:(Z1F Y0) with
   | inl r3 =>
    refine fnS E0Ok Z4 (c:=X0 f40) [] (.b false) [] func40 (p (sL (mR false [0,1,2,15,23]) 0 (X6 (Z2k Y0) (x:=(Z1F Y0)) (Z3t Y0 hp0 hp1 hp2 h0 h1 (((Y0.Tr.length:Int) - 0).toNat + 1) 0 (show 0≤0 from (by omega)) (Nat.lt_succ_self _)) h2)<|sK [] sN)) rfl (by kernel_rfl) (by kernel_rfl) rfl ?_ ?_
    · simp only [ZN,h0,h1,h2,cond_false]
    · rfl
   | inr r3 =>
    refine fnS E0Ok Z4 (c:=X0 f40) [] (.b true) [] func40 (p (sL (mR false [0,1,2,15,23]) 0 (X6 (Z2k Y0) (x:=(Z1F Y0)) (Z3t Y0 hp0 hp1 hp2 h0 h1 (((Y0.Tr.length:Int) - 0).toNat + 1) 0 (show 0≤0 from (by omega)) (Nat.lt_succ_self _)) h2)<|sK [] sN)) rfl (by kernel_rfl) (by kernel_rfl) rfl ?_ ?_
    · simp only [ZN,h0,h1,h2,cond_false]
    · rfl
theorem Z4i (m:Gm):ZN m=cond (decide ((m.Pq.length:Int) > 64)) false (cond (decide ((m.Tr.length:Int) > 128)) false (m.Tr.all fun t=>Zc t (m.Pq.length:Int))):=by
  unfold ZN Z1F
  rw [X29 (a:=m.Tr) (p:=fun t=>Zc t (m.Pq.length:Int)) (lo:=ZR m) (x:=()) (y:=()) (fun k i=>rfl)]
  cases (m.Tr.all fun t=>Zc t (m.Pq.length:Int))<;>rfl
theorem Z5z {t:List Int} {n:Int} (h0:0≤n) (h1:n≤64) (h:Zc t n=true):t.length=3∧∀ x∈t,0≤x∧x < n:=by
  unfold Zc at h
  rw [X2R (by omega) (by omega)] at h
  cases hl:((t.length:Int) != 3) with
  | true=>rw [hl] at h;cases h
  | false =>
    rw [hl,cond_false] at h
    have hl3:t.length=3:=by simp at hl;omega
    match t,hl3 with
    | [a,b,c],_ =>
      refine ⟨rfl,?_⟩
      simp only [List.getD_cons_zero,List.getD_cons_succ,ZT] at h
      cases e1:(a == b)<;>rw [e1] at h<;>(try (cases h;done))
      cases e2:(b == c)<;>rw [e2] at h<;>(try (cases h;done))
      cases e3:(a == c)<;>rw [e3] at h<;>(try (cases h;done))
      simp only [cond_false] at h
      cases f1:decide (a ≥ 0)<;>rw [f1] at h<;>(try (cases h;done))
      cases f2:decide (a≤n - 1)<;>rw [f2] at h<;>(try (cases h;done))
      cases f3:decide (b ≥ 0)<;>rw [f3] at h<;>(try (cases h;done))
      cases f4:decide (b≤n - 1)<;>rw [f4] at h<;>(try (cases h;done))
      cases f5:decide (c ≥ 0)<;>rw [f5] at h<;>(try (cases h;done))
      simp only [cond_true,decide_eq_true_eq] at h f1 f2 f3 f4 f5
      intro x hx
      simp only [List.mem_cons,List.not_mem_nil,or_false] at hx
      rcases hx with rfl | rfl | rfl<;>omega
theorem Z5h (m:Gm) (h:ZN m=true):X18 m.Pq.length m.Tr:=by
  rw [Z4i] at h
  cases h1:decide ((m.Pq.length:Int) > 64)<;>rw [h1] at h<;>(try (cases h;done))
  cases h2:decide ((m.Tr.length:Int) > 128)<;>rw [h2] at h<;>(try (cases h;done))
  simp only [cond_false,List.all_eq_true,decide_eq_false_iff_not] at h h1
  intro t ht
  exact Z5z (by omega) (by omega) (h t ht)
theorem Z3x (m:Gm) (h:ZN m=true):OkE m.Pq.length m.Tr:=by
  have h0:=Z5h m h
  rw [Z4i] at h
  cases h1:decide ((m.Pq.length:Int) > 64)<;>rw [h1] at h<;>(try (cases h;done))
  cases h2:decide ((m.Tr.length:Int) > 128)<;>rw [h2] at h<;>(try (cases h;done))
  simp only [cond_false,List.all_eq_true,decide_eq_false_iff_not] at h h1 h2
  refine ⟨by omega,by omega,fun t ht => ?_⟩
  have h3:=h t ht
  obtain ⟨hl,hx⟩:=h0 t ht
  match t,hl with
  | [a,b,c],_ =>
    unfold Zc at h3
    simp only [List.getD_cons_zero,List.getD_cons_succ] at h3
    cases e0:((([a,b,c]:List Int).length:Int) != 3)<;>rw [e0] at h3<;>(try (cases h3;done))
    cases e1:(a == b)<;>rw [e1] at h3<;>(try (cases h3;done))
    cases e2:(b == c)<;>rw [e2] at h3<;>(try (cases h3;done))
    cases e3:(a == c)<;>rw [e3] at h3<;>(try (cases h3;done))
    exact ⟨a,b,c,rfl,hx a (by simp),hx b (by simp),hx c (by simp),beq_eq_false_iff_ne.1 e1,beq_eq_false_iff_ne.1 e2,beq_eq_false_iff_ne.1 e3⟩
def ZZ (Y5:Int) (Yd:Int):Int:=(cond (decide (Y5 < Yd))
  Y5
  Yd)
theorem Z4P (Y5:Int) (Yd:Int)   : Fn prog 106 [.i .i64 Y5, .i .i64 Yd] (.i .i64 (ZZ Y5 Yd)) []:=by
 cases h0:(decide (Y5 < Yd)) with
 | true =>
  have gh0:=odt h0
  refine fnS E0Ok Z4 (c:=X0 f106) [] (.i .i64 Y5) [] func106 (sB h0<|sK [] sN) rfl (by kernel_rfl) (by kernel_rfl) rfl ?_ ?_
  · simp only [ZZ,h0,cond_true]
  · rfl
 | false =>
  have gh0:=odf h0
  refine fnS E0Ok Z4 (c:=X0 f106) [] (.i .i64 Yd) [] func106 (sB h0<|sK [] sN) rfl (by kernel_rfl) (by kernel_rfl) rfl ?_ ?_
  · simp only [ZZ,h0,cond_false]
  · rfl
theorem Z3p {a b n:Int} (h1:0≤a∧a < n) (h2:0≤b∧b < n):0≤ZZ a b∧ZZ a b < n:=by
  unfold ZZ;cases decide (a < b)<;>simp only [cond_true,cond_false]<;>omega
def Z10 (Y5:Int) (Yd:Int):Int:=(cond (decide (Y5 > Yd))
  Y5
  Yd)
theorem Z4Q (Y5:Int) (Yd:Int)   : Fn prog 107 [.i .i64 Y5, .i .i64 Yd] (.i .i64 (Z10 Y5 Yd)) []:=by
 cases h0:(decide (Y5 > Yd)) with
 | true =>
  have gh0:=odt h0
  refine fnS E0Ok Z4 (c:=X0 f107) [] (.i .i64 Y5) [] func107 (sB h0<|sK [] sN) rfl (by kernel_rfl) (by kernel_rfl) rfl ?_ ?_
  · simp only [Z10,h0,cond_true]
  · rfl
 | false =>
  have gh0:=odf h0
  refine fnS E0Ok Z4 (c:=X0 f107) [] (.i .i64 Yd) [] func107 (sB h0<|sK [] sN) rfl (by kernel_rfl) (by kernel_rfl) rfl ?_ ?_
  · simp only [Z10,h0,cond_false]
  · rfl
theorem Z3q {a b n:Int} (h1:0≤a∧a < n) (h2:0≤b∧b < n):0≤Z10 a b∧Z10 a b < n:=by
  unfold Z10;cases decide (a > b)<;>simp only [cond_true,cond_false]<;>omega
theorem Z3A (a b:Int):(⟨ZZ a b,Z10 a b⟩:Gedge)=mkE a b:=by
  unfold ZZ Z10 mkE
  by_cases h:a < b
  · rw [decide_eq_true h,decide_eq_false (by omega),if_pos (by omega)];rfl
  · rw [decide_eq_false h]
    by_cases h2:a > b
    · rw [decide_eq_true h2,if_neg (by omega)];rfl
    · rw [decide_eq_false h2,show a=b from by omega,if_pos (by omega)];rfl
def Zn (Y0:Gm) (Y3:Int) (Yh:Int):Int:=(ZZ ((Y0.Tr.getD Y3.toNat default).getD Yh.toNat default) ((Y0.Tr.getD Y3.toNat default).getD (Int.tmod (Yh + 1) 3).toNat default))
def Zr (Y0:Gm) (Y3:Int) (Yh:Int):Int:=(Z10 ((Y0.Tr.getD Y3.toNat default).getD Yh.toNat default) ((Y0.Tr.getD Y3.toNat default).getD (Int.tmod (Yh + 1) 3).toNat default))
def Zd (Y0:Gm) (Y3:Int) (Y7:(List Bool)):Nat→Int→(List Bool)→(List Bool)
  | 0,_,_=>default
  | k + 1,Yh,Yg=>(cond (decide (Yh < 3))
    (Zd Y0 Y3 Y7 k (Yh + 1) (Yg.set ((IntKind.wrap .i64 ((IntKind.wrap .i64 ((Zn Y0 Y3 Yh) * (Y0.Pq.length:Int))) + (Zr Y0 Y3 Yh))).toNat) true))
    Yg)
def Z2o (Y0:Gm) (Y3:Int) (Y7:(List Bool)) (r:(List Bool)):Ex × St:=((.exit 2),⟨.ref (Gm.c Y0) 0 :: .any :: .nils :: .i .i64 (Y0.Pq.length:Int) :: .own 0 :: .i .i64 Y3 :: .sl ((Y0.Tr.getD Y3.toNat default).map (cI .i64)) :: an 6 (.ref (Gm.c Y0) 0 :: .ref (Gm.c Y0) 0 :: .ref (Gm.c Y0) 0 :: .sl (Y0.Pq.map Gv.c) :: .i .i64 (Y0.Pq.length:Int) :: .i .i64 (Y0.Pq.length:Int) :: .i .i64 (Y0.Pq.length:Int) :: .i .i64 (IntKind.wrap .i64 ((Y0.Pq.length:Int) * (Y0.Pq.length:Int))) :: .own 0 :: .i .i64 Y3 :: .ref (Gm.c Y0) 0 :: .ref (Gm.c Y0) 0 :: .ref (Gm.c Y0) 1 :: .sl (Y0.Tr.map (cL (cI .i64))) :: .i .i64 (Y0.Tr.length:Int) :: .b (decide (Y3 < (Y0.Tr.length:Int))) :: .any :: .any :: .ref (Gm.c Y0) 0 :: .ref (Gm.c Y0) 0 :: .ref (Gm.c Y0) 1 :: .sl (Y0.Tr.map (cL (cI .i64))) :: .i .i64 Y3 :: .ref [.sl ((Y0.Tr.getD Y3.toNat default).map (cI .i64))] 0 :: .sl ((Y0.Tr.getD Y3.toNat default).map (cI .i64)) :: an 53 []),[.vec 4 1 (r.map cB) false]⟩)
def Z32 (Y0:Gm) (Y3:Int) (Y7:(List Bool)) (Yh:Int) (Yg:(List Bool)):St:=⟨.ref (Gm.c Y0) 0 :: .any :: .nils :: .i .i64 (Y0.Pq.length:Int) :: .own 0 :: .i .i64 Y3 :: .sl ((Y0.Tr.getD Y3.toNat default).map (cI .i64)) :: .i .i64 Yh :: an 5 (.ref (Gm.c Y0) 0 :: .ref (Gm.c Y0) 0 :: .ref (Gm.c Y0) 0 :: .sl (Y0.Pq.map Gv.c) :: .i .i64 (Y0.Pq.length:Int) :: .i .i64 (Y0.Pq.length:Int) :: .i .i64 (Y0.Pq.length:Int) :: .i .i64 (IntKind.wrap .i64 ((Y0.Pq.length:Int) * (Y0.Pq.length:Int))) :: .own 0 :: .i .i64 Y3 :: .ref (Gm.c Y0) 0 :: .ref (Gm.c Y0) 0 :: .ref (Gm.c Y0) 1 :: .sl (Y0.Tr.map (cL (cI .i64))) :: .i .i64 (Y0.Tr.length:Int) :: .b (decide (Y3 < (Y0.Tr.length:Int))) :: .any :: .any :: .ref (Gm.c Y0) 0 :: .ref (Gm.c Y0) 0 :: .ref (Gm.c Y0) 1 :: .sl (Y0.Tr.map (cL (cI .i64))) :: .i .i64 Y3 :: .ref [.sl ((Y0.Tr.getD Y3.toNat default).map (cI .i64))] 0 :: .sl ((Y0.Tr.getD Y3.toNat default).map (cI .i64)) :: an 53 []),[.vec 4 1 (Yg.map cB) false]⟩
def Z2M:List Bool:=(mR false [0,1,1,6,5,16,2,7,53])
def Z3B:List Bool:=(mR false [0,1,1,5,6,16,2,7,53])
set_option maxHeartbeats 1000000 in
theorem Z3U (Y0:Gm) (Y3:Int) (Y7:(List Bool)) (hp0:Y0.Pq.length≤1073741824) (hp1:Y0.Tr.length≤1073741824) (hp2:∀ t∈Y0.Tr,t.length≤1073741824) (hp3:OkE Y0.Pq.length Y0.Tr) (ZO:0≤Y3) (Z1I:Y7.length=(IntKind.wrap .i64 ((Y0.Pq.length:Int) * (Y0.Pq.length:Int))).toNat) (Z5d:(decide (Y3 < (Y0.Tr.length:Int)))=true):∀ (k:Nat) (Yh:Int) (Yg:(List Bool)) (Z15:0≤Yh) (Z2N:Yg.length=Y7.length) (hk:((3:Int) - Yh).toNat < k),Lp prog 0 (sub (X0 f66) [1,1,1,0,1,0,0,1,0,0,1,1,0,0]) (Z32 Y0 Y3 Y7 Yh Yg) (Z2o Y0 Y3 Y7 (Zd Y0 Y3 Y7 k Yh Yg)).1 (Z2o Y0 Y3 Y7 (Zd Y0 Y3 Y7 k Yh Yg)).2:=by
 intro k
 induction k with
 | zero=>intro Yh Yg Z15 Z2N hk;exact absurd hk (Nat.not_lt_zero _)
 | succ k ih =>
  intro Yh Yg Z15 Z2N hk
  cases Yr:(decide (Yh < 3)) with
  | true =>
   have YI:=odt Yr
   have YN:(0:Int)≤Yh:=(by assumption)
   have YO:Yh < ((Y0.Tr.getD Y3.toNat default).length:Int):=(by ((have q:=OkE.at (by assumption) ZO (odt (by assumption)) Z15 (odt (by assumption));omega)))
   have YJ:(-9223372036854775808:Int)≤(Yh + 1):=(by omega)
   have YH:(Yh + 1)≤(9223372036854775807:Int):=(by omega)
   have YP:(0:Int)≤(Int.tmod (Yh + 1) 3):=(by ((have q:=OkE.at (by assumption) ZO (odt (by assumption)) Z15 (odt (by assumption));omega)))
   have YU:(Int.tmod (Yh + 1) 3) < ((Y0.Tr.getD Y3.toNat default).length:Int):=(by ((have q:=OkE.at (by assumption) ZO (odt (by assumption)) Z15 (odt (by assumption));omega)))
   have YS:(0:Int)≤(IntKind.wrap .i64 ((IntKind.wrap .i64 ((Zn Y0 Y3 Yh) * (Y0.Pq.length:Int))) + (Zr Y0 Y3 Yh))):=(by ((have q:=OkE.at (by assumption) ZO (odt (by assumption)) Z15 (odt (by assumption));have q2:=ix2F q.2.2.2.2.2.1 (Z3p q.2.2.2.1 q.2.2.2.2.1).1 (Z3p q.2.2.2.1 q.2.2.2.2.1).2 (Z3q q.2.2.2.1 q.2.2.2.2.1).1 (Z3q q.2.2.2.1 q.2.2.2.2.1).2;unfold Zn Zr;omega)))
   have YX:(IntKind.wrap .i64 ((IntKind.wrap .i64 ((Zn Y0 Y3 Yh) * (Y0.Pq.length:Int))) + (Zr Y0 Y3 Yh))) < (Yg.length:Int):=(by ((have q:=OkE.at (by assumption) ZO (odt (by assumption)) Z15 (odt (by assumption));have q2:=ix2F q.2.2.2.2.2.1 (Z3p q.2.2.2.1 q.2.2.2.2.1).1 (Z3p q.2.2.2.1 q.2.2.2.2.1).2 (Z3q q.2.2.2.1 q.2.2.2.2.1).1 (Z3q q.2.2.2.1 q.2.2.2.2.1).2;unfold Zn Zr;omega)))
   have Y11:(IntKind.wrap .i64 ((IntKind.wrap .i64 ((Zn Y0 Y3 Yh) * (Y0.Pq.length:Int))) + (Zr Y0 Y3 Yh))).toNat < Yg.length:=(by omega)
   have e:Zd Y0 Y3 Y7 (k + 1) Yh Yg=(Zd Y0 Y3 Y7 k (Yh + 1) (Yg.set ((IntKind.wrap .i64 ((IntKind.wrap .i64 ((Zn Y0 Y3 Yh) * (Y0.Pq.length:Int))) + (Zr Y0 Y3 Yh))).toNat) true)):=by simp only [Zd,Yr,cond_true]
   rw [e]
   exact XW E0Ok Z4 [] Z2M [0] (⟨.ref (Gm.c Y0) 0 :: .any :: .nils :: .i .i64 (Y0.Pq.length:Int) :: .own 0 :: .i .i64 Y3 :: .sl ((Y0.Tr.getD Y3.toNat default).map (cI .i64)) :: .i .i64 (Yh + 1) :: an 5 (.ref (Gm.c Y0) 0 :: .ref (Gm.c Y0) 0 :: .ref (Gm.c Y0) 0 :: .sl (Y0.Pq.map Gv.c) :: .i .i64 (Y0.Pq.length:Int) :: .i .i64 (Y0.Pq.length:Int) :: .i .i64 (Y0.Pq.length:Int) :: .i .i64 (IntKind.wrap .i64 ((Y0.Pq.length:Int) * (Y0.Pq.length:Int))) :: .own 0 :: .i .i64 Y3 :: .ref (Gm.c Y0) 0 :: .ref (Gm.c Y0) 0 :: .ref (Gm.c Y0) 1 :: .sl (Y0.Tr.map (cL (cI .i64))) :: .i .i64 (Y0.Tr.length:Int) :: .b (decide (Y3 < (Y0.Tr.length:Int))) :: .any :: .any :: .ref (Gm.c Y0) 0 :: .ref (Gm.c Y0) 0 :: .ref (Gm.c Y0) 1 :: .sl (Y0.Tr.map (cL (cI .i64))) :: .i .i64 Y3 :: .ref [.sl ((Y0.Tr.getD Y3.toNat default).map (cI .i64))] 0 :: .sl ((Y0.Tr.getD Y3.toNat default).map (cI .i64)) :: an 53 []),[.vec 4 1 ((Yg.map cB).set ((IntKind.wrap .i64 ((IntKind.wrap .i64 ((Zn Y0 Y3 Yh) * (Y0.Pq.length:Int))) + (Zr Y0 Y3 Yh))).toNat) [.b true]) false]⟩) (sB Yr<|sG (cI .i64) (Y0.Tr.getD Y3.toNat default) Yh YN YO<|sI (Yh + 1) YJ YH<|sC (show (3:Int)≠0 from (by decide))<|sQ (Int.tmod (Yh + 1) 3)<|sG (cI .i64) (Y0.Tr.getD Y3.toNat default) (Int.tmod (Yh + 1) 3) YP YU<|sF (Z4P ((Y0.Tr.getD Y3.toNat default).getD Yh.toNat default) ((Y0.Tr.getD Y3.toNat default).getD (Int.tmod (Yh + 1) 3).toNat default))<|sW .i64 ((Zn Y0 Y3 Yh) * (Y0.Pq.length:Int))<|sF (Z4Q ((Y0.Tr.getD Y3.toNat default).getD Yh.toNat default) ((Y0.Tr.getD Y3.toNat default).getD (Int.tmod (Yh + 1) 3).toNat default))<|sW .i64 ((IntKind.wrap .i64 ((Zn Y0 Y3 Yh) * (Y0.Pq.length:Int))) + (Zr Y0 Y3 Yh))<|sX cB Yg (IntKind.wrap .i64 ((IntKind.wrap .i64 ((Zn Y0 Y3 Yh) * (Y0.Pq.length:Int))) + (Zr Y0 Y3 Yh))) YS YX<|sC (X6D (c:=cB) (l:=Yg) Y11)<|sI (Yh + 1) YJ YH<|sN) (by kernel_rfl) (by simp [Z32,cL,cI,cB]) (ih (Yh + 1) (Yg.set ((IntKind.wrap .i64 ((IntKind.wrap .i64 ((Zn Y0 Y3 Yh) * (Y0.Pq.length:Int))) + (Zr Y0 Y3 Yh))).toNat) true) (show 0≤(Yh + 1) from (by omega)) (show (Yg.set ((IntKind.wrap .i64 ((IntKind.wrap .i64 ((Zn Y0 Y3 Yh) * (Y0.Pq.length:Int))) + (Zr Y0 Y3 Yh))).toNat) true).length=Y7.length from (by simp_all<;>omega)) (by omega))
  | false =>
   have YI:=odf Yr
   have e:Zd Y0 Y3 Y7 (k + 1) Yh Yg=Yg:=by simp only [Zd,Yr,cond_false]
   rw [e]
   exact outR (e:=(.exit 2)) E0Ok Z4 [] Z3B [0] (sB Yr<|sN) (by kernel_rfl) (by intro h;cases h)
theorem Z3C (Y0:Gm) (Y3:Int) (Y7:(List Bool)):∀ (k:Nat) (Yh:Int) (Yg:(List Bool)) (hk:((3:Int) - Yh).toNat < k),(Zd Y0 Y3 Y7 k Yh Yg).length=Yg.length:=by
  intro k
  induction k with
  | zero=>intro Yh Yg hk;exact absurd hk (Nat.not_lt_zero _)
  | succ k ih =>
    intro Yh Yg hk
    cases Yr:(decide (Yh < 3)) with
    | true =>
      have e:Zd Y0 Y3 Y7 (k + 1) Yh Yg=(Zd Y0 Y3 Y7 k (Yh + 1) (Yg.set ((IntKind.wrap .i64 ((IntKind.wrap .i64 ((Zn Y0 Y3 Yh) * (Y0.Pq.length:Int))) + (Zr Y0 Y3 Yh))).toNat) true)):=by simp only [Zd,Yr,cond_true]
      rw [e,ih (Yh + 1) (Yg.set ((IntKind.wrap .i64 ((IntKind.wrap .i64 ((Zn Y0 Y3 Yh) * (Y0.Pq.length:Int))) + (Zr Y0 Y3 Yh))).toNat) true) (by simp_all<;>omega)];simp
    | false =>
      have e:Zd Y0 Y3 Y7 (k + 1) Yh Yg=Yg:=by simp only [Zd,Yr,cond_false]
      first | (rw [e];done) | (rw [e];rfl)
def ZC (Y0:Gm) (Y3:Int) (Y7:(List Bool)):(List Bool):=(Zd Y0 Y3 Y7 (((3:Int) - 0).toNat + 1) 0 Y7)
@[simp] theorem Z3d (Y0:Gm) (Y3:Int) (Y7:(List Bool)):(ZC Y0 Y3 Y7).length=(Y7:(List Bool)).length:=Z3C Y0 Y3 Y7 (((3:Int) - 0).toNat + 1) 0 Y7 (by exact Nat.lt_succ_self _)
def Zk (Y0:Gm):Nat→Int→(List Bool)→(List Bool)
  | 0,_,_=>default
  | k + 1,Y3,Y7=>(cond (decide (Y3 < (Y0.Tr.length:Int)))
    (Zk Y0 k (Y3 + 1) (ZC Y0 Y3 Y7))
    Y7)
def Z2p (Y0:Gm) (r:(List Bool)):Ex × St:=((.exit 0),⟨.ref (Gm.c Y0) 0 :: .any :: .nils :: .i .i64 (Y0.Pq.length:Int) :: .own 0 :: an 8 (.ref (Gm.c Y0) 0 :: .ref (Gm.c Y0) 0 :: .ref (Gm.c Y0) 0 :: .sl (Y0.Pq.map Gv.c) :: .i .i64 (Y0.Pq.length:Int) :: .i .i64 (Y0.Pq.length:Int) :: .i .i64 (Y0.Pq.length:Int) :: .i .i64 (IntKind.wrap .i64 ((Y0.Pq.length:Int) * (Y0.Pq.length:Int))) :: .own 0 :: an 69 []),[.vec 4 1 (r.map cB) false]⟩)
def Z33 (Y0:Gm) (Y3:Int) (Y7:(List Bool)):St:=⟨.ref (Gm.c Y0) 0 :: .any :: .nils :: .i .i64 (Y0.Pq.length:Int) :: .own 0 :: .i .i64 Y3 :: an 7 (.ref (Gm.c Y0) 0 :: .ref (Gm.c Y0) 0 :: .ref (Gm.c Y0) 0 :: .sl (Y0.Pq.map Gv.c) :: .i .i64 (Y0.Pq.length:Int) :: .i .i64 (Y0.Pq.length:Int) :: .i .i64 (Y0.Pq.length:Int) :: .i .i64 (IntKind.wrap .i64 ((Y0.Pq.length:Int) * (Y0.Pq.length:Int))) :: .own 0 :: an 69 []),[.vec 4 1 (Y7.map cB) false]⟩
theorem Z3V (Y0:Gm) (hp0:Y0.Pq.length≤1073741824) (hp1:Y0.Tr.length≤1073741824) (hp2:∀ t∈Y0.Tr,t.length≤1073741824) (hp3:OkE Y0.Pq.length Y0.Tr):∀ (k:Nat) (Y3:Int) (Y7:(List Bool)) (ZO:0≤Y3) (Z1I:Y7.length=(IntKind.wrap .i64 ((Y0.Pq.length:Int) * (Y0.Pq.length:Int))).toNat) (hk:((Y0.Tr.length:Int) - Y3).toNat < k),Lp prog 0 (sub (X0 f66) [1,1,1,0,1,0,0]) (Z33 Y0 Y3 Y7) (Z2p Y0 (Zk Y0 k Y3 Y7)).1 (Z2p Y0 (Zk Y0 k Y3 Y7)).2:=by
 intro k
 induction k with
 | zero=>intro Y3 Y7 ZO Z1I hk;exact absurd hk (Nat.not_lt_zero _)
 | succ k ih =>
  intro Y3 Y7 ZO Z1I hk
  have p {a C} (s:Scr a C):=sZ (cL (cI .i64)) Y0.Tr<|s
  cases Yf:(decide (Y3 < (Y0.Tr.length:Int))) with
  | true =>
   have Yt:=odt Yf
   have Yx:(0:Int)≤Y3:=by clear p;exact (by assumption)
   have Yw:Y3 < (Y0.Tr.length:Int):=by clear p;exact (by assumption)
   have YC:(-9223372036854775808:Int)≤(Y3 + 1):=by clear p;exact (by omega)
   have YA:(Y3 + 1)≤(9223372036854775807:Int):=by clear p;exact (by omega)
   have e:Zk Y0 (k + 1) Y3 Y7=(Zk Y0 k (Y3 + 1) (ZC Y0 Y3 Y7)):=by simp only [Zk,Yf,cond_true]
   rw [e]
   exact Xp E0Ok Z4 [] (mR false [0,1,1,4,7,9,69]) [0] (ih (Y3 + 1) (ZC Y0 Y3 Y7) (show 0≤(Y3 + 1) from (by omega)) (show (ZC Y0 Y3 Y7).length=(IntKind.wrap .i64 ((Y0.Pq.length:Int) * (Y0.Pq.length:Int))).toNat from (by simp_all<;>omega)) (by omega)) (p (sB Yf<|sG (cL (cI .i64)) Y0.Tr Y3 Yx Yw<|sL Z2M 1 (X6 (Z2o Y0 Y3 Y7) (x:=(ZC Y0 Y3 Y7)) (Z3U Y0 Y3 Y7 hp0 hp1 hp2 hp3 ZO Z1I Yf (((3:Int) - 0).toNat + 1) 0 Y7 (show 0≤0 from (by omega)) (show Y7.length=Y7.length from (by omega)) (Nat.lt_succ_self _)) rfl)<|sI (Y3 + 1) YC YA<|sN)) (by kernel_rfl)
  | false =>
   have Yt:=odf Yf
   have e:Zk Y0 (k + 1) Y3 Y7=Y7:=by simp only [Zk,Yf,cond_false]
   rw [e]
   exact outR (e:=(.exit 0)) E0Ok Z4 [] (mR false [0,1,1,3,8,9,69]) [0] (p (sB Yf<|sN)) (by kernel_rfl) (by intro h;cases h)
theorem Z3D (Y0:Gm):∀ (k:Nat) (Y3:Int) (Y7:(List Bool)) (hk:((Y0.Tr.length:Int) - Y3).toNat < k),(Zk Y0 k Y3 Y7).length=Y7.length:=by
  intro k
  induction k with
  | zero=>intro Y3 Y7 hk;exact absurd hk (Nat.not_lt_zero _)
  | succ k ih =>
    intro Y3 Y7 hk
    cases Yf:(decide (Y3 < (Y0.Tr.length:Int))) with
    | true =>
      have e:Zk Y0 (k + 1) Y3 Y7=(Zk Y0 k (Y3 + 1) (ZC Y0 Y3 Y7)):=by simp only [Zk,Yf,cond_true]
      rw [e,ih (Y3 + 1) (ZC Y0 Y3 Y7) (by simp_all<;>omega)];simp
    | false =>
      have e:Zk Y0 (k + 1) Y3 Y7=Y7:=by simp only [Zk,Yf,cond_false]
      first | (rw [e];done) | (rw [e];rfl)
def Za (Y0:Gm):(List Bool):=(Zk Y0 (((Y0.Tr.length:Int) - 0).toNat + 1) 0 (List.replicate (IntKind.wrap .i64 ((Y0.Pq.length:Int) * (Y0.Pq.length:Int))).toNat false))
@[simp] theorem Z3e (Y0:Gm):(Za Y0).length=((List.replicate (IntKind.wrap .i64 ((Y0.Pq.length:Int) * (Y0.Pq.length:Int))).toNat false):(List Bool)).length:=Z3D Y0 (((Y0.Tr.length:Int) - 0).toNat + 1) 0 (List.replicate (IntKind.wrap .i64 ((Y0.Pq.length:Int) * (Y0.Pq.length:Int))).toNat false) (by exact Nat.lt_succ_self _)
def Zl (Y0:Gm) (Ye:Int) (Y6:(List (List Int))):Nat→Int→(List (List Int))→(List (List Int))
  | 0,_,_=>default
  | k + 1,Yo,Y4=>(cond (decide (Yo < (Y0.Pq.length:Int)))
    (cond ((Za Y0).getD ((IntKind.wrap .i64 ((IntKind.wrap .i64 (Ye * (Y0.Pq.length:Int))) + Yo)).toNat) default)
      (Zl Y0 Ye Y6 k (Yo + 1) (Y4 ++ [[Ye,Yo]]))
      (Zl Y0 Ye Y6 k (Yo + 1) Y4))
    Y4)
def Z2q (Y0:Gm) (Ye:Int) (Y6:(List (List Int))) (r:(List (List Int))):Ex × St:=((.exit 6),⟨.ref (Gm.c Y0) 0 :: .any :: .nils :: .i .i64 (Y0.Pq.length:Int) :: .own 0 :: an 5 (.own 1 :: .i .i64 Ye :: .any :: .ref (Gm.c Y0) 0 :: .ref (Gm.c Y0) 0 :: .ref (Gm.c Y0) 0 :: .sl (Y0.Pq.map Gv.c) :: .i .i64 (Y0.Pq.length:Int) :: .i .i64 (Y0.Pq.length:Int) :: .i .i64 (Y0.Pq.length:Int) :: .i .i64 (IntKind.wrap .i64 ((Y0.Pq.length:Int) * (Y0.Pq.length:Int))) :: .own 0 :: an 42 (.i .i64 Ye :: .i .i64 (Y0.Pq.length:Int) :: .b (decide (Ye < (Y0.Pq.length:Int))) :: .any :: .any :: .i .i64 Ye :: .i .i64 (Ye + 1) :: an 20 [])),[.vec 4 1 ((Za Y0).map cB) false, .nest 79 (r.map fun l=>l.map (cI .i64)) false]⟩)
def Z34 (Y0:Gm) (Ye:Int) (Y6:(List (List Int))) (Yo:Int) (Y4:(List (List Int))):St:=⟨.ref (Gm.c Y0) 0 :: .any :: .nils :: .i .i64 (Y0.Pq.length:Int) :: .own 0 :: an 5 (.own 1 :: .i .i64 Ye :: .i .i64 Yo :: .ref (Gm.c Y0) 0 :: .ref (Gm.c Y0) 0 :: .ref (Gm.c Y0) 0 :: .sl (Y0.Pq.map Gv.c) :: .i .i64 (Y0.Pq.length:Int) :: .i .i64 (Y0.Pq.length:Int) :: .i .i64 (Y0.Pq.length:Int) :: .i .i64 (IntKind.wrap .i64 ((Y0.Pq.length:Int) * (Y0.Pq.length:Int))) :: .own 0 :: an 42 (.i .i64 Ye :: .i .i64 (Y0.Pq.length:Int) :: .b (decide (Ye < (Y0.Pq.length:Int))) :: .any :: .any :: .i .i64 Ye :: .i .i64 (Ye + 1) :: an 20 [])),[.vec 4 1 ((Za Y0).map cB) false, .nest 79 (Y4.map fun l=>l.map (cI .i64)) false]⟩
def Z27:List Bool:=(mR false [0,1,1,3,5,12,42,3,2,2,20])
def Z3E:List Bool:=(mR false [0,1,1,3,5,2,1,9,42,3,2,2,20])
set_option maxHeartbeats 1000000 in
theorem Z3W (Y0:Gm) (Ye:Int) (Y6:(List (List Int))) (hp0:Y0.Pq.length≤1073741824) (hp1:Y0.Tr.length≤1073741824) (hp2:∀ t∈Y0.Tr,t.length≤1073741824) (hp3:OkE Y0.Pq.length Y0.Tr) (Z1J:0≤Ye) (Z1K:(Y6.length:Int)≤64 * Ye) (Z1L:(decide (Ye < (Y0.Pq.length:Int)))=true):∀ (k:Nat) (Yo:Int) (Y4:(List (List Int))) (Z2O:Ye < Yo) (Z2P:(Y4.length:Int)≤(Y6.length:Int) + Yo) (hk:((Y0.Pq.length:Int) - Yo).toNat < k),Lp prog 0 (sub (X0 f66) [1,1,1,1,1,0,1,0,0,1,0,0,1,0,0]) (Z34 Y0 Ye Y6 Yo Y4) (Z2q Y0 Ye Y6 (Zl Y0 Ye Y6 k Yo Y4)).1 (Z2q Y0 Ye Y6 (Zl Y0 Ye Y6 k Yo Y4)).2:=by
 intro k
 induction k with
 | zero=>intro Yo Y4 Z2O Z2P hk;exact absurd hk (Nat.not_lt_zero _)
 | succ k ih =>
  intro Yo Y4 Z2O Z2P hk
  cases Yr:(decide (Yo < (Y0.Pq.length:Int))) with
  | true =>
   have YI:=odt Yr
   have YN:(0:Int)≤(IntKind.wrap .i64 ((IntKind.wrap .i64 (Ye * (Y0.Pq.length:Int))) + Yo)):=(by ((have:=hp3.1;have g4:=odt Z1L;(have q2:=ix2F (n:=(Y0.Pq.length:Int)) (a:=Ye) (b:=Yo) (by omega) (by omega) (by omega) (by omega) (by omega);omega))))
   have YO:(IntKind.wrap .i64 ((IntKind.wrap .i64 (Ye * (Y0.Pq.length:Int))) + Yo)) < ((Za Y0).length:Int):=(by ((have:=hp3.1;have g4:=odt Z1L;(have q2:=ix2F (n:=(Y0.Pq.length:Int)) (a:=Ye) (b:=Yo) (by omega) (by omega) (by omega) (by omega) (by omega);(simp only [Z3e,List.length_replicate];omega)))))
   have YJ:(IntKind.wrap .i64 ((IntKind.wrap .i64 (Ye * (Y0.Pq.length:Int))) + Yo)).toNat < (Za Y0).length:=(by omega)
   have p {a C} (s:Scr a C):=sB Yr<|sW .i64 (Ye * (Y0.Pq.length:Int))<|sW .i64 ((IntKind.wrap .i64 (Ye * (Y0.Pq.length:Int))) + Yo)<|sX cB (Za Y0) (IntKind.wrap .i64 ((IntKind.wrap .i64 (Ye * (Y0.Pq.length:Int))) + Yo)) YN YO<|sV cB (Za Y0) ((IntKind.wrap .i64 ((IntKind.wrap .i64 (Ye * (Y0.Pq.length:Int))) + Yo)).toNat) YJ<|s
   cases Yu:((Za Y0).getD ((IntKind.wrap .i64 ((IntKind.wrap .i64 (Ye * (Y0.Pq.length:Int))) + Yo)).toNat) default) with
   | true =>
    have YH:Y4.length + [[Ye,Yo]].length≤1073741824:=by clear p;exact (by ((have:=hp3.1;have g4:=odt Z1L;(simp only [List.length_append,List.length_cons,List.length_nil];omega))))
    have YP:(-9223372036854775808:Int)≤(Yo + 1):=by clear p;exact (by omega)
    have YU:(Yo + 1)≤(9223372036854775807:Int):=by clear p;exact (by omega)
    have e:Zl Y0 Ye Y6 (k + 1) Yo Y4=(Zl Y0 Ye Y6 k (Yo + 1) (Y4 ++ [[Ye,Yo]])):=by simp only [Zl,Yr,Yu,cond_true]
    rw [e]
    exact XW E0Ok Z4 [] Z27 [0,1] (⟨.ref (Gm.c Y0) 0 :: .any :: .nils :: .i .i64 (Y0.Pq.length:Int) :: .own 0 :: an 5 (.own 1 :: .i .i64 Ye :: .i .i64 (Yo + 1) :: .ref (Gm.c Y0) 0 :: .ref (Gm.c Y0) 0 :: .ref (Gm.c Y0) 0 :: .sl (Y0.Pq.map Gv.c) :: .i .i64 (Y0.Pq.length:Int) :: .i .i64 (Y0.Pq.length:Int) :: .i .i64 (Y0.Pq.length:Int) :: .i .i64 (IntKind.wrap .i64 ((Y0.Pq.length:Int) * (Y0.Pq.length:Int))) :: .own 0 :: an 42 (.i .i64 Ye :: .i .i64 (Y0.Pq.length:Int) :: .b (decide (Ye < (Y0.Pq.length:Int))) :: .any :: .any :: .i .i64 Ye :: .i .i64 (Ye + 1) :: an 20 [])),[.vec 4 1 ((Za Y0).map cB) false, .nest 79 ((Y4.map fun l=>l.map (cI .i64)) ++ [([[.i .i64 Ye],[.i .i64 Yo]]:List (List AV))]) false]⟩) (p (sB Yu<|sC (show (Y4.map fun l=>l.map (cI .i64)).length + [([[.i .i64 Ye],[.i .i64 Yo]]:List (List AV))].length≤1073741824 from (by simpa using YH))<|sI (Yo + 1) YP YU<|sN)) (by kernel_rfl) (by simp [Z34,cL,cI,cB]) (ih (Yo + 1) (Y4 ++ [[Ye,Yo]]) (show Ye < (Yo + 1) from (by omega)) (show ((Y4 ++ [[Ye,Yo]]).length:Int)≤(Y6.length:Int) + (Yo + 1) from (by ((have:=hp3.1;have g4:=odt Z1L;(simp only [List.length_append,List.length_cons,List.length_nil];omega))))) (by omega))
   | false =>
    have YH:(-9223372036854775808:Int)≤(Yo + 1):=by clear p;exact (by omega)
    have YP:(Yo + 1)≤(9223372036854775807:Int):=by clear p;exact (by omega)
    have e:Zl Y0 Ye Y6 (k + 1) Yo Y4=(Zl Y0 Ye Y6 k (Yo + 1) Y4):=by simp only [Zl,Yr,Yu,cond_true,cond_false]
    rw [e]
    exact Xp E0Ok Z4 [] Z27 [0,1] (ih (Yo + 1) Y4 (show Ye < (Yo + 1) from (by omega)) (show (Y4.length:Int)≤(Y6.length:Int) + (Yo + 1) from (by omega)) (by omega)) (p (sB Yu<|sI (Yo + 1) YH YP<|sN)) (by kernel_rfl)
  | false =>
   have YI:=odf Yr
   have e:Zl Y0 Ye Y6 (k + 1) Yo Y4=Y4:=by simp only [Zl,Yr,cond_false]
   rw [e]
   exact outR (e:=(.exit 6)) E0Ok Z4 [] Z3E [0,1] (sB Yr<|sN) (by kernel_rfl) (by intro h;cases h)
end Go.Ab
