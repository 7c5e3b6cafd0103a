/- The functions of this seat as plain Lean, and that the program's are these. Printed by a program of the prover's own. -/
import Derived.Test.YtiddhiepmakopaaB3
set_option linter.unusedVariables false
set_option linter.unusedSimpArgs false
set_option maxRecDepth 100000
namespace Go.Ab
open Go.RowKit Go.Proofs.Try
def ZB (Y3:Gm) (Yj:Int):Int × (List Gv) × (List (List Int)):=((Z5 Y3.Tr ((Zg Y3.Pq Yj).1)).1,(Zg Y3.Pq Yj).2,(Z5 Y3.Tr ((Zg Y3.Pq Yj).1)).2)
theorem Z42 (Y3:Gm) (Yj:Int) (hp0:Y3.Pq.length≤1073741824) (hp1:Y3.Tr.length≤1073741824) (hp2:∀ t∈Y3.Tr,t.length≤1073741824)  : Xa prog 17 [.vec 62 3 (Y3.Pq.map Gv.c) false, .nest 79 (Y3.Tr.map fun l=>l.map (cI .i64)) false] [.agg [.own 0, .own 1], .i .i64 Yj] (.i .i64 ((ZB Y3 Yj).1)) [.vec 62 3 (((ZB Y3 Yj).2.1).map Gv.c) false, .nest 79 (((ZB Y3 Yj).2.2).map fun l=>l.map (cI .i64)) false]:=by
 refine X4S (EpOk 2) Z2 (c:=X0 f17) [.vec 62 3 (Y3.Pq.map Gv.c) false, .nest 79 (Y3.Tr.map fun l=>l.map (cI .i64)) false] [] (.i .i64 ((Z5 Y3.Tr ((Zg Y3.Pq Yj).1)).1)) [.vec 62 3 (((Zg Y3.Pq Yj).2).map Gv.c) false, .nest 79 (((Z5 Y3.Tr ((Zg Y3.Pq Yj).1)).2).map fun l=>l.map (cI .i64)) false] func17 (sS (Xa.frame (Z41 Y3.Pq Yj hp0) [0] (R:=[.vec 62 3 (Y3.Pq.map Gv.c) false, .nest 79 (Y3.Tr.map fun l=>l.map (cI .i64)) false, .box 35 [.own 0, .own 1]]) (args':=[.own 0, .i .i64 Yj]) rfl rfl rfl rfl rfl rfl)<|sS (Xa.frame (Z2L Y3.Tr ((Zg Y3.Pq Yj).1) hp1 hp2) [1] (R:=[.vec 62 3 (((Zg Y3.Pq Yj).2).map Gv.c) false, .nest 79 (Y3.Tr.map fun l=>l.map (cI .i64)) false, .box 35 [.own 0, .own 1]]) (args':=[.own 1, .i .i64 ((Zg Y3.Pq Yj).1)]) rfl rfl rfl rfl rfl rfl)<|sK [] sN) rfl (by kernel_rfl) (by kernel_rfl) ?_ ?_
 · rfl
 · simp [ZB]
theorem Z4z (a:Gm) (c:Int) (g0:a.Pq.length≤1073741824) (g1:a.Tr.length≤1073741824) (g2:∀ t∈a.Tr,t.length≤1073741824) (h0:0≤c) (h1:c≤2305843009213693952):c≤(ZB a c).1∧(ZB a c).1≤c + 1152921507828072448:=by
  unfold ZB
  have p0:=Z4F a.Pq c g0 (by omega) (by omega)
  have p1:=Z3v a.Tr ((Zg a.Pq c).1) g1 g2 (by omega) (by omega)
  simp only
  omega
def Zy (Y3:(List Int)) (Yj:Int):Nat→Int→Int→(Unit) ⊕ (Int)
  | 0,_,_ => .inl default
  | k + 1,Y8,Y6=>(cond (decide (Y6 < (Y3.length:Int)))
    (cond ((Y3.getD Y6.toNat default) != Y8)
      (.inl ())
      (Zy Y3 Yj k (IntKind.wrap .i64 (Y8 + 1)) (Y6 + 1)))
    (.inr Y8))
def Z1P (Y3:(List Int)) (Yj:Int):(Unit) ⊕ (Int)→Ex × St
  | .inl r=>(.ret,⟨an 4 (.i .i64 (-1) :: an 16 []),[]⟩)
  | .inr r=>((.exit 0),⟨.any :: .i .i64 r :: an 19 [],[]⟩)
def Z4g (Y3:(List Int)) (Yj:Int) (Y8:Int) (Y6:Int):St:=⟨.sl (Y3.map (cI .i64)) :: .i .i64 Y8 :: .any :: .any :: .any :: .i .i64 Y6 :: an 15 [],[]⟩
theorem Z3c (Y3:(List Int)) (Yj:Int) (hp0:Y3.length≤1073741824):∀ (k:Nat) (Y8:Int) (Y6:Int) (Z2M:0≤Y6) (hk:((Y3.length:Int) - Y6).toNat < k),Lp prog 0 (sub (X0 f72) [1,0,1,0,0]) (Z4g Y3 Yj Y8 Y6) (Z1P Y3 Yj (Zy Y3 Yj k Y8 Y6)).1 (Z1P Y3 Yj (Zy Y3 Yj k Y8 Y6)).2:=by
 intro k
 induction k with
 | zero=>intro Y8 Y6 Z2M hk;exact absurd hk (Nat.not_lt_zero _)
 | succ k ih =>
  intro Y8 Y6 Z2M hk
  have p {a C} (s:Scr a C):=sZ (cI .i64) Y3<|s
  cases Yh:(decide (Y6 < (Y3.length:Int))) with
  | true =>
   have Yq:=odt Yh
   have Yu:(0:Int)≤Y6:=by clear p;exact (by assumption)
   have Ys:Y6 < (Y3.length:Int):=by clear p;exact (by assumption)
   have q {a C} (s:Scr a C):=p (sB Yh<|sG (cI .i64) Y3 Y6 Yu Ys<|s)
   clear p
   cases Yl:((Y3.getD Y6.toNat default) != Y8) with
   | true =>
    have YG:=bne_iff_ne.1 Yl
    have e:Zy Y3 Yj (k + 1) Y8 Y6=(.inl ()):=by simp only [Zy,Yh,Yl,cond_true]
    rw [e]
    exact outR (e := .ret) E0Ok Z2 [] (mR false [4,1,16]) [] (q (sB Yl<|sN)) (by kernel_rfl) (by intro h;cases h)
   | false =>
    have YG:=bne_eq_false_iff_eq.1 Yl
    have Yw:(-9223372036854775808:Int)≤(Y6 + 1):=by clear q;exact (by omega)
    have Yv:(Y6 + 1)≤(9223372036854775807:Int):=by clear q;exact (by omega)
    have e:Zy Y3 Yj (k + 1) Y8 Y6=(Zy Y3 Yj k (IntKind.wrap .i64 (Y8 + 1)) (Y6 + 1)):=by simp only [Zy,Yh,Yl,cond_true,cond_false]
    rw [e]
    exact Xw E0Ok Z2 [] (mR false [0,2,3,1,15]) [] (ih (IntKind.wrap .i64 (Y8 + 1)) (Y6 + 1) (show 0≤(Y6 + 1) from (by omega)) (by omega)) (q (sB Yl<|sW .i64 (Y8 + 1)<|sI (Y6 + 1) Yw Yv<|sN)) (by kernel_rfl)
  | false =>
   have Yq:=odf Yh
   have e:Zy Y3 Yj (k + 1) Y8 Y6=(.inr Y8):=by simp only [Zy,Yh,cond_false]
   rw [e]
   exact outR (e:=(.exit 0)) E0Ok Z2 [] (mR false [1,1,19]) [] (p (sB Yh<|sN)) (by kernel_rfl) (by intro h;cases h)
def Z1m (Y3:(List Int)) (Yj:Int):(Unit) ⊕ (Int):=(Zy Y3 Yj (((Y3.length:Int) - 0).toNat + 1) Yj 0)
def Zq (Y3:(List Int)) (Yj:Int):Int:=(match (Z1m Y3 Yj) with
  | .inl r1=>(-1)
  | .inr r1=>r1)
theorem Z4G (Y3:(List Int)) (Yj:Int) (hp0:Y3.length≤1073741824)  : Fn prog 72 [.sl (Y3.map (cI .i64)), .i .i64 Yj] (.i .i64 (Zq Y3 Yj)) []:=by
 cases h0:(Z1m Y3 Yj) with
 | inl r1 =>
  refine fnS E0Ok Z2 (c:=X0 f72) [] (.i .i64 (-1)) [] func72 (sL (mR false [0,2,3,1,15]) 0 (X6 (Z1P Y3 Yj) (x:=(Z1m Y3 Yj)) (Z3c Y3 Yj hp0 (((Y3.length:Int) - 0).toNat + 1) Yj 0 (show 0≤0 from (by omega)) (Nat.lt_succ_self _)) h0)<|sK [] sN) rfl (by kernel_rfl) (by kernel_rfl) rfl ?_ ?_
  · simp only [Zq,h0]
  · rfl
 | inr r1 =>
  refine fnS E0Ok Z2 (c:=X0 f72) [] (.i .i64 r1) [] func72 (sL (mR false [0,2,3,1,15]) 0 (X6 (Z1P Y3 Yj) (x:=(Z1m Y3 Yj)) (Z3c Y3 Yj hp0 (((Y3.length:Int) - 0).toNat + 1) Yj 0 (show 0≤0 from (by omega)) (Nat.lt_succ_self _)) h0)<|sK [] sN) rfl (by kernel_rfl) (by kernel_rfl) rfl ?_ ?_
  · simp only [Zq,h0]
  · rfl
def Z3V (x:Int) (c:Int):Bool:=(!(x != c))
def Z4h (_:Int) (c:Int):Int:=(IntKind.wrap .i64 (c + 1))
theorem Z5K (a:List Int) (c:Int):Zq a c=match hdL Z3V Z4h a c with
    | some c'=>c'
    | none => -1:=by
  unfold Zq Z1m
  rw [X4v (p:=Z3V) (q:=Z4h) (a:=a) (x:=()) (lo:=Zy a c) (fun k c i=>by
    rw [Zy]
    unfold Z3V Z4h
    generalize a.getD i.toNat default=x
    cases decide (i < (a.length:Int))<;>cases (x != c)<;>rfl) _ _ _ (Int.le_refl 0) (Nat.lt_succ_self _)]
  simp only [Int.toNat_zero,List.drop_zero]
  cases hdL Z3V Z4h a c<;>rfl
def Zt (Y3:(List (List Int))) (Yj:Int):Nat→Int→Int→(Unit) ⊕ (Int)
  | 0,_,_ => .inl default
  | k + 1,Y8,Y6=>(cond (decide (Y6 < (Y3.length:Int)))
    (cond (decide ((Zq (Y3.getD Y6.toNat default) Y8) < 0))
      (.inl ())
      (Zt Y3 Yj k (Zq (Y3.getD Y6.toNat default) Y8) (Y6 + 1)))
    (.inr Y8))
def Z1B (Y3:(List (List Int))) (Yj:Int):(Unit) ⊕ (Int)→Ex × St
  | .inl r=>(.ret,⟨an 4 (.i .i64 (-1) :: an 16 []),[]⟩)
  | .inr r=>((.exit 0),⟨.any :: .i .i64 r :: an 19 [],[]⟩)
def Z49 (Y3:(List (List Int))) (Yj:Int) (Y8:Int) (Y6:Int):St:=⟨.sl (Y3.map (cL (cI .i64))) :: .i .i64 Y8 :: .any :: .any :: .any :: .i .i64 Y6 :: an 15 [],[]⟩
theorem Z2Y (Y3:(List (List Int))) (Yj:Int) (hp0:Y3.length≤1073741824) (hp1:∀ t∈Y3,t.length≤1073741824):∀ (k:Nat) (Y8:Int) (Y6:Int) (Z2H:0≤Y6) (hk:((Y3.length:Int) - Y6).toNat < k),Lp prog 0 (sub (X0 f25) [1,0,1,0,0]) (Z49 Y3 Yj Y8 Y6) (Z1B Y3 Yj (Zt Y3 Yj k Y8 Y6)).1 (Z1B Y3 Yj (Zt Y3 Yj k Y8 Y6)).2:=by
 intro k
 induction k with
 | zero=>intro Y8 Y6 Z2H hk;exact absurd hk (Nat.not_lt_zero _)
 | succ k ih =>
  intro Y8 Y6 Z2H hk
  have p {a C} (s:Scr a C):=sZ (cL (cI .i64)) Y3<|s
  cases Yh:(decide (Y6 < (Y3.length:Int))) with
  | true =>
   have Yq:=odt Yh
   have Yu:(0:Int)≤Y6:=by clear p;exact (by assumption)
   have Ys:Y6 < (Y3.length:Int):=by clear p;exact (by assumption)
   have Yw:(Y3.getD Y6.toNat default).length≤1073741824:=by clear p;exact (by simp_all<;>omega)
   have q {a C} (s:Scr a C):=p (sB Yh<|sG (cL (cI .i64)) Y3 Y6 Yu Ys<|sF (Z4G (Y3.getD Y6.toNat default) Y8 Yw)<|s)
   clear p
   cases Yl:(decide ((Zq (Y3.getD Y6.toNat default) Y8) < 0)) with
   | true =>
    have YG:=odt Yl
    have e:Zt Y3 Yj (k + 1) Y8 Y6=(.inl ()):=by simp only [Zt,Yh,Yl,cond_true]
    rw [e]
    exact outR (e := .ret) E0Ok Z2 [] (mR false [4,1,16]) [] (q (sB Yl<|sN)) (by kernel_rfl) (by intro h;cases h)
   | false =>
    have YG:=odf Yl
    have Yv:(-9223372036854775808:Int)≤(Y6 + 1):=by clear q;exact (by omega)
    have Yz:(Y6 + 1)≤(9223372036854775807:Int):=by clear q;exact (by omega)
    have e:Zt Y3 Yj (k + 1) Y8 Y6=(Zt Y3 Yj k (Zq (Y3.getD Y6.toNat default) Y8) (Y6 + 1)):=by simp only [Zt,Yh,Yl,cond_true,cond_false]
    rw [e]
    exact Xw E0Ok Z2 [] (mR false [0,2,3,1,15]) [] (ih (Zq (Y3.getD Y6.toNat default) Y8) (Y6 + 1) (show 0≤(Y6 + 1) from (by omega)) (by omega)) (q (sB Yl<|sI (Y6 + 1) Yv Yz<|sN)) (by kernel_rfl)
  | false =>
   have Yq:=odf Yh
   have e:Zt Y3 Yj (k + 1) Y8 Y6=(.inr Y8):=by simp only [Zt,Yh,cond_false]
   rw [e]
   exact outR (e:=(.exit 0)) E0Ok Z2 [] (mR false [1,1,19]) [] (p (sB Yh<|sN)) (by kernel_rfl) (by intro h;cases h)
def Z1k (Y3:(List (List Int))) (Yj:Int):(Unit) ⊕ (Int):=(Zt Y3 Yj (((Y3.length:Int) - 0).toNat + 1) Yj 0)
def ZW (Y3:(List (List Int))) (Yj:Int):Int:=(match (Z1k Y3 Yj) with
  | .inl r1=>(-1)
  | .inr r1=>r1)
theorem Z3w (Y3:(List (List Int))) (Yj:Int) (hp0:Y3.length≤1073741824) (hp1:∀ t∈Y3,t.length≤1073741824)  : Fn prog 25 [.sl (Y3.map (cL (cI .i64))), .i .i64 Yj] (.i .i64 (ZW Y3 Yj)) []:=by
 cases h0:(Z1k Y3 Yj) with
 | inl r1 =>
  refine fnS E0Ok Z2 (c:=X0 f25) [] (.i .i64 (-1)) [] func25 (sL (mR false [0,2,3,1,15]) 0 (X6 (Z1B Y3 Yj) (x:=(Z1k Y3 Yj)) (Z2Y Y3 Yj hp0 hp1 (((Y3.length:Int) - 0).toNat + 1) Yj 0 (show 0≤0 from (by omega)) (Nat.lt_succ_self _)) h0)<|sK [] sN) rfl (by kernel_rfl) (by kernel_rfl) rfl ?_ ?_
  · simp only [ZW,h0]
  · rfl
 | inr r1 =>
  refine fnS E0Ok Z2 (c:=X0 f25) [] (.i .i64 r1) [] func25 (sL (mR false [0,2,3,1,15]) 0 (X6 (Z1B Y3 Yj) (x:=(Z1k Y3 Yj)) (Z2Y Y3 Yj hp0 hp1 (((Y3.length:Int) - 0).toNat + 1) Yj 0 (show 0≤0 from (by omega)) (Nat.lt_succ_self _)) h0)<|sK [] sN) rfl (by kernel_rfl) (by kernel_rfl) rfl ?_ ?_
  · simp only [ZW,h0]
  · rfl
theorem Z5x (a:List (List Int)) (c:Int):ZW a c=match hdL (fun x c => !(decide (Zq x c < 0))) Zq a c with
    | some c'=>c'
    | none => -1:=by
  unfold ZW Z1k
  rw [X4v (p:=fun x c => !(decide (Zq x c < 0))) (q:=Zq) (a:=a) (x:=()) (lo:=Zt a c) (fun k c i=>by
    rw [Zt]
    cases decide (i < (a.length:Int))<;>cases decide (Zq (a.getD i.toNat default) c < 0)<;>rfl) _ _ _ (Int.le_refl 0) (Nat.lt_succ_self _)]
  simp only [Int.toNat_zero,List.drop_zero]
  cases hdL (fun x c => !(decide (Zq x c < 0))) Zq a c<;>rfl
def ZC (Yf:Gm):Bool:=(cond (decide ((ZM Yf 1048576) < 0))
  true
  (cond (Z13 ((Z7 Yf).1) ((Ze Yf).1))
    (cond ((Z7 Yf).2 == (Ze Yf).2)
      (cond (Z1x Yf Yf)
        (cond (decide ((ZB Yf 1).1 < 0))
          false
          (cond (decide ((ZW ((Z5 ((Z7 Yf).1) 1).2) 1) < 0))
            false
            (cond ((ZW ((Z5 ((Z7 Yf).1) 1).2) 1) != (Z5 ((Z7 Yf).1) 1).1)
              false
              true)))
        false)
      false)
    false))
set_option maxHeartbeats 1000000 in
theorem Z43 (Yf:Gm) (hp0:Yf.Pq.length≤9223372036854775807) (hp1:Yf.Tr.length≤9223372036854775807) (hp2:∀ t∈Yf.Tr,t.length≤9223372036854775807)  : Fn prog 6 [.agg [.sl (Yf.Pq.map Gv.c), .sl (Yf.Tr.map (cL (cI .i64)))]] (.b (ZC Yf)) []:=by
 have z0:=(Z44 Yf 1048576 (by omega) (by omega) (by assumption) (by omega) (by omega))
 have p {a C} (s:Scr a C):=sF (Z5i Yf 1048576 hp0 hp1 hp2)<|s
 cases h0:(decide ((ZM Yf 1048576) < 0)) with
 | true =>
  have gh0:=odt h0
  refine fnS E0Ok Z2 (c:=X0 f6) [] (.b true) [] func6 (p (sB h0<|sK [] sN)) rfl (by kernel_rfl) (by kernel_rfl) rfl ?_ ?_
  · simp only [ZC,h0,cond_true]
  · rfl
 | false =>
  have gh0:=odf h0
  have y0:Yf.Pq.length≤1073741824:=by clear p;exact (by omega)
  have y1:Yf.Tr.length≤1073741824:=by clear p;exact (by omega)
  have y2:∀ t∈Yf.Tr,t.length≤1073741824:=by clear p;exact (by intro t ht;(have q:=z0.2.2.2.2 t ht;omega))
  have l1:=(Z3N Yf)
  have l2:=(Z3R Yf)
  have y3:((Z7 Yf).1).length≤1073741824:=by clear p;exact (by omega)
  have y4:∀ t∈((Z7 Yf).1),t.length≤1073741824:=by clear p;exact (by intro t ht;(have q:=Z2E Yf t ht;omega))
  have y5:((Ze Yf).1).length≤1073741824:=by clear p;exact (by omega)
  have y6:∀ t∈((Ze Yf).1),t.length≤1073741824:=by clear p;exact (by intro t ht;(have q:=Z3q Yf t ht;omega))
  have q {a C} (s:Scr a C):=p (sB h0<|sF (Z2N Yf y0 y1 y2)<|sF (Fn.castA (args':=[.agg [.sl (Yf.Pq.map Gv.c), .sl ((Yf.Tr.map fun l=>l.map (cI .i64)).map fun l => [.sl l])]]) (Z56 Yf y0 y1 y2) (by simp [cL,Function.comp_def];done))<|sF (Z2N Yf y0 y1 y2)<|sF (Fn.castA (args':=[.agg [.sl (Yf.Pq.map Gv.c), .sl ((Yf.Tr.map fun l=>l.map (cI .i64)).map fun l => [.sl l])]]) (Z3X Yf y0 y1 y2) (by simp [cL,Function.comp_def];done))<|sF (Fn.castA (args':=[.sl ((((Z7 Yf).1).map fun l=>l.map (cI .i64)).map fun l => [.sl l]), .sl ((((Ze Yf).1).map fun l=>l.map (cI .i64)).map fun l => [.sl l])]) (Z2e ((Z7 Yf).1) ((Ze Yf).1) y3 y4 y5 y6) (by simp [cL,Function.comp_def];done))<|s)
  clear p
  cases h1:(Z13 ((Z7 Yf).1) ((Ze Yf).1)) with
  | true =>
   have p {a C} (s:Scr a C):=q (sB' h1<|sB' h1<|sB' h1<|sB' h1<|s)
   clear q
   cases h2:((Z7 Yf).2 == (Ze Yf).2) with
   | true =>
    have gh2:=eq_of_beq h2
    have q {a C} (s:Scr a C):=p (sB' h2<|sK [3,3]<|sF (Z2N Yf y0 y1 y2)<|sF (Fn.castA (args':=[.agg [.sl (Yf.Pq.map Gv.c), .sl ((Yf.Tr.map fun l=>l.map (cI .i64)).map fun l => [.sl l])], .agg [.sl (Yf.Pq.map Gv.c), .sl ((Yf.Tr.map fun l=>l.map (cI .i64)).map fun l => [.sl l])]]) (Z5q Yf Yf y0 y1 y2 y0 y1 y2) (by simp [cL,Function.comp_def];done))<|s)
    clear p
    cases h3:(Z1x Yf Yf) with
    | true =>
     have p {a C} (s:Scr a C):=q (sB' h3<|sS (Xa.frame (Z42 Yf 1 y0 y1 y2) [4,5] (R:=[.box 31 [.sl (Yf.Pq.map Gv.c), .sl (Yf.Tr.map (cL (cI .i64)))], .vec 62 3 (Yf.Pq.map Gv.c) false, .nest 79 (Yf.Tr.map fun l=>l.map (cI .i64)) false, .nest 79 (((Ze Yf).1).map fun l=>l.map (cI .i64)) false, .vec 62 3 (Yf.Pq.map Gv.c) false, .nest 79 (Yf.Tr.map fun l=>l.map (cI .i64)) false, .box 35 [.own 4, .own 5], .nest 79 (((Z7 Yf).1).map fun l=>l.map (cI .i64)) false, .vec 62 3 (Yf.Pq.map Gv.c) false, .nest 79 (Yf.Tr.map fun l=>l.map (cI .i64)) false]) (args':=[.agg [.own 4, .own 5], .i .i64 1]) rfl rfl rfl rfl rfl rfl)<|s)
     clear q
     cases h4:(decide ((ZB Yf 1).1 < 0)) with
     | true =>
      have gh4:=odt h4
      refine fnS E0Ok Z2 (c:=X0 f6) [] (.b false) [] func6 (p (sB h4<|sB h4<|sB h4<|sB h4<|sB h4<|sB (show true=true from rfl)<|sB (show true=true from rfl)<|sB (show true=true from rfl)<|sB (show true=true from rfl)<|sB (show true=true from rfl)<|sK [] sN)) rfl (by kernel_rfl) (by kernel_rfl) rfl ?_ ?_
      · simp only [ZC,h0,h1,h2,h3,h4,cond_true,cond_false]
      · rfl
     | false =>
      have gh4:=odf h4
      have y7:((Z5 ((Z7 Yf).1) 1).2).length≤1073741824:=by clear p;exact (by simp_all<;>omega)
      have y8:∀ t∈((Z5 ((Z7 Yf).1) 1).2),t.length≤1073741824:=by clear p;exact (by exact Z4W _ _ _ (by assumption))
      have q {a C} (s:Scr a C):=p (sB h4<|sB h4<|sB h4<|sF (Fn.castA (args':=[.sl ((((Z7 Yf).1).map fun l=>l.map (cI .i64)).map fun l => [.sl l]), .sl ((((Ze Yf).1).map fun l=>l.map (cI .i64)).map fun l => [.sl l])]) (Z2e ((Z7 Yf).1) ((Ze Yf).1) y3 y4 y5 y6) (by simp [cL,Function.comp_def];done))<|sB h4<|sB h4<|sB' h1<|sB' h1<|sB' h1<|sB' h1<|sB' h2<|sS (Xa.frame (Z2L ((Z7 Yf).1) 1 y3 y4) [7] (R:=[.box 31 [.sl (Yf.Pq.map Gv.c), .sl (Yf.Tr.map (cL (cI .i64)))], .vec 62 3 (Yf.Pq.map Gv.c) false, .nest 79 (Yf.Tr.map fun l=>l.map (cI .i64)) false, .nest 79 (((Ze Yf).1).map fun l=>l.map (cI .i64)) false, .vec 62 3 (((ZB Yf 1).2.1).map Gv.c) false, .nest 79 (((ZB Yf 1).2.2).map fun l=>l.map (cI .i64)) false, .box 35 [.own 4, .own 5], .nest 79 (((Z7 Yf).1).map fun l=>l.map (cI .i64)) false, .vec 62 3 (Yf.Pq.map Gv.c) false, .nest 79 (Yf.Tr.map fun l=>l.map (cI .i64)) false]) (args':=[.own 7, .i .i64 1]) rfl rfl rfl rfl rfl rfl)<|sF (Fn.castA (args':=[.sl ((((Z5 ((Z7 Yf).1) 1).2).map fun l=>l.map (cI .i64)).map fun l => [.sl l]), .i .i64 1]) (Z3w ((Z5 ((Z7 Yf).1) 1).2) 1 y7 y8) (by simp [cL,Function.comp_def];done))<|s)
      clear p
      cases h5:(decide ((ZW ((Z5 ((Z7 Yf).1) 1).2) 1) < 0)) with
      | true =>
       have gh5:=odt h5
       refine fnS E0Ok Z2 (c:=X0 f6) [] (.b false) [] func6 (q (sB h5<|sK [] sN)) rfl (by kernel_rfl) (by kernel_rfl) rfl ?_ ?_
       · simp only [ZC,h0,h1,h2,h3,h4,h5,cond_true,cond_false]
       · rfl
      | false =>
       have gh5:=odf h5
       have p {a C} (s:Scr a C):=q (sB h5<|s)
       clear q
       cases h6:((ZW ((Z5 ((Z7 Yf).1) 1).2) 1) != (Z5 ((Z7 Yf).1) 1).1) with
       | true =>
        have gh6:=bne_iff_ne.1 h6
        refine fnS E0Ok Z2 (c:=X0 f6) [] (.b false) [] func6 (p (sB h6<|sK [] sN)) rfl (by kernel_rfl) (by kernel_rfl) rfl ?_ ?_
        · simp only [ZC,h0,h1,h2,h3,h4,h5,h6,cond_true,cond_false]
        · rfl
       | false =>
        have gh6:=bne_eq_false_iff_eq.1 h6
        refine fnS E0Ok Z2 (c:=X0 f6) [] (.b true) [] func6 (p (sB h6<|sF (Z2N Yf y0 y1 y2)<|sF (Fn.castA (args':=[.agg [.sl (Yf.Pq.map Gv.c), .sl ((Yf.Tr.map fun l=>l.map (cI .i64)).map fun l => [.sl l])]]) (Z3X Yf y0 y1 y2) (by simp [cL,Function.comp_def];done))<|sF (Fn.castA (args':=[.sl ((((Z7 Yf).1).map fun l=>l.map (cI .i64)).map fun l => [.sl l]), .sl ((((Ze Yf).1).map fun l=>l.map (cI .i64)).map fun l => [.sl l])]) (Z2e ((Z7 Yf).1) ((Ze Yf).1) y3 y4 y5 y6) (by simp [cL,Function.comp_def];done))<|sB' h1<|sB' h1<|sB' h1<|sB' h1<|sB' h2<|sF (Fn.castA (args':=[.sl ((((Z5 ((Z7 Yf).1) 1).2).map fun l=>l.map (cI .i64)).map fun l => [.sl l]), .i .i64 1]) (Z3w ((Z5 ((Z7 Yf).1) 1).2) 1 y7 y8) (by simp [cL,Function.comp_def];done))<|sB h5<|sB h6<|sK [] sN)) rfl (by kernel_rfl) (by kernel_rfl) rfl ?_ ?_
        · simp only [ZC,h0,h1,h2,h3,h4,h5,h6,cond_true,cond_false]
        · rfl
    | false =>
     refine fnS E0Ok Z2 (c:=X0 f6) [] (.b false) [] func6 (q (sB' h3<|sK [] sN)) rfl (by kernel_rfl) (by kernel_rfl) rfl ?_ ?_
     · simp only [ZC,h0,h1,h2,h3,cond_true,cond_false]
     · rfl
   | false =>
    have gh2:=ne_of_beq_false h2
    refine fnS E0Ok Z2 (c:=X0 f6) [] (.b false) [] func6 (p (sB' h2<|sK [] sN)) rfl (by kernel_rfl) (by kernel_rfl) rfl ?_ ?_
    · simp only [ZC,h0,h1,h2,cond_true,cond_false]
    · rfl
  | false =>
   refine fnS E0Ok Z2 (c:=X0 f6) [] (.b false) [] func6 (q (sB' h1<|sB' h1<|sB' h1<|sB' h1<|sB (show true=true from rfl)<|sK [] sN)) rfl (by kernel_rfl) (by kernel_rfl) rfl ?_ ?_
   · simp only [ZC,h0,h1,cond_false]
   · rfl
theorem Z5g (a:List Int) (c:Int):Zq (Z6 a c).2 c=(Z6 a c).1:=by
  rw [Z5K,Z48,X6g (fun x c=>by simp [Z3V,Z2G,X6R]) (fun x c=>rfl)]
theorem Z4X (a:List (List Int)) (c:Int) (g0:a.length≤1073741824) (g1:∀ t∈a,t.length≤1073741824) (h0:0≤c) (h1:c≤3458764513820540928):ZW (Z5 a c).2 c=(Z5 a c).1:=by
  rw [Z5x,Z3U,X4u (W:=1073741824) (M:=4611686018427387904) a c (fun x hx c k0 k1=>by
    have q:=Z3T x c (g1 x hx) k0 (by omega)
    have q2:=Z5g x c
    refine ⟨?_,q2,q.1,q.2⟩
    rw [q2]
    simp;omega) h0 (by omega)]
theorem Z3I (a:Gm) (h0_0:a.Pq.length≤9223372036854775807) (h0_1:a.Tr.length≤9223372036854775807) (h0_2:∀ t∈a.Tr,t.length≤9223372036854775807):ZC a=true:=by
  unfold ZC
  have z0:=Z44 a 1048576 h0_0 h0_1 h0_2 (by omega) (by omega)
  cases hc0:decide (ZM a 1048576 < 0) with
  | true=>rfl
  | false =>
    simp only [decide_eq_false_iff_not] at hc0
    have hm0:=Z4z a 1 (by omega) (by omega) (fun t ht=>by have q:=z0.2.2.2.2 t ht;omega) (by omega) (by omega)
    have l0:=Z3R a
    have v0:=Z3v (Z7 a).1 1 (by omega) (fun t ht=>by have q:=Z2E a t ht;omega) (by omega) (by omega)
    have w0:=Z4X (Z7 a).1 1 (by omega) (fun t ht=>by have q:=Z2E a t ht;omega) (by omega) (by omega)
    simp only [Z40] at *
    simp only [Z5y,Z46,w0,beq_self_eq_true,Bool.not_true,cond_true,cond_false,bne_self_eq_false]
    rw [decide_eq_false (by omega)]
    rw [decide_eq_false (by omega)]
    rfl
end Go.Ab
