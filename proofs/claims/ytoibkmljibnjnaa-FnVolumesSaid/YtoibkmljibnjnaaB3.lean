/- The functions of this seat as plain Lean, and that the program's are these. Printed by a program of the prover's own. -/
import Derived.Test.YtoibkmljibnjnaaB2
set_option linter.unusedVariables false
set_option linter.unusedSimpArgs false
set_option maxRecDepth 100000
namespace Go.Ab
open Go.RowKit Go.Proofs.Try
def Zb (YG:Int):Gm:=(cond (YG == 2)
  (Z1u 1073741824).1
  (cond (YG == 3)
    (Z16 0 1073741824)
    (Z16 1 1073741824)))
theorem Z6h (YG:Int) (hp0:(2:Int)≤YG) (hp1:YG≤4)  : Fn prog 19 [.i .i64 YG] (.agg [.own 0, .own 1]) [.vec 32 3 (((Zb YG).Pq).map Gv.c) false, .nest 60 (((Zb YG).Tr).map fun l=>l.map (cI .i64)) false]:=by
 have p {a C} (s:Scr a C):=sB (show (YG == 0)=false from (beq_eq_false_iff_ne.2 (by omega)))<|sB (show (YG == 1)=false from (beq_eq_false_iff_ne.2 (by omega)))<|s
 cases h0:(YG == 2) with
 | true =>
  have gh0:=eq_of_beq h0
  have hv:Zb YG=(Z1u 1073741824).1:=by unfold Zb;rw [h0,cond_true]
  refine fnS E0Ok Zc (c:=X5 f19) [] (.agg [.own 0, .own 1]) [.vec 32 3 (((Z1u 1073741824).1.Pq).map Gv.c) false, .nest 60 (((Z1u 1073741824).1.Tr).map fun l=>l.map (cI .i64)) false] func19 (p (sB h0<|sF (Z5W 1073741824)<|sK [2,3] sN)) rfl (by kernel_rfl) (by kernel_rfl) rfl ?_ ?_
  · first | rw [hv] | rfl
  · first | rw [hv] | rfl
 | false =>
  have gh0:=ne_of_beq_false h0
  have q {a C} (s:Scr a C):=p (sB h0<|s)
  clear p
  cases h1:(YG == 3) with
  | true =>
   have gh1:=eq_of_beq h1
   have hv:Zb YG=(Z16 0 1073741824):=by unfold Zb;rw [h0,cond_false,h1,cond_true]
   refine fnS E0Ok Zc (c:=X5 f19) [] (.agg [.own 0, .own 1]) [.vec 32 3 (((Z16 0 1073741824).Pq).map Gv.c) false, .nest 60 (((Z16 0 1073741824).Tr).map fun l=>l.map (cI .i64)) false] func19 (q (sB h1<|sF (Z4A 0 1073741824)<|sK [2,3] sN)) rfl (by kernel_rfl) (by kernel_rfl) rfl ?_ ?_
   · first | rw [hv] | rfl
   · first | rw [hv] | rfl
  | false =>
   have gh1:=ne_of_beq_false h1
   have hv:Zb YG=(Z16 1 1073741824):=by unfold Zb;rw [h0,cond_false,h1,cond_false]
   refine fnS E0Ok Zc (c:=X5 f19) [] (.agg [.own 0, .own 1]) [.vec 32 3 (((Z16 1 1073741824).Pq).map Gv.c) false, .nest 60 (((Z16 1 1073741824).Tr).map fun l=>l.map (cI .i64)) false] func19 (q (sB h1<|sF (Z4A 1 1073741824)<|sK [2,3] sN)) rfl (by kernel_rfl) (by kernel_rfl) rfl ?_ ?_
   · first | rw [hv] | rfl
   · first | rw [hv] | rfl
def Z5 (Y4:(List Int)):Gl00Src:=(⟨Y4,0,0⟩:Gl00Src)
@[simp] theorem Z96 (c:List Int):(Z5 c).code=c:=rfl
@[simp] theorem Z98 (c:List Int):(Z5 c).at_=0:=rfl
@[simp] theorem Z97 (c:List Int):(Z5 c).seed=0:=rfl
theorem Z5q (Yw:(List Gv)) (Yx:(List (List Int))) (Y4:(List Int)) (hp0:Y4.length≤1073741824)  : Xz prog 54 [.box 27 [.sl (Yw.map Gv.c), .sl (Yx.map (cL (cI .i64)))], .box 27 [.nils, .nils]] [.sl (Y4.map (cI .u8))] (.ptr 2 0 0) [.box 27 [.sl (Yw.map Gv.c), .sl (Yx.map (cL (cI .i64)))], .box 27 [.nils, .nils], .box 134 [.sl (((Z5 Y4).code).map (cI .u8)), .i .i64 ((Z5 Y4).at_), .i .u64 ((Z5 Y4).seed)]]:=by
 refine X1c (EpOk 2) Zc (c:=X5 f54) [.box 27 [.sl (Yw.map Gv.c), .sl (Yx.map (cL (cI .i64)))], .box 27 [.nils, .nils]] [] (.ptr 2 0 0) [.box 27 [.sl (Yw.map Gv.c), .sl (Yx.map (cL (cI .i64)))], .box 27 [.nils, .nils], .box 134 [.sl (Y4.map (cI .u8)), .i .i64 0, .i .u64 0]] func54 (sK [2] sN) rfl (by kernel_rfl) (by kernel_rfl) ?_ ?_
 · rfl
 · simp [Z5]
def Zv (Ye:Gl00Src):Int:=(IntKind.wrap .u64 ((IntKind.wrap .u64 ((IntKind.wrap .u64 (Ye.seed * 6364136223846793005)) + (IntKind.wrap .u64 (IntKind.wrap .i64 (Ye.code.getD Ye.at_.toNat default))))) + 1442695040888963407))
def Z7 (Ye:Gl00Src):Int × Int × Int:=(cond (decide (Ye.at_ < (Ye.code.length:Int)))
  (cond (decide ((IntKind.wrap .i64 (Ye.at_ + 1))≤(Ye.code.length:Int)))
    ((IntKind.wrap .i64 (Ye.code.getD Ye.at_.toNat default)),(IntKind.wrap .i64 (Ye.at_ + 1)),(Zv Ye))
    ((IntKind.wrap .i64 (bitsOf .and .u64 (Int.fdiv (Zv Ye) (2 ^ (min (Int.toNat 40) (IntKind.bits .u64)))) 255)),(IntKind.wrap .i64 (Ye.at_ + 1)),(Zv Ye)))
  (cond (decide ((IntKind.wrap .i64 (Ye.at_ + 1))≤(Ye.code.length:Int)))
    (0,(IntKind.wrap .i64 (Ye.at_ + 1)),(IntKind.wrap .u64 ((IntKind.wrap .u64 ((IntKind.wrap .u64 (Ye.seed * 6364136223846793005)) + 0)) + 1442695040888963407)))
    ((IntKind.wrap .i64 (bitsOf .and .u64 (Int.fdiv (IntKind.wrap .u64 ((IntKind.wrap .u64 ((IntKind.wrap .u64 (Ye.seed * 6364136223846793005)) + 0)) + 1442695040888963407)) (2 ^ (min (Int.toNat 40) (IntKind.bits .u64)))) 255)),(IntKind.wrap .i64 (Ye.at_ + 1)),(IntKind.wrap .u64 ((IntKind.wrap .u64 ((IntKind.wrap .u64 (Ye.seed * 6364136223846793005)) + 0)) + 1442695040888963407)))))
theorem Z4o (s:Gl00Src):0≤s.at_∧s.at_≤1152921504606846976→(Z7 s).2.1=s.at_ + 1:=by
  intro h
  have e:IntKind.wrap .i64 (s.at_ + 1)=s.at_ + 1:=XO (by omega) (by omega)
  unfold Z7
  rw [e]
  cases decide (s.at_ < (s.code.length:Int))<;>cases decide (s.at_ + 1≤(s.code.length:Int))<;>rfl
theorem Z7s (s:Gl00Src) (hc:OkB s.code) (h0:0≤s.at_):0≤(Z7 s).1∧(Z7 s).1≤255:=by
  have hb:∀ x:Int,0≤IntKind.wrap .i64 (bitsOf .and .u64 x 255)∧IntKind.wrap .i64 (bitsOf .and .u64 x 255)≤255:=fun x=>by
    have q:=XaR x
    rw [XO (by omega) (by omega)];exact q
  unfold Z7
  by_cases h1:s.at_ < (s.code.length:Int)
  · have hm:s.code.getD s.at_.toNat default∈s.code:=by
      rw [List.getD_eq_getElem?_getD,List.getElem?_eq_getElem (show s.at_.toNat < s.code.length by omega)];exact List.getElem_mem _
    have q:=hc _ hm
    have e:IntKind.wrap .i64 (s.code.getD s.at_.toNat default)=s.code.getD s.at_.toNat default:=XO (by omega) (by omega)
    rw [decide_eq_true h1,cond_true,e]
    cases decide (IntKind.wrap .i64 (s.at_ + 1)≤(s.code.length:Int)) with
    | true=>exact ⟨q.1,by have:=q.2;show s.code.getD s.at_.toNat default≤255;omega⟩
    | false=>exact hb _
  · rw [decide_eq_false h1,cond_false]
    cases decide (IntKind.wrap .i64 (s.at_ + 1)≤(s.code.length:Int)) with
    | true=>exact ⟨Int.le_refl 0,by show (0:Int)≤255;omega⟩
    | false=>exact hb _
theorem Z2Z (Yw:(List Gv)) (Yx:(List (List Int))) (w3:(List Gv)) (w4:(List (List Int))) (Ye:Gl00Src) (hp0:Ye.code.length≤1073741824) (hp1:0≤Ye.at_) (hp2:Ye.at_≤1152921504606846976)  : Xz prog 99 [.box 27 [.sl (Yw.map Gv.c), .sl (Yx.map (cL (cI .i64)))], .box 27 [.nils, .nils], .box 134 [.sl (Ye.code.map (cI .u8)), .i .i64 Ye.at_, .i .u64 Ye.seed], .vec 32 3 (w3.map Gv.c) false, .nest 60 (w4.map fun l=>l.map (cI .i64)) false, .box 27 [.own 3, .own 4]] [.ptr 2 0 0] (.i .i64 ((Z7 Ye).1)) [.box 27 [.sl (Yw.map Gv.c), .sl (Yx.map (cL (cI .i64)))], .box 27 [.nils, .nils], .box 134 [.sl (Ye.code.map (cI .u8)), .i .i64 ((Z7 Ye).2.1), .i .u64 ((Z7 Ye).2.2)], .vec 32 3 (w3.map Gv.c) false, .nest 60 (w4.map fun l=>l.map (cI .i64)) false, .box 27 [.own 3, .own 4]]:=by
 have p {a C} (s:Scr a C):=sK [9,9]<|sZ (cI .u8) Ye.code<|s
 cases h0:(decide (Ye.at_ < (Ye.code.length:Int))) with
 | true =>
  have gh0:=odt h0
  have y0:(0:Int)≤Ye.at_:=by clear p;exact (by assumption)
  have y1:Ye.at_ < (Ye.code.length:Int):=by clear p;exact (by assumption)
  have q {a C} (s:Scr a C):=p (sB h0<|sK [8,8]<|sG (cI .u8) Ye.code Ye.at_ y0 y1<|sW .i64 (Ye.code.getD Ye.at_.toNat default)<|sW .i64 (Ye.at_ + 1)<|sW .u64 (Ye.seed * 6364136223846793005)<|sW .u64 (IntKind.wrap .i64 (Ye.code.getD Ye.at_.toNat default))<|sW .u64 ((IntKind.wrap .u64 (Ye.seed * 6364136223846793005)) + (IntKind.wrap .u64 (IntKind.wrap .i64 (Ye.code.getD Ye.at_.toNat default))))<|sM (show IntKind.wrap .u64 ((IntKind.wrap .u64 ((IntKind.wrap .u64 (Ye.seed * 6364136223846793005)) + (IntKind.wrap .u64 (IntKind.wrap .i64 (Ye.code.getD Ye.at_.toNat default))))) + 1442695040888963407)=(Zv Ye) from rfl)<|sK [9,9]<|sZ (cI .u8) Ye.code<|s)
  clear p
  cases h1:(decide ((IntKind.wrap .i64 (Ye.at_ + 1))≤(Ye.code.length:Int))) with
  | true =>
   have gh1:=odt h1
   refine X1c (EpOk 6) Zc (c:=X5 f99) [.box 27 [.sl (Yw.map Gv.c), .sl (Yx.map (cL (cI .i64)))], .box 27 [.nils, .nils], .box 134 [.sl (Ye.code.map (cI .u8)), .i .i64 Ye.at_, .i .u64 Ye.seed], .vec 32 3 (w3.map Gv.c) false, .nest 60 (w4.map fun l=>l.map (cI .i64)) false, .box 27 [.own 3, .own 4]] [] (.i .i64 (IntKind.wrap .i64 (Ye.code.getD Ye.at_.toNat default))) [.box 27 [.sl (Yw.map Gv.c), .sl (Yx.map (cL (cI .i64)))], .box 27 [.nils, .nils], .box 134 [.sl (Ye.code.map (cI .u8)), .i .i64 (IntKind.wrap .i64 (Ye.at_ + 1)), .i .u64 (Zv Ye)], .vec 32 3 (w3.map Gv.c) false, .nest 60 (w4.map fun l=>l.map (cI .i64)) false, .box 27 [.own 3, .own 4]] func99 (q (sB h1<|sK [] sN)) rfl (by kernel_rfl) (by kernel_rfl) ?_ ?_
   · simp only [Z7,h0,h1,cond_true]
   · simp [Z7,h0,h1]
  | false =>
   have gh1:=odf h1
   refine X1c (EpOk 6) Zc (c:=X5 f99) [.box 27 [.sl (Yw.map Gv.c), .sl (Yx.map (cL (cI .i64)))], .box 27 [.nils, .nils], .box 134 [.sl (Ye.code.map (cI .u8)), .i .i64 Ye.at_, .i .u64 Ye.seed], .vec 32 3 (w3.map Gv.c) false, .nest 60 (w4.map fun l=>l.map (cI .i64)) false, .box 27 [.own 3, .own 4]] [] (.i .i64 (IntKind.wrap .i64 (bitsOf .and .u64 (Int.fdiv (Zv Ye) (2 ^ (min (Int.toNat 40) (IntKind.bits .u64)))) 255))) [.box 27 [.sl (Yw.map Gv.c), .sl (Yx.map (cL (cI .i64)))], .box 27 [.nils, .nils], .box 134 [.sl (Ye.code.map (cI .u8)), .i .i64 (IntKind.wrap .i64 (Ye.at_ + 1)), .i .u64 (Zv Ye)], .vec 32 3 (w3.map Gv.c) false, .nest 60 (w4.map fun l=>l.map (cI .i64)) false, .box 27 [.own 3, .own 4]] func99 (q (sB h1<|sC (show (0:Int)≤40 from (by decide))<|sQ (Int.fdiv (Zv Ye) (2 ^ (min (Int.toNat 40) (IntKind.bits .u64))))<|sQ (bitsOf .and .u64 (Int.fdiv (Zv Ye) (2 ^ (min (Int.toNat 40) (IntKind.bits .u64)))) 255)<|sW .i64 (bitsOf .and .u64 (Int.fdiv (Zv Ye) (2 ^ (min (Int.toNat 40) (IntKind.bits .u64)))) 255)<|sK [] sN)) rfl (by kernel_rfl) (by kernel_rfl) ?_ ?_
   · simp only [Z7,h0,h1,cond_true,cond_false]
   · simp [Z7,h0,h1]
 | false =>
  have gh0:=odf h0
  have q {a C} (s:Scr a C):=p (sB h0<|sW .i64 (Ye.at_ + 1)<|sW .u64 (Ye.seed * 6364136223846793005)<|sM (show IntKind.wrap .u64 0=0 from rfl)<|sW .u64 ((IntKind.wrap .u64 (Ye.seed * 6364136223846793005)) + 0)<|sW .u64 ((IntKind.wrap .u64 ((IntKind.wrap .u64 (Ye.seed * 6364136223846793005)) + 0)) + 1442695040888963407)<|sK [9,9]<|sZ (cI .u8) Ye.code<|s)
  clear p
  cases h1:(decide ((IntKind.wrap .i64 (Ye.at_ + 1))≤(Ye.code.length:Int))) with
  | true =>
   have gh1:=odt h1
   refine X1c (EpOk 6) Zc (c:=X5 f99) [.box 27 [.sl (Yw.map Gv.c), .sl (Yx.map (cL (cI .i64)))], .box 27 [.nils, .nils], .box 134 [.sl (Ye.code.map (cI .u8)), .i .i64 Ye.at_, .i .u64 Ye.seed], .vec 32 3 (w3.map Gv.c) false, .nest 60 (w4.map fun l=>l.map (cI .i64)) false, .box 27 [.own 3, .own 4]] [] (.i .i64 0) [.box 27 [.sl (Yw.map Gv.c), .sl (Yx.map (cL (cI .i64)))], .box 27 [.nils, .nils], .box 134 [.sl (Ye.code.map (cI .u8)), .i .i64 (IntKind.wrap .i64 (Ye.at_ + 1)), .i .u64 (IntKind.wrap .u64 ((IntKind.wrap .u64 ((IntKind.wrap .u64 (Ye.seed * 6364136223846793005)) + 0)) + 1442695040888963407))], .vec 32 3 (w3.map Gv.c) false, .nest 60 (w4.map fun l=>l.map (cI .i64)) false, .box 27 [.own 3, .own 4]] func99 (q (sB h1<|sK [] sN)) rfl (by kernel_rfl) (by kernel_rfl) ?_ ?_
   · simp only [Z7,h0,h1,cond_true,cond_false]
   · simp [Z7,h0,h1]
  | false =>
   have gh1:=odf h1
   refine X1c (EpOk 6) Zc (c:=X5 f99) [.box 27 [.sl (Yw.map Gv.c), .sl (Yx.map (cL (cI .i64)))], .box 27 [.nils, .nils], .box 134 [.sl (Ye.code.map (cI .u8)), .i .i64 Ye.at_, .i .u64 Ye.seed], .vec 32 3 (w3.map Gv.c) false, .nest 60 (w4.map fun l=>l.map (cI .i64)) false, .box 27 [.own 3, .own 4]] [] (.i .i64 (IntKind.wrap .i64 (bitsOf .and .u64 (Int.fdiv (IntKind.wrap .u64 ((IntKind.wrap .u64 ((IntKind.wrap .u64 (Ye.seed * 6364136223846793005)) + 0)) + 1442695040888963407)) (2 ^ (min (Int.toNat 40) (IntKind.bits .u64)))) 255))) [.box 27 [.sl (Yw.map Gv.c), .sl (Yx.map (cL (cI .i64)))], .box 27 [.nils, .nils], .box 134 [.sl (Ye.code.map (cI .u8)), .i .i64 (IntKind.wrap .i64 (Ye.at_ + 1)), .i .u64 (IntKind.wrap .u64 ((IntKind.wrap .u64 ((IntKind.wrap .u64 (Ye.seed * 6364136223846793005)) + 0)) + 1442695040888963407))], .vec 32 3 (w3.map Gv.c) false, .nest 60 (w4.map fun l=>l.map (cI .i64)) false, .box 27 [.own 3, .own 4]] func99 (q (sB h1<|sC (show (0:Int)≤40 from (by decide))<|sQ (Int.fdiv (IntKind.wrap .u64 ((IntKind.wrap .u64 ((IntKind.wrap .u64 (Ye.seed * 6364136223846793005)) + 0)) + 1442695040888963407)) (2 ^ (min (Int.toNat 40) (IntKind.bits .u64))))<|sQ (bitsOf .and .u64 (Int.fdiv (IntKind.wrap .u64 ((IntKind.wrap .u64 ((IntKind.wrap .u64 (Ye.seed * 6364136223846793005)) + 0)) + 1442695040888963407)) (2 ^ (min (Int.toNat 40) (IntKind.bits .u64)))) 255)<|sW .i64 (bitsOf .and .u64 (Int.fdiv (IntKind.wrap .u64 ((IntKind.wrap .u64 ((IntKind.wrap .u64 (Ye.seed * 6364136223846793005)) + 0)) + 1442695040888963407)) (2 ^ (min (Int.toNat 40) (IntKind.bits .u64)))) 255)<|sK [] sN)) rfl (by kernel_rfl) (by kernel_rfl) ?_ ?_
   · simp only [Z7,h0,h1,cond_false]
   · simp [Z7,h0,h1]
def Z17 (Ye:Gl00Src):Int:=(IntKind.wrap .i64 ((IntKind.wrap .i64 ((Z7 Ye).1 * 256)) + (Z7 (⟨Ye.code,(Z7 Ye).2.1,(Z7 Ye).2.2⟩:Gl00Src)).1))
def Z4 (Ye:Gl00Src) (YY:Int):Int × Int × Int:=(cond (decide (YY≤1))
  (0,Ye.at_,Ye.seed)
  (cond (decide (YY > 200))
    ((Int.tmod (Z17 Ye) YY),(Z7 (⟨Ye.code,(Z7 Ye).2.1,(Z7 Ye).2.2⟩:Gl00Src)).2.1,(Z7 (⟨Ye.code,(Z7 Ye).2.1,(Z7 Ye).2.2⟩:Gl00Src)).2.2)
    ((Int.tmod ((Z7 Ye).1) YY),(Z7 Ye).2.1,(Z7 Ye).2.2)))
theorem Z4p (s:Gl00Src) (n:Int):0≤s.at_∧s.at_≤1152921504606846970→s.at_≤(Z4 s n).2.1∧(Z4 s n).2.1≤s.at_ + 2:=by
  intro h
  have q1:=Z4o s ⟨h.1,by omega⟩
  have q2:=Z4o (⟨s.code,(Z7 s).2.1,(Z7 s).2.2⟩:Gl00Src) ⟨by show 0≤(Z7 s).2.1;omega,by show (Z7 s).2.1≤_;omega⟩
  have q2:_=(Z7 s).2.1 + 1:=q2
  unfold Z4
  cases decide (n≤1) with
  | true=>rw [cond_true];show s.at_≤s.at_∧s.at_≤s.at_ + 2;omega
  | false =>
    rw [cond_false]
    cases decide (n > 200) with
    | true=>rw [cond_true];show s.at_≤(Z7 (⟨s.code,(Z7 s).2.1,(Z7 s).2.2⟩:Gl00Src)).2.1∧(Z7 (⟨s.code,(Z7 s).2.1,(Z7 s).2.2⟩:Gl00Src)).2.1≤_;omega
    | false=>rw [cond_false];show s.at_≤(Z7 s).2.1∧(Z7 s).2.1≤_;rw [q1];omega
theorem Z5Z (s:Gl00Src) (n:Int) (hc:OkB s.code) (h0:0≤s.at_) (hn:1≤n) (h2:n≤200):0≤(Z4 s n).1∧(Z4 s n).1 < n:=by
  have q:=Z7s s hc h0
  unfold Z4
  by_cases h1:n≤1
  · rw [decide_eq_true h1,cond_true];exact ⟨Int.le_refl 0,by show 0 < n;omega⟩
  · rw [decide_eq_false h1,cond_false,decide_eq_false (by omega),cond_false]
    exact ⟨Int.tmod_nonneg _ q.1,Int.tmod_lt_of_pos _ (by omega)⟩
theorem Z4s (Yw:(List Gv)) (Yx:(List (List Int))) (w3:(List Gv)) (w4:(List (List Int))) (Ye:Gl00Src) (YY:Int) (hp0:Ye.code.length≤1073741824) (hp1:0≤Ye.at_) (hp2:Ye.at_≤1152921504606846970)  : Xz prog 55 [.box 27 [.sl (Yw.map Gv.c), .sl (Yx.map (cL (cI .i64)))], .box 27 [.nils, .nils], .box 134 [.sl (Ye.code.map (cI .u8)), .i .i64 Ye.at_, .i .u64 Ye.seed], .vec 32 3 (w3.map Gv.c) false, .nest 60 (w4.map fun l=>l.map (cI .i64)) false, .box 27 [.own 3, .own 4]] [.ptr 2 0 0, .i .i64 YY] (.i .i64 ((Z4 Ye YY).1)) [.box 27 [.sl (Yw.map Gv.c), .sl (Yx.map (cL (cI .i64)))], .box 27 [.nils, .nils], .box 134 [.sl (Ye.code.map (cI .u8)), .i .i64 ((Z4 Ye YY).2.1), .i .u64 ((Z4 Ye YY).2.2)], .vec 32 3 (w3.map Gv.c) false, .nest 60 (w4.map fun l=>l.map (cI .i64)) false, .box 27 [.own 3, .own 4]]:=by
 cases h0:(decide (YY≤1)) with
 | true =>
  have gh0:=odt h0
  refine X1c (EpOk 6) Zc (c:=X5 f55) [.box 27 [.sl (Yw.map Gv.c), .sl (Yx.map (cL (cI .i64)))], .box 27 [.nils, .nils], .box 134 [.sl (Ye.code.map (cI .u8)), .i .i64 Ye.at_, .i .u64 Ye.seed], .vec 32 3 (w3.map Gv.c) false, .nest 60 (w4.map fun l=>l.map (cI .i64)) false, .box 27 [.own 3, .own 4]] [] (.i .i64 0) [.box 27 [.sl (Yw.map Gv.c), .sl (Yx.map (cL (cI .i64)))], .box 27 [.nils, .nils], .box 134 [.sl (Ye.code.map (cI .u8)), .i .i64 Ye.at_, .i .u64 Ye.seed], .vec 32 3 (w3.map Gv.c) false, .nest 60 (w4.map fun l=>l.map (cI .i64)) false, .box 27 [.own 3, .own 4]] func55 (sB h0<|sK [] sN) rfl (by kernel_rfl) (by kernel_rfl) ?_ ?_
  · simp only [Z4,h0,cond_true]
  · simp [Z4,h0]
 | false =>
  have gh0:=odf h0
  have y0:Ye.at_≤1152921504606846976:=(by omega)
  have l1:=(Z4o Ye)
  have p {a C} (s:Scr a C):=sB h0<|sS (Z2Z Yw Yx w3 w4 Ye hp0 hp1 y0)<|s
  cases h1:(decide (YY > 200)) with
  | true =>
   have gh1:=odt h1
   have y1:(⟨Ye.code,(Z7 Ye).2.1,(Z7 Ye).2.2⟩:Gl00Src).code.length≤1073741824:=by clear p;exact (by assumption)
   have y2:0≤(⟨Ye.code,(Z7 Ye).2.1,(Z7 Ye).2.2⟩:Gl00Src).at_:=by clear p;exact (by simp_all<;>omega)
   have y3:(⟨Ye.code,(Z7 Ye).2.1,(Z7 Ye).2.2⟩:Gl00Src).at_≤1152921504606846976:=by clear p;exact (by simp_all<;>omega)
   have l2:=(Z4o (⟨Ye.code,(Z7 Ye).2.1,(Z7 Ye).2.2⟩:Gl00Src))
   have y4:YY≠0:=by clear p;exact (by omega)
   refine X1c (EpOk 6) Zc (c:=X5 f55) [.box 27 [.sl (Yw.map Gv.c), .sl (Yx.map (cL (cI .i64)))], .box 27 [.nils, .nils], .box 134 [.sl (Ye.code.map (cI .u8)), .i .i64 Ye.at_, .i .u64 Ye.seed], .vec 32 3 (w3.map Gv.c) false, .nest 60 (w4.map fun l=>l.map (cI .i64)) false, .box 27 [.own 3, .own 4]] [] (.i .i64 (Int.tmod (Z17 Ye) YY)) [.box 27 [.sl (Yw.map Gv.c), .sl (Yx.map (cL (cI .i64)))], .box 27 [.nils, .nils], .box 134 [.sl (Ye.code.map (cI .u8)), .i .i64 ((Z7 (⟨Ye.code,(Z7 Ye).2.1,(Z7 Ye).2.2⟩:Gl00Src)).2.1), .i .u64 ((Z7 (⟨Ye.code,(Z7 Ye).2.1,(Z7 Ye).2.2⟩:Gl00Src)).2.2)], .vec 32 3 (w3.map Gv.c) false, .nest 60 (w4.map fun l=>l.map (cI .i64)) false, .box 27 [.own 3, .own 4]] func55 (p (sB h1<|sW .i64 ((Z7 Ye).1 * 256)<|sS (Z2Z Yw Yx w3 w4 (⟨Ye.code,(Z7 Ye).2.1,(Z7 Ye).2.2⟩:Gl00Src) y1 y2 y3)<|sM (show IntKind.wrap .i64 ((IntKind.wrap .i64 ((Z7 Ye).1 * 256)) + (Z7 (⟨Ye.code,(Z7 Ye).2.1,(Z7 Ye).2.2⟩:Gl00Src)).1)=(Z17 Ye) from rfl)<|sC y4<|sQ (Int.tmod (Z17 Ye) YY)<|sK [] sN)) rfl (by kernel_rfl) (by kernel_rfl) ?_ ?_
   · simp only [Z4,h0,h1,cond_true,cond_false]
   · simp [Z4,h0,h1]
  | false =>
   have gh1:=odf h1
   have y1:YY≠0:=by clear p;exact (by omega)
   refine X1c (EpOk 6) Zc (c:=X5 f55) [.box 27 [.sl (Yw.map Gv.c), .sl (Yx.map (cL (cI .i64)))], .box 27 [.nils, .nils], .box 134 [.sl (Ye.code.map (cI .u8)), .i .i64 Ye.at_, .i .u64 Ye.seed], .vec 32 3 (w3.map Gv.c) false, .nest 60 (w4.map fun l=>l.map (cI .i64)) false, .box 27 [.own 3, .own 4]] [] (.i .i64 (Int.tmod ((Z7 Ye).1) YY)) [.box 27 [.sl (Yw.map Gv.c), .sl (Yx.map (cL (cI .i64)))], .box 27 [.nils, .nils], .box 134 [.sl (Ye.code.map (cI .u8)), .i .i64 ((Z7 Ye).2.1), .i .u64 ((Z7 Ye).2.2)], .vec 32 3 (w3.map Gv.c) false, .nest 60 (w4.map fun l=>l.map (cI .i64)) false, .box 27 [.own 3, .own 4]] func55 (p (sB h1<|sC y1<|sQ (Int.tmod ((Z7 Ye).1) YY)<|sK [] sN)) rfl (by kernel_rfl) (by kernel_rfl) ?_ ?_
   · simp only [Z4,h0,h1,cond_false]
   · simp [Z4,h0,h1]
theorem Z30 (Yw:(List Gv)) (Yx:(List (List Int))) (w3:(List Gv)) (w4:(List (List Int))) (YP:Nat) (YQ:Nat) (YR:Nat) (Ye:Gl00Src) (hp0:Ye.code.length≤1073741824) (hp1:0≤Ye.at_) (hp2:Ye.at_≤1152921504606846976)  : Xz prog 99 [.box 27 [.sl (Yw.map Gv.c), .sl (Yx.map (cL (cI .i64)))], .box 27 [.nils, .nils], .box 134 [.sl (Ye.code.map (cI .u8)), .i .i64 Ye.at_, .i .u64 Ye.seed], .vec 32 3 (w3.map Gv.c) false, .nest 60 (w4.map fun l=>l.map (cI .i64)) false, .box 27 [.own 3, .own 4], .box 32 [.f .f32 YP, .f .f32 YQ, .f .f32 YR]] [.ptr 2 0 0] (.i .i64 ((Z7 Ye).1)) [.box 27 [.sl (Yw.map Gv.c), .sl (Yx.map (cL (cI .i64)))], .box 27 [.nils, .nils], .box 134 [.sl (Ye.code.map (cI .u8)), .i .i64 ((Z7 Ye).2.1), .i .u64 ((Z7 Ye).2.2)], .vec 32 3 (w3.map Gv.c) false, .nest 60 (w4.map fun l=>l.map (cI .i64)) false, .box 27 [.own 3, .own 4], .box 32 [.f .f32 YP, .f .f32 YQ, .f .f32 YR]]:=by
 have p {a C} (s:Scr a C):=sK [9,9]<|sZ (cI .u8) Ye.code<|s
 cases h0:(decide (Ye.at_ < (Ye.code.length:Int))) with
 | true =>
  have gh0:=odt h0
  have y0:(0:Int)≤Ye.at_:=by clear p;exact (by assumption)
  have y1:Ye.at_ < (Ye.code.length:Int):=by clear p;exact (by assumption)
  have q {a C} (s:Scr a C):=p (sB h0<|sK [8,8]<|sG (cI .u8) Ye.code Ye.at_ y0 y1<|sW .i64 (Ye.code.getD Ye.at_.toNat default)<|sW .i64 (Ye.at_ + 1)<|sW .u64 (Ye.seed * 6364136223846793005)<|sW .u64 (IntKind.wrap .i64 (Ye.code.getD Ye.at_.toNat default))<|sW .u64 ((IntKind.wrap .u64 (Ye.seed * 6364136223846793005)) + (IntKind.wrap .u64 (IntKind.wrap .i64 (Ye.code.getD Ye.at_.toNat default))))<|sM (show IntKind.wrap .u64 ((IntKind.wrap .u64 ((IntKind.wrap .u64 (Ye.seed * 6364136223846793005)) + (IntKind.wrap .u64 (IntKind.wrap .i64 (Ye.code.getD Ye.at_.toNat default))))) + 1442695040888963407)=(Zv Ye) from rfl)<|sK [9,9]<|sZ (cI .u8) Ye.code<|s)
  clear p
  cases h1:(decide ((IntKind.wrap .i64 (Ye.at_ + 1))≤(Ye.code.length:Int))) with
  | true =>
   have gh1:=odt h1
   refine X1c (EpOk 7) Zc (c:=X5 f99) [.box 27 [.sl (Yw.map Gv.c), .sl (Yx.map (cL (cI .i64)))], .box 27 [.nils, .nils], .box 134 [.sl (Ye.code.map (cI .u8)), .i .i64 Ye.at_, .i .u64 Ye.seed], .vec 32 3 (w3.map Gv.c) false, .nest 60 (w4.map fun l=>l.map (cI .i64)) false, .box 27 [.own 3, .own 4], .box 32 [.f .f32 YP, .f .f32 YQ, .f .f32 YR]] [] (.i .i64 (IntKind.wrap .i64 (Ye.code.getD Ye.at_.toNat default))) [.box 27 [.sl (Yw.map Gv.c), .sl (Yx.map (cL (cI .i64)))], .box 27 [.nils, .nils], .box 134 [.sl (Ye.code.map (cI .u8)), .i .i64 (IntKind.wrap .i64 (Ye.at_ + 1)), .i .u64 (Zv Ye)], .vec 32 3 (w3.map Gv.c) false, .nest 60 (w4.map fun l=>l.map (cI .i64)) false, .box 27 [.own 3, .own 4], .box 32 [.f .f32 YP, .f .f32 YQ, .f .f32 YR]] func99 (q (sB h1<|sK [] sN)) rfl (by kernel_rfl) (by kernel_rfl) ?_ ?_
   · simp only [Z7,h0,h1,cond_true]
   · simp [Z7,h0,h1]
  | false =>
   have gh1:=odf h1
   refine X1c (EpOk 7) Zc (c:=X5 f99) [.box 27 [.sl (Yw.map Gv.c), .sl (Yx.map (cL (cI .i64)))], .box 27 [.nils, .nils], .box 134 [.sl (Ye.code.map (cI .u8)), .i .i64 Ye.at_, .i .u64 Ye.seed], .vec 32 3 (w3.map Gv.c) false, .nest 60 (w4.map fun l=>l.map (cI .i64)) false, .box 27 [.own 3, .own 4], .box 32 [.f .f32 YP, .f .f32 YQ, .f .f32 YR]] [] (.i .i64 (IntKind.wrap .i64 (bitsOf .and .u64 (Int.fdiv (Zv Ye) (2 ^ (min (Int.toNat 40) (IntKind.bits .u64)))) 255))) [.box 27 [.sl (Yw.map Gv.c), .sl (Yx.map (cL (cI .i64)))], .box 27 [.nils, .nils], .box 134 [.sl (Ye.code.map (cI .u8)), .i .i64 (IntKind.wrap .i64 (Ye.at_ + 1)), .i .u64 (Zv Ye)], .vec 32 3 (w3.map Gv.c) false, .nest 60 (w4.map fun l=>l.map (cI .i64)) false, .box 27 [.own 3, .own 4], .box 32 [.f .f32 YP, .f .f32 YQ, .f .f32 YR]] func99 (q (sB h1<|sC (show (0:Int)≤40 from (by decide))<|sQ (Int.fdiv (Zv Ye) (2 ^ (min (Int.toNat 40) (IntKind.bits .u64))))<|sQ (bitsOf .and .u64 (Int.fdiv (Zv Ye) (2 ^ (min (Int.toNat 40) (IntKind.bits .u64)))) 255)<|sW .i64 (bitsOf .and .u64 (Int.fdiv (Zv Ye) (2 ^ (min (Int.toNat 40) (IntKind.bits .u64)))) 255)<|sK [] sN)) rfl (by kernel_rfl) (by kernel_rfl) ?_ ?_
   · simp only [Z7,h0,h1,cond_true,cond_false]
   · simp [Z7,h0,h1]
 | false =>
  have gh0:=odf h0
  have q {a C} (s:Scr a C):=p (sB h0<|sW .i64 (Ye.at_ + 1)<|sW .u64 (Ye.seed * 6364136223846793005)<|sM (show IntKind.wrap .u64 0=0 from rfl)<|sW .u64 ((IntKind.wrap .u64 (Ye.seed * 6364136223846793005)) + 0)<|sW .u64 ((IntKind.wrap .u64 ((IntKind.wrap .u64 (Ye.seed * 6364136223846793005)) + 0)) + 1442695040888963407)<|sK [9,9]<|sZ (cI .u8) Ye.code<|s)
  clear p
  cases h1:(decide ((IntKind.wrap .i64 (Ye.at_ + 1))≤(Ye.code.length:Int))) with
  | true =>
   have gh1:=odt h1
   refine X1c (EpOk 7) Zc (c:=X5 f99) [.box 27 [.sl (Yw.map Gv.c), .sl (Yx.map (cL (cI .i64)))], .box 27 [.nils, .nils], .box 134 [.sl (Ye.code.map (cI .u8)), .i .i64 Ye.at_, .i .u64 Ye.seed], .vec 32 3 (w3.map Gv.c) false, .nest 60 (w4.map fun l=>l.map (cI .i64)) false, .box 27 [.own 3, .own 4], .box 32 [.f .f32 YP, .f .f32 YQ, .f .f32 YR]] [] (.i .i64 0) [.box 27 [.sl (Yw.map Gv.c), .sl (Yx.map (cL (cI .i64)))], .box 27 [.nils, .nils], .box 134 [.sl (Ye.code.map (cI .u8)), .i .i64 (IntKind.wrap .i64 (Ye.at_ + 1)), .i .u64 (IntKind.wrap .u64 ((IntKind.wrap .u64 ((IntKind.wrap .u64 (Ye.seed * 6364136223846793005)) + 0)) + 1442695040888963407))], .vec 32 3 (w3.map Gv.c) false, .nest 60 (w4.map fun l=>l.map (cI .i64)) false, .box 27 [.own 3, .own 4], .box 32 [.f .f32 YP, .f .f32 YQ, .f .f32 YR]] func99 (q (sB h1<|sK [] sN)) rfl (by kernel_rfl) (by kernel_rfl) ?_ ?_
   · simp only [Z7,h0,h1,cond_true,cond_false]
   · simp [Z7,h0,h1]
  | false =>
   have gh1:=odf h1
   refine X1c (EpOk 7) Zc (c:=X5 f99) [.box 27 [.sl (Yw.map Gv.c), .sl (Yx.map (cL (cI .i64)))], .box 27 [.nils, .nils], .box 134 [.sl (Ye.code.map (cI .u8)), .i .i64 Ye.at_, .i .u64 Ye.seed], .vec 32 3 (w3.map Gv.c) false, .nest 60 (w4.map fun l=>l.map (cI .i64)) false, .box 27 [.own 3, .own 4], .box 32 [.f .f32 YP, .f .f32 YQ, .f .f32 YR]] [] (.i .i64 (IntKind.wrap .i64 (bitsOf .and .u64 (Int.fdiv (IntKind.wrap .u64 ((IntKind.wrap .u64 ((IntKind.wrap .u64 (Ye.seed * 6364136223846793005)) + 0)) + 1442695040888963407)) (2 ^ (min (Int.toNat 40) (IntKind.bits .u64)))) 255))) [.box 27 [.sl (Yw.map Gv.c), .sl (Yx.map (cL (cI .i64)))], .box 27 [.nils, .nils], .box 134 [.sl (Ye.code.map (cI .u8)), .i .i64 (IntKind.wrap .i64 (Ye.at_ + 1)), .i .u64 (IntKind.wrap .u64 ((IntKind.wrap .u64 ((IntKind.wrap .u64 (Ye.seed * 6364136223846793005)) + 0)) + 1442695040888963407))], .vec 32 3 (w3.map Gv.c) false, .nest 60 (w4.map fun l=>l.map (cI .i64)) false, .box 27 [.own 3, .own 4], .box 32 [.f .f32 YP, .f .f32 YQ, .f .f32 YR]] func99 (q (sB h1<|sC (show (0:Int)≤40 from (by decide))<|sQ (Int.fdiv (IntKind.wrap .u64 ((IntKind.wrap .u64 ((IntKind.wrap .u64 (Ye.seed * 6364136223846793005)) + 0)) + 1442695040888963407)) (2 ^ (min (Int.toNat 40) (IntKind.bits .u64))))<|sQ (bitsOf .and .u64 (Int.fdiv (IntKind.wrap .u64 ((IntKind.wrap .u64 ((IntKind.wrap .u64 (Ye.seed * 6364136223846793005)) + 0)) + 1442695040888963407)) (2 ^ (min (Int.toNat 40) (IntKind.bits .u64)))) 255)<|sW .i64 (bitsOf .and .u64 (Int.fdiv (IntKind.wrap .u64 ((IntKind.wrap .u64 ((IntKind.wrap .u64 (Ye.seed * 6364136223846793005)) + 0)) + 1442695040888963407)) (2 ^ (min (Int.toNat 40) (IntKind.bits .u64)))) 255)<|sK [] sN)) rfl (by kernel_rfl) (by kernel_rfl) ?_ ?_
   · simp only [Z7,h0,h1,cond_false]
   · simp [Z7,h0,h1]
theorem Z31 (Yw:(List Gv)) (Yx:(List (List Int))) (w3:(List Gv)) (w4:(List (List Int))) (YP:Nat) (YQ:Nat) (YR:Nat) (Ye:Gl00Src) (YY:Int) (hp0:Ye.code.length≤1073741824) (hp1:0≤Ye.at_) (hp2:Ye.at_≤1152921504606846970)  : Xz prog 55 [.box 27 [.sl (Yw.map Gv.c), .sl (Yx.map (cL (cI .i64)))], .box 27 [.nils, .nils], .box 134 [.sl (Ye.code.map (cI .u8)), .i .i64 Ye.at_, .i .u64 Ye.seed], .vec 32 3 (w3.map Gv.c) false, .nest 60 (w4.map fun l=>l.map (cI .i64)) false, .box 27 [.own 3, .own 4], .box 32 [.f .f32 YP, .f .f32 YQ, .f .f32 YR]] [.ptr 2 0 0, .i .i64 YY] (.i .i64 ((Z4 Ye YY).1)) [.box 27 [.sl (Yw.map Gv.c), .sl (Yx.map (cL (cI .i64)))], .box 27 [.nils, .nils], .box 134 [.sl (Ye.code.map (cI .u8)), .i .i64 ((Z4 Ye YY).2.1), .i .u64 ((Z4 Ye YY).2.2)], .vec 32 3 (w3.map Gv.c) false, .nest 60 (w4.map fun l=>l.map (cI .i64)) false, .box 27 [.own 3, .own 4], .box 32 [.f .f32 YP, .f .f32 YQ, .f .f32 YR]]:=by
 cases h0:(decide (YY≤1)) with
 | true =>
  have gh0:=odt h0
  refine X1c (EpOk 7) Zc (c:=X5 f55) [.box 27 [.sl (Yw.map Gv.c), .sl (Yx.map (cL (cI .i64)))], .box 27 [.nils, .nils], .box 134 [.sl (Ye.code.map (cI .u8)), .i .i64 Ye.at_, .i .u64 Ye.seed], .vec 32 3 (w3.map Gv.c) false, .nest 60 (w4.map fun l=>l.map (cI .i64)) false, .box 27 [.own 3, .own 4], .box 32 [.f .f32 YP, .f .f32 YQ, .f .f32 YR]] [] (.i .i64 0) [.box 27 [.sl (Yw.map Gv.c), .sl (Yx.map (cL (cI .i64)))], .box 27 [.nils, .nils], .box 134 [.sl (Ye.code.map (cI .u8)), .i .i64 Ye.at_, .i .u64 Ye.seed], .vec 32 3 (w3.map Gv.c) false, .nest 60 (w4.map fun l=>l.map (cI .i64)) false, .box 27 [.own 3, .own 4], .box 32 [.f .f32 YP, .f .f32 YQ, .f .f32 YR]] func55 (sB h0<|sK [] sN) rfl (by kernel_rfl) (by kernel_rfl) ?_ ?_
  · simp only [Z4,h0,cond_true]
  · simp [Z4,h0]
 | false =>
  have gh0:=odf h0
  have y0:Ye.at_≤1152921504606846976:=(by omega)
  have l1:=(Z4o Ye)
  have p {a C} (s:Scr a C):=sB h0<|sS (Z30 Yw Yx w3 w4 YP YQ YR Ye hp0 hp1 y0)<|s
  cases h1:(decide (YY > 200)) with
  | true =>
   have gh1:=odt h1
   have y1:(⟨Ye.code,(Z7 Ye).2.1,(Z7 Ye).2.2⟩:Gl00Src).code.length≤1073741824:=by clear p;exact (by assumption)
   have y2:0≤(⟨Ye.code,(Z7 Ye).2.1,(Z7 Ye).2.2⟩:Gl00Src).at_:=by clear p;exact (by simp_all<;>omega)
   have y3:(⟨Ye.code,(Z7 Ye).2.1,(Z7 Ye).2.2⟩:Gl00Src).at_≤1152921504606846976:=by clear p;exact (by simp_all<;>omega)
   have l2:=(Z4o (⟨Ye.code,(Z7 Ye).2.1,(Z7 Ye).2.2⟩:Gl00Src))
   have y4:YY≠0:=by clear p;exact (by omega)
   refine X1c (EpOk 7) Zc (c:=X5 f55) [.box 27 [.sl (Yw.map Gv.c), .sl (Yx.map (cL (cI .i64)))], .box 27 [.nils, .nils], .box 134 [.sl (Ye.code.map (cI .u8)), .i .i64 Ye.at_, .i .u64 Ye.seed], .vec 32 3 (w3.map Gv.c) false, .nest 60 (w4.map fun l=>l.map (cI .i64)) false, .box 27 [.own 3, .own 4], .box 32 [.f .f32 YP, .f .f32 YQ, .f .f32 YR]] [] (.i .i64 (Int.tmod (Z17 Ye) YY)) [.box 27 [.sl (Yw.map Gv.c), .sl (Yx.map (cL (cI .i64)))], .box 27 [.nils, .nils], .box 134 [.sl (Ye.code.map (cI .u8)), .i .i64 ((Z7 (⟨Ye.code,(Z7 Ye).2.1,(Z7 Ye).2.2⟩:Gl00Src)).2.1), .i .u64 ((Z7 (⟨Ye.code,(Z7 Ye).2.1,(Z7 Ye).2.2⟩:Gl00Src)).2.2)], .vec 32 3 (w3.map Gv.c) false, .nest 60 (w4.map fun l=>l.map (cI .i64)) false, .box 27 [.own 3, .own 4], .box 32 [.f .f32 YP, .f .f32 YQ, .f .f32 YR]] func55 (p (sB h1<|sW .i64 ((Z7 Ye).1 * 256)<|sS (Z30 Yw Yx w3 w4 YP YQ YR (⟨Ye.code,(Z7 Ye).2.1,(Z7 Ye).2.2⟩:Gl00Src) y1 y2 y3)<|sM (show IntKind.wrap .i64 ((IntKind.wrap .i64 ((Z7 Ye).1 * 256)) + (Z7 (⟨Ye.code,(Z7 Ye).2.1,(Z7 Ye).2.2⟩:Gl00Src)).1)=(Z17 Ye) from rfl)<|sC y4<|sQ (Int.tmod (Z17 Ye) YY)<|sK [] sN)) rfl (by kernel_rfl) (by kernel_rfl) ?_ ?_
   · simp only [Z4,h0,h1,cond_true,cond_false]
   · simp [Z4,h0,h1]
  | false =>
   have gh1:=odf h1
   have y1:YY≠0:=by clear p;exact (by omega)
   refine X1c (EpOk 7) Zc (c:=X5 f55) [.box 27 [.sl (Yw.map Gv.c), .sl (Yx.map (cL (cI .i64)))], .box 27 [.nils, .nils], .box 134 [.sl (Ye.code.map (cI .u8)), .i .i64 Ye.at_, .i .u64 Ye.seed], .vec 32 3 (w3.map Gv.c) false, .nest 60 (w4.map fun l=>l.map (cI .i64)) false, .box 27 [.own 3, .own 4], .box 32 [.f .f32 YP, .f .f32 YQ, .f .f32 YR]] [] (.i .i64 (Int.tmod ((Z7 Ye).1) YY)) [.box 27 [.sl (Yw.map Gv.c), .sl (Yx.map (cL (cI .i64)))], .box 27 [.nils, .nils], .box 134 [.sl (Ye.code.map (cI .u8)), .i .i64 ((Z7 Ye).2.1), .i .u64 ((Z7 Ye).2.2)], .vec 32 3 (w3.map Gv.c) false, .nest 60 (w4.map fun l=>l.map (cI .i64)) false, .box 27 [.own 3, .own 4], .box 32 [.f .f32 YP, .f .f32 YQ, .f .f32 YR]] func55 (p (sB h1<|sC y1<|sQ (Int.tmod ((Z7 Ye).1) YY)<|sK [] sN)) rfl (by kernel_rfl) (by kernel_rfl) ?_ ?_
   · simp only [Z4,h0,h1,cond_false]
   · simp [Z4,h0,h1]
def ZO (Y4:(List Int)) (YA:Gm):Nat→Int→Int→Int→(List Gv)→Int × Int × (List Gv)
  | 0,_,_,_,_=>default
  | k + 1,Y9,Y8,Yb,Ym=>(cond (decide (Y9 < (Ym.length:Int)))
    (ZO Y4 YA k (Y9 + 1) ((Z4 (⟨(Z5 Y4).code,(Z4 (⟨(Z5 Y4).code,(Z4 (⟨(Z5 Y4).code,Y8,Yb⟩:Gl00Src) 9).2.1,(Z4 (⟨(Z5 Y4).code,Y8,Yb⟩:Gl00Src) 9).2.2⟩:Gl00Src) 9).2.1,(Z4 (⟨(Z5 Y4).code,(Z4 (⟨(Z5 Y4).code,Y8,Yb⟩:Gl00Src) 9).2.1,(Z4 (⟨(Z5 Y4).code,Y8,Yb⟩:Gl00Src) 9).2.2⟩:Gl00Src) 9).2.2⟩:Gl00Src) 9).2.1) ((Z4 (⟨(Z5 Y4).code,(Z4 (⟨(Z5 Y4).code,(Z4 (⟨(Z5 Y4).code,Y8,Yb⟩:Gl00Src) 9).2.1,(Z4 (⟨(Z5 Y4).code,Y8,Yb⟩:Gl00Src) 9).2.2⟩:Gl00Src) 9).2.1,(Z4 (⟨(Z5 Y4).code,(Z4 (⟨(Z5 Y4).code,Y8,Yb⟩:Gl00Src) 9).2.1,(Z4 (⟨(Z5 Y4).code,Y8,Yb⟩:Gl00Src) 9).2.2⟩:Gl00Src) 9).2.2⟩:Gl00Src) 9).2.2) (Ym.set Y9.toNat (Z1m (Ym.getD Y9.toNat default) (⟨(fop .quo .f32 (X4 .f32 (IntKind.wrap .i64 ((Z4 (⟨(Z5 Y4).code,Y8,Yb⟩:Gl00Src) 9).1 - 4))) 1090519040),(fop .quo .f32 (X4 .f32 (IntKind.wrap .i64 ((Z4 (⟨(Z5 Y4).code,(Z4 (⟨(Z5 Y4).code,Y8,Yb⟩:Gl00Src) 9).2.1,(Z4 (⟨(Z5 Y4).code,Y8,Yb⟩:Gl00Src) 9).2.2⟩:Gl00Src) 9).1 - 4))) 1090519040),(fop .quo .f32 (X4 .f32 (IntKind.wrap .i64 ((Z4 (⟨(Z5 Y4).code,(Z4 (⟨(Z5 Y4).code,(Z4 (⟨(Z5 Y4).code,Y8,Yb⟩:Gl00Src) 9).2.1,(Z4 (⟨(Z5 Y4).code,Y8,Yb⟩:Gl00Src) 9).2.2⟩:Gl00Src) 9).2.1,(Z4 (⟨(Z5 Y4).code,(Z4 (⟨(Z5 Y4).code,Y8,Yb⟩:Gl00Src) 9).2.1,(Z4 (⟨(Z5 Y4).code,Y8,Yb⟩:Gl00Src) 9).2.2⟩:Gl00Src) 9).2.2⟩:Gl00Src) 9).1 - 4))) 1090519040)⟩:Gv))))
    (Y8,Yb,Ym))
def Z3b (Y4:(List Int)) (YA:Gm) (r:Int × Int × (List Gv)):Ex × St:=((.exit 0),⟨.sl (Y4.map (cI .u8)) :: .agg [.sl (YA.Pq.map Gv.c), .sl (YA.Tr.map (cL (cI .i64)))] :: .any :: .ptr 0 0 0 :: .ptr 1 0 0 :: .any :: .ptr 2 0 0 :: .any :: .any :: .sl (Y4.map (cI .u8)) :: .ptr 3 0 0 :: .agg [.own 4, .own 5] :: an 37 [],[.box 27 [.sl (YA.Pq.map Gv.c), .sl (YA.Tr.map (cL (cI .i64)))], .box 27 [.nils, .nils], .box 27 [.own 4, .own 5], .box 134 [.sl (((Z5 Y4).code).map (cI .u8)), .i .i64 r.1, .i .u64 r.2.1], .vec 32 3 (r.2.2.map Gv.c) false, .nest 60 (YA.Tr.map fun l=>l.map (cI .i64)) false]⟩)
def Z4i (Y4:(List Int)) (YA:Gm) (Y9:Int) (Y8:Int) (Yb:Int) (Ym:(List Gv)):St:=⟨.sl (Y4.map (cI .u8)) :: .agg [.sl (YA.Pq.map Gv.c), .sl (YA.Tr.map (cL (cI .i64)))] :: .any :: .ptr 0 0 0 :: .ptr 1 0 0 :: .ptr 2 0 0 :: .ptr 5 0 0 :: .i .i64 Y9 :: .any :: .sl (Y4.map (cI .u8)) :: .ptr 2 0 0 :: .agg [.own 3, .own 4] :: an 37 [],[.box 27 [.sl (YA.Pq.map Gv.c), .sl (YA.Tr.map (cL (cI .i64)))], .box 27 [.nils, .nils], .box 134 [.sl (((Z5 Y4).code).map (cI .u8)), .i .i64 Y8, .i .u64 Yb], .vec 32 3 (Ym.map Gv.c) false, .nest 60 (YA.Tr.map fun l=>l.map (cI .i64)) false, .box 27 [.own 3, .own 4]]⟩
set_option maxHeartbeats 1000000 in
theorem Z5r (Y4:(List Int)) (YA:Gm) (hp0:Y4.length≤1073741824) (hp1:YA.Pq.length≤1073741824) (hp2:YA.Tr.length≤1073741824) (hp3:∀ t∈YA.Tr,t.length≤1073741824):∀ (k:Nat) (Y9:Int) (Y8:Int) (Yb:Int) (Ym:(List Gv)) (Z3I:0≤Y9) (Z3J:Ym.length=YA.Pq.length) (Z3K:0≤Y8) (Z3L:Y8≤6 * Y9) (hk:((YA.Pq.length:Int) - Y9).toNat < k),Lp prog 0 (sub (X5 f18) [1,1,1,0,1,0,0]) (Z4i Y4 YA Y9 Y8 Yb Ym) (Z3b Y4 YA (ZO Y4 YA k Y9 Y8 Yb Ym)).1 (Z3b Y4 YA (ZO Y4 YA k Y9 Y8 Yb Ym)).2:=by
 intro k
 induction k with
 | zero=>intro Y9 Y8 Yb Ym Z3I Z3J Z3K Z3L hk;exact absurd hk (Nat.not_lt_zero _)
 | succ k ih =>
  intro Y9 Y8 Yb Ym Z3I Z3J Z3K Z3L hk
  have p {a C} (s:Scr a C):=sZ Gv.c Ym<|s
  cases Yk:(decide (Y9 < (Ym.length:Int))) with
  | true =>
   have YL:=odt Yk
   have Yy:(⟨(Z5 Y4).code,Y8,Yb⟩:Gl00Src).code.length≤1073741824:=by clear p;exact (by assumption)
   have YV:0≤(⟨(Z5 Y4).code,Y8,Yb⟩:Gl00Src).at_:=by clear p;exact (by assumption)
   have YZ:(⟨(Z5 Y4).code,Y8,Yb⟩:Gl00Src).at_≤1152921504606846970:=by clear p;exact (by simp_all<;>omega)
   have l_1:=(Z4p (⟨(Z5 Y4).code,Y8,Yb⟩:Gl00Src) 9)
   have y_3:(⟨(Z5 Y4).code,(Z4 (⟨(Z5 Y4).code,Y8,Yb⟩:Gl00Src) 9).2.1,(Z4 (⟨(Z5 Y4).code,Y8,Yb⟩:Gl00Src) 9).2.2⟩:Gl00Src).code.length≤1073741824:=by clear p;exact (by assumption)
   have y_4:0≤(⟨(Z5 Y4).code,(Z4 (⟨(Z5 Y4).code,Y8,Yb⟩:Gl00Src) 9).2.1,(Z4 (⟨(Z5 Y4).code,Y8,Yb⟩:Gl00Src) 9).2.2⟩:Gl00Src).at_:=by clear p;exact (by simp_all<;>omega)
   have y_5:(⟨(Z5 Y4).code,(Z4 (⟨(Z5 Y4).code,Y8,Yb⟩:Gl00Src) 9).2.1,(Z4 (⟨(Z5 Y4).code,Y8,Yb⟩:Gl00Src) 9).2.2⟩:Gl00Src).at_≤1152921504606846970:=by clear p;exact (by simp_all<;>omega)
   have l_2:=(Z4p (⟨(Z5 Y4).code,(Z4 (⟨(Z5 Y4).code,Y8,Yb⟩:Gl00Src) 9).2.1,(Z4 (⟨(Z5 Y4).code,Y8,Yb⟩:Gl00Src) 9).2.2⟩:Gl00Src) 9)
   have y_6:(⟨(Z5 Y4).code,(Z4 (⟨(Z5 Y4).code,(Z4 (⟨(Z5 Y4).code,Y8,Yb⟩:Gl00Src) 9).2.1,(Z4 (⟨(Z5 Y4).code,Y8,Yb⟩:Gl00Src) 9).2.2⟩:Gl00Src) 9).2.1,(Z4 (⟨(Z5 Y4).code,(Z4 (⟨(Z5 Y4).code,Y8,Yb⟩:Gl00Src) 9).2.1,(Z4 (⟨(Z5 Y4).code,Y8,Yb⟩:Gl00Src) 9).2.2⟩:Gl00Src) 9).2.2⟩:Gl00Src).code.length≤1073741824:=by clear p;exact (by assumption)
   have y_7:0≤(⟨(Z5 Y4).code,(Z4 (⟨(Z5 Y4).code,(Z4 (⟨(Z5 Y4).code,Y8,Yb⟩:Gl00Src) 9).2.1,(Z4 (⟨(Z5 Y4).code,Y8,Yb⟩:Gl00Src) 9).2.2⟩:Gl00Src) 9).2.1,(Z4 (⟨(Z5 Y4).code,(Z4 (⟨(Z5 Y4).code,Y8,Yb⟩:Gl00Src) 9).2.1,(Z4 (⟨(Z5 Y4).code,Y8,Yb⟩:Gl00Src) 9).2.2⟩:Gl00Src) 9).2.2⟩:Gl00Src).at_:=by clear p;exact (by simp_all<;>omega)
   have y_8:(⟨(Z5 Y4).code,(Z4 (⟨(Z5 Y4).code,(Z4 (⟨(Z5 Y4).code,Y8,Yb⟩:Gl00Src) 9).2.1,(Z4 (⟨(Z5 Y4).code,Y8,Yb⟩:Gl00Src) 9).2.2⟩:Gl00Src) 9).2.1,(Z4 (⟨(Z5 Y4).code,(Z4 (⟨(Z5 Y4).code,Y8,Yb⟩:Gl00Src) 9).2.1,(Z4 (⟨(Z5 Y4).code,Y8,Yb⟩:Gl00Src) 9).2.2⟩:Gl00Src) 9).2.2⟩:Gl00Src).at_≤1152921504606846970:=by clear p;exact (by simp_all<;>omega)
   have l_3:=(Z4p (⟨(Z5 Y4).code,(Z4 (⟨(Z5 Y4).code,(Z4 (⟨(Z5 Y4).code,Y8,Yb⟩:Gl00Src) 9).2.1,(Z4 (⟨(Z5 Y4).code,Y8,Yb⟩:Gl00Src) 9).2.2⟩:Gl00Src) 9).2.1,(Z4 (⟨(Z5 Y4).code,(Z4 (⟨(Z5 Y4).code,Y8,Yb⟩:Gl00Src) 9).2.1,(Z4 (⟨(Z5 Y4).code,Y8,Yb⟩:Gl00Src) 9).2.2⟩:Gl00Src) 9).2.2⟩:Gl00Src) 9)
   have y_9:(0:Int)≤Y9:=by clear p;exact (by assumption)
   have Y10:Y9 < (Ym.length:Int):=by clear p;exact (by assumption)
   have Y11:Y9.toNat < Ym.length:=by clear p;exact (by omega)
   have Y12:(-9223372036854775808:Int)≤(Y9 + 1):=by clear p;exact (by omega)
   have Y16:(Y9 + 1)≤(9223372036854775807:Int):=by clear p;exact (by omega)
   have e:ZO Y4 YA (k + 1) Y9 Y8 Yb Ym=(ZO Y4 YA k (Y9 + 1) ((Z4 (⟨(Z5 Y4).code,(Z4 (⟨(Z5 Y4).code,(Z4 (⟨(Z5 Y4).code,Y8,Yb⟩:Gl00Src) 9).2.1,(Z4 (⟨(Z5 Y4).code,Y8,Yb⟩:Gl00Src) 9).2.2⟩:Gl00Src) 9).2.1,(Z4 (⟨(Z5 Y4).code,(Z4 (⟨(Z5 Y4).code,Y8,Yb⟩:Gl00Src) 9).2.1,(Z4 (⟨(Z5 Y4).code,Y8,Yb⟩:Gl00Src) 9).2.2⟩:Gl00Src) 9).2.2⟩:Gl00Src) 9).2.1) ((Z4 (⟨(Z5 Y4).code,(Z4 (⟨(Z5 Y4).code,(Z4 (⟨(Z5 Y4).code,Y8,Yb⟩:Gl00Src) 9).2.1,(Z4 (⟨(Z5 Y4).code,Y8,Yb⟩:Gl00Src) 9).2.2⟩:Gl00Src) 9).2.1,(Z4 (⟨(Z5 Y4).code,(Z4 (⟨(Z5 Y4).code,Y8,Yb⟩:Gl00Src) 9).2.1,(Z4 (⟨(Z5 Y4).code,Y8,Yb⟩:Gl00Src) 9).2.2⟩:Gl00Src) 9).2.2⟩:Gl00Src) 9).2.2) (Ym.set Y9.toNat (Z1m (Ym.getD Y9.toNat default) (⟨(fop .quo .f32 (X4 .f32 (IntKind.wrap .i64 ((Z4 (⟨(Z5 Y4).code,Y8,Yb⟩:Gl00Src) 9).1 - 4))) 1090519040),(fop .quo .f32 (X4 .f32 (IntKind.wrap .i64 ((Z4 (⟨(Z5 Y4).code,(Z4 (⟨(Z5 Y4).code,Y8,Yb⟩:Gl00Src) 9).2.1,(Z4 (⟨(Z5 Y4).code,Y8,Yb⟩:Gl00Src) 9).2.2⟩:Gl00Src) 9).1 - 4))) 1090519040),(fop .quo .f32 (X4 .f32 (IntKind.wrap .i64 ((Z4 (⟨(Z5 Y4).code,(Z4 (⟨(Z5 Y4).code,(Z4 (⟨(Z5 Y4).code,Y8,Yb⟩:Gl00Src) 9).2.1,(Z4 (⟨(Z5 Y4).code,Y8,Yb⟩:Gl00Src) 9).2.2⟩:Gl00Src) 9).2.1,(Z4 (⟨(Z5 Y4).code,(Z4 (⟨(Z5 Y4).code,Y8,Yb⟩:Gl00Src) 9).2.1,(Z4 (⟨(Z5 Y4).code,Y8,Yb⟩:Gl00Src) 9).2.2⟩:Gl00Src) 9).2.2⟩:Gl00Src) 9).1 - 4))) 1090519040)⟩:Gv)))):=by simp only [ZO,Yk,cond_true]
   rw [e]
   exact X2D E0Ok Zc [] (mR false [0,2,1,5,1,3,37]) [0,1,2,3,4,5] (⟨.sl (Y4.map (cI .u8)) :: .agg [.sl (YA.Pq.map Gv.c), .sl (YA.Tr.map (cL (cI .i64)))] :: .any :: .ptr 0 0 0 :: .ptr 1 0 0 :: .ptr 2 0 0 :: .ptr 5 0 0 :: .i .i64 (Y9 + 1) :: .any :: .sl (Y4.map (cI .u8)) :: .ptr 2 0 0 :: .agg [.own 3, .own 4] :: an 37 [],[.box 27 [.sl (YA.Pq.map Gv.c), .sl (YA.Tr.map (cL (cI .i64)))], .box 27 [.nils, .nils], .box 134 [.sl (((Z5 Y4).code).map (cI .u8)), .i .i64 ((Z4 (⟨(Z5 Y4).code,(Z4 (⟨(Z5 Y4).code,(Z4 (⟨(Z5 Y4).code,Y8,Yb⟩:Gl00Src) 9).2.1,(Z4 (⟨(Z5 Y4).code,Y8,Yb⟩:Gl00Src) 9).2.2⟩:Gl00Src) 9).2.1,(Z4 (⟨(Z5 Y4).code,(Z4 (⟨(Z5 Y4).code,Y8,Yb⟩:Gl00Src) 9).2.1,(Z4 (⟨(Z5 Y4).code,Y8,Yb⟩:Gl00Src) 9).2.2⟩:Gl00Src) 9).2.2⟩:Gl00Src) 9).2.1), .i .u64 ((Z4 (⟨(Z5 Y4).code,(Z4 (⟨(Z5 Y4).code,(Z4 (⟨(Z5 Y4).code,Y8,Yb⟩:Gl00Src) 9).2.1,(Z4 (⟨(Z5 Y4).code,Y8,Yb⟩:Gl00Src) 9).2.2⟩:Gl00Src) 9).2.1,(Z4 (⟨(Z5 Y4).code,(Z4 (⟨(Z5 Y4).code,Y8,Yb⟩:Gl00Src) 9).2.1,(Z4 (⟨(Z5 Y4).code,Y8,Yb⟩:Gl00Src) 9).2.2⟩:Gl00Src) 9).2.2⟩:Gl00Src) 9).2.2)], .vec 32 3 ((Ym.map Gv.c).set Y9.toNat [.f .f32 ((Z1m (Ym.getD Y9.toNat default) (⟨(fop .quo .f32 (X4 .f32 (IntKind.wrap .i64 ((Z4 (⟨(Z5 Y4).code,Y8,Yb⟩:Gl00Src) 9).1 - 4))) 1090519040),(fop .quo .f32 (X4 .f32 (IntKind.wrap .i64 ((Z4 (⟨(Z5 Y4).code,(Z4 (⟨(Z5 Y4).code,Y8,Yb⟩:Gl00Src) 9).2.1,(Z4 (⟨(Z5 Y4).code,Y8,Yb⟩:Gl00Src) 9).2.2⟩:Gl00Src) 9).1 - 4))) 1090519040),(fop .quo .f32 (X4 .f32 (IntKind.wrap .i64 ((Z4 (⟨(Z5 Y4).code,(Z4 (⟨(Z5 Y4).code,(Z4 (⟨(Z5 Y4).code,Y8,Yb⟩:Gl00Src) 9).2.1,(Z4 (⟨(Z5 Y4).code,Y8,Yb⟩:Gl00Src) 9).2.2⟩:Gl00Src) 9).2.1,(Z4 (⟨(Z5 Y4).code,(Z4 (⟨(Z5 Y4).code,Y8,Yb⟩:Gl00Src) 9).2.1,(Z4 (⟨(Z5 Y4).code,Y8,Yb⟩:Gl00Src) 9).2.2⟩:Gl00Src) 9).2.2⟩:Gl00Src) 9).1 - 4))) 1090519040)⟩:Gv)).X), .f .f32 ((Z1m (Ym.getD Y9.toNat default) (⟨(fop .quo .f32 (X4 .f32 (IntKind.wrap .i64 ((Z4 (⟨(Z5 Y4).code,Y8,Yb⟩:Gl00Src) 9).1 - 4))) 1090519040),(fop .quo .f32 (X4 .f32 (IntKind.wrap .i64 ((Z4 (⟨(Z5 Y4).code,(Z4 (⟨(Z5 Y4).code,Y8,Yb⟩:Gl00Src) 9).2.1,(Z4 (⟨(Z5 Y4).code,Y8,Yb⟩:Gl00Src) 9).2.2⟩:Gl00Src) 9).1 - 4))) 1090519040),(fop .quo .f32 (X4 .f32 (IntKind.wrap .i64 ((Z4 (⟨(Z5 Y4).code,(Z4 (⟨(Z5 Y4).code,(Z4 (⟨(Z5 Y4).code,Y8,Yb⟩:Gl00Src) 9).2.1,(Z4 (⟨(Z5 Y4).code,Y8,Yb⟩:Gl00Src) 9).2.2⟩:Gl00Src) 9).2.1,(Z4 (⟨(Z5 Y4).code,(Z4 (⟨(Z5 Y4).code,Y8,Yb⟩:Gl00Src) 9).2.1,(Z4 (⟨(Z5 Y4).code,Y8,Yb⟩:Gl00Src) 9).2.2⟩:Gl00Src) 9).2.2⟩:Gl00Src) 9).1 - 4))) 1090519040)⟩:Gv)).Y), .f .f32 ((Z1m (Ym.getD Y9.toNat default) (⟨(fop .quo .f32 (X4 .f32 (IntKind.wrap .i64 ((Z4 (⟨(Z5 Y4).code,Y8,Yb⟩:Gl00Src) 9).1 - 4))) 1090519040),(fop .quo .f32 (X4 .f32 (IntKind.wrap .i64 ((Z4 (⟨(Z5 Y4).code,(Z4 (⟨(Z5 Y4).code,Y8,Yb⟩:Gl00Src) 9).2.1,(Z4 (⟨(Z5 Y4).code,Y8,Yb⟩:Gl00Src) 9).2.2⟩:Gl00Src) 9).1 - 4))) 1090519040),(fop .quo .f32 (X4 .f32 (IntKind.wrap .i64 ((Z4 (⟨(Z5 Y4).code,(Z4 (⟨(Z5 Y4).code,(Z4 (⟨(Z5 Y4).code,Y8,Yb⟩:Gl00Src) 9).2.1,(Z4 (⟨(Z5 Y4).code,Y8,Yb⟩:Gl00Src) 9).2.2⟩:Gl00Src) 9).2.1,(Z4 (⟨(Z5 Y4).code,(Z4 (⟨(Z5 Y4).code,Y8,Yb⟩:Gl00Src) 9).2.1,(Z4 (⟨(Z5 Y4).code,Y8,Yb⟩:Gl00Src) 9).2.2⟩:Gl00Src) 9).2.2⟩:Gl00Src) 9).1 - 4))) 1090519040)⟩:Gv)).Z)]) false, .nest 60 (YA.Tr.map fun l=>l.map (cI .i64)) false, .box 27 [.own 3, .own 4]]⟩) (p (sB Yk<|sS (Z4s YA.Pq YA.Tr Ym YA.Tr (⟨(Z5 Y4).code,Y8,Yb⟩:Gl00Src) 9 Yy YV YZ)<|sW .i64 ((Z4 (⟨(Z5 Y4).code,Y8,Yb⟩:Gl00Src) 9).1 - 4)<|sS (Z31 YA.Pq YA.Tr Ym YA.Tr (fop .quo .f32 (X4 .f32 (IntKind.wrap .i64 ((Z4 (⟨(Z5 Y4).code,Y8,Yb⟩:Gl00Src) 9).1 - 4))) 1090519040) 0 0 (⟨(Z5 Y4).code,(Z4 (⟨(Z5 Y4).code,Y8,Yb⟩:Gl00Src) 9).2.1,(Z4 (⟨(Z5 Y4).code,Y8,Yb⟩:Gl00Src) 9).2.2⟩:Gl00Src) 9 y_3 y_4 y_5)<|sW .i64 ((Z4 (⟨(Z5 Y4).code,(Z4 (⟨(Z5 Y4).code,Y8,Yb⟩:Gl00Src) 9).2.1,(Z4 (⟨(Z5 Y4).code,Y8,Yb⟩:Gl00Src) 9).2.2⟩:Gl00Src) 9).1 - 4)<|sS (Z31 YA.Pq YA.Tr Ym YA.Tr (fop .quo .f32 (X4 .f32 (IntKind.wrap .i64 ((Z4 (⟨(Z5 Y4).code,Y8,Yb⟩:Gl00Src) 9).1 - 4))) 1090519040) (fop .quo .f32 (X4 .f32 (IntKind.wrap .i64 ((Z4 (⟨(Z5 Y4).code,(Z4 (⟨(Z5 Y4).code,Y8,Yb⟩:Gl00Src) 9).2.1,(Z4 (⟨(Z5 Y4).code,Y8,Yb⟩:Gl00Src) 9).2.2⟩:Gl00Src) 9).1 - 4))) 1090519040) 0 (⟨(Z5 Y4).code,(Z4 (⟨(Z5 Y4).code,(Z4 (⟨(Z5 Y4).code,Y8,Yb⟩:Gl00Src) 9).2.1,(Z4 (⟨(Z5 Y4).code,Y8,Yb⟩:Gl00Src) 9).2.2⟩:Gl00Src) 9).2.1,(Z4 (⟨(Z5 Y4).code,(Z4 (⟨(Z5 Y4).code,Y8,Yb⟩:Gl00Src) 9).2.1,(Z4 (⟨(Z5 Y4).code,Y8,Yb⟩:Gl00Src) 9).2.2⟩:Gl00Src) 9).2.2⟩:Gl00Src) 9 y_6 y_7 y_8)<|sW .i64 ((Z4 (⟨(Z5 Y4).code,(Z4 (⟨(Z5 Y4).code,(Z4 (⟨(Z5 Y4).code,Y8,Yb⟩:Gl00Src) 9).2.1,(Z4 (⟨(Z5 Y4).code,Y8,Yb⟩:Gl00Src) 9).2.2⟩:Gl00Src) 9).2.1,(Z4 (⟨(Z5 Y4).code,(Z4 (⟨(Z5 Y4).code,Y8,Yb⟩:Gl00Src) 9).2.1,(Z4 (⟨(Z5 Y4).code,Y8,Yb⟩:Gl00Src) 9).2.2⟩:Gl00Src) 9).2.2⟩:Gl00Src) 9).1 - 4)<|sK [10,10]<|sX Gv.c Ym Y9 y_9 Y10<|sV Gv.c Ym Y9.toNat Y11<|sF (Z4X (Ym.getD Y9.toNat default) (⟨(fop .quo .f32 (X4 .f32 (IntKind.wrap .i64 ((Z4 (⟨(Z5 Y4).code,Y8,Yb⟩:Gl00Src) 9).1 - 4))) 1090519040),(fop .quo .f32 (X4 .f32 (IntKind.wrap .i64 ((Z4 (⟨(Z5 Y4).code,(Z4 (⟨(Z5 Y4).code,Y8,Yb⟩:Gl00Src) 9).2.1,(Z4 (⟨(Z5 Y4).code,Y8,Yb⟩:Gl00Src) 9).2.2⟩:Gl00Src) 9).1 - 4))) 1090519040),(fop .quo .f32 (X4 .f32 (IntKind.wrap .i64 ((Z4 (⟨(Z5 Y4).code,(Z4 (⟨(Z5 Y4).code,(Z4 (⟨(Z5 Y4).code,Y8,Yb⟩:Gl00Src) 9).2.1,(Z4 (⟨(Z5 Y4).code,Y8,Yb⟩:Gl00Src) 9).2.2⟩:Gl00Src) 9).2.1,(Z4 (⟨(Z5 Y4).code,(Z4 (⟨(Z5 Y4).code,Y8,Yb⟩:Gl00Src) 9).2.1,(Z4 (⟨(Z5 Y4).code,Y8,Yb⟩:Gl00Src) 9).2.2⟩:Gl00Src) 9).2.2⟩:Gl00Src) 9).1 - 4))) 1090519040)⟩:Gv))<|sX Gv.c Ym Y9 y_9 Y10<|sC (X8x (c:=Gv.c) (l:=Ym) Y11)<|sI (Y9 + 1) Y12 Y16<|sN)) (by kernel_rfl) (by simp [Z4i,List.map_set,Gv.c]) (ih (Y9 + 1) ((Z4 (⟨(Z5 Y4).code,(Z4 (⟨(Z5 Y4).code,(Z4 (⟨(Z5 Y4).code,Y8,Yb⟩:Gl00Src) 9).2.1,(Z4 (⟨(Z5 Y4).code,Y8,Yb⟩:Gl00Src) 9).2.2⟩:Gl00Src) 9).2.1,(Z4 (⟨(Z5 Y4).code,(Z4 (⟨(Z5 Y4).code,Y8,Yb⟩:Gl00Src) 9).2.1,(Z4 (⟨(Z5 Y4).code,Y8,Yb⟩:Gl00Src) 9).2.2⟩:Gl00Src) 9).2.2⟩:Gl00Src) 9).2.1) ((Z4 (⟨(Z5 Y4).code,(Z4 (⟨(Z5 Y4).code,(Z4 (⟨(Z5 Y4).code,Y8,Yb⟩:Gl00Src) 9).2.1,(Z4 (⟨(Z5 Y4).code,Y8,Yb⟩:Gl00Src) 9).2.2⟩:Gl00Src) 9).2.1,(Z4 (⟨(Z5 Y4).code,(Z4 (⟨(Z5 Y4).code,Y8,Yb⟩:Gl00Src) 9).2.1,(Z4 (⟨(Z5 Y4).code,Y8,Yb⟩:Gl00Src) 9).2.2⟩:Gl00Src) 9).2.2⟩:Gl00Src) 9).2.2) (Ym.set Y9.toNat (Z1m (Ym.getD Y9.toNat default) (⟨(fop .quo .f32 (X4 .f32 (IntKind.wrap .i64 ((Z4 (⟨(Z5 Y4).code,Y8,Yb⟩:Gl00Src) 9).1 - 4))) 1090519040),(fop .quo .f32 (X4 .f32 (IntKind.wrap .i64 ((Z4 (⟨(Z5 Y4).code,(Z4 (⟨(Z5 Y4).code,Y8,Yb⟩:Gl00Src) 9).2.1,(Z4 (⟨(Z5 Y4).code,Y8,Yb⟩:Gl00Src) 9).2.2⟩:Gl00Src) 9).1 - 4))) 1090519040),(fop .quo .f32 (X4 .f32 (IntKind.wrap .i64 ((Z4 (⟨(Z5 Y4).code,(Z4 (⟨(Z5 Y4).code,(Z4 (⟨(Z5 Y4).code,Y8,Yb⟩:Gl00Src) 9).2.1,(Z4 (⟨(Z5 Y4).code,Y8,Yb⟩:Gl00Src) 9).2.2⟩:Gl00Src) 9).2.1,(Z4 (⟨(Z5 Y4).code,(Z4 (⟨(Z5 Y4).code,Y8,Yb⟩:Gl00Src) 9).2.1,(Z4 (⟨(Z5 Y4).code,Y8,Yb⟩:Gl00Src) 9).2.2⟩:Gl00Src) 9).2.2⟩:Gl00Src) 9).1 - 4))) 1090519040)⟩:Gv))) (show 0≤(Y9 + 1) from (by omega)) (show (Ym.set Y9.toNat (Z1m (Ym.getD Y9.toNat default) (⟨(fop .quo .f32 (X4 .f32 (IntKind.wrap .i64 ((Z4 (⟨(Z5 Y4).code,Y8,Yb⟩:Gl00Src) 9).1 - 4))) 1090519040),(fop .quo .f32 (X4 .f32 (IntKind.wrap .i64 ((Z4 (⟨(Z5 Y4).code,(Z4 (⟨(Z5 Y4).code,Y8,Yb⟩:Gl00Src) 9).2.1,(Z4 (⟨(Z5 Y4).code,Y8,Yb⟩:Gl00Src) 9).2.2⟩:Gl00Src) 9).1 - 4))) 1090519040),(fop .quo .f32 (X4 .f32 (IntKind.wrap .i64 ((Z4 (⟨(Z5 Y4).code,(Z4 (⟨(Z5 Y4).code,(Z4 (⟨(Z5 Y4).code,Y8,Yb⟩:Gl00Src) 9).2.1,(Z4 (⟨(Z5 Y4).code,Y8,Yb⟩:Gl00Src) 9).2.2⟩:Gl00Src) 9).2.1,(Z4 (⟨(Z5 Y4).code,(Z4 (⟨(Z5 Y4).code,Y8,Yb⟩:Gl00Src) 9).2.1,(Z4 (⟨(Z5 Y4).code,Y8,Yb⟩:Gl00Src) 9).2.2⟩:Gl00Src) 9).2.2⟩:Gl00Src) 9).1 - 4))) 1090519040)⟩:Gv))).length=YA.Pq.length from (by simp_all<;>omega)) (show 0≤((Z4 (⟨(Z5 Y4).code,(Z4 (⟨(Z5 Y4).code,(Z4 (⟨(Z5 Y4).code,Y8,Yb⟩:Gl00Src) 9).2.1,(Z4 (⟨(Z5 Y4).code,Y8,Yb⟩:Gl00Src) 9).2.2⟩:Gl00Src) 9).2.1,(Z4 (⟨(Z5 Y4).code,(Z4 (⟨(Z5 Y4).code,Y8,Yb⟩:Gl00Src) 9).2.1,(Z4 (⟨(Z5 Y4).code,Y8,Yb⟩:Gl00Src) 9).2.2⟩:Gl00Src) 9).2.2⟩:Gl00Src) 9).2.1) from (by omega)) (show ((Z4 (⟨(Z5 Y4).code,(Z4 (⟨(Z5 Y4).code,(Z4 (⟨(Z5 Y4).code,Y8,Yb⟩:Gl00Src) 9).2.1,(Z4 (⟨(Z5 Y4).code,Y8,Yb⟩:Gl00Src) 9).2.2⟩:Gl00Src) 9).2.1,(Z4 (⟨(Z5 Y4).code,(Z4 (⟨(Z5 Y4).code,Y8,Yb⟩:Gl00Src) 9).2.1,(Z4 (⟨(Z5 Y4).code,Y8,Yb⟩:Gl00Src) 9).2.2⟩:Gl00Src) 9).2.2⟩:Gl00Src) 9).2.1)≤6 * (Y9 + 1) from (by simp_all<;>omega)) (by omega))
  | false =>
   have YL:=odf Yk
   have e:ZO Y4 YA (k + 1) Y9 Y8 Yb Ym=(Y8,Yb,Ym):=by simp only [ZO,Yk,cond_false]
   rw [e]
   exact outR (e:=(.exit 0)) E0Ok Zc [] (mR false [0,2,1,2,1,1,2,3,37]) [0,1,5,2,3,4] (p (sB Yk<|sN)) (by kernel_rfl) (by intro h;cases h)
theorem Z51 (Y4:(List Int)) (YA:Gm):∀ (k:Nat) (Y9:Int) (Y8:Int) (Yb:Int) (Ym:(List Gv)) (hk:((Ym.length:Int) - Y9).toNat < k),(ZO Y4 YA k Y9 Y8 Yb Ym).2.2.length=Ym.length:=by
  intro k
  induction k with
  | zero=>intro Y9 Y8 Yb Ym hk;exact absurd hk (Nat.not_lt_zero _)
  | succ k ih =>
    intro Y9 Y8 Yb Ym hk
    cases Yk:(decide (Y9 < (Ym.length:Int))) with
    | true =>
      have e:ZO Y4 YA (k + 1) Y9 Y8 Yb Ym=(ZO Y4 YA k (Y9 + 1) ((Z4 (⟨(Z5 Y4).code,(Z4 (⟨(Z5 Y4).code,(Z4 (⟨(Z5 Y4).code,Y8,Yb⟩:Gl00Src) 9).2.1,(Z4 (⟨(Z5 Y4).code,Y8,Yb⟩:Gl00Src) 9).2.2⟩:Gl00Src) 9).2.1,(Z4 (⟨(Z5 Y4).code,(Z4 (⟨(Z5 Y4).code,Y8,Yb⟩:Gl00Src) 9).2.1,(Z4 (⟨(Z5 Y4).code,Y8,Yb⟩:Gl00Src) 9).2.2⟩:Gl00Src) 9).2.2⟩:Gl00Src) 9).2.1) ((Z4 (⟨(Z5 Y4).code,(Z4 (⟨(Z5 Y4).code,(Z4 (⟨(Z5 Y4).code,Y8,Yb⟩:Gl00Src) 9).2.1,(Z4 (⟨(Z5 Y4).code,Y8,Yb⟩:Gl00Src) 9).2.2⟩:Gl00Src) 9).2.1,(Z4 (⟨(Z5 Y4).code,(Z4 (⟨(Z5 Y4).code,Y8,Yb⟩:Gl00Src) 9).2.1,(Z4 (⟨(Z5 Y4).code,Y8,Yb⟩:Gl00Src) 9).2.2⟩:Gl00Src) 9).2.2⟩:Gl00Src) 9).2.2) (Ym.set Y9.toNat (Z1m (Ym.getD Y9.toNat default) (⟨(fop .quo .f32 (X4 .f32 (IntKind.wrap .i64 ((Z4 (⟨(Z5 Y4).code,Y8,Yb⟩:Gl00Src) 9).1 - 4))) 1090519040),(fop .quo .f32 (X4 .f32 (IntKind.wrap .i64 ((Z4 (⟨(Z5 Y4).code,(Z4 (⟨(Z5 Y4).code,Y8,Yb⟩:Gl00Src) 9).2.1,(Z4 (⟨(Z5 Y4).code,Y8,Yb⟩:Gl00Src) 9).2.2⟩:Gl00Src) 9).1 - 4))) 1090519040),(fop .quo .f32 (X4 .f32 (IntKind.wrap .i64 ((Z4 (⟨(Z5 Y4).code,(Z4 (⟨(Z5 Y4).code,(Z4 (⟨(Z5 Y4).code,Y8,Yb⟩:Gl00Src) 9).2.1,(Z4 (⟨(Z5 Y4).code,Y8,Yb⟩:Gl00Src) 9).2.2⟩:Gl00Src) 9).2.1,(Z4 (⟨(Z5 Y4).code,(Z4 (⟨(Z5 Y4).code,Y8,Yb⟩:Gl00Src) 9).2.1,(Z4 (⟨(Z5 Y4).code,Y8,Yb⟩:Gl00Src) 9).2.2⟩:Gl00Src) 9).2.2⟩:Gl00Src) 9).1 - 4))) 1090519040)⟩:Gv)))):=by simp only [ZO,Yk,cond_true]
      rw [e,ih (Y9 + 1) ((Z4 (⟨(Z5 Y4).code,(Z4 (⟨(Z5 Y4).code,(Z4 (⟨(Z5 Y4).code,Y8,Yb⟩:Gl00Src) 9).2.1,(Z4 (⟨(Z5 Y4).code,Y8,Yb⟩:Gl00Src) 9).2.2⟩:Gl00Src) 9).2.1,(Z4 (⟨(Z5 Y4).code,(Z4 (⟨(Z5 Y4).code,Y8,Yb⟩:Gl00Src) 9).2.1,(Z4 (⟨(Z5 Y4).code,Y8,Yb⟩:Gl00Src) 9).2.2⟩:Gl00Src) 9).2.2⟩:Gl00Src) 9).2.1) ((Z4 (⟨(Z5 Y4).code,(Z4 (⟨(Z5 Y4).code,(Z4 (⟨(Z5 Y4).code,Y8,Yb⟩:Gl00Src) 9).2.1,(Z4 (⟨(Z5 Y4).code,Y8,Yb⟩:Gl00Src) 9).2.2⟩:Gl00Src) 9).2.1,(Z4 (⟨(Z5 Y4).code,(Z4 (⟨(Z5 Y4).code,Y8,Yb⟩:Gl00Src) 9).2.1,(Z4 (⟨(Z5 Y4).code,Y8,Yb⟩:Gl00Src) 9).2.2⟩:Gl00Src) 9).2.2⟩:Gl00Src) 9).2.2) (Ym.set Y9.toNat (Z1m (Ym.getD Y9.toNat default) (⟨(fop .quo .f32 (X4 .f32 (IntKind.wrap .i64 ((Z4 (⟨(Z5 Y4).code,Y8,Yb⟩:Gl00Src) 9).1 - 4))) 1090519040),(fop .quo .f32 (X4 .f32 (IntKind.wrap .i64 ((Z4 (⟨(Z5 Y4).code,(Z4 (⟨(Z5 Y4).code,Y8,Yb⟩:Gl00Src) 9).2.1,(Z4 (⟨(Z5 Y4).code,Y8,Yb⟩:Gl00Src) 9).2.2⟩:Gl00Src) 9).1 - 4))) 1090519040),(fop .quo .f32 (X4 .f32 (IntKind.wrap .i64 ((Z4 (⟨(Z5 Y4).code,(Z4 (⟨(Z5 Y4).code,(Z4 (⟨(Z5 Y4).code,Y8,Yb⟩:Gl00Src) 9).2.1,(Z4 (⟨(Z5 Y4).code,Y8,Yb⟩:Gl00Src) 9).2.2⟩:Gl00Src) 9).2.1,(Z4 (⟨(Z5 Y4).code,(Z4 (⟨(Z5 Y4).code,Y8,Yb⟩:Gl00Src) 9).2.1,(Z4 (⟨(Z5 Y4).code,Y8,Yb⟩:Gl00Src) 9).2.2⟩:Gl00Src) 9).2.2⟩:Gl00Src) 9).1 - 4))) 1090519040)⟩:Gv))) (by simp_all<;>omega)]<;>simp
    | false =>
      have e:ZO Y4 YA (k + 1) Y9 Y8 Yb Ym=(Y8,Yb,Ym):=by simp only [ZO,Yk,cond_false]
      first | (rw [e];done) | (rw [e];rfl)
def Z2i (Y4:(List Int)) (YA:Gm):Int × Int × (List Gv):=(ZO Y4 YA (((YA.Pq.length:Int) - 0).toNat + 1) 0 ((Z5 Y4).at_) ((Z5 Y4).seed) YA.Pq)
@[simp] theorem Z4l (Y4:(List Int)) (YA:Gm):(Z2i Y4 YA).2.2.length=(YA.Pq:(List Gv)).length:=Z51 Y4 YA (((YA.Pq.length:Int) - 0).toNat + 1) 0 ((Z5 Y4).at_) ((Z5 Y4).seed) YA.Pq (by exact Nat.lt_succ_self _)
def Zf (Y4:(List Int)) (YA:Gm):Gm:=(⟨(Z2i Y4 YA).2.2,YA.Tr⟩:Gm)
theorem Z60 (Y4:(List Int)) (YA:Gm) (hp0:Y4.length≤1073741824) (hp1:YA.Pq.length≤1073741824) (hp2:YA.Tr.length≤1073741824) (hp3:∀ t∈YA.Tr,t.length≤1073741824)  : Fn prog 18 [.sl (Y4.map (cI .u8)), .agg [.sl (YA.Pq.map Gv.c), .sl (YA.Tr.map (cL (cI .i64)))]] (.agg [.own 0, .own 1]) [.vec 32 3 (((Zf Y4 YA).Pq).map Gv.c) false, .nest 60 (((Zf Y4 YA).Tr).map fun l=>l.map (cI .i64)) false]:=by
 refine fnS E0Ok Zc (c:=X5 f18) [] (.agg [.own 0, .own 1]) [.vec 32 3 (((Z2i Y4 YA).2.2).map Gv.c) false, .nest 60 (YA.Tr.map fun l=>l.map (cI .i64)) false] func18 (sS (Z5q YA.Pq YA.Tr Y4 hp0)<|sF (Z4W YA hp1 hp2 hp3)<|sL (mR false [0,2,1,5,1,3,37]) 6 (Xl (Z3b Y4 YA) (x:=(Z2i Y4 YA)) (Z5r Y4 YA hp0 hp1 hp2 hp3 (((YA.Pq.length:Int) - 0).toNat + 1) 0 ((Z5 Y4).at_) ((Z5 Y4).seed) YA.Pq (show 0≤0 from (by omega)) (show YA.Pq.length=YA.Pq.length from (by omega)) (show 0≤((Z5 Y4).at_) from (by exact Int.le_refl 0)) (show ((Z5 Y4).at_)≤6 * 0 from (by exact Int.le_refl 0)) (Nat.lt_succ_self _)) rfl)<|sK [4,5] sN) rfl (by kernel_rfl) (by kernel_rfl) rfl ?_ ?_
 · rfl
 · simp [Zf]
def Z1y (n_0:Int) (Y19:Int) (Y13:Int):Bool:=(cond (decide (n_0 ≥ Y19))
  (decide (n_0≤Y13))
  false)
theorem Z6i (n_0:Int) (Y19:Int) (Y13:Int)   : Fn prog 62 [.i .i64 n_0, .i .i64 Y19, .i .i64 Y13] (.b (Z1y n_0 Y19 Y13)) []:=by
 cases h0:(decide (n_0 ≥ Y19)) with
 | true =>
  have gh0:=odt h0
  refine fnS E0Ok Zc (c:=X5 f62) [] (.b (decide (n_0≤Y13))) [] func62 (sB h0<|sB h0<|sB h0<|sB h0<|sK [] sN) rfl (by kernel_rfl) (by kernel_rfl) rfl ?_ ?_
  · simp only [Z1y,h0,cond_true]
  · rfl
 | false =>
  have gh0:=odf h0
  refine fnS E0Ok Zc (c:=X5 f62) [] (.b false) [] func62 (sB h0<|sB h0<|sB h0<|sB h0<|sK [] sN) rfl (by kernel_rfl) (by kernel_rfl) rfl ?_ ?_
  · simp only [Z1y,h0,cond_false]
  · rfl
def ZY (Y7:Gm) (Y6:Int):Nat→Int→(Unit) ⊕ (Unit)
  | 0,_ => .inl default
  | k + 1,Yt=>(cond (decide (Yt < ((Y7.Tr.getD Y6.toNat default).length:Int)))
    (cond (Z1y ((Y7.Tr.getD Y6.toNat default).getD Yt.toNat default) 0 (IntKind.wrap .i64 ((Y7.Pq.length:Int) - 1)))
      (ZY Y7 Y6 k (Yt + 1))
      (.inl ()))
    (.inr ()))
def Z2j (Y7:Gm) (Y6:Int):(Unit) ⊕ (Unit)→Ex × St
  | .inl r=>(.ret,⟨.any :: .any :: .b false :: an 66 [],[]⟩)
  | .inr r=>((.exit 2),⟨.agg [.sl (Y7.Pq.map Gv.c), .sl (Y7.Tr.map (cL (cI .i64)))] :: .ptr 0 0 0 :: .any :: .i .i64 (Y7.Pq.length:Int) :: .any :: .sl ((Y7.Tr.getD Y6.toNat default).map (cI .i64)) :: .any :: .any :: .ptr 0 0 0 :: .sl (Y7.Pq.map Gv.c) :: .i .i64 (Y7.Pq.length:Int) :: .i .i64 (Y7.Pq.length:Int) :: .b (decide ((Y7.Pq.length:Int) > 64)) :: .b (decide ((Y7.Pq.length:Int) > 64)) :: .ptr 0 0 1 :: .sl (Y7.Tr.map (cL (cI .i64))) :: .i .i64 (Y7.Tr.length:Int) :: .b (decide ((Y7.Tr.length:Int) > 128)) :: .b (decide ((Y7.Tr.length:Int) > 128)) :: .ptr 0 0 1 :: .sl (Y7.Tr.map (cL (cI .i64))) :: .i .i64 (Y7.Tr.length:Int) :: .i .i64 Y6 :: .b (decide (Y6 < (Y7.Tr.length:Int))) :: .ref [.sl ((Y7.Tr.getD Y6.toNat default).map (cI .i64))] 0 :: .sl ((Y7.Tr.getD Y6.toNat default).map (cI .i64)) :: .sl ((Y7.Tr.getD Y6.toNat default).map (cI .i64)) :: .i .i64 ((Y7.Tr.getD Y6.toNat default).length:Int) :: .b (((Y7.Tr.getD Y6.toNat default).length:Int) != 3) :: .b (((Y7.Tr.getD Y6.toNat default).length:Int) != 3) :: .sl ((Y7.Tr.getD Y6.toNat default).map (cI .i64)) :: .ref [.i .i64 ((Y7.Tr.getD Y6.toNat default).getD 0 default)] 0 :: .i .i64 ((Y7.Tr.getD Y6.toNat default).getD 0 default) :: .sl ((Y7.Tr.getD Y6.toNat default).map (cI .i64)) :: .ref [.i .i64 ((Y7.Tr.getD Y6.toNat default).getD 1 default)] 0 :: .i .i64 ((Y7.Tr.getD Y6.toNat default).getD 1 default) :: .b (((Y7.Tr.getD Y6.toNat default).getD 0 default) == ((Y7.Tr.getD Y6.toNat default).getD 1 default)) :: .b (((Y7.Tr.getD Y6.toNat default).getD 0 default) == ((Y7.Tr.getD Y6.toNat default).getD 1 default)) :: .b (((Y7.Tr.getD Y6.toNat default).getD 0 default) == ((Y7.Tr.getD Y6.toNat default).getD 1 default)) :: .sl ((Y7.Tr.getD Y6.toNat default).map (cI .i64)) :: .ref [.i .i64 ((Y7.Tr.getD Y6.toNat default).getD 1 default)] 0 :: .i .i64 ((Y7.Tr.getD Y6.toNat default).getD 1 default) :: .sl ((Y7.Tr.getD Y6.toNat default).map (cI .i64)) :: .ref [.i .i64 ((Y7.Tr.getD Y6.toNat default).getD 2 default)] 0 :: .i .i64 ((Y7.Tr.getD Y6.toNat default).getD 2 default) :: .b (((Y7.Tr.getD Y6.toNat default).getD 1 default) == ((Y7.Tr.getD Y6.toNat default).getD 2 default)) :: .b (((Y7.Tr.getD Y6.toNat default).getD 1 default) == ((Y7.Tr.getD Y6.toNat default).getD 2 default)) :: .b (((Y7.Tr.getD Y6.toNat default).getD 1 default) == ((Y7.Tr.getD Y6.toNat default).getD 2 default)) :: .sl ((Y7.Tr.getD Y6.toNat default).map (cI .i64)) :: .ref [.i .i64 ((Y7.Tr.getD Y6.toNat default).getD 0 default)] 0 :: .i .i64 ((Y7.Tr.getD Y6.toNat default).getD 0 default) :: .sl ((Y7.Tr.getD Y6.toNat default).map (cI .i64)) :: .ref [.i .i64 ((Y7.Tr.getD Y6.toNat default).getD 2 default)] 0 :: .i .i64 ((Y7.Tr.getD Y6.toNat default).getD 2 default) :: .b (((Y7.Tr.getD Y6.toNat default).getD 0 default) == ((Y7.Tr.getD Y6.toNat default).getD 2 default)) :: .b (((Y7.Tr.getD Y6.toNat default).getD 0 default) == ((Y7.Tr.getD Y6.toNat default).getD 2 default)) :: .sl ((Y7.Tr.getD Y6.toNat default).map (cI .i64)) :: .i .i64 ((Y7.Tr.getD Y6.toNat default).length:Int) :: an 11 [],[.box 27 [.sl (Y7.Pq.map Gv.c), .sl (Y7.Tr.map (cL (cI .i64)))]]⟩)
def Z52 (Y7:Gm) (Y6:Int) (Yt:Int):St:=⟨.agg [.sl (Y7.Pq.map Gv.c), .sl (Y7.Tr.map (cL (cI .i64)))] :: .ptr 0 0 0 :: .any :: .i .i64 (Y7.Pq.length:Int) :: .any :: .sl ((Y7.Tr.getD Y6.toNat default).map (cI .i64)) :: .any :: .any :: .ptr 0 0 0 :: .sl (Y7.Pq.map Gv.c) :: .i .i64 (Y7.Pq.length:Int) :: .i .i64 (Y7.Pq.length:Int) :: .b (decide ((Y7.Pq.length:Int) > 64)) :: .b (decide ((Y7.Pq.length:Int) > 64)) :: .ptr 0 0 1 :: .sl (Y7.Tr.map (cL (cI .i64))) :: .i .i64 (Y7.Tr.length:Int) :: .b (decide ((Y7.Tr.length:Int) > 128)) :: .b (decide ((Y7.Tr.length:Int) > 128)) :: .ptr 0 0 1 :: .sl (Y7.Tr.map (cL (cI .i64))) :: .i .i64 (Y7.Tr.length:Int) :: .i .i64 Y6 :: .b (decide (Y6 < (Y7.Tr.length:Int))) :: .ref [.sl ((Y7.Tr.getD Y6.toNat default).map (cI .i64))] 0 :: .sl ((Y7.Tr.getD Y6.toNat default).map (cI .i64)) :: .sl ((Y7.Tr.getD Y6.toNat default).map (cI .i64)) :: .i .i64 ((Y7.Tr.getD Y6.toNat default).length:Int) :: .b (((Y7.Tr.getD Y6.toNat default).length:Int) != 3) :: .b (((Y7.Tr.getD Y6.toNat default).length:Int) != 3) :: .sl ((Y7.Tr.getD Y6.toNat default).map (cI .i64)) :: .ref [.i .i64 ((Y7.Tr.getD Y6.toNat default).getD 0 default)] 0 :: .i .i64 ((Y7.Tr.getD Y6.toNat default).getD 0 default) :: .sl ((Y7.Tr.getD Y6.toNat default).map (cI .i64)) :: .ref [.i .i64 ((Y7.Tr.getD Y6.toNat default).getD 1 default)] 0 :: .i .i64 ((Y7.Tr.getD Y6.toNat default).getD 1 default) :: .b (((Y7.Tr.getD Y6.toNat default).getD 0 default) == ((Y7.Tr.getD Y6.toNat default).getD 1 default)) :: .b (((Y7.Tr.getD Y6.toNat default).getD 0 default) == ((Y7.Tr.getD Y6.toNat default).getD 1 default)) :: .b (((Y7.Tr.getD Y6.toNat default).getD 0 default) == ((Y7.Tr.getD Y6.toNat default).getD 1 default)) :: .sl ((Y7.Tr.getD Y6.toNat default).map (cI .i64)) :: .ref [.i .i64 ((Y7.Tr.getD Y6.toNat default).getD 1 default)] 0 :: .i .i64 ((Y7.Tr.getD Y6.toNat default).getD 1 default) :: .sl ((Y7.Tr.getD Y6.toNat default).map (cI .i64)) :: .ref [.i .i64 ((Y7.Tr.getD Y6.toNat default).getD 2 default)] 0 :: .i .i64 ((Y7.Tr.getD Y6.toNat default).getD 2 default) :: .b (((Y7.Tr.getD Y6.toNat default).getD 1 default) == ((Y7.Tr.getD Y6.toNat default).getD 2 default)) :: .b (((Y7.Tr.getD Y6.toNat default).getD 1 default) == ((Y7.Tr.getD Y6.toNat default).getD 2 default)) :: .b (((Y7.Tr.getD Y6.toNat default).getD 1 default) == ((Y7.Tr.getD Y6.toNat default).getD 2 default)) :: .sl ((Y7.Tr.getD Y6.toNat default).map (cI .i64)) :: .ref [.i .i64 ((Y7.Tr.getD Y6.toNat default).getD 0 default)] 0 :: .i .i64 ((Y7.Tr.getD Y6.toNat default).getD 0 default) :: .sl ((Y7.Tr.getD Y6.toNat default).map (cI .i64)) :: .ref [.i .i64 ((Y7.Tr.getD Y6.toNat default).getD 2 default)] 0 :: .i .i64 ((Y7.Tr.getD Y6.toNat default).getD 2 default) :: .b (((Y7.Tr.getD Y6.toNat default).getD 0 default) == ((Y7.Tr.getD Y6.toNat default).getD 2 default)) :: .b (((Y7.Tr.getD Y6.toNat default).getD 0 default) == ((Y7.Tr.getD Y6.toNat default).getD 2 default)) :: .sl ((Y7.Tr.getD Y6.toNat default).map (cI .i64)) :: .i .i64 ((Y7.Tr.getD Y6.toNat default).length:Int) :: .i .i64 Yt :: an 10 [],[.box 27 [.sl (Y7.Pq.map Gv.c), .sl (Y7.Tr.map (cL (cI .i64)))]]⟩
def Z2A:List Bool:=(mR false [0,2,1,1,1,1,2,51,10])
def Z4B:List Bool:=(mR false [0,2,1,1,1,1,2,50,11])
theorem Z3M (Y7:Gm) (Y6:Int) (hp0:Y7.Pq.length≤1073741824) (hp1:Y7.Tr.length≤1073741824) (hp2:∀ t∈Y7.Tr,t.length≤1073741824) (Z1M:(decide ((Y7.Pq.length:Int) > 64))=false) (Z1N:(decide ((Y7.Tr.length:Int) > 128))=false) (Z1O:0≤Y6) (Z6D:(((Y7.Tr.getD Y6.toNat default).length:Int) != 3)=false) (Z6E:(decide ((Y7.Pq.length:Int) > 64))=false) (Z6F:(decide ((Y7.Tr.length:Int) > 128))=false) (Z6G:(decide (Y6 < (Y7.Tr.length:Int)))=true):∀ (k:Nat) (Yt:Int) (Z3u:0≤Yt) (hk:(((Y7.Tr.getD Y6.toNat default).length:Int) - Yt).toNat < k),Lp prog 0 (sub (X5 f61) [1,1,1,0,1,0,0,1,1,0,0,1,1,1,0,0]) (Z52 Y7 Y6 Yt) (Z2j Y7 Y6 (ZY Y7 Y6 k Yt)).1 (Z2j Y7 Y6 (ZY Y7 Y6 k Yt)).2:=by
 intro k
 induction k with
 | zero=>intro Yt Z3u hk;exact absurd hk (Nat.not_lt_zero _)
 | succ k ih =>
  intro Yt Z3u hk
  cases YN:(decide (Yt < ((Y7.Tr.getD Y6.toNat default).length:Int))) with
  | true =>
   have Y17:=odt YN
   have Y1d:(0:Int)≤Yt:=(by assumption)
   have Y1e:Yt < ((Y7.Tr.getD Y6.toNat default).length:Int):=(by assumption)
   have p {a C} (s:Scr a C):=sB YN<|sG (cI .i64) (Y7.Tr.getD Y6.toNat default) Yt Y1d Y1e<|sW .i64 ((Y7.Pq.length:Int) - 1)<|sF (Z6i ((Y7.Tr.getD Y6.toNat default).getD Yt.toNat default) 0 (IntKind.wrap .i64 ((Y7.Pq.length:Int) - 1)))<|s
   cases Y15:(Z1y ((Y7.Tr.getD Y6.toNat default).getD Yt.toNat default) 0 (IntKind.wrap .i64 ((Y7.Pq.length:Int) - 1))) with
   | true =>
    have Y1c:(-9223372036854775808:Int)≤(Yt + 1):=by clear p;exact (by omega)
    have Y18:(Yt + 1)≤(9223372036854775807:Int):=by clear p;exact (by simp_all<;>omega)
    have e:ZY Y7 Y6 (k + 1) Yt=(ZY Y7 Y6 k (Yt + 1)):=by simp only [ZY,YN,Y15,cond_true]
    rw [e]
    exact Xo E0Ok Zc [] Z2A [0] (ih (Yt + 1) (show 0≤(Yt + 1) from (by omega)) (by omega)) (p (sB' Y15<|sI (Yt + 1) Y1c Y18<|sN)) (by kernel_rfl)
   | false =>
    have e:ZY Y7 Y6 (k + 1) Yt=(.inl ()):=by simp only [ZY,YN,Y15,cond_true,cond_false]
    rw [e]
    exact outR (e := .ret) E0Ok Zc [] (mR false [2,1,66]) [] (p (sB' Y15<|sN)) (by kernel_rfl) (by intro h;cases h)
  | false =>
   have Y17:=odf YN
   have e:ZY Y7 Y6 (k + 1) Yt=(.inr ()):=by simp only [ZY,YN,cond_false]
   rw [e]
   exact outR (e:=(.exit 2)) E0Ok Zc [] Z4B [0] (sB YN<|sN) (by kernel_rfl) (by intro h;cases h)
def Z1E (Y7:Gm) (Y6:Int):(Unit) ⊕ (Unit):=(ZY Y7 Y6 ((((Y7.Tr.getD Y6.toNat default).length:Int) - 0).toNat + 1) 0)
def Zx (Y7:Gm):Nat→Int→(Unit) ⊕ (Unit)
  | 0,_ => .inl default
  | k + 1,Y6=>(cond (decide (Y6 < (Y7.Tr.length:Int)))
    (cond (((Y7.Tr.getD Y6.toNat default).length:Int) != 3)
      (.inl ())
      (cond (((Y7.Tr.getD Y6.toNat default).getD 0 default) == ((Y7.Tr.getD Y6.toNat default).getD 1 default))
        (.inl ())
        (cond (((Y7.Tr.getD Y6.toNat default).getD 1 default) == ((Y7.Tr.getD Y6.toNat default).getD 2 default))
          (.inl ())
          (cond (((Y7.Tr.getD Y6.toNat default).getD 0 default) == ((Y7.Tr.getD Y6.toNat default).getD 2 default))
            (.inl ())
            (match (Z1E Y7 Y6) with
              | .inl r_6=>(.inl ())
              | .inr r_6=>(Zx Y7 k (Y6 + 1)))))))
    (.inr ()))
def Z2k (Y7:Gm):(Unit) ⊕ (Unit)→Ex × St
  | .inl r=>(.ret,⟨.any :: .any :: .b false :: an 66 [],[]⟩)
  | .inr r=>((.exit 0),⟨.agg [.sl (Y7.Pq.map Gv.c), .sl (Y7.Tr.map (cL (cI .i64)))] :: .ptr 0 0 0 :: .any :: .i .i64 (Y7.Pq.length:Int) :: an 4 (.ptr 0 0 0 :: .sl (Y7.Pq.map Gv.c) :: .i .i64 (Y7.Pq.length:Int) :: .i .i64 (Y7.Pq.length:Int) :: .b (decide ((Y7.Pq.length:Int) > 64)) :: .b (decide ((Y7.Pq.length:Int) > 64)) :: .ptr 0 0 1 :: .sl (Y7.Tr.map (cL (cI .i64))) :: .i .i64 (Y7.Tr.length:Int) :: .b (decide ((Y7.Tr.length:Int) > 128)) :: .b (decide ((Y7.Tr.length:Int) > 128)) :: .ptr 0 0 1 :: .sl (Y7.Tr.map (cL (cI .i64))) :: an 48 []),[.box 27 [.sl (Y7.Pq.map Gv.c), .sl (Y7.Tr.map (cL (cI .i64)))]]⟩)
def Z53 (Y7:Gm) (Y6:Int):St:=⟨.agg [.sl (Y7.Pq.map Gv.c), .sl (Y7.Tr.map (cL (cI .i64)))] :: .ptr 0 0 0 :: .any :: .i .i64 (Y7.Pq.length:Int) :: an 4 (.ptr 0 0 0 :: .sl (Y7.Pq.map Gv.c) :: .i .i64 (Y7.Pq.length:Int) :: .i .i64 (Y7.Pq.length:Int) :: .b (decide ((Y7.Pq.length:Int) > 64)) :: .b (decide ((Y7.Pq.length:Int) > 64)) :: .ptr 0 0 1 :: .sl (Y7.Tr.map (cL (cI .i64))) :: .i .i64 (Y7.Tr.length:Int) :: .b (decide ((Y7.Tr.length:Int) > 128)) :: .b (decide ((Y7.Tr.length:Int) > 128)) :: .ptr 0 0 1 :: .sl (Y7.Tr.map (cL (cI .i64))) :: .i .i64 (Y7.Tr.length:Int) :: .i .i64 Y6 :: an 46 []),[.box 27 [.sl (Y7.Pq.map Gv.c), .sl (Y7.Tr.map (cL (cI .i64)))]]⟩
theorem Z3N (Y7:Gm) (hp0:Y7.Pq.length≤1073741824) (hp1:Y7.Tr.length≤1073741824) (hp2:∀ t∈Y7.Tr,t.length≤1073741824) (Z1M:(decide ((Y7.Pq.length:Int) > 64))=false) (Z1N:(decide ((Y7.Tr.length:Int) > 128))=false):∀ (k:Nat) (Y6:Int) (Z1O:0≤Y6) (hk:((Y7.Tr.length:Int) - Y6).toNat < k),Lp prog 0 (sub (X5 f61) [1,1,1,0,1,0,0]) (Z53 Y7 Y6) (Z2k Y7 (Zx Y7 k Y6)).1 (Z2k Y7 (Zx Y7 k Y6)).2:=by
 intro k
 induction k with
 | zero=>intro Y6 Z1O hk;exact absurd hk (Nat.not_lt_zero _)
 | succ k ih =>
  intro Y6 Z1O hk
  cases Yk:(decide (Y6 < (Y7.Tr.length:Int))) with
  | true =>
   have YL:=odt Yk
   have Yy:(0:Int)≤Y6:=(by assumption)
   have YV:Y6 < (Y7.Tr.length:Int):=(by assumption)
   have p {a C} (s:Scr a C):=sB Yk<|sG (cL (cI .i64)) Y7.Tr Y6 Yy YV<|sK [28,28]<|sZ (cI .i64) (Y7.Tr.getD Y6.toNat default)<|s
   cases YM:(((Y7.Tr.getD Y6.toNat default).length:Int) != 3) with
   | true =>
    have Y1i:=bne_iff_ne.1 YM
    have e:Zx Y7 (k + 1) Y6=(.inl ()):=by simp only [Zx,Yk,YM,cond_true]
    rw [e]
    exact outR (e := .ret) E0Ok Zc [] (mR false [2,1,66]) [] (p (sB YM<|sB YM<|sB YM<|sB YM<|sB YM<|sB YM<|sB YM<|sB YM<|sB (show true=true from rfl)<|sB (show true=true from rfl)<|sB (show true=true from rfl)<|sB (show true=true from rfl)<|sB (show true=true from rfl)<|sB (show true=true from rfl)<|sB (show true=true from rfl)<|sB (show true=true from rfl)<|sB (show true=true from rfl)<|sB (show true=true from rfl)<|sB (show true=true from rfl)<|sB (show true=true from rfl)<|sB (show true=true from rfl)<|sB (show true=true from rfl)<|sB (show true=true from rfl)<|sB (show true=true from rfl)<|sB (show true=true from rfl)<|sN)) (by kernel_rfl) (by intro h;cases h)
   | false =>
    have Y1i:=bne_eq_false_iff_eq.1 YM
    have YZ:(0:Int)≤0:=by clear p;exact (by omega)
    have y_3:0 < ((Y7.Tr.getD Y6.toNat default).length:Int):=by clear p;exact (by omega)
    have y_4:(0:Int)≤1:=by clear p;exact (by omega)
    have y_5:1 < ((Y7.Tr.getD Y6.toNat default).length:Int):=by clear p;exact (by omega)
    have q {a C} (s:Scr a C):=p (sB YM<|sB YM<|sG (cI .i64) (Y7.Tr.getD Y6.toNat default) 0 YZ y_3<|sB YM<|sB YM<|sB YM<|sG (cI .i64) (Y7.Tr.getD Y6.toNat default) 1 y_4 y_5<|sB YM<|sB YM<|sB YM<|s)
    clear p
    cases YX:(((Y7.Tr.getD Y6.toNat default).getD 0 default) == ((Y7.Tr.getD Y6.toNat default).getD 1 default)) with
    | true =>
     have Y1j:=eq_of_beq YX
     have e:Zx Y7 (k + 1) Y6=(.inl ()):=by simp only [Zx,Yk,YM,YX,cond_true,cond_false]
     rw [e]
     exact outR (e := .ret) E0Ok Zc [] (mR false [2,1,66]) [] (q (sB YX<|sB YX<|sB YX<|sB YX<|sB YX<|sB YX<|sB YX<|sB YX<|sB (show true=true from rfl)<|sB (show true=true from rfl)<|sB (show true=true from rfl)<|sB (show true=true from rfl)<|sB (show true=true from rfl)<|sB (show true=true from rfl)<|sB (show true=true from rfl)<|sB (show true=true from rfl)<|sB (show true=true from rfl)<|sN)) (by kernel_rfl) (by intro h;cases h)
    | false =>
     have Y1j:=ne_of_beq_false YX
     have y_6:(0:Int)≤2:=by clear q;exact (by omega)
     have y_7:2 < ((Y7.Tr.getD Y6.toNat default).length:Int):=by clear q;exact (by omega)
     have p {a C} (s:Scr a C):=q (sB YX<|sB YX<|sG (cI .i64) (Y7.Tr.getD Y6.toNat default) 1 y_4 y_5<|sB YX<|sB YX<|sB YX<|sG (cI .i64) (Y7.Tr.getD Y6.toNat default) 2 y_6 y_7<|sB YX<|sB YX<|sB YX<|s)
     clear q
     cases h_3:(((Y7.Tr.getD Y6.toNat default).getD 1 default) == ((Y7.Tr.getD Y6.toNat default).getD 2 default)) with
     | true =>
      have gh_3:=eq_of_beq h_3
      have e:Zx Y7 (k + 1) Y6=(.inl ()):=by simp only [Zx,Yk,YM,YX,h_3,cond_true,cond_false]
      rw [e]
      exact outR (e := .ret) E0Ok Zc [] (mR false [2,1,66]) [] (p (sB h_3<|sB h_3<|sB h_3<|sB h_3<|sB h_3<|sB h_3<|sB h_3<|sB h_3<|sB (show true=true from rfl)<|sN)) (by kernel_rfl) (by intro h;cases h)
     | false =>
      have gh_3:=ne_of_beq_false h_3
      have q {a C} (s:Scr a C):=p (sB h_3<|sB h_3<|sG (cI .i64) (Y7.Tr.getD Y6.toNat default) 0 YZ y_3<|sB h_3<|sB h_3<|sB h_3<|sG (cI .i64) (Y7.Tr.getD Y6.toNat default) 2 y_6 y_7<|sB h_3<|sB h_3<|sB h_3<|s)
      clear p
      cases h_4:(((Y7.Tr.getD Y6.toNat default).getD 0 default) == ((Y7.Tr.getD Y6.toNat default).getD 2 default)) with
      | true =>
       have gh_4:=eq_of_beq h_4
       have e:Zx Y7 (k + 1) Y6=(.inl ()):=by simp only [Zx,Yk,YM,YX,h_3,h_4,cond_true,cond_false]
       rw [e]
       exact outR (e := .ret) E0Ok Zc [] (mR false [2,1,66]) [] (q (sB h_4<|sN)) (by kernel_rfl) (by intro h;cases h)
      | false =>
       have gh_4:=ne_of_beq_false h_4
       have p {a C} (s:Scr a C):=q (sB h_4<|sZ (cI .i64) (Y7.Tr.getD Y6.toNat default)<|s)
       clear q
       cases h_5:(Z1E Y7 Y6) with
       | inl r_6 =>
        have e:Zx Y7 (k + 1) Y6=(.inl ()):=by simp only [Zx,Yk,YM,YX,h_3,h_4,h_5,cond_true,cond_false]
        rw [e]
        exact outR (e := .ret) E0Ok Zc [] (mR false [2,1,66]) [] (p (sL Z2A 1 (Xl (Z2j Y7 Y6) (x:=(Z1E Y7 Y6)) (Z3M Y7 Y6 hp0 hp1 hp2 Z1M Z1N Z1O YM Z1M Z1N Yk ((((Y7.Tr.getD Y6.toNat default).length:Int) - 0).toNat + 1) 0 (show 0≤0 from (by assumption)) (Nat.lt_succ_self _)) h_5)<|sN)) (by kernel_rfl) (by intro h;cases h)
       | inr r_6 =>
        have y_8:(-9223372036854775808:Int)≤(Y6 + 1):=by clear p;exact (by omega)
        have y_9:(Y6 + 1)≤(9223372036854775807:Int):=by clear p;exact (by omega)
        have e:Zx Y7 (k + 1) Y6=(Zx Y7 k (Y6 + 1)):=by simp only [Zx,Yk,YM,YX,h_3,h_4,h_5,cond_true,cond_false]
        rw [e]
        exact Xo E0Ok Zc [] (mR false [0,2,1,1,4,15,46]) [0] (ih (Y6 + 1) (show 0≤(Y6 + 1) from (by omega)) (by omega)) (p (sL Z2A 1 (Xl (Z2j Y7 Y6) (x:=(Z1E Y7 Y6)) (Z3M Y7 Y6 hp0 hp1 hp2 Z1M Z1N Z1O YM Z1M Z1N Yk ((((Y7.Tr.getD Y6.toNat default).length:Int) - 0).toNat + 1) 0 (show 0≤0 from (by assumption)) (Nat.lt_succ_self _)) h_5)<|sI (Y6 + 1) y_8 y_9<|sN)) (by kernel_rfl)
  | false =>
   have YL:=odf Yk
   have e:Zx Y7 (k + 1) Y6=(.inr ()):=by simp only [Zx,Yk,cond_false]
   rw [e]
   exact outR (e:=(.exit 0)) E0Ok Zc [] (mR false [0,2,1,1,4,13,48]) [0] (sB Yk<|sN) (by kernel_rfl) (by intro h;cases h)
def Z1P (Y7:Gm):(Unit) ⊕ (Unit):=(Zx Y7 (((Y7.Tr.length:Int) - 0).toNat + 1) 0)
def Zm (Y7:Gm):Bool:=(cond (decide ((Y7.Pq.length:Int) > 64))
  false
  (cond (decide ((Y7.Tr.length:Int) > 128))
    false
    (match (Z1P Y7) with
      | .inl r3=>false
      | .inr r3=>true)))
def triI (t:List Int) (n:Int):Bool:=(!((t.length:Int) != 3) && (!(t.getD 0 default == t.getD 1 default) && (!(t.getD 1 default == t.getD 2 default) && (!(t.getD 0 default == t.getD 2 default) && t.all fun x=>Z1y x 0 (IntKind.wrap .i64 (n - 1))))))
theorem Z73 (m:Gm) (k:Nat) (i:Int):Zx m (k + 1) i=cond (decide (i < (m.Tr.length:Int))) (cond (triI (m.Tr.getD i.toNat default) (m.Pq.length:Int)) (Zx m k (i + 1)) (.inl ())) (.inr ()):=by
  rw [Zx]
  have hin:Z1E m i=cond ((m.Tr.getD i.toNat default).all fun x=>Z1y x 0 (IntKind.wrap .i64 ((m.Pq.length:Int) - 1))) (.inr ()) (.inl ()):=by
    unfold Z1E
    exact X7c (a:=m.Tr.getD i.toNat default) (p:=fun x=>Z1y x 0 (IntKind.wrap .i64 ((m.Pq.length:Int) - 1))) (lo:=ZY m i) (x:=()) (y:=()) (fun k i=>rfl)
  rw [hin]
  unfold triI
  generalize m.Tr.getD i.toNat default=t
  generalize (t.all fun x=>Z1y x 0 (IntKind.wrap .i64 ((m.Pq.length:Int) - 1)))=q
  cases ((t.length:Int) != 3)<;>cases (t.getD 0 default == t.getD 1 default)<;>cases (t.getD 1 default == t.getD 2 default)<;>cases (t.getD 0 default == t.getD 2 default)<;>cases q<;>rfl
theorem Z5G (m:Gm):Zm m=cond (decide ((m.Pq.length:Int) > 64)) false (cond (decide ((m.Tr.length:Int) > 128)) false (m.Tr.all fun t=>triI t (m.Pq.length:Int))):=by
  unfold Zm Z1P
  rw [X7c (a:=m.Tr) (p:=fun t=>triI t (m.Pq.length:Int)) (lo:=Zx m) (x:=()) (y:=()) (Z73 m)]
  cases (m.Tr.all fun t=>triI t (m.Pq.length:Int))<;>rfl
theorem Z5H (m:Gm) (h:Zm m=true):OkE m.Pq.length m.Tr:=by
  rw [Z5G] at h
  cases h1:decide ((m.Pq.length:Int) > 64)<;>rw [h1] at h<;>(try (cases h;done))
  cases h2:decide ((m.Tr.length:Int) > 128)<;>rw [h2] at h<;>(try (cases h;done))
  simp only [cond_false,List.all_eq_true,decide_eq_false_iff_not] at h h1 h2
  refine ⟨by omega,by omega,fun t ht => ?_⟩
  have h3:=h t ht
  unfold triI at h3
  rw [X9v (by omega) (by omega)] at h3
  simp only [Bool.and_eq_true,Bool.not_eq_true',List.all_eq_true,bne_eq_false_iff_eq,beq_eq_false_iff_ne] at h3
  obtain ⟨g0,g1,g2,g3,g4⟩:=h3
  have hl:t.length=3:=by omega
  match t,hl with
  | [a,b,c],_ =>
    have hw:∀ x,Z1y x 0 ((m.Pq.length:Int) - 1)=true→0≤x∧x < (m.Pq.length:Int):=by
      intro x hx
      unfold Z1y at hx
      cases f1:decide (x ≥ 0)<;>rw [f1] at hx<;>(try (cases hx;done))
      simp only [cond_true,decide_eq_true_eq] at hx f1
      omega
    exact ⟨a,b,c,rfl,hw a (g4 a (by simp)),hw b (g4 b (by simp)),hw c (g4 c (by simp)),g1,g2,g3⟩
theorem Z3t (Y7:Gm) (hp0:Y7.Pq.length≤1073741824) (hp1:Y7.Tr.length≤1073741824) (hp2:∀ t∈Y7.Tr,t.length≤1073741824)  : Fn prog 61 [.agg [.sl (Y7.Pq.map Gv.c), .sl (Y7.Tr.map (cL (cI .i64)))]] (.b (Zm Y7)) []:=by
 have p {a C} (s:Scr a C):=sZ Gv.c Y7.Pq<|s
 cases h0:(decide ((Y7.Pq.length:Int) > 64)) with
 | true =>
  have gh0:=odt h0
  refine fnS E0Ok Zc (c:=X5 f61) [] (.b false) [] func61 (p (sB h0<|sB h0<|sB h0<|sB h0<|sB h0<|sB (show true=true from rfl)<|sK [] sN)) rfl (by kernel_rfl) (by kernel_rfl) rfl ?_ ?_
  · simp only [Zm,h0,cond_true]
  · rfl
 | false =>
  have gh0:=odf h0
  have q {a C} (s:Scr a C):=p (sB h0<|sB h0<|sB h0<|sZ (cL (cI .i64)) Y7.Tr<|sB h0<|sB h0<|s)
  clear p
  cases h1:(decide ((Y7.Tr.length:Int) > 128)) with
  | true =>
   have gh1:=odt h1
   refine fnS E0Ok Zc (c:=X5 f61) [] (.b false) [] func61 (q (sB h1<|sK [] sN)) rfl (by kernel_rfl) (by kernel_rfl) rfl ?_ ?_
   · simp only [Zm,h0,h1,cond_true,cond_false]
   · rfl
  | false =>
   have gh1:=odf h1
   have p {a C} (s:Scr a C):=q (sB h1<|sZ (cL (cI .i64)) Y7.Tr<|s)
   clear q
   cases h2:(Z1P Y7) with
   | inl r3 =>
    refine fnS E0Ok Zc (c:=X5 f61) [] (.b false) [] func61 (p (sL (mR false [0,2,1,1,4,15,46]) 1 (Xl (Z2k Y7) (x:=(Z1P Y7)) (Z3N Y7 hp0 hp1 hp2 h0 h1 (((Y7.Tr.length:Int) - 0).toNat + 1) 0 (show 0≤0 from (by omega)) (Nat.lt_succ_self _)) h2)<|sK [] sN)) rfl (by kernel_rfl) (by kernel_rfl) rfl ?_ ?_
    · simp only [Zm,h0,h1,h2,cond_false]
    · rfl
   | inr r3 =>
    refine fnS E0Ok Zc (c:=X5 f61) [] (.b true) [] func61 (p (sL (mR false [0,2,1,1,4,15,46]) 1 (Xl (Z2k Y7) (x:=(Z1P Y7)) (Z3N Y7 hp0 hp1 hp2 h0 h1 (((Y7.Tr.length:Int) - 0).toNat + 1) 0 (show 0≤0 from (by omega)) (Nat.lt_succ_self _)) h2)<|sK [] sN)) rfl (by kernel_rfl) (by kernel_rfl) rfl ?_ ?_
    · simp only [Zm,h0,h1,h2,cond_false]
    · rfl
end Go.Ab
