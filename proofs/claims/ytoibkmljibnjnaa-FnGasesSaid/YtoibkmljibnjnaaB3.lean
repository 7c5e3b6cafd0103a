/- The functions of this seat as plain Lean, and that the program's are these. Printed by a program of the prover's own. -/
import Derived.Test.YtoibkmljibnjnaaB2
set_option linter.unusedVariables false
set_option linter.unusedSimpArgs false
set_option maxRecDepth 100000
namespace Go.Ab
open Go.RowKit Go.Proofs.Try
def Z5 (YH:Int):Gm:=(cond (YH == 2)
  (Z1k 1073741824).1
  (cond (YH == 3)
    (ZU 0 1073741824)
    (ZU 1 1073741824)))
theorem Z5R (YH:Int) (hp0:(2:Int)≤YH) (hp1:YH≤4)  : Fn prog 19 [.i .i64 YH] (.agg [.own 0, .own 1]) [.vec 32 3 (((Z5 YH).Pq).map Gv.c) false, .nest 60 (((Z5 YH).Tr).map fun l=>l.map (cI .i64)) false]:=by
 have p {a C} (s:Scr a C):=sB (show (YH == 0)=false from (beq_eq_false_iff_ne.2 (by omega)))<|sB (show (YH == 1)=false from (beq_eq_false_iff_ne.2 (by omega)))<|s
 cases h0:(YH == 2) with
 | true =>
  have gh0:=eq_of_beq h0
  have hv:Z5 YH=(Z1k 1073741824).1:=by unfold Z5;rw [h0,cond_true]
  refine fnS E0Ok Zb (c:=X0 f19) [] (.agg [.own 0, .own 1]) [.vec 32 3 (((Z1k 1073741824).1.Pq).map Gv.c) false, .nest 60 (((Z1k 1073741824).1.Tr).map fun l=>l.map (cI .i64)) false] func19 (p (sB h0<|sF (Z5w 1073741824)<|sK [2,3] sN)) rfl (by kernel_rfl) (by kernel_rfl) rfl ?_ ?_
  · first | rw [hv] | rfl
  · first | rw [hv] | rfl
 | false =>
  have gh0:=ne_of_beq_false h0
  have q {a C} (s:Scr a C):=p (sB h0<|s)
  clear p
  cases h1:(YH == 3) with
  | true =>
   have gh1:=eq_of_beq h1
   have hv:Z5 YH=(ZU 0 1073741824):=by unfold Z5;rw [h0,cond_false,h1,cond_true]
   refine fnS E0Ok Zb (c:=X0 f19) [] (.agg [.own 0, .own 1]) [.vec 32 3 (((ZU 0 1073741824).Pq).map Gv.c) false, .nest 60 (((ZU 0 1073741824).Tr).map fun l=>l.map (cI .i64)) false] func19 (q (sB h1<|sF (Z4g 0 1073741824)<|sK [2,3] sN)) rfl (by kernel_rfl) (by kernel_rfl) rfl ?_ ?_
   · first | rw [hv] | rfl
   · first | rw [hv] | rfl
  | false =>
   have gh1:=ne_of_beq_false h1
   have hv:Z5 YH=(ZU 1 1073741824):=by unfold Z5;rw [h0,cond_false,h1,cond_false]
   refine fnS E0Ok Zb (c:=X0 f19) [] (.agg [.own 0, .own 1]) [.vec 32 3 (((ZU 1 1073741824).Pq).map Gv.c) false, .nest 60 (((ZU 1 1073741824).Tr).map fun l=>l.map (cI .i64)) false] func19 (q (sB h1<|sF (Z4g 1 1073741824)<|sK [2,3] sN)) rfl (by kernel_rfl) (by kernel_rfl) rfl ?_ ?_
   · first | rw [hv] | rfl
   · first | rw [hv] | rfl
def Z1 (Y2:(List Int)):Gl00Src:=(⟨Y2,0,0⟩:Gl00Src)
@[simp] theorem Z7v (c:List Int):(Z1 c).code=c:=rfl
@[simp] theorem Z7x (c:List Int):(Z1 c).at_=0:=rfl
@[simp] theorem Z7w (c:List Int):(Z1 c).seed=0:=rfl
theorem Z54 (Yv:(List Gv)) (Yw:(List (List Int))) (Y2:(List Int)) (hp0:Y2.length≤1073741824)  : Xk prog 54 [.box 27 [.sl (Yv.map Gv.c), .sl (Yw.map (cL (cI .i64)))], .box 27 [.nils, .nils]] [.sl (Y2.map (cI .u8))] (.ptr 2 0 0) [.box 27 [.sl (Yv.map Gv.c), .sl (Yw.map (cL (cI .i64)))], .box 27 [.nils, .nils], .box 134 [.sl (((Z1 Y2).code).map (cI .u8)), .i .i64 ((Z1 Y2).at_), .i .u64 ((Z1 Y2).seed)]]:=by
 refine X12 (EpOk 2) Zb (c:=X0 f54) [.box 27 [.sl (Yv.map Gv.c), .sl (Yw.map (cL (cI .i64)))], .box 27 [.nils, .nils]] [] (.ptr 2 0 0) [.box 27 [.sl (Yv.map Gv.c), .sl (Yw.map (cL (cI .i64)))], .box 27 [.nils, .nils], .box 134 [.sl (Y2.map (cI .u8)), .i .i64 0, .i .u64 0]] func54 (sK [2] sN) rfl (by kernel_rfl) (by kernel_rfl) ?_ ?_
 · rfl
 · simp [Z1]
def Zj (Yf:Gl00Src):Int:=(IntKind.wrap .u64 ((IntKind.wrap .u64 ((IntKind.wrap .u64 (Yf.seed * 6364136223846793005)) + (IntKind.wrap .u64 (IntKind.wrap .i64 (Yf.code.getD Yf.at_.toNat default))))) + 1442695040888963407))
def Z3 (Yf:Gl00Src):Int × Int × Int:=(cond (decide (Yf.at_ < (Yf.code.length:Int)))
  (cond (decide ((IntKind.wrap .i64 (Yf.at_ + 1))≤(Yf.code.length:Int)))
    ((IntKind.wrap .i64 (Yf.code.getD Yf.at_.toNat default)),(IntKind.wrap .i64 (Yf.at_ + 1)),(Zj Yf))
    ((IntKind.wrap .i64 (bitsOf .and .u64 (Int.fdiv (Zj Yf) (2 ^ (min (Int.toNat 40) (IntKind.bits .u64)))) 255)),(IntKind.wrap .i64 (Yf.at_ + 1)),(Zj Yf)))
  (cond (decide ((IntKind.wrap .i64 (Yf.at_ + 1))≤(Yf.code.length:Int)))
    (0,(IntKind.wrap .i64 (Yf.at_ + 1)),(IntKind.wrap .u64 ((IntKind.wrap .u64 ((IntKind.wrap .u64 (Yf.seed * 6364136223846793005)) + 0)) + 1442695040888963407)))
    ((IntKind.wrap .i64 (bitsOf .and .u64 (Int.fdiv (IntKind.wrap .u64 ((IntKind.wrap .u64 ((IntKind.wrap .u64 (Yf.seed * 6364136223846793005)) + 0)) + 1442695040888963407)) (2 ^ (min (Int.toNat 40) (IntKind.bits .u64)))) 255)),(IntKind.wrap .i64 (Yf.at_ + 1)),(IntKind.wrap .u64 ((IntKind.wrap .u64 ((IntKind.wrap .u64 (Yf.seed * 6364136223846793005)) + 0)) + 1442695040888963407)))))
theorem Z47 (s:Gl00Src):0≤s.at_∧s.at_≤1152921504606846976→(Z3 s).2.1=s.at_ + 1:=by
  intro h
  have e:IntKind.wrap .i64 (s.at_ + 1)=s.at_ + 1:=XB (by omega) (by omega)
  unfold Z3
  rw [e]
  cases decide (s.at_ < (s.code.length:Int))<;>cases decide (s.at_ + 1≤(s.code.length:Int))<;>rfl
theorem Z6L (s:Gl00Src) (hc:OkB s.code) (h0:0≤s.at_):0≤(Z3 s).1∧(Z3 s).1≤255:=by
  have hb:∀ x:Int,0≤IntKind.wrap .i64 (bitsOf .and .u64 x 255)∧IntKind.wrap .i64 (bitsOf .and .u64 x 255)≤255:=fun x=>by
    have q:=X9Z x
    rw [XB (by omega) (by omega)];exact q
  unfold Z3
  by_cases h1:s.at_ < (s.code.length:Int)
  · have hm:s.code.getD s.at_.toNat default∈s.code:=by
      rw [List.getD_eq_getElem?_getD,List.getElem?_eq_getElem (show s.at_.toNat < s.code.length by omega)];exact List.getElem_mem _
    have q:=hc _ hm
    have e:IntKind.wrap .i64 (s.code.getD s.at_.toNat default)=s.code.getD s.at_.toNat default:=XB (by omega) (by omega)
    rw [decide_eq_true h1,cond_true,e]
    cases decide (IntKind.wrap .i64 (s.at_ + 1)≤(s.code.length:Int)) with
    | true=>exact ⟨q.1,by have:=q.2;show s.code.getD s.at_.toNat default≤255;omega⟩
    | false=>exact hb _
  · rw [decide_eq_false h1,cond_false]
    cases decide (IntKind.wrap .i64 (s.at_ + 1)≤(s.code.length:Int)) with
    | true=>exact ⟨Int.le_refl 0,by show (0:Int)≤255;omega⟩
    | false=>exact hb _
theorem Z2G (Yv:(List Gv)) (Yw:(List (List Int))) (w3:(List Gv)) (w4:(List (List Int))) (Yf:Gl00Src) (hp0:Yf.code.length≤1073741824) (hp1:0≤Yf.at_) (hp2:Yf.at_≤1152921504606846976)  : Xk prog 99 [.box 27 [.sl (Yv.map Gv.c), .sl (Yw.map (cL (cI .i64)))], .box 27 [.nils, .nils], .box 134 [.sl (Yf.code.map (cI .u8)), .i .i64 Yf.at_, .i .u64 Yf.seed], .vec 32 3 (w3.map Gv.c) false, .nest 60 (w4.map fun l=>l.map (cI .i64)) false, .box 27 [.own 3, .own 4]] [.ptr 2 0 0] (.i .i64 ((Z3 Yf).1)) [.box 27 [.sl (Yv.map Gv.c), .sl (Yw.map (cL (cI .i64)))], .box 27 [.nils, .nils], .box 134 [.sl (Yf.code.map (cI .u8)), .i .i64 ((Z3 Yf).2.1), .i .u64 ((Z3 Yf).2.2)], .vec 32 3 (w3.map Gv.c) false, .nest 60 (w4.map fun l=>l.map (cI .i64)) false, .box 27 [.own 3, .own 4]]:=by
 have p {a C} (s:Scr a C):=sK [9,9]<|sZ (cI .u8) Yf.code<|s
 cases h0:(decide (Yf.at_ < (Yf.code.length:Int))) with
 | true =>
  have gh0:=odt h0
  have y0:(0:Int)≤Yf.at_:=by clear p;exact (by assumption)
  have y1:Yf.at_ < (Yf.code.length:Int):=by clear p;exact (by assumption)
  have q {a C} (s:Scr a C):=p (sB h0<|sK [8,8]<|sG (cI .u8) Yf.code Yf.at_ y0 y1<|sW .i64 (Yf.code.getD Yf.at_.toNat default)<|sW .i64 (Yf.at_ + 1)<|sW .u64 (Yf.seed * 6364136223846793005)<|sW .u64 (IntKind.wrap .i64 (Yf.code.getD Yf.at_.toNat default))<|sW .u64 ((IntKind.wrap .u64 (Yf.seed * 6364136223846793005)) + (IntKind.wrap .u64 (IntKind.wrap .i64 (Yf.code.getD Yf.at_.toNat default))))<|sM (show IntKind.wrap .u64 ((IntKind.wrap .u64 ((IntKind.wrap .u64 (Yf.seed * 6364136223846793005)) + (IntKind.wrap .u64 (IntKind.wrap .i64 (Yf.code.getD Yf.at_.toNat default))))) + 1442695040888963407)=(Zj Yf) from rfl)<|sK [9,9]<|sZ (cI .u8) Yf.code<|s)
  clear p
  cases h1:(decide ((IntKind.wrap .i64 (Yf.at_ + 1))≤(Yf.code.length:Int))) with
  | true =>
   have gh1:=odt h1
   refine X12 (EpOk 6) Zb (c:=X0 f99) [.box 27 [.sl (Yv.map Gv.c), .sl (Yw.map (cL (cI .i64)))], .box 27 [.nils, .nils], .box 134 [.sl (Yf.code.map (cI .u8)), .i .i64 Yf.at_, .i .u64 Yf.seed], .vec 32 3 (w3.map Gv.c) false, .nest 60 (w4.map fun l=>l.map (cI .i64)) false, .box 27 [.own 3, .own 4]] [] (.i .i64 (IntKind.wrap .i64 (Yf.code.getD Yf.at_.toNat default))) [.box 27 [.sl (Yv.map Gv.c), .sl (Yw.map (cL (cI .i64)))], .box 27 [.nils, .nils], .box 134 [.sl (Yf.code.map (cI .u8)), .i .i64 (IntKind.wrap .i64 (Yf.at_ + 1)), .i .u64 (Zj Yf)], .vec 32 3 (w3.map Gv.c) false, .nest 60 (w4.map fun l=>l.map (cI .i64)) false, .box 27 [.own 3, .own 4]] func99 (q (sB h1<|sK [] sN)) rfl (by kernel_rfl) (by kernel_rfl) ?_ ?_
   · simp only [Z3,h0,h1,cond_true]
   · simp [Z3,h0,h1]
  | false =>
   have gh1:=odf h1
   refine X12 (EpOk 6) Zb (c:=X0 f99) [.box 27 [.sl (Yv.map Gv.c), .sl (Yw.map (cL (cI .i64)))], .box 27 [.nils, .nils], .box 134 [.sl (Yf.code.map (cI .u8)), .i .i64 Yf.at_, .i .u64 Yf.seed], .vec 32 3 (w3.map Gv.c) false, .nest 60 (w4.map fun l=>l.map (cI .i64)) false, .box 27 [.own 3, .own 4]] [] (.i .i64 (IntKind.wrap .i64 (bitsOf .and .u64 (Int.fdiv (Zj Yf) (2 ^ (min (Int.toNat 40) (IntKind.bits .u64)))) 255))) [.box 27 [.sl (Yv.map Gv.c), .sl (Yw.map (cL (cI .i64)))], .box 27 [.nils, .nils], .box 134 [.sl (Yf.code.map (cI .u8)), .i .i64 (IntKind.wrap .i64 (Yf.at_ + 1)), .i .u64 (Zj Yf)], .vec 32 3 (w3.map Gv.c) false, .nest 60 (w4.map fun l=>l.map (cI .i64)) false, .box 27 [.own 3, .own 4]] func99 (q (sB h1<|sC (show (0:Int)≤40 from (by decide))<|sQ (Int.fdiv (Zj Yf) (2 ^ (min (Int.toNat 40) (IntKind.bits .u64))))<|sQ (bitsOf .and .u64 (Int.fdiv (Zj Yf) (2 ^ (min (Int.toNat 40) (IntKind.bits .u64)))) 255)<|sW .i64 (bitsOf .and .u64 (Int.fdiv (Zj Yf) (2 ^ (min (Int.toNat 40) (IntKind.bits .u64)))) 255)<|sK [] sN)) rfl (by kernel_rfl) (by kernel_rfl) ?_ ?_
   · simp only [Z3,h0,h1,cond_true,cond_false]
   · simp [Z3,h0,h1]
 | false =>
  have gh0:=odf h0
  have q {a C} (s:Scr a C):=p (sB h0<|sW .i64 (Yf.at_ + 1)<|sW .u64 (Yf.seed * 6364136223846793005)<|sM (show IntKind.wrap .u64 0=0 from rfl)<|sW .u64 ((IntKind.wrap .u64 (Yf.seed * 6364136223846793005)) + 0)<|sW .u64 ((IntKind.wrap .u64 ((IntKind.wrap .u64 (Yf.seed * 6364136223846793005)) + 0)) + 1442695040888963407)<|sK [9,9]<|sZ (cI .u8) Yf.code<|s)
  clear p
  cases h1:(decide ((IntKind.wrap .i64 (Yf.at_ + 1))≤(Yf.code.length:Int))) with
  | true =>
   have gh1:=odt h1
   refine X12 (EpOk 6) Zb (c:=X0 f99) [.box 27 [.sl (Yv.map Gv.c), .sl (Yw.map (cL (cI .i64)))], .box 27 [.nils, .nils], .box 134 [.sl (Yf.code.map (cI .u8)), .i .i64 Yf.at_, .i .u64 Yf.seed], .vec 32 3 (w3.map Gv.c) false, .nest 60 (w4.map fun l=>l.map (cI .i64)) false, .box 27 [.own 3, .own 4]] [] (.i .i64 0) [.box 27 [.sl (Yv.map Gv.c), .sl (Yw.map (cL (cI .i64)))], .box 27 [.nils, .nils], .box 134 [.sl (Yf.code.map (cI .u8)), .i .i64 (IntKind.wrap .i64 (Yf.at_ + 1)), .i .u64 (IntKind.wrap .u64 ((IntKind.wrap .u64 ((IntKind.wrap .u64 (Yf.seed * 6364136223846793005)) + 0)) + 1442695040888963407))], .vec 32 3 (w3.map Gv.c) false, .nest 60 (w4.map fun l=>l.map (cI .i64)) false, .box 27 [.own 3, .own 4]] func99 (q (sB h1<|sK [] sN)) rfl (by kernel_rfl) (by kernel_rfl) ?_ ?_
   · simp only [Z3,h0,h1,cond_true,cond_false]
   · simp [Z3,h0,h1]
  | false =>
   have gh1:=odf h1
   refine X12 (EpOk 6) Zb (c:=X0 f99) [.box 27 [.sl (Yv.map Gv.c), .sl (Yw.map (cL (cI .i64)))], .box 27 [.nils, .nils], .box 134 [.sl (Yf.code.map (cI .u8)), .i .i64 Yf.at_, .i .u64 Yf.seed], .vec 32 3 (w3.map Gv.c) false, .nest 60 (w4.map fun l=>l.map (cI .i64)) false, .box 27 [.own 3, .own 4]] [] (.i .i64 (IntKind.wrap .i64 (bitsOf .and .u64 (Int.fdiv (IntKind.wrap .u64 ((IntKind.wrap .u64 ((IntKind.wrap .u64 (Yf.seed * 6364136223846793005)) + 0)) + 1442695040888963407)) (2 ^ (min (Int.toNat 40) (IntKind.bits .u64)))) 255))) [.box 27 [.sl (Yv.map Gv.c), .sl (Yw.map (cL (cI .i64)))], .box 27 [.nils, .nils], .box 134 [.sl (Yf.code.map (cI .u8)), .i .i64 (IntKind.wrap .i64 (Yf.at_ + 1)), .i .u64 (IntKind.wrap .u64 ((IntKind.wrap .u64 ((IntKind.wrap .u64 (Yf.seed * 6364136223846793005)) + 0)) + 1442695040888963407))], .vec 32 3 (w3.map Gv.c) false, .nest 60 (w4.map fun l=>l.map (cI .i64)) false, .box 27 [.own 3, .own 4]] func99 (q (sB h1<|sC (show (0:Int)≤40 from (by decide))<|sQ (Int.fdiv (IntKind.wrap .u64 ((IntKind.wrap .u64 ((IntKind.wrap .u64 (Yf.seed * 6364136223846793005)) + 0)) + 1442695040888963407)) (2 ^ (min (Int.toNat 40) (IntKind.bits .u64))))<|sQ (bitsOf .and .u64 (Int.fdiv (IntKind.wrap .u64 ((IntKind.wrap .u64 ((IntKind.wrap .u64 (Yf.seed * 6364136223846793005)) + 0)) + 1442695040888963407)) (2 ^ (min (Int.toNat 40) (IntKind.bits .u64)))) 255)<|sW .i64 (bitsOf .and .u64 (Int.fdiv (IntKind.wrap .u64 ((IntKind.wrap .u64 ((IntKind.wrap .u64 (Yf.seed * 6364136223846793005)) + 0)) + 1442695040888963407)) (2 ^ (min (Int.toNat 40) (IntKind.bits .u64)))) 255)<|sK [] sN)) rfl (by kernel_rfl) (by kernel_rfl) ?_ ?_
   · simp only [Z3,h0,h1,cond_false]
   · simp [Z3,h0,h1]
def ZY (Yf:Gl00Src):Int:=(IntKind.wrap .i64 ((IntKind.wrap .i64 ((Z3 Yf).1 * 256)) + (Z3 (⟨Yf.code,(Z3 Yf).2.1,(Z3 Yf).2.2⟩:Gl00Src)).1))
def Z0 (Yf:Gl00Src) (n_1:Int):Int × Int × Int:=(cond (decide (n_1≤1))
  (0,Yf.at_,Yf.seed)
  (cond (decide (n_1 > 200))
    ((Int.tmod (ZY Yf) n_1),(Z3 (⟨Yf.code,(Z3 Yf).2.1,(Z3 Yf).2.2⟩:Gl00Src)).2.1,(Z3 (⟨Yf.code,(Z3 Yf).2.1,(Z3 Yf).2.2⟩:Gl00Src)).2.2)
    ((Int.tmod ((Z3 Yf).1) n_1),(Z3 Yf).2.1,(Z3 Yf).2.2)))
theorem Z48 (s:Gl00Src) (n:Int):0≤s.at_∧s.at_≤1152921504606846970→s.at_≤(Z0 s n).2.1∧(Z0 s n).2.1≤s.at_ + 2:=by
  intro h
  have q1:=Z47 s ⟨h.1,by omega⟩
  have q2:=Z47 (⟨s.code,(Z3 s).2.1,(Z3 s).2.2⟩:Gl00Src) ⟨by show 0≤(Z3 s).2.1;omega,by show (Z3 s).2.1≤_;omega⟩
  have q2:_=(Z3 s).2.1 + 1:=q2
  unfold Z0
  cases decide (n≤1) with
  | true=>rw [cond_true];show s.at_≤s.at_∧s.at_≤s.at_ + 2;omega
  | false =>
    rw [cond_false]
    cases decide (n > 200) with
    | true=>rw [cond_true];show s.at_≤(Z3 (⟨s.code,(Z3 s).2.1,(Z3 s).2.2⟩:Gl00Src)).2.1∧(Z3 (⟨s.code,(Z3 s).2.1,(Z3 s).2.2⟩:Gl00Src)).2.1≤_;omega
    | false=>rw [cond_false];show s.at_≤(Z3 s).2.1∧(Z3 s).2.1≤_;rw [q1];omega
theorem Z5z (s:Gl00Src) (n:Int) (hc:OkB s.code) (h0:0≤s.at_) (hn:1≤n) (h2:n≤200):0≤(Z0 s n).1∧(Z0 s n).1 < n:=by
  have q:=Z6L s hc h0
  unfold Z0
  by_cases h1:n≤1
  · rw [decide_eq_true h1,cond_true];exact ⟨Int.le_refl 0,by show 0 < n;omega⟩
  · rw [decide_eq_false h1,cond_false,decide_eq_false (by omega),cond_false]
    exact ⟨Int.tmod_nonneg _ q.1,Int.tmod_lt_of_pos _ (by omega)⟩
theorem Z4b (Yv:(List Gv)) (Yw:(List (List Int))) (w3:(List Gv)) (w4:(List (List Int))) (Yf:Gl00Src) (n_1:Int) (hp0:Yf.code.length≤1073741824) (hp1:0≤Yf.at_) (hp2:Yf.at_≤1152921504606846970)  : Xk prog 55 [.box 27 [.sl (Yv.map Gv.c), .sl (Yw.map (cL (cI .i64)))], .box 27 [.nils, .nils], .box 134 [.sl (Yf.code.map (cI .u8)), .i .i64 Yf.at_, .i .u64 Yf.seed], .vec 32 3 (w3.map Gv.c) false, .nest 60 (w4.map fun l=>l.map (cI .i64)) false, .box 27 [.own 3, .own 4]] [.ptr 2 0 0, .i .i64 n_1] (.i .i64 ((Z0 Yf n_1).1)) [.box 27 [.sl (Yv.map Gv.c), .sl (Yw.map (cL (cI .i64)))], .box 27 [.nils, .nils], .box 134 [.sl (Yf.code.map (cI .u8)), .i .i64 ((Z0 Yf n_1).2.1), .i .u64 ((Z0 Yf n_1).2.2)], .vec 32 3 (w3.map Gv.c) false, .nest 60 (w4.map fun l=>l.map (cI .i64)) false, .box 27 [.own 3, .own 4]]:=by
 cases h0:(decide (n_1≤1)) with
 | true =>
  have gh0:=odt h0
  refine X12 (EpOk 6) Zb (c:=X0 f55) [.box 27 [.sl (Yv.map Gv.c), .sl (Yw.map (cL (cI .i64)))], .box 27 [.nils, .nils], .box 134 [.sl (Yf.code.map (cI .u8)), .i .i64 Yf.at_, .i .u64 Yf.seed], .vec 32 3 (w3.map Gv.c) false, .nest 60 (w4.map fun l=>l.map (cI .i64)) false, .box 27 [.own 3, .own 4]] [] (.i .i64 0) [.box 27 [.sl (Yv.map Gv.c), .sl (Yw.map (cL (cI .i64)))], .box 27 [.nils, .nils], .box 134 [.sl (Yf.code.map (cI .u8)), .i .i64 Yf.at_, .i .u64 Yf.seed], .vec 32 3 (w3.map Gv.c) false, .nest 60 (w4.map fun l=>l.map (cI .i64)) false, .box 27 [.own 3, .own 4]] func55 (sB h0<|sK [] sN) rfl (by kernel_rfl) (by kernel_rfl) ?_ ?_
  · simp only [Z0,h0,cond_true]
  · simp [Z0,h0]
 | false =>
  have gh0:=odf h0
  have y0:Yf.at_≤1152921504606846976:=(by omega)
  have l1:=(Z47 Yf)
  have p {a C} (s:Scr a C):=sB h0<|sS (Z2G Yv Yw w3 w4 Yf hp0 hp1 y0)<|s
  cases h1:(decide (n_1 > 200)) with
  | true =>
   have gh1:=odt h1
   have y1:(⟨Yf.code,(Z3 Yf).2.1,(Z3 Yf).2.2⟩:Gl00Src).code.length≤1073741824:=by clear p;exact (by assumption)
   have y2:0≤(⟨Yf.code,(Z3 Yf).2.1,(Z3 Yf).2.2⟩:Gl00Src).at_:=by clear p;exact (by simp_all<;>omega)
   have y3:(⟨Yf.code,(Z3 Yf).2.1,(Z3 Yf).2.2⟩:Gl00Src).at_≤1152921504606846976:=by clear p;exact (by simp_all<;>omega)
   have l2:=(Z47 (⟨Yf.code,(Z3 Yf).2.1,(Z3 Yf).2.2⟩:Gl00Src))
   have y4:n_1≠0:=by clear p;exact (by omega)
   refine X12 (EpOk 6) Zb (c:=X0 f55) [.box 27 [.sl (Yv.map Gv.c), .sl (Yw.map (cL (cI .i64)))], .box 27 [.nils, .nils], .box 134 [.sl (Yf.code.map (cI .u8)), .i .i64 Yf.at_, .i .u64 Yf.seed], .vec 32 3 (w3.map Gv.c) false, .nest 60 (w4.map fun l=>l.map (cI .i64)) false, .box 27 [.own 3, .own 4]] [] (.i .i64 (Int.tmod (ZY Yf) n_1)) [.box 27 [.sl (Yv.map Gv.c), .sl (Yw.map (cL (cI .i64)))], .box 27 [.nils, .nils], .box 134 [.sl (Yf.code.map (cI .u8)), .i .i64 ((Z3 (⟨Yf.code,(Z3 Yf).2.1,(Z3 Yf).2.2⟩:Gl00Src)).2.1), .i .u64 ((Z3 (⟨Yf.code,(Z3 Yf).2.1,(Z3 Yf).2.2⟩:Gl00Src)).2.2)], .vec 32 3 (w3.map Gv.c) false, .nest 60 (w4.map fun l=>l.map (cI .i64)) false, .box 27 [.own 3, .own 4]] func55 (p (sB h1<|sW .i64 ((Z3 Yf).1 * 256)<|sS (Z2G Yv Yw w3 w4 (⟨Yf.code,(Z3 Yf).2.1,(Z3 Yf).2.2⟩:Gl00Src) y1 y2 y3)<|sM (show IntKind.wrap .i64 ((IntKind.wrap .i64 ((Z3 Yf).1 * 256)) + (Z3 (⟨Yf.code,(Z3 Yf).2.1,(Z3 Yf).2.2⟩:Gl00Src)).1)=(ZY Yf) from rfl)<|sC y4<|sQ (Int.tmod (ZY Yf) n_1)<|sK [] sN)) rfl (by kernel_rfl) (by kernel_rfl) ?_ ?_
   · simp only [Z0,h0,h1,cond_true,cond_false]
   · simp [Z0,h0,h1]
  | false =>
   have gh1:=odf h1
   have y1:n_1≠0:=by clear p;exact (by omega)
   refine X12 (EpOk 6) Zb (c:=X0 f55) [.box 27 [.sl (Yv.map Gv.c), .sl (Yw.map (cL (cI .i64)))], .box 27 [.nils, .nils], .box 134 [.sl (Yf.code.map (cI .u8)), .i .i64 Yf.at_, .i .u64 Yf.seed], .vec 32 3 (w3.map Gv.c) false, .nest 60 (w4.map fun l=>l.map (cI .i64)) false, .box 27 [.own 3, .own 4]] [] (.i .i64 (Int.tmod ((Z3 Yf).1) n_1)) [.box 27 [.sl (Yv.map Gv.c), .sl (Yw.map (cL (cI .i64)))], .box 27 [.nils, .nils], .box 134 [.sl (Yf.code.map (cI .u8)), .i .i64 ((Z3 Yf).2.1), .i .u64 ((Z3 Yf).2.2)], .vec 32 3 (w3.map Gv.c) false, .nest 60 (w4.map fun l=>l.map (cI .i64)) false, .box 27 [.own 3, .own 4]] func55 (p (sB h1<|sC y1<|sQ (Int.tmod ((Z3 Yf).1) n_1)<|sK [] sN)) rfl (by kernel_rfl) (by kernel_rfl) ?_ ?_
   · simp only [Z0,h0,h1,cond_false]
   · simp [Z0,h0,h1]
theorem Z2H (Yv:(List Gv)) (Yw:(List (List Int))) (w3:(List Gv)) (w4:(List (List Int))) (YO:Nat) (YP:Nat) (YQ:Nat) (Yf:Gl00Src) (hp0:Yf.code.length≤1073741824) (hp1:0≤Yf.at_) (hp2:Yf.at_≤1152921504606846976)  : Xk prog 99 [.box 27 [.sl (Yv.map Gv.c), .sl (Yw.map (cL (cI .i64)))], .box 27 [.nils, .nils], .box 134 [.sl (Yf.code.map (cI .u8)), .i .i64 Yf.at_, .i .u64 Yf.seed], .vec 32 3 (w3.map Gv.c) false, .nest 60 (w4.map fun l=>l.map (cI .i64)) false, .box 27 [.own 3, .own 4], .box 32 [.f .f32 YO, .f .f32 YP, .f .f32 YQ]] [.ptr 2 0 0] (.i .i64 ((Z3 Yf).1)) [.box 27 [.sl (Yv.map Gv.c), .sl (Yw.map (cL (cI .i64)))], .box 27 [.nils, .nils], .box 134 [.sl (Yf.code.map (cI .u8)), .i .i64 ((Z3 Yf).2.1), .i .u64 ((Z3 Yf).2.2)], .vec 32 3 (w3.map Gv.c) false, .nest 60 (w4.map fun l=>l.map (cI .i64)) false, .box 27 [.own 3, .own 4], .box 32 [.f .f32 YO, .f .f32 YP, .f .f32 YQ]]:=by
 have p {a C} (s:Scr a C):=sK [9,9]<|sZ (cI .u8) Yf.code<|s
 cases h0:(decide (Yf.at_ < (Yf.code.length:Int))) with
 | true =>
  have gh0:=odt h0
  have y0:(0:Int)≤Yf.at_:=by clear p;exact (by assumption)
  have y1:Yf.at_ < (Yf.code.length:Int):=by clear p;exact (by assumption)
  have q {a C} (s:Scr a C):=p (sB h0<|sK [8,8]<|sG (cI .u8) Yf.code Yf.at_ y0 y1<|sW .i64 (Yf.code.getD Yf.at_.toNat default)<|sW .i64 (Yf.at_ + 1)<|sW .u64 (Yf.seed * 6364136223846793005)<|sW .u64 (IntKind.wrap .i64 (Yf.code.getD Yf.at_.toNat default))<|sW .u64 ((IntKind.wrap .u64 (Yf.seed * 6364136223846793005)) + (IntKind.wrap .u64 (IntKind.wrap .i64 (Yf.code.getD Yf.at_.toNat default))))<|sM (show IntKind.wrap .u64 ((IntKind.wrap .u64 ((IntKind.wrap .u64 (Yf.seed * 6364136223846793005)) + (IntKind.wrap .u64 (IntKind.wrap .i64 (Yf.code.getD Yf.at_.toNat default))))) + 1442695040888963407)=(Zj Yf) from rfl)<|sK [9,9]<|sZ (cI .u8) Yf.code<|s)
  clear p
  cases h1:(decide ((IntKind.wrap .i64 (Yf.at_ + 1))≤(Yf.code.length:Int))) with
  | true =>
   have gh1:=odt h1
   refine X12 (EpOk 7) Zb (c:=X0 f99) [.box 27 [.sl (Yv.map Gv.c), .sl (Yw.map (cL (cI .i64)))], .box 27 [.nils, .nils], .box 134 [.sl (Yf.code.map (cI .u8)), .i .i64 Yf.at_, .i .u64 Yf.seed], .vec 32 3 (w3.map Gv.c) false, .nest 60 (w4.map fun l=>l.map (cI .i64)) false, .box 27 [.own 3, .own 4], .box 32 [.f .f32 YO, .f .f32 YP, .f .f32 YQ]] [] (.i .i64 (IntKind.wrap .i64 (Yf.code.getD Yf.at_.toNat default))) [.box 27 [.sl (Yv.map Gv.c), .sl (Yw.map (cL (cI .i64)))], .box 27 [.nils, .nils], .box 134 [.sl (Yf.code.map (cI .u8)), .i .i64 (IntKind.wrap .i64 (Yf.at_ + 1)), .i .u64 (Zj Yf)], .vec 32 3 (w3.map Gv.c) false, .nest 60 (w4.map fun l=>l.map (cI .i64)) false, .box 27 [.own 3, .own 4], .box 32 [.f .f32 YO, .f .f32 YP, .f .f32 YQ]] func99 (q (sB h1<|sK [] sN)) rfl (by kernel_rfl) (by kernel_rfl) ?_ ?_
   · simp only [Z3,h0,h1,cond_true]
   · simp [Z3,h0,h1]
  | false =>
   have gh1:=odf h1
   refine X12 (EpOk 7) Zb (c:=X0 f99) [.box 27 [.sl (Yv.map Gv.c), .sl (Yw.map (cL (cI .i64)))], .box 27 [.nils, .nils], .box 134 [.sl (Yf.code.map (cI .u8)), .i .i64 Yf.at_, .i .u64 Yf.seed], .vec 32 3 (w3.map Gv.c) false, .nest 60 (w4.map fun l=>l.map (cI .i64)) false, .box 27 [.own 3, .own 4], .box 32 [.f .f32 YO, .f .f32 YP, .f .f32 YQ]] [] (.i .i64 (IntKind.wrap .i64 (bitsOf .and .u64 (Int.fdiv (Zj Yf) (2 ^ (min (Int.toNat 40) (IntKind.bits .u64)))) 255))) [.box 27 [.sl (Yv.map Gv.c), .sl (Yw.map (cL (cI .i64)))], .box 27 [.nils, .nils], .box 134 [.sl (Yf.code.map (cI .u8)), .i .i64 (IntKind.wrap .i64 (Yf.at_ + 1)), .i .u64 (Zj Yf)], .vec 32 3 (w3.map Gv.c) false, .nest 60 (w4.map fun l=>l.map (cI .i64)) false, .box 27 [.own 3, .own 4], .box 32 [.f .f32 YO, .f .f32 YP, .f .f32 YQ]] func99 (q (sB h1<|sC (show (0:Int)≤40 from (by decide))<|sQ (Int.fdiv (Zj Yf) (2 ^ (min (Int.toNat 40) (IntKind.bits .u64))))<|sQ (bitsOf .and .u64 (Int.fdiv (Zj Yf) (2 ^ (min (Int.toNat 40) (IntKind.bits .u64)))) 255)<|sW .i64 (bitsOf .and .u64 (Int.fdiv (Zj Yf) (2 ^ (min (Int.toNat 40) (IntKind.bits .u64)))) 255)<|sK [] sN)) rfl (by kernel_rfl) (by kernel_rfl) ?_ ?_
   · simp only [Z3,h0,h1,cond_true,cond_false]
   · simp [Z3,h0,h1]
 | false =>
  have gh0:=odf h0
  have q {a C} (s:Scr a C):=p (sB h0<|sW .i64 (Yf.at_ + 1)<|sW .u64 (Yf.seed * 6364136223846793005)<|sM (show IntKind.wrap .u64 0=0 from rfl)<|sW .u64 ((IntKind.wrap .u64 (Yf.seed * 6364136223846793005)) + 0)<|sW .u64 ((IntKind.wrap .u64 ((IntKind.wrap .u64 (Yf.seed * 6364136223846793005)) + 0)) + 1442695040888963407)<|sK [9,9]<|sZ (cI .u8) Yf.code<|s)
  clear p
  cases h1:(decide ((IntKind.wrap .i64 (Yf.at_ + 1))≤(Yf.code.length:Int))) with
  | true =>
   have gh1:=odt h1
   refine X12 (EpOk 7) Zb (c:=X0 f99) [.box 27 [.sl (Yv.map Gv.c), .sl (Yw.map (cL (cI .i64)))], .box 27 [.nils, .nils], .box 134 [.sl (Yf.code.map (cI .u8)), .i .i64 Yf.at_, .i .u64 Yf.seed], .vec 32 3 (w3.map Gv.c) false, .nest 60 (w4.map fun l=>l.map (cI .i64)) false, .box 27 [.own 3, .own 4], .box 32 [.f .f32 YO, .f .f32 YP, .f .f32 YQ]] [] (.i .i64 0) [.box 27 [.sl (Yv.map Gv.c), .sl (Yw.map (cL (cI .i64)))], .box 27 [.nils, .nils], .box 134 [.sl (Yf.code.map (cI .u8)), .i .i64 (IntKind.wrap .i64 (Yf.at_ + 1)), .i .u64 (IntKind.wrap .u64 ((IntKind.wrap .u64 ((IntKind.wrap .u64 (Yf.seed * 6364136223846793005)) + 0)) + 1442695040888963407))], .vec 32 3 (w3.map Gv.c) false, .nest 60 (w4.map fun l=>l.map (cI .i64)) false, .box 27 [.own 3, .own 4], .box 32 [.f .f32 YO, .f .f32 YP, .f .f32 YQ]] func99 (q (sB h1<|sK [] sN)) rfl (by kernel_rfl) (by kernel_rfl) ?_ ?_
   · simp only [Z3,h0,h1,cond_true,cond_false]
   · simp [Z3,h0,h1]
  | false =>
   have gh1:=odf h1
   refine X12 (EpOk 7) Zb (c:=X0 f99) [.box 27 [.sl (Yv.map Gv.c), .sl (Yw.map (cL (cI .i64)))], .box 27 [.nils, .nils], .box 134 [.sl (Yf.code.map (cI .u8)), .i .i64 Yf.at_, .i .u64 Yf.seed], .vec 32 3 (w3.map Gv.c) false, .nest 60 (w4.map fun l=>l.map (cI .i64)) false, .box 27 [.own 3, .own 4], .box 32 [.f .f32 YO, .f .f32 YP, .f .f32 YQ]] [] (.i .i64 (IntKind.wrap .i64 (bitsOf .and .u64 (Int.fdiv (IntKind.wrap .u64 ((IntKind.wrap .u64 ((IntKind.wrap .u64 (Yf.seed * 6364136223846793005)) + 0)) + 1442695040888963407)) (2 ^ (min (Int.toNat 40) (IntKind.bits .u64)))) 255))) [.box 27 [.sl (Yv.map Gv.c), .sl (Yw.map (cL (cI .i64)))], .box 27 [.nils, .nils], .box 134 [.sl (Yf.code.map (cI .u8)), .i .i64 (IntKind.wrap .i64 (Yf.at_ + 1)), .i .u64 (IntKind.wrap .u64 ((IntKind.wrap .u64 ((IntKind.wrap .u64 (Yf.seed * 6364136223846793005)) + 0)) + 1442695040888963407))], .vec 32 3 (w3.map Gv.c) false, .nest 60 (w4.map fun l=>l.map (cI .i64)) false, .box 27 [.own 3, .own 4], .box 32 [.f .f32 YO, .f .f32 YP, .f .f32 YQ]] func99 (q (sB h1<|sC (show (0:Int)≤40 from (by decide))<|sQ (Int.fdiv (IntKind.wrap .u64 ((IntKind.wrap .u64 ((IntKind.wrap .u64 (Yf.seed * 6364136223846793005)) + 0)) + 1442695040888963407)) (2 ^ (min (Int.toNat 40) (IntKind.bits .u64))))<|sQ (bitsOf .and .u64 (Int.fdiv (IntKind.wrap .u64 ((IntKind.wrap .u64 ((IntKind.wrap .u64 (Yf.seed * 6364136223846793005)) + 0)) + 1442695040888963407)) (2 ^ (min (Int.toNat 40) (IntKind.bits .u64)))) 255)<|sW .i64 (bitsOf .and .u64 (Int.fdiv (IntKind.wrap .u64 ((IntKind.wrap .u64 ((IntKind.wrap .u64 (Yf.seed * 6364136223846793005)) + 0)) + 1442695040888963407)) (2 ^ (min (Int.toNat 40) (IntKind.bits .u64)))) 255)<|sK [] sN)) rfl (by kernel_rfl) (by kernel_rfl) ?_ ?_
   · simp only [Z3,h0,h1,cond_false]
   · simp [Z3,h0,h1]
theorem Z2I (Yv:(List Gv)) (Yw:(List (List Int))) (w3:(List Gv)) (w4:(List (List Int))) (YO:Nat) (YP:Nat) (YQ:Nat) (Yf:Gl00Src) (n_1:Int) (hp0:Yf.code.length≤1073741824) (hp1:0≤Yf.at_) (hp2:Yf.at_≤1152921504606846970)  : Xk prog 55 [.box 27 [.sl (Yv.map Gv.c), .sl (Yw.map (cL (cI .i64)))], .box 27 [.nils, .nils], .box 134 [.sl (Yf.code.map (cI .u8)), .i .i64 Yf.at_, .i .u64 Yf.seed], .vec 32 3 (w3.map Gv.c) false, .nest 60 (w4.map fun l=>l.map (cI .i64)) false, .box 27 [.own 3, .own 4], .box 32 [.f .f32 YO, .f .f32 YP, .f .f32 YQ]] [.ptr 2 0 0, .i .i64 n_1] (.i .i64 ((Z0 Yf n_1).1)) [.box 27 [.sl (Yv.map Gv.c), .sl (Yw.map (cL (cI .i64)))], .box 27 [.nils, .nils], .box 134 [.sl (Yf.code.map (cI .u8)), .i .i64 ((Z0 Yf n_1).2.1), .i .u64 ((Z0 Yf n_1).2.2)], .vec 32 3 (w3.map Gv.c) false, .nest 60 (w4.map fun l=>l.map (cI .i64)) false, .box 27 [.own 3, .own 4], .box 32 [.f .f32 YO, .f .f32 YP, .f .f32 YQ]]:=by
 cases h0:(decide (n_1≤1)) with
 | true =>
  have gh0:=odt h0
  refine X12 (EpOk 7) Zb (c:=X0 f55) [.box 27 [.sl (Yv.map Gv.c), .sl (Yw.map (cL (cI .i64)))], .box 27 [.nils, .nils], .box 134 [.sl (Yf.code.map (cI .u8)), .i .i64 Yf.at_, .i .u64 Yf.seed], .vec 32 3 (w3.map Gv.c) false, .nest 60 (w4.map fun l=>l.map (cI .i64)) false, .box 27 [.own 3, .own 4], .box 32 [.f .f32 YO, .f .f32 YP, .f .f32 YQ]] [] (.i .i64 0) [.box 27 [.sl (Yv.map Gv.c), .sl (Yw.map (cL (cI .i64)))], .box 27 [.nils, .nils], .box 134 [.sl (Yf.code.map (cI .u8)), .i .i64 Yf.at_, .i .u64 Yf.seed], .vec 32 3 (w3.map Gv.c) false, .nest 60 (w4.map fun l=>l.map (cI .i64)) false, .box 27 [.own 3, .own 4], .box 32 [.f .f32 YO, .f .f32 YP, .f .f32 YQ]] func55 (sB h0<|sK [] sN) rfl (by kernel_rfl) (by kernel_rfl) ?_ ?_
  · simp only [Z0,h0,cond_true]
  · simp [Z0,h0]
 | false =>
  have gh0:=odf h0
  have y0:Yf.at_≤1152921504606846976:=(by omega)
  have l1:=(Z47 Yf)
  have p {a C} (s:Scr a C):=sB h0<|sS (Z2H Yv Yw w3 w4 YO YP YQ Yf hp0 hp1 y0)<|s
  cases h1:(decide (n_1 > 200)) with
  | true =>
   have gh1:=odt h1
   have y1:(⟨Yf.code,(Z3 Yf).2.1,(Z3 Yf).2.2⟩:Gl00Src).code.length≤1073741824:=by clear p;exact (by assumption)
   have y2:0≤(⟨Yf.code,(Z3 Yf).2.1,(Z3 Yf).2.2⟩:Gl00Src).at_:=by clear p;exact (by simp_all<;>omega)
   have y3:(⟨Yf.code,(Z3 Yf).2.1,(Z3 Yf).2.2⟩:Gl00Src).at_≤1152921504606846976:=by clear p;exact (by simp_all<;>omega)
   have l2:=(Z47 (⟨Yf.code,(Z3 Yf).2.1,(Z3 Yf).2.2⟩:Gl00Src))
   have y4:n_1≠0:=by clear p;exact (by omega)
   refine X12 (EpOk 7) Zb (c:=X0 f55) [.box 27 [.sl (Yv.map Gv.c), .sl (Yw.map (cL (cI .i64)))], .box 27 [.nils, .nils], .box 134 [.sl (Yf.code.map (cI .u8)), .i .i64 Yf.at_, .i .u64 Yf.seed], .vec 32 3 (w3.map Gv.c) false, .nest 60 (w4.map fun l=>l.map (cI .i64)) false, .box 27 [.own 3, .own 4], .box 32 [.f .f32 YO, .f .f32 YP, .f .f32 YQ]] [] (.i .i64 (Int.tmod (ZY Yf) n_1)) [.box 27 [.sl (Yv.map Gv.c), .sl (Yw.map (cL (cI .i64)))], .box 27 [.nils, .nils], .box 134 [.sl (Yf.code.map (cI .u8)), .i .i64 ((Z3 (⟨Yf.code,(Z3 Yf).2.1,(Z3 Yf).2.2⟩:Gl00Src)).2.1), .i .u64 ((Z3 (⟨Yf.code,(Z3 Yf).2.1,(Z3 Yf).2.2⟩:Gl00Src)).2.2)], .vec 32 3 (w3.map Gv.c) false, .nest 60 (w4.map fun l=>l.map (cI .i64)) false, .box 27 [.own 3, .own 4], .box 32 [.f .f32 YO, .f .f32 YP, .f .f32 YQ]] func55 (p (sB h1<|sW .i64 ((Z3 Yf).1 * 256)<|sS (Z2H Yv Yw w3 w4 YO YP YQ (⟨Yf.code,(Z3 Yf).2.1,(Z3 Yf).2.2⟩:Gl00Src) y1 y2 y3)<|sM (show IntKind.wrap .i64 ((IntKind.wrap .i64 ((Z3 Yf).1 * 256)) + (Z3 (⟨Yf.code,(Z3 Yf).2.1,(Z3 Yf).2.2⟩:Gl00Src)).1)=(ZY Yf) from rfl)<|sC y4<|sQ (Int.tmod (ZY Yf) n_1)<|sK [] sN)) rfl (by kernel_rfl) (by kernel_rfl) ?_ ?_
   · simp only [Z0,h0,h1,cond_true,cond_false]
   · simp [Z0,h0,h1]
  | false =>
   have gh1:=odf h1
   have y1:n_1≠0:=by clear p;exact (by omega)
   refine X12 (EpOk 7) Zb (c:=X0 f55) [.box 27 [.sl (Yv.map Gv.c), .sl (Yw.map (cL (cI .i64)))], .box 27 [.nils, .nils], .box 134 [.sl (Yf.code.map (cI .u8)), .i .i64 Yf.at_, .i .u64 Yf.seed], .vec 32 3 (w3.map Gv.c) false, .nest 60 (w4.map fun l=>l.map (cI .i64)) false, .box 27 [.own 3, .own 4], .box 32 [.f .f32 YO, .f .f32 YP, .f .f32 YQ]] [] (.i .i64 (Int.tmod ((Z3 Yf).1) n_1)) [.box 27 [.sl (Yv.map Gv.c), .sl (Yw.map (cL (cI .i64)))], .box 27 [.nils, .nils], .box 134 [.sl (Yf.code.map (cI .u8)), .i .i64 ((Z3 Yf).2.1), .i .u64 ((Z3 Yf).2.2)], .vec 32 3 (w3.map Gv.c) false, .nest 60 (w4.map fun l=>l.map (cI .i64)) false, .box 27 [.own 3, .own 4], .box 32 [.f .f32 YO, .f .f32 YP, .f .f32 YQ]] func55 (p (sB h1<|sC y1<|sQ (Int.tmod ((Z3 Yf).1) n_1)<|sK [] sN)) rfl (by kernel_rfl) (by kernel_rfl) ?_ ?_
   · simp only [Z0,h0,h1,cond_false]
   · simp [Z0,h0,h1]
def ZD (Y2:(List Int)) (YA:Gm):Nat→Int→Int→Int→(List Gv)→Int × Int × (List Gv)
  | 0,_,_,_,_=>default
  | k + 1,Yc,Yb,Y9,Yo=>(cond (decide (Yc < (Yo.length:Int)))
    (ZD Y2 YA k (Yc + 1) ((Z0 (⟨(Z1 Y2).code,(Z0 (⟨(Z1 Y2).code,(Z0 (⟨(Z1 Y2).code,Yb,Y9⟩:Gl00Src) 9).2.1,(Z0 (⟨(Z1 Y2).code,Yb,Y9⟩:Gl00Src) 9).2.2⟩:Gl00Src) 9).2.1,(Z0 (⟨(Z1 Y2).code,(Z0 (⟨(Z1 Y2).code,Yb,Y9⟩:Gl00Src) 9).2.1,(Z0 (⟨(Z1 Y2).code,Yb,Y9⟩:Gl00Src) 9).2.2⟩:Gl00Src) 9).2.2⟩:Gl00Src) 9).2.1) ((Z0 (⟨(Z1 Y2).code,(Z0 (⟨(Z1 Y2).code,(Z0 (⟨(Z1 Y2).code,Yb,Y9⟩:Gl00Src) 9).2.1,(Z0 (⟨(Z1 Y2).code,Yb,Y9⟩:Gl00Src) 9).2.2⟩:Gl00Src) 9).2.1,(Z0 (⟨(Z1 Y2).code,(Z0 (⟨(Z1 Y2).code,Yb,Y9⟩:Gl00Src) 9).2.1,(Z0 (⟨(Z1 Y2).code,Yb,Y9⟩:Gl00Src) 9).2.2⟩:Gl00Src) 9).2.2⟩:Gl00Src) 9).2.2) (Yo.set Yc.toNat (Z19 (Yo.getD Yc.toNat default) (⟨(fop .quo .f32 (X7 .f32 (IntKind.wrap .i64 ((Z0 (⟨(Z1 Y2).code,Yb,Y9⟩:Gl00Src) 9).1 - 4))) 1090519040),(fop .quo .f32 (X7 .f32 (IntKind.wrap .i64 ((Z0 (⟨(Z1 Y2).code,(Z0 (⟨(Z1 Y2).code,Yb,Y9⟩:Gl00Src) 9).2.1,(Z0 (⟨(Z1 Y2).code,Yb,Y9⟩:Gl00Src) 9).2.2⟩:Gl00Src) 9).1 - 4))) 1090519040),(fop .quo .f32 (X7 .f32 (IntKind.wrap .i64 ((Z0 (⟨(Z1 Y2).code,(Z0 (⟨(Z1 Y2).code,(Z0 (⟨(Z1 Y2).code,Yb,Y9⟩:Gl00Src) 9).2.1,(Z0 (⟨(Z1 Y2).code,Yb,Y9⟩:Gl00Src) 9).2.2⟩:Gl00Src) 9).2.1,(Z0 (⟨(Z1 Y2).code,(Z0 (⟨(Z1 Y2).code,Yb,Y9⟩:Gl00Src) 9).2.1,(Z0 (⟨(Z1 Y2).code,Yb,Y9⟩:Gl00Src) 9).2.2⟩:Gl00Src) 9).2.2⟩:Gl00Src) 9).1 - 4))) 1090519040)⟩:Gv))))
    (Yb,Y9,Yo))
def Z2W (Y2:(List Int)) (YA:Gm) (r:Int × Int × (List Gv)):Ex × St:=((.exit 0),⟨.sl (Y2.map (cI .u8)) :: .agg [.sl (YA.Pq.map Gv.c), .sl (YA.Tr.map (cL (cI .i64)))] :: .any :: .ptr 0 0 0 :: .ptr 1 0 0 :: .any :: .ptr 2 0 0 :: .any :: .any :: .sl (Y2.map (cI .u8)) :: .ptr 3 0 0 :: .agg [.own 4, .own 5] :: an 37 [],[.box 27 [.sl (YA.Pq.map Gv.c), .sl (YA.Tr.map (cL (cI .i64)))], .box 27 [.nils, .nils], .box 27 [.own 4, .own 5], .box 134 [.sl (((Z1 Y2).code).map (cI .u8)), .i .i64 r.1, .i .u64 r.2.1], .vec 32 3 (r.2.2.map Gv.c) false, .nest 60 (YA.Tr.map fun l=>l.map (cI .i64)) false]⟩)
def Z3X (Y2:(List Int)) (YA:Gm) (Yc:Int) (Yb:Int) (Y9:Int) (Yo:(List Gv)):St:=⟨.sl (Y2.map (cI .u8)) :: .agg [.sl (YA.Pq.map Gv.c), .sl (YA.Tr.map (cL (cI .i64)))] :: .any :: .ptr 0 0 0 :: .ptr 1 0 0 :: .ptr 2 0 0 :: .ptr 5 0 0 :: .i .i64 Yc :: .any :: .sl (Y2.map (cI .u8)) :: .ptr 2 0 0 :: .agg [.own 3, .own 4] :: an 37 [],[.box 27 [.sl (YA.Pq.map Gv.c), .sl (YA.Tr.map (cL (cI .i64)))], .box 27 [.nils, .nils], .box 134 [.sl (((Z1 Y2).code).map (cI .u8)), .i .i64 Yb, .i .u64 Y9], .vec 32 3 (Yo.map Gv.c) false, .nest 60 (YA.Tr.map fun l=>l.map (cI .i64)) false, .box 27 [.own 3, .own 4]]⟩
set_option maxHeartbeats 1000000 in
theorem Z55 (Y2:(List Int)) (YA:Gm) (hp0:Y2.length≤1073741824) (hp1:YA.Pq.length≤1073741824) (hp2:YA.Tr.length≤1073741824) (hp3:∀ t∈YA.Tr,t.length≤1073741824):∀ (k:Nat) (Yc:Int) (Yb:Int) (Y9:Int) (Yo:(List Gv)) (Z3p:0≤Yc) (Z3q:Yo.length=YA.Pq.length) (Z3r:0≤Yb) (Z3s:Yb≤6 * Yc) (hk:((YA.Pq.length:Int) - Yc).toNat < k),Lp prog 0 (sub (X0 f18) [1,1,1,0,1,0,0]) (Z3X Y2 YA Yc Yb Y9 Yo) (Z2W Y2 YA (ZD Y2 YA k Yc Yb Y9 Yo)).1 (Z2W Y2 YA (ZD Y2 YA k Yc Yb Y9 Yo)).2:=by
 intro k
 induction k with
 | zero=>intro Yc Yb Y9 Yo Z3p Z3q Z3r Z3s hk;exact absurd hk (Nat.not_lt_zero _)
 | succ k ih =>
  intro Yc Yb Y9 Yo Z3p Z3q Z3r Z3s hk
  have p {a C} (s:Scr a C):=sZ Gv.c Yo<|s
  cases Ym:(decide (Yc < (Yo.length:Int))) with
  | true =>
   have YF:=odt Ym
   have YR:(⟨(Z1 Y2).code,Yb,Y9⟩:Gl00Src).code.length≤1073741824:=by clear p;exact (by assumption)
   have YL:0≤(⟨(Z1 Y2).code,Yb,Y9⟩:Gl00Src).at_:=by clear p;exact (by assumption)
   have YZ:(⟨(Z1 Y2).code,Yb,Y9⟩:Gl00Src).at_≤1152921504606846970:=by clear p;exact (by simp_all<;>omega)
   have l_1:=(Z48 (⟨(Z1 Y2).code,Yb,Y9⟩:Gl00Src) 9)
   have YU:(⟨(Z1 Y2).code,(Z0 (⟨(Z1 Y2).code,Yb,Y9⟩:Gl00Src) 9).2.1,(Z0 (⟨(Z1 Y2).code,Yb,Y9⟩:Gl00Src) 9).2.2⟩:Gl00Src).code.length≤1073741824:=by clear p;exact (by assumption)
   have y_4:0≤(⟨(Z1 Y2).code,(Z0 (⟨(Z1 Y2).code,Yb,Y9⟩:Gl00Src) 9).2.1,(Z0 (⟨(Z1 Y2).code,Yb,Y9⟩:Gl00Src) 9).2.2⟩:Gl00Src).at_:=by clear p;exact (by simp_all<;>omega)
   have y_5:(⟨(Z1 Y2).code,(Z0 (⟨(Z1 Y2).code,Yb,Y9⟩:Gl00Src) 9).2.1,(Z0 (⟨(Z1 Y2).code,Yb,Y9⟩:Gl00Src) 9).2.2⟩:Gl00Src).at_≤1152921504606846970:=by clear p;exact (by simp_all<;>omega)
   have l_2:=(Z48 (⟨(Z1 Y2).code,(Z0 (⟨(Z1 Y2).code,Yb,Y9⟩:Gl00Src) 9).2.1,(Z0 (⟨(Z1 Y2).code,Yb,Y9⟩:Gl00Src) 9).2.2⟩:Gl00Src) 9)
   have y_6:(⟨(Z1 Y2).code,(Z0 (⟨(Z1 Y2).code,(Z0 (⟨(Z1 Y2).code,Yb,Y9⟩:Gl00Src) 9).2.1,(Z0 (⟨(Z1 Y2).code,Yb,Y9⟩:Gl00Src) 9).2.2⟩:Gl00Src) 9).2.1,(Z0 (⟨(Z1 Y2).code,(Z0 (⟨(Z1 Y2).code,Yb,Y9⟩:Gl00Src) 9).2.1,(Z0 (⟨(Z1 Y2).code,Yb,Y9⟩:Gl00Src) 9).2.2⟩:Gl00Src) 9).2.2⟩:Gl00Src).code.length≤1073741824:=by clear p;exact (by assumption)
   have y_7:0≤(⟨(Z1 Y2).code,(Z0 (⟨(Z1 Y2).code,(Z0 (⟨(Z1 Y2).code,Yb,Y9⟩:Gl00Src) 9).2.1,(Z0 (⟨(Z1 Y2).code,Yb,Y9⟩:Gl00Src) 9).2.2⟩:Gl00Src) 9).2.1,(Z0 (⟨(Z1 Y2).code,(Z0 (⟨(Z1 Y2).code,Yb,Y9⟩:Gl00Src) 9).2.1,(Z0 (⟨(Z1 Y2).code,Yb,Y9⟩:Gl00Src) 9).2.2⟩:Gl00Src) 9).2.2⟩:Gl00Src).at_:=by clear p;exact (by simp_all<;>omega)
   have y_8:(⟨(Z1 Y2).code,(Z0 (⟨(Z1 Y2).code,(Z0 (⟨(Z1 Y2).code,Yb,Y9⟩:Gl00Src) 9).2.1,(Z0 (⟨(Z1 Y2).code,Yb,Y9⟩:Gl00Src) 9).2.2⟩:Gl00Src) 9).2.1,(Z0 (⟨(Z1 Y2).code,(Z0 (⟨(Z1 Y2).code,Yb,Y9⟩:Gl00Src) 9).2.1,(Z0 (⟨(Z1 Y2).code,Yb,Y9⟩:Gl00Src) 9).2.2⟩:Gl00Src) 9).2.2⟩:Gl00Src).at_≤1152921504606846970:=by clear p;exact (by simp_all<;>omega)
   have l_3:=(Z48 (⟨(Z1 Y2).code,(Z0 (⟨(Z1 Y2).code,(Z0 (⟨(Z1 Y2).code,Yb,Y9⟩:Gl00Src) 9).2.1,(Z0 (⟨(Z1 Y2).code,Yb,Y9⟩:Gl00Src) 9).2.2⟩:Gl00Src) 9).2.1,(Z0 (⟨(Z1 Y2).code,(Z0 (⟨(Z1 Y2).code,Yb,Y9⟩:Gl00Src) 9).2.1,(Z0 (⟨(Z1 Y2).code,Yb,Y9⟩:Gl00Src) 9).2.2⟩:Gl00Src) 9).2.2⟩:Gl00Src) 9)
   have y_9:(0:Int)≤Yc:=by clear p;exact (by assumption)
   have Y17:Yc < (Yo.length:Int):=by clear p;exact (by assumption)
   have Y18:Yc.toNat < Yo.length:=by clear p;exact (by omega)
   have Y1a:(-9223372036854775808:Int)≤(Yc + 1):=by clear p;exact (by omega)
   have Y1b:(Yc + 1)≤(9223372036854775807:Int):=by clear p;exact (by omega)
   have e:ZD Y2 YA (k + 1) Yc Yb Y9 Yo=(ZD Y2 YA k (Yc + 1) ((Z0 (⟨(Z1 Y2).code,(Z0 (⟨(Z1 Y2).code,(Z0 (⟨(Z1 Y2).code,Yb,Y9⟩:Gl00Src) 9).2.1,(Z0 (⟨(Z1 Y2).code,Yb,Y9⟩:Gl00Src) 9).2.2⟩:Gl00Src) 9).2.1,(Z0 (⟨(Z1 Y2).code,(Z0 (⟨(Z1 Y2).code,Yb,Y9⟩:Gl00Src) 9).2.1,(Z0 (⟨(Z1 Y2).code,Yb,Y9⟩:Gl00Src) 9).2.2⟩:Gl00Src) 9).2.2⟩:Gl00Src) 9).2.1) ((Z0 (⟨(Z1 Y2).code,(Z0 (⟨(Z1 Y2).code,(Z0 (⟨(Z1 Y2).code,Yb,Y9⟩:Gl00Src) 9).2.1,(Z0 (⟨(Z1 Y2).code,Yb,Y9⟩:Gl00Src) 9).2.2⟩:Gl00Src) 9).2.1,(Z0 (⟨(Z1 Y2).code,(Z0 (⟨(Z1 Y2).code,Yb,Y9⟩:Gl00Src) 9).2.1,(Z0 (⟨(Z1 Y2).code,Yb,Y9⟩:Gl00Src) 9).2.2⟩:Gl00Src) 9).2.2⟩:Gl00Src) 9).2.2) (Yo.set Yc.toNat (Z19 (Yo.getD Yc.toNat default) (⟨(fop .quo .f32 (X7 .f32 (IntKind.wrap .i64 ((Z0 (⟨(Z1 Y2).code,Yb,Y9⟩:Gl00Src) 9).1 - 4))) 1090519040),(fop .quo .f32 (X7 .f32 (IntKind.wrap .i64 ((Z0 (⟨(Z1 Y2).code,(Z0 (⟨(Z1 Y2).code,Yb,Y9⟩:Gl00Src) 9).2.1,(Z0 (⟨(Z1 Y2).code,Yb,Y9⟩:Gl00Src) 9).2.2⟩:Gl00Src) 9).1 - 4))) 1090519040),(fop .quo .f32 (X7 .f32 (IntKind.wrap .i64 ((Z0 (⟨(Z1 Y2).code,(Z0 (⟨(Z1 Y2).code,(Z0 (⟨(Z1 Y2).code,Yb,Y9⟩:Gl00Src) 9).2.1,(Z0 (⟨(Z1 Y2).code,Yb,Y9⟩:Gl00Src) 9).2.2⟩:Gl00Src) 9).2.1,(Z0 (⟨(Z1 Y2).code,(Z0 (⟨(Z1 Y2).code,Yb,Y9⟩:Gl00Src) 9).2.1,(Z0 (⟨(Z1 Y2).code,Yb,Y9⟩:Gl00Src) 9).2.2⟩:Gl00Src) 9).2.2⟩:Gl00Src) 9).1 - 4))) 1090519040)⟩:Gv)))):=by simp only [ZD,Ym,cond_true]
   rw [e]
   exact X1m E0Ok Zb [] (mR false [0,2,1,5,1,3,37]) [0,1,2,3,4,5] (⟨.sl (Y2.map (cI .u8)) :: .agg [.sl (YA.Pq.map Gv.c), .sl (YA.Tr.map (cL (cI .i64)))] :: .any :: .ptr 0 0 0 :: .ptr 1 0 0 :: .ptr 2 0 0 :: .ptr 5 0 0 :: .i .i64 (Yc + 1) :: .any :: .sl (Y2.map (cI .u8)) :: .ptr 2 0 0 :: .agg [.own 3, .own 4] :: an 37 [],[.box 27 [.sl (YA.Pq.map Gv.c), .sl (YA.Tr.map (cL (cI .i64)))], .box 27 [.nils, .nils], .box 134 [.sl (((Z1 Y2).code).map (cI .u8)), .i .i64 ((Z0 (⟨(Z1 Y2).code,(Z0 (⟨(Z1 Y2).code,(Z0 (⟨(Z1 Y2).code,Yb,Y9⟩:Gl00Src) 9).2.1,(Z0 (⟨(Z1 Y2).code,Yb,Y9⟩:Gl00Src) 9).2.2⟩:Gl00Src) 9).2.1,(Z0 (⟨(Z1 Y2).code,(Z0 (⟨(Z1 Y2).code,Yb,Y9⟩:Gl00Src) 9).2.1,(Z0 (⟨(Z1 Y2).code,Yb,Y9⟩:Gl00Src) 9).2.2⟩:Gl00Src) 9).2.2⟩:Gl00Src) 9).2.1), .i .u64 ((Z0 (⟨(Z1 Y2).code,(Z0 (⟨(Z1 Y2).code,(Z0 (⟨(Z1 Y2).code,Yb,Y9⟩:Gl00Src) 9).2.1,(Z0 (⟨(Z1 Y2).code,Yb,Y9⟩:Gl00Src) 9).2.2⟩:Gl00Src) 9).2.1,(Z0 (⟨(Z1 Y2).code,(Z0 (⟨(Z1 Y2).code,Yb,Y9⟩:Gl00Src) 9).2.1,(Z0 (⟨(Z1 Y2).code,Yb,Y9⟩:Gl00Src) 9).2.2⟩:Gl00Src) 9).2.2⟩:Gl00Src) 9).2.2)], .vec 32 3 ((Yo.map Gv.c).set Yc.toNat [.f .f32 ((Z19 (Yo.getD Yc.toNat default) (⟨(fop .quo .f32 (X7 .f32 (IntKind.wrap .i64 ((Z0 (⟨(Z1 Y2).code,Yb,Y9⟩:Gl00Src) 9).1 - 4))) 1090519040),(fop .quo .f32 (X7 .f32 (IntKind.wrap .i64 ((Z0 (⟨(Z1 Y2).code,(Z0 (⟨(Z1 Y2).code,Yb,Y9⟩:Gl00Src) 9).2.1,(Z0 (⟨(Z1 Y2).code,Yb,Y9⟩:Gl00Src) 9).2.2⟩:Gl00Src) 9).1 - 4))) 1090519040),(fop .quo .f32 (X7 .f32 (IntKind.wrap .i64 ((Z0 (⟨(Z1 Y2).code,(Z0 (⟨(Z1 Y2).code,(Z0 (⟨(Z1 Y2).code,Yb,Y9⟩:Gl00Src) 9).2.1,(Z0 (⟨(Z1 Y2).code,Yb,Y9⟩:Gl00Src) 9).2.2⟩:Gl00Src) 9).2.1,(Z0 (⟨(Z1 Y2).code,(Z0 (⟨(Z1 Y2).code,Yb,Y9⟩:Gl00Src) 9).2.1,(Z0 (⟨(Z1 Y2).code,Yb,Y9⟩:Gl00Src) 9).2.2⟩:Gl00Src) 9).2.2⟩:Gl00Src) 9).1 - 4))) 1090519040)⟩:Gv)).X), .f .f32 ((Z19 (Yo.getD Yc.toNat default) (⟨(fop .quo .f32 (X7 .f32 (IntKind.wrap .i64 ((Z0 (⟨(Z1 Y2).code,Yb,Y9⟩:Gl00Src) 9).1 - 4))) 1090519040),(fop .quo .f32 (X7 .f32 (IntKind.wrap .i64 ((Z0 (⟨(Z1 Y2).code,(Z0 (⟨(Z1 Y2).code,Yb,Y9⟩:Gl00Src) 9).2.1,(Z0 (⟨(Z1 Y2).code,Yb,Y9⟩:Gl00Src) 9).2.2⟩:Gl00Src) 9).1 - 4))) 1090519040),(fop .quo .f32 (X7 .f32 (IntKind.wrap .i64 ((Z0 (⟨(Z1 Y2).code,(Z0 (⟨(Z1 Y2).code,(Z0 (⟨(Z1 Y2).code,Yb,Y9⟩:Gl00Src) 9).2.1,(Z0 (⟨(Z1 Y2).code,Yb,Y9⟩:Gl00Src) 9).2.2⟩:Gl00Src) 9).2.1,(Z0 (⟨(Z1 Y2).code,(Z0 (⟨(Z1 Y2).code,Yb,Y9⟩:Gl00Src) 9).2.1,(Z0 (⟨(Z1 Y2).code,Yb,Y9⟩:Gl00Src) 9).2.2⟩:Gl00Src) 9).2.2⟩:Gl00Src) 9).1 - 4))) 1090519040)⟩:Gv)).Y), .f .f32 ((Z19 (Yo.getD Yc.toNat default) (⟨(fop .quo .f32 (X7 .f32 (IntKind.wrap .i64 ((Z0 (⟨(Z1 Y2).code,Yb,Y9⟩:Gl00Src) 9).1 - 4))) 1090519040),(fop .quo .f32 (X7 .f32 (IntKind.wrap .i64 ((Z0 (⟨(Z1 Y2).code,(Z0 (⟨(Z1 Y2).code,Yb,Y9⟩:Gl00Src) 9).2.1,(Z0 (⟨(Z1 Y2).code,Yb,Y9⟩:Gl00Src) 9).2.2⟩:Gl00Src) 9).1 - 4))) 1090519040),(fop .quo .f32 (X7 .f32 (IntKind.wrap .i64 ((Z0 (⟨(Z1 Y2).code,(Z0 (⟨(Z1 Y2).code,(Z0 (⟨(Z1 Y2).code,Yb,Y9⟩:Gl00Src) 9).2.1,(Z0 (⟨(Z1 Y2).code,Yb,Y9⟩:Gl00Src) 9).2.2⟩:Gl00Src) 9).2.1,(Z0 (⟨(Z1 Y2).code,(Z0 (⟨(Z1 Y2).code,Yb,Y9⟩:Gl00Src) 9).2.1,(Z0 (⟨(Z1 Y2).code,Yb,Y9⟩:Gl00Src) 9).2.2⟩:Gl00Src) 9).2.2⟩:Gl00Src) 9).1 - 4))) 1090519040)⟩:Gv)).Z)]) false, .nest 60 (YA.Tr.map fun l=>l.map (cI .i64)) false, .box 27 [.own 3, .own 4]]⟩) (p (sB Ym<|sS (Z4b YA.Pq YA.Tr Yo YA.Tr (⟨(Z1 Y2).code,Yb,Y9⟩:Gl00Src) 9 YR YL YZ)<|sW .i64 ((Z0 (⟨(Z1 Y2).code,Yb,Y9⟩:Gl00Src) 9).1 - 4)<|sS (Z2I YA.Pq YA.Tr Yo YA.Tr (fop .quo .f32 (X7 .f32 (IntKind.wrap .i64 ((Z0 (⟨(Z1 Y2).code,Yb,Y9⟩:Gl00Src) 9).1 - 4))) 1090519040) 0 0 (⟨(Z1 Y2).code,(Z0 (⟨(Z1 Y2).code,Yb,Y9⟩:Gl00Src) 9).2.1,(Z0 (⟨(Z1 Y2).code,Yb,Y9⟩:Gl00Src) 9).2.2⟩:Gl00Src) 9 YU y_4 y_5)<|sW .i64 ((Z0 (⟨(Z1 Y2).code,(Z0 (⟨(Z1 Y2).code,Yb,Y9⟩:Gl00Src) 9).2.1,(Z0 (⟨(Z1 Y2).code,Yb,Y9⟩:Gl00Src) 9).2.2⟩:Gl00Src) 9).1 - 4)<|sS (Z2I YA.Pq YA.Tr Yo YA.Tr (fop .quo .f32 (X7 .f32 (IntKind.wrap .i64 ((Z0 (⟨(Z1 Y2).code,Yb,Y9⟩:Gl00Src) 9).1 - 4))) 1090519040) (fop .quo .f32 (X7 .f32 (IntKind.wrap .i64 ((Z0 (⟨(Z1 Y2).code,(Z0 (⟨(Z1 Y2).code,Yb,Y9⟩:Gl00Src) 9).2.1,(Z0 (⟨(Z1 Y2).code,Yb,Y9⟩:Gl00Src) 9).2.2⟩:Gl00Src) 9).1 - 4))) 1090519040) 0 (⟨(Z1 Y2).code,(Z0 (⟨(Z1 Y2).code,(Z0 (⟨(Z1 Y2).code,Yb,Y9⟩:Gl00Src) 9).2.1,(Z0 (⟨(Z1 Y2).code,Yb,Y9⟩:Gl00Src) 9).2.2⟩:Gl00Src) 9).2.1,(Z0 (⟨(Z1 Y2).code,(Z0 (⟨(Z1 Y2).code,Yb,Y9⟩:Gl00Src) 9).2.1,(Z0 (⟨(Z1 Y2).code,Yb,Y9⟩:Gl00Src) 9).2.2⟩:Gl00Src) 9).2.2⟩:Gl00Src) 9 y_6 y_7 y_8)<|sW .i64 ((Z0 (⟨(Z1 Y2).code,(Z0 (⟨(Z1 Y2).code,(Z0 (⟨(Z1 Y2).code,Yb,Y9⟩:Gl00Src) 9).2.1,(Z0 (⟨(Z1 Y2).code,Yb,Y9⟩:Gl00Src) 9).2.2⟩:Gl00Src) 9).2.1,(Z0 (⟨(Z1 Y2).code,(Z0 (⟨(Z1 Y2).code,Yb,Y9⟩:Gl00Src) 9).2.1,(Z0 (⟨(Z1 Y2).code,Yb,Y9⟩:Gl00Src) 9).2.2⟩:Gl00Src) 9).2.2⟩:Gl00Src) 9).1 - 4)<|sK [10,10]<|sX Gv.c Yo Yc y_9 Y17<|sV Gv.c Yo Yc.toNat Y18<|sF (Z4y (Yo.getD Yc.toNat default) (⟨(fop .quo .f32 (X7 .f32 (IntKind.wrap .i64 ((Z0 (⟨(Z1 Y2).code,Yb,Y9⟩:Gl00Src) 9).1 - 4))) 1090519040),(fop .quo .f32 (X7 .f32 (IntKind.wrap .i64 ((Z0 (⟨(Z1 Y2).code,(Z0 (⟨(Z1 Y2).code,Yb,Y9⟩:Gl00Src) 9).2.1,(Z0 (⟨(Z1 Y2).code,Yb,Y9⟩:Gl00Src) 9).2.2⟩:Gl00Src) 9).1 - 4))) 1090519040),(fop .quo .f32 (X7 .f32 (IntKind.wrap .i64 ((Z0 (⟨(Z1 Y2).code,(Z0 (⟨(Z1 Y2).code,(Z0 (⟨(Z1 Y2).code,Yb,Y9⟩:Gl00Src) 9).2.1,(Z0 (⟨(Z1 Y2).code,Yb,Y9⟩:Gl00Src) 9).2.2⟩:Gl00Src) 9).2.1,(Z0 (⟨(Z1 Y2).code,(Z0 (⟨(Z1 Y2).code,Yb,Y9⟩:Gl00Src) 9).2.1,(Z0 (⟨(Z1 Y2).code,Yb,Y9⟩:Gl00Src) 9).2.2⟩:Gl00Src) 9).2.2⟩:Gl00Src) 9).1 - 4))) 1090519040)⟩:Gv))<|sX Gv.c Yo Yc y_9 Y17<|sC (X5w (c:=Gv.c) (l:=Yo) Y18)<|sI (Yc + 1) Y1a Y1b<|sN)) (by kernel_rfl) (by simp [Z3X,List.map_set,Gv.c]) (ih (Yc + 1) ((Z0 (⟨(Z1 Y2).code,(Z0 (⟨(Z1 Y2).code,(Z0 (⟨(Z1 Y2).code,Yb,Y9⟩:Gl00Src) 9).2.1,(Z0 (⟨(Z1 Y2).code,Yb,Y9⟩:Gl00Src) 9).2.2⟩:Gl00Src) 9).2.1,(Z0 (⟨(Z1 Y2).code,(Z0 (⟨(Z1 Y2).code,Yb,Y9⟩:Gl00Src) 9).2.1,(Z0 (⟨(Z1 Y2).code,Yb,Y9⟩:Gl00Src) 9).2.2⟩:Gl00Src) 9).2.2⟩:Gl00Src) 9).2.1) ((Z0 (⟨(Z1 Y2).code,(Z0 (⟨(Z1 Y2).code,(Z0 (⟨(Z1 Y2).code,Yb,Y9⟩:Gl00Src) 9).2.1,(Z0 (⟨(Z1 Y2).code,Yb,Y9⟩:Gl00Src) 9).2.2⟩:Gl00Src) 9).2.1,(Z0 (⟨(Z1 Y2).code,(Z0 (⟨(Z1 Y2).code,Yb,Y9⟩:Gl00Src) 9).2.1,(Z0 (⟨(Z1 Y2).code,Yb,Y9⟩:Gl00Src) 9).2.2⟩:Gl00Src) 9).2.2⟩:Gl00Src) 9).2.2) (Yo.set Yc.toNat (Z19 (Yo.getD Yc.toNat default) (⟨(fop .quo .f32 (X7 .f32 (IntKind.wrap .i64 ((Z0 (⟨(Z1 Y2).code,Yb,Y9⟩:Gl00Src) 9).1 - 4))) 1090519040),(fop .quo .f32 (X7 .f32 (IntKind.wrap .i64 ((Z0 (⟨(Z1 Y2).code,(Z0 (⟨(Z1 Y2).code,Yb,Y9⟩:Gl00Src) 9).2.1,(Z0 (⟨(Z1 Y2).code,Yb,Y9⟩:Gl00Src) 9).2.2⟩:Gl00Src) 9).1 - 4))) 1090519040),(fop .quo .f32 (X7 .f32 (IntKind.wrap .i64 ((Z0 (⟨(Z1 Y2).code,(Z0 (⟨(Z1 Y2).code,(Z0 (⟨(Z1 Y2).code,Yb,Y9⟩:Gl00Src) 9).2.1,(Z0 (⟨(Z1 Y2).code,Yb,Y9⟩:Gl00Src) 9).2.2⟩:Gl00Src) 9).2.1,(Z0 (⟨(Z1 Y2).code,(Z0 (⟨(Z1 Y2).code,Yb,Y9⟩:Gl00Src) 9).2.1,(Z0 (⟨(Z1 Y2).code,Yb,Y9⟩:Gl00Src) 9).2.2⟩:Gl00Src) 9).2.2⟩:Gl00Src) 9).1 - 4))) 1090519040)⟩:Gv))) (show 0≤(Yc + 1) from (by omega)) (show (Yo.set Yc.toNat (Z19 (Yo.getD Yc.toNat default) (⟨(fop .quo .f32 (X7 .f32 (IntKind.wrap .i64 ((Z0 (⟨(Z1 Y2).code,Yb,Y9⟩:Gl00Src) 9).1 - 4))) 1090519040),(fop .quo .f32 (X7 .f32 (IntKind.wrap .i64 ((Z0 (⟨(Z1 Y2).code,(Z0 (⟨(Z1 Y2).code,Yb,Y9⟩:Gl00Src) 9).2.1,(Z0 (⟨(Z1 Y2).code,Yb,Y9⟩:Gl00Src) 9).2.2⟩:Gl00Src) 9).1 - 4))) 1090519040),(fop .quo .f32 (X7 .f32 (IntKind.wrap .i64 ((Z0 (⟨(Z1 Y2).code,(Z0 (⟨(Z1 Y2).code,(Z0 (⟨(Z1 Y2).code,Yb,Y9⟩:Gl00Src) 9).2.1,(Z0 (⟨(Z1 Y2).code,Yb,Y9⟩:Gl00Src) 9).2.2⟩:Gl00Src) 9).2.1,(Z0 (⟨(Z1 Y2).code,(Z0 (⟨(Z1 Y2).code,Yb,Y9⟩:Gl00Src) 9).2.1,(Z0 (⟨(Z1 Y2).code,Yb,Y9⟩:Gl00Src) 9).2.2⟩:Gl00Src) 9).2.2⟩:Gl00Src) 9).1 - 4))) 1090519040)⟩:Gv))).length=YA.Pq.length from (by simp_all<;>omega)) (show 0≤((Z0 (⟨(Z1 Y2).code,(Z0 (⟨(Z1 Y2).code,(Z0 (⟨(Z1 Y2).code,Yb,Y9⟩:Gl00Src) 9).2.1,(Z0 (⟨(Z1 Y2).code,Yb,Y9⟩:Gl00Src) 9).2.2⟩:Gl00Src) 9).2.1,(Z0 (⟨(Z1 Y2).code,(Z0 (⟨(Z1 Y2).code,Yb,Y9⟩:Gl00Src) 9).2.1,(Z0 (⟨(Z1 Y2).code,Yb,Y9⟩:Gl00Src) 9).2.2⟩:Gl00Src) 9).2.2⟩:Gl00Src) 9).2.1) from (by omega)) (show ((Z0 (⟨(Z1 Y2).code,(Z0 (⟨(Z1 Y2).code,(Z0 (⟨(Z1 Y2).code,Yb,Y9⟩:Gl00Src) 9).2.1,(Z0 (⟨(Z1 Y2).code,Yb,Y9⟩:Gl00Src) 9).2.2⟩:Gl00Src) 9).2.1,(Z0 (⟨(Z1 Y2).code,(Z0 (⟨(Z1 Y2).code,Yb,Y9⟩:Gl00Src) 9).2.1,(Z0 (⟨(Z1 Y2).code,Yb,Y9⟩:Gl00Src) 9).2.2⟩:Gl00Src) 9).2.2⟩:Gl00Src) 9).2.1)≤6 * (Yc + 1) from (by simp_all<;>omega)) (by omega))
  | false =>
   have YF:=odf Ym
   have e:ZD Y2 YA (k + 1) Yc Yb Y9 Yo=(Yb,Y9,Yo):=by simp only [ZD,Ym,cond_false]
   rw [e]
   exact outR (e:=(.exit 0)) E0Ok Zb [] (mR false [0,2,1,2,1,1,2,3,37]) [0,1,5,2,3,4] (p (sB Ym<|sN)) (by kernel_rfl) (by intro h;cases h)
theorem Z4E (Y2:(List Int)) (YA:Gm):∀ (k:Nat) (Yc:Int) (Yb:Int) (Y9:Int) (Yo:(List Gv)) (hk:((Yo.length:Int) - Yc).toNat < k),(ZD Y2 YA k Yc Yb Y9 Yo).2.2.length=Yo.length:=by
  intro k
  induction k with
  | zero=>intro Yc Yb Y9 Yo hk;exact absurd hk (Nat.not_lt_zero _)
  | succ k ih =>
    intro Yc Yb Y9 Yo hk
    cases Ym:(decide (Yc < (Yo.length:Int))) with
    | true =>
      have e:ZD Y2 YA (k + 1) Yc Yb Y9 Yo=(ZD Y2 YA k (Yc + 1) ((Z0 (⟨(Z1 Y2).code,(Z0 (⟨(Z1 Y2).code,(Z0 (⟨(Z1 Y2).code,Yb,Y9⟩:Gl00Src) 9).2.1,(Z0 (⟨(Z1 Y2).code,Yb,Y9⟩:Gl00Src) 9).2.2⟩:Gl00Src) 9).2.1,(Z0 (⟨(Z1 Y2).code,(Z0 (⟨(Z1 Y2).code,Yb,Y9⟩:Gl00Src) 9).2.1,(Z0 (⟨(Z1 Y2).code,Yb,Y9⟩:Gl00Src) 9).2.2⟩:Gl00Src) 9).2.2⟩:Gl00Src) 9).2.1) ((Z0 (⟨(Z1 Y2).code,(Z0 (⟨(Z1 Y2).code,(Z0 (⟨(Z1 Y2).code,Yb,Y9⟩:Gl00Src) 9).2.1,(Z0 (⟨(Z1 Y2).code,Yb,Y9⟩:Gl00Src) 9).2.2⟩:Gl00Src) 9).2.1,(Z0 (⟨(Z1 Y2).code,(Z0 (⟨(Z1 Y2).code,Yb,Y9⟩:Gl00Src) 9).2.1,(Z0 (⟨(Z1 Y2).code,Yb,Y9⟩:Gl00Src) 9).2.2⟩:Gl00Src) 9).2.2⟩:Gl00Src) 9).2.2) (Yo.set Yc.toNat (Z19 (Yo.getD Yc.toNat default) (⟨(fop .quo .f32 (X7 .f32 (IntKind.wrap .i64 ((Z0 (⟨(Z1 Y2).code,Yb,Y9⟩:Gl00Src) 9).1 - 4))) 1090519040),(fop .quo .f32 (X7 .f32 (IntKind.wrap .i64 ((Z0 (⟨(Z1 Y2).code,(Z0 (⟨(Z1 Y2).code,Yb,Y9⟩:Gl00Src) 9).2.1,(Z0 (⟨(Z1 Y2).code,Yb,Y9⟩:Gl00Src) 9).2.2⟩:Gl00Src) 9).1 - 4))) 1090519040),(fop .quo .f32 (X7 .f32 (IntKind.wrap .i64 ((Z0 (⟨(Z1 Y2).code,(Z0 (⟨(Z1 Y2).code,(Z0 (⟨(Z1 Y2).code,Yb,Y9⟩:Gl00Src) 9).2.1,(Z0 (⟨(Z1 Y2).code,Yb,Y9⟩:Gl00Src) 9).2.2⟩:Gl00Src) 9).2.1,(Z0 (⟨(Z1 Y2).code,(Z0 (⟨(Z1 Y2).code,Yb,Y9⟩:Gl00Src) 9).2.1,(Z0 (⟨(Z1 Y2).code,Yb,Y9⟩:Gl00Src) 9).2.2⟩:Gl00Src) 9).2.2⟩:Gl00Src) 9).1 - 4))) 1090519040)⟩:Gv)))):=by simp only [ZD,Ym,cond_true]
      rw [e,ih (Yc + 1) ((Z0 (⟨(Z1 Y2).code,(Z0 (⟨(Z1 Y2).code,(Z0 (⟨(Z1 Y2).code,Yb,Y9⟩:Gl00Src) 9).2.1,(Z0 (⟨(Z1 Y2).code,Yb,Y9⟩:Gl00Src) 9).2.2⟩:Gl00Src) 9).2.1,(Z0 (⟨(Z1 Y2).code,(Z0 (⟨(Z1 Y2).code,Yb,Y9⟩:Gl00Src) 9).2.1,(Z0 (⟨(Z1 Y2).code,Yb,Y9⟩:Gl00Src) 9).2.2⟩:Gl00Src) 9).2.2⟩:Gl00Src) 9).2.1) ((Z0 (⟨(Z1 Y2).code,(Z0 (⟨(Z1 Y2).code,(Z0 (⟨(Z1 Y2).code,Yb,Y9⟩:Gl00Src) 9).2.1,(Z0 (⟨(Z1 Y2).code,Yb,Y9⟩:Gl00Src) 9).2.2⟩:Gl00Src) 9).2.1,(Z0 (⟨(Z1 Y2).code,(Z0 (⟨(Z1 Y2).code,Yb,Y9⟩:Gl00Src) 9).2.1,(Z0 (⟨(Z1 Y2).code,Yb,Y9⟩:Gl00Src) 9).2.2⟩:Gl00Src) 9).2.2⟩:Gl00Src) 9).2.2) (Yo.set Yc.toNat (Z19 (Yo.getD Yc.toNat default) (⟨(fop .quo .f32 (X7 .f32 (IntKind.wrap .i64 ((Z0 (⟨(Z1 Y2).code,Yb,Y9⟩:Gl00Src) 9).1 - 4))) 1090519040),(fop .quo .f32 (X7 .f32 (IntKind.wrap .i64 ((Z0 (⟨(Z1 Y2).code,(Z0 (⟨(Z1 Y2).code,Yb,Y9⟩:Gl00Src) 9).2.1,(Z0 (⟨(Z1 Y2).code,Yb,Y9⟩:Gl00Src) 9).2.2⟩:Gl00Src) 9).1 - 4))) 1090519040),(fop .quo .f32 (X7 .f32 (IntKind.wrap .i64 ((Z0 (⟨(Z1 Y2).code,(Z0 (⟨(Z1 Y2).code,(Z0 (⟨(Z1 Y2).code,Yb,Y9⟩:Gl00Src) 9).2.1,(Z0 (⟨(Z1 Y2).code,Yb,Y9⟩:Gl00Src) 9).2.2⟩:Gl00Src) 9).2.1,(Z0 (⟨(Z1 Y2).code,(Z0 (⟨(Z1 Y2).code,Yb,Y9⟩:Gl00Src) 9).2.1,(Z0 (⟨(Z1 Y2).code,Yb,Y9⟩:Gl00Src) 9).2.2⟩:Gl00Src) 9).2.2⟩:Gl00Src) 9).1 - 4))) 1090519040)⟩:Gv))) (by simp_all<;>omega)]<;>simp
    | false =>
      have e:ZD Y2 YA (k + 1) Yc Yb Y9 Yo=(Yb,Y9,Yo):=by simp only [ZD,Ym,cond_false]
      first | (rw [e];done) | (rw [e];rfl)
def Z2a (Y2:(List Int)) (YA:Gm):Int × Int × (List Gv):=(ZD Y2 YA (((YA.Pq.length:Int) - 0).toNat + 1) 0 ((Z1 Y2).at_) ((Z1 Y2).seed) YA.Pq)
@[simp] theorem Z42 (Y2:(List Int)) (YA:Gm):(Z2a Y2 YA).2.2.length=(YA.Pq:(List Gv)).length:=Z4E Y2 YA (((YA.Pq.length:Int) - 0).toNat + 1) 0 ((Z1 Y2).at_) ((Z1 Y2).seed) YA.Pq (by exact Nat.lt_succ_self _)
def Z6 (Y2:(List Int)) (YA:Gm):Gm:=(⟨(Z2a Y2 YA).2.2,YA.Tr⟩:Gm)
theorem Z5A (Y2:(List Int)) (YA:Gm) (hp0:Y2.length≤1073741824) (hp1:YA.Pq.length≤1073741824) (hp2:YA.Tr.length≤1073741824) (hp3:∀ t∈YA.Tr,t.length≤1073741824)  : Fn prog 18 [.sl (Y2.map (cI .u8)), .agg [.sl (YA.Pq.map Gv.c), .sl (YA.Tr.map (cL (cI .i64)))]] (.agg [.own 0, .own 1]) [.vec 32 3 (((Z6 Y2 YA).Pq).map Gv.c) false, .nest 60 (((Z6 Y2 YA).Tr).map fun l=>l.map (cI .i64)) false]:=by
 refine fnS E0Ok Zb (c:=X0 f18) [] (.agg [.own 0, .own 1]) [.vec 32 3 (((Z2a Y2 YA).2.2).map Gv.c) false, .nest 60 (YA.Tr.map fun l=>l.map (cI .i64)) false] func18 (sS (Z54 YA.Pq YA.Tr Y2 hp0)<|sF (Z4x YA hp1 hp2 hp3)<|sL (mR false [0,2,1,5,1,3,37]) 6 (Xb (Z2W Y2 YA) (x:=(Z2a Y2 YA)) (Z55 Y2 YA hp0 hp1 hp2 hp3 (((YA.Pq.length:Int) - 0).toNat + 1) 0 ((Z1 Y2).at_) ((Z1 Y2).seed) YA.Pq (show 0≤0 from (by omega)) (show YA.Pq.length=YA.Pq.length from (by omega)) (show 0≤((Z1 Y2).at_) from (by exact Int.le_refl 0)) (show ((Z1 Y2).at_)≤6 * 0 from (by exact Int.le_refl 0)) (Nat.lt_succ_self _)) rfl)<|sK [4,5] sN) rfl (by kernel_rfl) (by kernel_rfl) rfl ?_ ?_
 · rfl
 · simp [Z6]
def Z1t (n_0:Int) (Y1c:Int) (Y15:Int):Bool:=(cond (decide (n_0 ≥ Y1c))
  (decide (n_0≤Y15))
  false)
theorem Z5S (n_0:Int) (Y1c:Int) (Y15:Int)   : Fn prog 62 [.i .i64 n_0, .i .i64 Y1c, .i .i64 Y15] (.b (Z1t n_0 Y1c Y15)) []:=by
 cases h0:(decide (n_0 ≥ Y1c)) with
 | true =>
  have gh0:=odt h0
  refine fnS E0Ok Zb (c:=X0 f62) [] (.b (decide (n_0≤Y15))) [] func62 (sB h0<|sB h0<|sB h0<|sB h0<|sK [] sN) rfl (by kernel_rfl) (by kernel_rfl) rfl ?_ ?_
  · simp only [Z1t,h0,cond_true]
  · rfl
 | false =>
  have gh0:=odf h0
  refine fnS E0Ok Zb (c:=X0 f62) [] (.b false) [] func62 (sB h0<|sB h0<|sB h0<|sB h0<|sK [] sN) rfl (by kernel_rfl) (by kernel_rfl) rfl ?_ ?_
  · simp only [Z1t,h0,cond_false]
  · rfl
def ZM (Y1:Gm) (Y0:Int):Nat→Int→(Unit) ⊕ (Unit)
  | 0,_ => .inl default
  | k + 1,Y3=>(cond (decide (Y3 < ((Y1.Tr.getD Y0.toNat default).length:Int)))
    (cond (Z1t ((Y1.Tr.getD Y0.toNat default).getD Y3.toNat default) 0 (IntKind.wrap .i64 ((Y1.Pq.length:Int) - 1)))
      (ZM Y1 Y0 k (Y3 + 1))
      (.inl ()))
    (.inr ()))
def Z2b (Y1:Gm) (Y0:Int):(Unit) ⊕ (Unit)→Ex × St
  | .inl r=>(.ret,⟨.any :: .any :: .b false :: an 66 [],[]⟩)
  | .inr r=>((.exit 2),⟨.agg [.sl (Y1.Pq.map Gv.c), .sl (Y1.Tr.map (cL (cI .i64)))] :: .ptr 0 0 0 :: .any :: .i .i64 (Y1.Pq.length:Int) :: .any :: .sl ((Y1.Tr.getD Y0.toNat default).map (cI .i64)) :: .any :: .any :: .ptr 0 0 0 :: .sl (Y1.Pq.map Gv.c) :: .i .i64 (Y1.Pq.length:Int) :: .i .i64 (Y1.Pq.length:Int) :: .b (decide ((Y1.Pq.length:Int) > 64)) :: .b (decide ((Y1.Pq.length:Int) > 64)) :: .ptr 0 0 1 :: .sl (Y1.Tr.map (cL (cI .i64))) :: .i .i64 (Y1.Tr.length:Int) :: .b (decide ((Y1.Tr.length:Int) > 128)) :: .b (decide ((Y1.Tr.length:Int) > 128)) :: .ptr 0 0 1 :: .sl (Y1.Tr.map (cL (cI .i64))) :: .i .i64 (Y1.Tr.length:Int) :: .i .i64 Y0 :: .b (decide (Y0 < (Y1.Tr.length:Int))) :: .ref [.sl ((Y1.Tr.getD Y0.toNat default).map (cI .i64))] 0 :: .sl ((Y1.Tr.getD Y0.toNat default).map (cI .i64)) :: .sl ((Y1.Tr.getD Y0.toNat default).map (cI .i64)) :: .i .i64 ((Y1.Tr.getD Y0.toNat default).length:Int) :: .b (((Y1.Tr.getD Y0.toNat default).length:Int) != 3) :: .b (((Y1.Tr.getD Y0.toNat default).length:Int) != 3) :: .sl ((Y1.Tr.getD Y0.toNat default).map (cI .i64)) :: .ref [.i .i64 ((Y1.Tr.getD Y0.toNat default).getD 0 default)] 0 :: .i .i64 ((Y1.Tr.getD Y0.toNat default).getD 0 default) :: .sl ((Y1.Tr.getD Y0.toNat default).map (cI .i64)) :: .ref [.i .i64 ((Y1.Tr.getD Y0.toNat default).getD 1 default)] 0 :: .i .i64 ((Y1.Tr.getD Y0.toNat default).getD 1 default) :: .b (((Y1.Tr.getD Y0.toNat default).getD 0 default) == ((Y1.Tr.getD Y0.toNat default).getD 1 default)) :: .b (((Y1.Tr.getD Y0.toNat default).getD 0 default) == ((Y1.Tr.getD Y0.toNat default).getD 1 default)) :: .b (((Y1.Tr.getD Y0.toNat default).getD 0 default) == ((Y1.Tr.getD Y0.toNat default).getD 1 default)) :: .sl ((Y1.Tr.getD Y0.toNat default).map (cI .i64)) :: .ref [.i .i64 ((Y1.Tr.getD Y0.toNat default).getD 1 default)] 0 :: .i .i64 ((Y1.Tr.getD Y0.toNat default).getD 1 default) :: .sl ((Y1.Tr.getD Y0.toNat default).map (cI .i64)) :: .ref [.i .i64 ((Y1.Tr.getD Y0.toNat default).getD 2 default)] 0 :: .i .i64 ((Y1.Tr.getD Y0.toNat default).getD 2 default) :: .b (((Y1.Tr.getD Y0.toNat default).getD 1 default) == ((Y1.Tr.getD Y0.toNat default).getD 2 default)) :: .b (((Y1.Tr.getD Y0.toNat default).getD 1 default) == ((Y1.Tr.getD Y0.toNat default).getD 2 default)) :: .b (((Y1.Tr.getD Y0.toNat default).getD 1 default) == ((Y1.Tr.getD Y0.toNat default).getD 2 default)) :: .sl ((Y1.Tr.getD Y0.toNat default).map (cI .i64)) :: .ref [.i .i64 ((Y1.Tr.getD Y0.toNat default).getD 0 default)] 0 :: .i .i64 ((Y1.Tr.getD Y0.toNat default).getD 0 default) :: .sl ((Y1.Tr.getD Y0.toNat default).map (cI .i64)) :: .ref [.i .i64 ((Y1.Tr.getD Y0.toNat default).getD 2 default)] 0 :: .i .i64 ((Y1.Tr.getD Y0.toNat default).getD 2 default) :: .b (((Y1.Tr.getD Y0.toNat default).getD 0 default) == ((Y1.Tr.getD Y0.toNat default).getD 2 default)) :: .b (((Y1.Tr.getD Y0.toNat default).getD 0 default) == ((Y1.Tr.getD Y0.toNat default).getD 2 default)) :: .sl ((Y1.Tr.getD Y0.toNat default).map (cI .i64)) :: .i .i64 ((Y1.Tr.getD Y0.toNat default).length:Int) :: an 11 [],[.box 27 [.sl (Y1.Pq.map Gv.c), .sl (Y1.Tr.map (cL (cI .i64)))]]⟩)
def Z4F (Y1:Gm) (Y0:Int) (Y3:Int):St:=⟨.agg [.sl (Y1.Pq.map Gv.c), .sl (Y1.Tr.map (cL (cI .i64)))] :: .ptr 0 0 0 :: .any :: .i .i64 (Y1.Pq.length:Int) :: .any :: .sl ((Y1.Tr.getD Y0.toNat default).map (cI .i64)) :: .any :: .any :: .ptr 0 0 0 :: .sl (Y1.Pq.map Gv.c) :: .i .i64 (Y1.Pq.length:Int) :: .i .i64 (Y1.Pq.length:Int) :: .b (decide ((Y1.Pq.length:Int) > 64)) :: .b (decide ((Y1.Pq.length:Int) > 64)) :: .ptr 0 0 1 :: .sl (Y1.Tr.map (cL (cI .i64))) :: .i .i64 (Y1.Tr.length:Int) :: .b (decide ((Y1.Tr.length:Int) > 128)) :: .b (decide ((Y1.Tr.length:Int) > 128)) :: .ptr 0 0 1 :: .sl (Y1.Tr.map (cL (cI .i64))) :: .i .i64 (Y1.Tr.length:Int) :: .i .i64 Y0 :: .b (decide (Y0 < (Y1.Tr.length:Int))) :: .ref [.sl ((Y1.Tr.getD Y0.toNat default).map (cI .i64))] 0 :: .sl ((Y1.Tr.getD Y0.toNat default).map (cI .i64)) :: .sl ((Y1.Tr.getD Y0.toNat default).map (cI .i64)) :: .i .i64 ((Y1.Tr.getD Y0.toNat default).length:Int) :: .b (((Y1.Tr.getD Y0.toNat default).length:Int) != 3) :: .b (((Y1.Tr.getD Y0.toNat default).length:Int) != 3) :: .sl ((Y1.Tr.getD Y0.toNat default).map (cI .i64)) :: .ref [.i .i64 ((Y1.Tr.getD Y0.toNat default).getD 0 default)] 0 :: .i .i64 ((Y1.Tr.getD Y0.toNat default).getD 0 default) :: .sl ((Y1.Tr.getD Y0.toNat default).map (cI .i64)) :: .ref [.i .i64 ((Y1.Tr.getD Y0.toNat default).getD 1 default)] 0 :: .i .i64 ((Y1.Tr.getD Y0.toNat default).getD 1 default) :: .b (((Y1.Tr.getD Y0.toNat default).getD 0 default) == ((Y1.Tr.getD Y0.toNat default).getD 1 default)) :: .b (((Y1.Tr.getD Y0.toNat default).getD 0 default) == ((Y1.Tr.getD Y0.toNat default).getD 1 default)) :: .b (((Y1.Tr.getD Y0.toNat default).getD 0 default) == ((Y1.Tr.getD Y0.toNat default).getD 1 default)) :: .sl ((Y1.Tr.getD Y0.toNat default).map (cI .i64)) :: .ref [.i .i64 ((Y1.Tr.getD Y0.toNat default).getD 1 default)] 0 :: .i .i64 ((Y1.Tr.getD Y0.toNat default).getD 1 default) :: .sl ((Y1.Tr.getD Y0.toNat default).map (cI .i64)) :: .ref [.i .i64 ((Y1.Tr.getD Y0.toNat default).getD 2 default)] 0 :: .i .i64 ((Y1.Tr.getD Y0.toNat default).getD 2 default) :: .b (((Y1.Tr.getD Y0.toNat default).getD 1 default) == ((Y1.Tr.getD Y0.toNat default).getD 2 default)) :: .b (((Y1.Tr.getD Y0.toNat default).getD 1 default) == ((Y1.Tr.getD Y0.toNat default).getD 2 default)) :: .b (((Y1.Tr.getD Y0.toNat default).getD 1 default) == ((Y1.Tr.getD Y0.toNat default).getD 2 default)) :: .sl ((Y1.Tr.getD Y0.toNat default).map (cI .i64)) :: .ref [.i .i64 ((Y1.Tr.getD Y0.toNat default).getD 0 default)] 0 :: .i .i64 ((Y1.Tr.getD Y0.toNat default).getD 0 default) :: .sl ((Y1.Tr.getD Y0.toNat default).map (cI .i64)) :: .ref [.i .i64 ((Y1.Tr.getD Y0.toNat default).getD 2 default)] 0 :: .i .i64 ((Y1.Tr.getD Y0.toNat default).getD 2 default) :: .b (((Y1.Tr.getD Y0.toNat default).getD 0 default) == ((Y1.Tr.getD Y0.toNat default).getD 2 default)) :: .b (((Y1.Tr.getD Y0.toNat default).getD 0 default) == ((Y1.Tr.getD Y0.toNat default).getD 2 default)) :: .sl ((Y1.Tr.getD Y0.toNat default).map (cI .i64)) :: .i .i64 ((Y1.Tr.getD Y0.toNat default).length:Int) :: .i .i64 Y3 :: an 10 [],[.box 27 [.sl (Y1.Pq.map Gv.c), .sl (Y1.Tr.map (cL (cI .i64)))]]⟩
def Z2m:List Bool:=(mR false [0,2,1,1,1,1,2,51,10])
def Z4h:List Bool:=(mR false [0,2,1,1,1,1,2,50,11])
theorem Z3t (Y1:Gm) (Y0:Int) (hp0:Y1.Pq.length≤1073741824) (hp1:Y1.Tr.length≤1073741824) (hp2:∀ t∈Y1.Tr,t.length≤1073741824) (Z1F:(decide ((Y1.Pq.length:Int) > 64))=false) (Z1G:(decide ((Y1.Tr.length:Int) > 128))=false) (Z1H:0≤Y0) (Z61:(((Y1.Tr.getD Y0.toNat default).length:Int) != 3)=false) (Z62:(decide ((Y1.Pq.length:Int) > 64))=false) (Z63:(decide ((Y1.Tr.length:Int) > 128))=false) (Z64:(decide (Y0 < (Y1.Tr.length:Int)))=true):∀ (k:Nat) (Y3:Int) (Z36:0≤Y3) (hk:(((Y1.Tr.getD Y0.toNat default).length:Int) - Y3).toNat < k),Lp prog 0 (sub (X0 f61) [1,1,1,0,1,0,0,1,1,0,0,1,1,1,0,0]) (Z4F Y1 Y0 Y3) (Z2b Y1 Y0 (ZM Y1 Y0 k Y3)).1 (Z2b Y1 Y0 (ZM Y1 Y0 k Y3)).2:=by
 intro k
 induction k with
 | zero=>intro Y3 Z36 hk;exact absurd hk (Nat.not_lt_zero _)
 | succ k ih =>
  intro Y3 Z36 hk
  cases Yr:(decide (Y3 < ((Y1.Tr.getD Y0.toNat default).length:Int))) with
  | true =>
   have YX:=odt Yr
   have Y13:(0:Int)≤Y3:=(by assumption)
   have Y14:Y3 < ((Y1.Tr.getD Y0.toNat default).length:Int):=(by assumption)
   have p {a C} (s:Scr a C):=sB Yr<|sG (cI .i64) (Y1.Tr.getD Y0.toNat default) Y3 Y13 Y14<|sW .i64 ((Y1.Pq.length:Int) - 1)<|sF (Z5S ((Y1.Tr.getD Y0.toNat default).getD Y3.toNat default) 0 (IntKind.wrap .i64 ((Y1.Pq.length:Int) - 1)))<|s
   cases YB:(Z1t ((Y1.Tr.getD Y0.toNat default).getD Y3.toNat default) 0 (IntKind.wrap .i64 ((Y1.Pq.length:Int) - 1))) with
   | true =>
    have YY:(-9223372036854775808:Int)≤(Y3 + 1):=by clear p;exact (by omega)
    have YT:(Y3 + 1)≤(9223372036854775807:Int):=by clear p;exact (by simp_all<;>omega)
    have e:ZM Y1 Y0 (k + 1) Y3=(ZM Y1 Y0 k (Y3 + 1)):=by simp only [ZM,Yr,YB,cond_true]
    rw [e]
    exact Xs E0Ok Zb [] Z2m [0] (ih (Y3 + 1) (show 0≤(Y3 + 1) from (by omega)) (by omega)) (p (sB' YB<|sI (Y3 + 1) YY YT<|sN)) (by kernel_rfl)
   | false =>
    have e:ZM Y1 Y0 (k + 1) Y3=(.inl ()):=by simp only [ZM,Yr,YB,cond_true,cond_false]
    rw [e]
    exact outR (e := .ret) E0Ok Zb [] (mR false [2,1,66]) [] (p (sB' YB<|sN)) (by kernel_rfl) (by intro h;cases h)
  | false =>
   have YX:=odf Yr
   have e:ZM Y1 Y0 (k + 1) Y3=(.inr ()):=by simp only [ZM,Yr,cond_false]
   rw [e]
   exact outR (e:=(.exit 2)) E0Ok Zb [] Z4h [0] (sB Yr<|sN) (by kernel_rfl) (by intro h;cases h)
def Z1z (Y1:Gm) (Y0:Int):(Unit) ⊕ (Unit):=(ZM Y1 Y0 ((((Y1.Tr.getD Y0.toNat default).length:Int) - 0).toNat + 1) 0)
def Zl (Y1:Gm):Nat→Int→(Unit) ⊕ (Unit)
  | 0,_ => .inl default
  | k + 1,Y0=>(cond (decide (Y0 < (Y1.Tr.length:Int)))
    (cond (((Y1.Tr.getD Y0.toNat default).length:Int) != 3)
      (.inl ())
      (cond (((Y1.Tr.getD Y0.toNat default).getD 0 default) == ((Y1.Tr.getD Y0.toNat default).getD 1 default))
        (.inl ())
        (cond (((Y1.Tr.getD Y0.toNat default).getD 1 default) == ((Y1.Tr.getD Y0.toNat default).getD 2 default))
          (.inl ())
          (cond (((Y1.Tr.getD Y0.toNat default).getD 0 default) == ((Y1.Tr.getD Y0.toNat default).getD 2 default))
            (.inl ())
            (match (Z1z Y1 Y0) with
              | .inl r_6=>(.inl ())
              | .inr r_6=>(Zl Y1 k (Y0 + 1)))))))
    (.inr ()))
def Z2c (Y1:Gm):(Unit) ⊕ (Unit)→Ex × St
  | .inl r=>(.ret,⟨.any :: .any :: .b false :: an 66 [],[]⟩)
  | .inr r=>((.exit 0),⟨.agg [.sl (Y1.Pq.map Gv.c), .sl (Y1.Tr.map (cL (cI .i64)))] :: .ptr 0 0 0 :: .any :: .i .i64 (Y1.Pq.length:Int) :: an 4 (.ptr 0 0 0 :: .sl (Y1.Pq.map Gv.c) :: .i .i64 (Y1.Pq.length:Int) :: .i .i64 (Y1.Pq.length:Int) :: .b (decide ((Y1.Pq.length:Int) > 64)) :: .b (decide ((Y1.Pq.length:Int) > 64)) :: .ptr 0 0 1 :: .sl (Y1.Tr.map (cL (cI .i64))) :: .i .i64 (Y1.Tr.length:Int) :: .b (decide ((Y1.Tr.length:Int) > 128)) :: .b (decide ((Y1.Tr.length:Int) > 128)) :: .ptr 0 0 1 :: .sl (Y1.Tr.map (cL (cI .i64))) :: an 48 []),[.box 27 [.sl (Y1.Pq.map Gv.c), .sl (Y1.Tr.map (cL (cI .i64)))]]⟩)
def Z4G (Y1:Gm) (Y0:Int):St:=⟨.agg [.sl (Y1.Pq.map Gv.c), .sl (Y1.Tr.map (cL (cI .i64)))] :: .ptr 0 0 0 :: .any :: .i .i64 (Y1.Pq.length:Int) :: an 4 (.ptr 0 0 0 :: .sl (Y1.Pq.map Gv.c) :: .i .i64 (Y1.Pq.length:Int) :: .i .i64 (Y1.Pq.length:Int) :: .b (decide ((Y1.Pq.length:Int) > 64)) :: .b (decide ((Y1.Pq.length:Int) > 64)) :: .ptr 0 0 1 :: .sl (Y1.Tr.map (cL (cI .i64))) :: .i .i64 (Y1.Tr.length:Int) :: .b (decide ((Y1.Tr.length:Int) > 128)) :: .b (decide ((Y1.Tr.length:Int) > 128)) :: .ptr 0 0 1 :: .sl (Y1.Tr.map (cL (cI .i64))) :: .i .i64 (Y1.Tr.length:Int) :: .i .i64 Y0 :: an 46 []),[.box 27 [.sl (Y1.Pq.map Gv.c), .sl (Y1.Tr.map (cL (cI .i64)))]]⟩
theorem Z3u (Y1:Gm) (hp0:Y1.Pq.length≤1073741824) (hp1:Y1.Tr.length≤1073741824) (hp2:∀ t∈Y1.Tr,t.length≤1073741824) (Z1F:(decide ((Y1.Pq.length:Int) > 64))=false) (Z1G:(decide ((Y1.Tr.length:Int) > 128))=false):∀ (k:Nat) (Y0:Int) (Z1H:0≤Y0) (hk:((Y1.Tr.length:Int) - Y0).toNat < k),Lp prog 0 (sub (X0 f61) [1,1,1,0,1,0,0]) (Z4G Y1 Y0) (Z2c Y1 (Zl Y1 k Y0)).1 (Z2c Y1 (Zl Y1 k Y0)).2:=by
 intro k
 induction k with
 | zero=>intro Y0 Z1H hk;exact absurd hk (Nat.not_lt_zero _)
 | succ k ih =>
  intro Y0 Z1H hk
  cases Ym:(decide (Y0 < (Y1.Tr.length:Int))) with
  | true =>
   have YF:=odt Ym
   have YR:(0:Int)≤Y0:=(by assumption)
   have YL:Y0 < (Y1.Tr.length:Int):=(by assumption)
   have p {a C} (s:Scr a C):=sB Ym<|sG (cL (cI .i64)) Y1.Tr Y0 YR YL<|sK [28,28]<|sZ (cI .i64) (Y1.Tr.getD Y0.toNat default)<|s
   cases Yz:(((Y1.Tr.getD Y0.toNat default).length:Int) != 3) with
   | true =>
    have Y1d:=bne_iff_ne.1 Yz
    have e:Zl Y1 (k + 1) Y0=(.inl ()):=by simp only [Zl,Ym,Yz,cond_true]
    rw [e]
    exact outR (e := .ret) E0Ok Zb [] (mR false [2,1,66]) [] (p (sB Yz<|sB Yz<|sB Yz<|sB Yz<|sB Yz<|sB Yz<|sB Yz<|sB Yz<|sB (show true=true from rfl)<|sB (show true=true from rfl)<|sB (show true=true from rfl)<|sB (show true=true from rfl)<|sB (show true=true from rfl)<|sB (show true=true from rfl)<|sB (show true=true from rfl)<|sB (show true=true from rfl)<|sB (show true=true from rfl)<|sB (show true=true from rfl)<|sB (show true=true from rfl)<|sB (show true=true from rfl)<|sB (show true=true from rfl)<|sB (show true=true from rfl)<|sB (show true=true from rfl)<|sB (show true=true from rfl)<|sB (show true=true from rfl)<|sN)) (by kernel_rfl) (by intro h;cases h)
   | false =>
    have Y1d:=bne_eq_false_iff_eq.1 Yz
    have YZ:(0:Int)≤0:=by clear p;exact (by omega)
    have YU:0 < ((Y1.Tr.getD Y0.toNat default).length:Int):=by clear p;exact (by omega)
    have y_4:(0:Int)≤1:=by clear p;exact (by omega)
    have y_5:1 < ((Y1.Tr.getD Y0.toNat default).length:Int):=by clear p;exact (by omega)
    have q {a C} (s:Scr a C):=p (sB Yz<|sB Yz<|sG (cI .i64) (Y1.Tr.getD Y0.toNat default) 0 YZ YU<|sB Yz<|sB Yz<|sB Yz<|sG (cI .i64) (Y1.Tr.getD Y0.toNat default) 1 y_4 y_5<|sB Yz<|sB Yz<|sB Yz<|s)
    clear p
    cases YN:(((Y1.Tr.getD Y0.toNat default).getD 0 default) == ((Y1.Tr.getD Y0.toNat default).getD 1 default)) with
    | true =>
     have Y1e:=eq_of_beq YN
     have e:Zl Y1 (k + 1) Y0=(.inl ()):=by simp only [Zl,Ym,Yz,YN,cond_true,cond_false]
     rw [e]
     exact outR (e := .ret) E0Ok Zb [] (mR false [2,1,66]) [] (q (sB YN<|sB YN<|sB YN<|sB YN<|sB YN<|sB YN<|sB YN<|sB YN<|sB (show true=true from rfl)<|sB (show true=true from rfl)<|sB (show true=true from rfl)<|sB (show true=true from rfl)<|sB (show true=true from rfl)<|sB (show true=true from rfl)<|sB (show true=true from rfl)<|sB (show true=true from rfl)<|sB (show true=true from rfl)<|sN)) (by kernel_rfl) (by intro h;cases h)
    | false =>
     have Y1e:=ne_of_beq_false YN
     have y_6:(0:Int)≤2:=by clear q;exact (by omega)
     have y_7:2 < ((Y1.Tr.getD Y0.toNat default).length:Int):=by clear q;exact (by omega)
     have p {a C} (s:Scr a C):=q (sB YN<|sB YN<|sG (cI .i64) (Y1.Tr.getD Y0.toNat default) 1 y_4 y_5<|sB YN<|sB YN<|sB YN<|sG (cI .i64) (Y1.Tr.getD Y0.toNat default) 2 y_6 y_7<|sB YN<|sB YN<|sB YN<|s)
     clear q
     cases h_3:(((Y1.Tr.getD Y0.toNat default).getD 1 default) == ((Y1.Tr.getD Y0.toNat default).getD 2 default)) with
     | true =>
      have gh_3:=eq_of_beq h_3
      have e:Zl Y1 (k + 1) Y0=(.inl ()):=by simp only [Zl,Ym,Yz,YN,h_3,cond_true,cond_false]
      rw [e]
      exact outR (e := .ret) E0Ok Zb [] (mR false [2,1,66]) [] (p (sB h_3<|sB h_3<|sB h_3<|sB h_3<|sB h_3<|sB h_3<|sB h_3<|sB h_3<|sB (show true=true from rfl)<|sN)) (by kernel_rfl) (by intro h;cases h)
     | false =>
      have gh_3:=ne_of_beq_false h_3
      have q {a C} (s:Scr a C):=p (sB h_3<|sB h_3<|sG (cI .i64) (Y1.Tr.getD Y0.toNat default) 0 YZ YU<|sB h_3<|sB h_3<|sB h_3<|sG (cI .i64) (Y1.Tr.getD Y0.toNat default) 2 y_6 y_7<|sB h_3<|sB h_3<|sB h_3<|s)
      clear p
      cases h_4:(((Y1.Tr.getD Y0.toNat default).getD 0 default) == ((Y1.Tr.getD Y0.toNat default).getD 2 default)) with
      | true =>
       have gh_4:=eq_of_beq h_4
       have e:Zl Y1 (k + 1) Y0=(.inl ()):=by simp only [Zl,Ym,Yz,YN,h_3,h_4,cond_true,cond_false]
       rw [e]
       exact outR (e := .ret) E0Ok Zb [] (mR false [2,1,66]) [] (q (sB h_4<|sN)) (by kernel_rfl) (by intro h;cases h)
      | false =>
       have gh_4:=ne_of_beq_false h_4
       have p {a C} (s:Scr a C):=q (sB h_4<|sZ (cI .i64) (Y1.Tr.getD Y0.toNat default)<|s)
       clear q
       cases h_5:(Z1z Y1 Y0) with
       | inl r_6 =>
        have e:Zl Y1 (k + 1) Y0=(.inl ()):=by simp only [Zl,Ym,Yz,YN,h_3,h_4,h_5,cond_true,cond_false]
        rw [e]
        exact outR (e := .ret) E0Ok Zb [] (mR false [2,1,66]) [] (p (sL Z2m 1 (Xb (Z2b Y1 Y0) (x:=(Z1z Y1 Y0)) (Z3t Y1 Y0 hp0 hp1 hp2 Z1F Z1G Z1H Yz Z1F Z1G Ym ((((Y1.Tr.getD Y0.toNat default).length:Int) - 0).toNat + 1) 0 (show 0≤0 from (by assumption)) (Nat.lt_succ_self _)) h_5)<|sN)) (by kernel_rfl) (by intro h;cases h)
       | inr r_6 =>
        have y_8:(-9223372036854775808:Int)≤(Y0 + 1):=by clear p;exact (by omega)
        have y_9:(Y0 + 1)≤(9223372036854775807:Int):=by clear p;exact (by omega)
        have e:Zl Y1 (k + 1) Y0=(Zl Y1 k (Y0 + 1)):=by simp only [Zl,Ym,Yz,YN,h_3,h_4,h_5,cond_true,cond_false]
        rw [e]
        exact Xs E0Ok Zb [] (mR false [0,2,1,1,4,15,46]) [0] (ih (Y0 + 1) (show 0≤(Y0 + 1) from (by omega)) (by omega)) (p (sL Z2m 1 (Xb (Z2b Y1 Y0) (x:=(Z1z Y1 Y0)) (Z3t Y1 Y0 hp0 hp1 hp2 Z1F Z1G Z1H Yz Z1F Z1G Ym ((((Y1.Tr.getD Y0.toNat default).length:Int) - 0).toNat + 1) 0 (show 0≤0 from (by assumption)) (Nat.lt_succ_self _)) h_5)<|sI (Y0 + 1) y_8 y_9<|sN)) (by kernel_rfl)
  | false =>
   have YF:=odf Ym
   have e:Zl Y1 (k + 1) Y0=(.inr ()):=by simp only [Zl,Ym,cond_false]
   rw [e]
   exact outR (e:=(.exit 0)) E0Ok Zb [] (mR false [0,2,1,1,4,13,48]) [0] (sB Ym<|sN) (by kernel_rfl) (by intro h;cases h)
def Z1I (Y1:Gm):(Unit) ⊕ (Unit):=(Zl Y1 (((Y1.Tr.length:Int) - 0).toNat + 1) 0)
def Za (Y1:Gm):Bool:=(cond (decide ((Y1.Pq.length:Int) > 64))
  false
  (cond (decide ((Y1.Tr.length:Int) > 128))
    false
    (match (Z1I Y1) with
      | .inl r3=>false
      | .inr r3=>true)))
def triI (t:List Int) (n:Int):Bool:=(!((t.length:Int) != 3) && (!(t.getD 0 default == t.getD 1 default) && (!(t.getD 1 default == t.getD 2 default) && (!(t.getD 0 default == t.getD 2 default) && t.all fun x=>Z1t x 0 (IntKind.wrap .i64 (n - 1))))))
theorem Z6h (m:Gm) (k:Nat) (i:Int):Zl m (k + 1) i=cond (decide (i < (m.Tr.length:Int))) (cond (triI (m.Tr.getD i.toNat default) (m.Pq.length:Int)) (Zl m k (i + 1)) (.inl ())) (.inr ()):=by
  rw [Zl]
  have hin:Z1z m i=cond ((m.Tr.getD i.toNat default).all fun x=>Z1t x 0 (IntKind.wrap .i64 ((m.Pq.length:Int) - 1))) (.inr ()) (.inl ()):=by
    unfold Z1z
    exact X6u (a:=m.Tr.getD i.toNat default) (p:=fun x=>Z1t x 0 (IntKind.wrap .i64 ((m.Pq.length:Int) - 1))) (lo:=ZM m i) (x:=()) (y:=()) (fun k i=>rfl)
  rw [hin]
  unfold triI
  generalize m.Tr.getD i.toNat default=t
  generalize (t.all fun x=>Z1t x 0 (IntKind.wrap .i64 ((m.Pq.length:Int) - 1)))=q
  cases ((t.length:Int) != 3)<;>cases (t.getD 0 default == t.getD 1 default)<;>cases (t.getD 1 default == t.getD 2 default)<;>cases (t.getD 0 default == t.getD 2 default)<;>cases q<;>rfl
theorem Z6w (m:Gm):Za m=cond (decide ((m.Pq.length:Int) > 64)) false (cond (decide ((m.Tr.length:Int) > 128)) false (m.Tr.all fun t=>triI t (m.Pq.length:Int))):=by
  unfold Za Z1I
  rw [X6u (a:=m.Tr) (p:=fun t=>triI t (m.Pq.length:Int)) (lo:=Zl m) (x:=()) (y:=()) (Z6h m)]
  cases (m.Tr.all fun t=>triI t (m.Pq.length:Int))<;>rfl
theorem Z29 (m:Gm) (h:Za m=true):OkE m.Pq.length m.Tr:=by
  rw [Z6w] at h
  cases h1:decide ((m.Pq.length:Int) > 64)<;>rw [h1] at h<;>(try (cases h;done))
  cases h2:decide ((m.Tr.length:Int) > 128)<;>rw [h2] at h<;>(try (cases h;done))
  simp only [cond_false,List.all_eq_true,decide_eq_false_iff_not] at h h1 h2
  refine ⟨by omega,by omega,fun t ht => ?_⟩
  have h3:=h t ht
  unfold triI at h3
  rw [X8U (by omega) (by omega)] at h3
  simp only [Bool.and_eq_true,Bool.not_eq_true',List.all_eq_true,bne_eq_false_iff_eq,beq_eq_false_iff_ne] at h3
  obtain ⟨g0,g1,g2,g3,g4⟩:=h3
  have hl:t.length=3:=by omega
  match t,hl with
  | [a,b,c],_ =>
    have hw:∀ x,Z1t x 0 ((m.Pq.length:Int) - 1)=true→0≤x∧x < (m.Pq.length:Int):=by
      intro x hx
      unfold Z1t at hx
      cases f1:decide (x ≥ 0)<;>rw [f1] at hx<;>(try (cases hx;done))
      simp only [cond_true,decide_eq_true_eq] at hx f1
      omega
    exact ⟨a,b,c,rfl,hw a (g4 a (by simp)),hw b (g4 b (by simp)),hw c (g4 c (by simp)),g1,g2,g3⟩
theorem Z2r (Y1:Gm) (hp0:Y1.Pq.length≤1073741824) (hp1:Y1.Tr.length≤1073741824) (hp2:∀ t∈Y1.Tr,t.length≤1073741824)  : Fn prog 61 [.agg [.sl (Y1.Pq.map Gv.c), .sl (Y1.Tr.map (cL (cI .i64)))]] (.b (Za Y1)) []:=by
 have p {a C} (s:Scr a C):=sZ Gv.c Y1.Pq<|s
 cases h0:(decide ((Y1.Pq.length:Int) > 64)) with
 | true =>
  have gh0:=odt h0
  refine fnS E0Ok Zb (c:=X0 f61) [] (.b false) [] func61 (p (sB h0<|sB h0<|sB h0<|sB h0<|sB h0<|sB (show true=true from rfl)<|sK [] sN)) rfl (by kernel_rfl) (by kernel_rfl) rfl ?_ ?_
  · simp only [Za,h0,cond_true]
  · rfl
 | false =>
  have gh0:=odf h0
  have q {a C} (s:Scr a C):=p (sB h0<|sB h0<|sB h0<|sZ (cL (cI .i64)) Y1.Tr<|sB h0<|sB h0<|s)
  clear p
  cases h1:(decide ((Y1.Tr.length:Int) > 128)) with
  | true =>
   have gh1:=odt h1
   refine fnS E0Ok Zb (c:=X0 f61) [] (.b false) [] func61 (q (sB h1<|sK [] sN)) rfl (by kernel_rfl) (by kernel_rfl) rfl ?_ ?_
   · simp only [Za,h0,h1,cond_true,cond_false]
   · rfl
  | false =>
   have gh1:=odf h1
   have p {a C} (s:Scr a C):=q (sB h1<|sZ (cL (cI .i64)) Y1.Tr<|s)
   clear q
   cases h2:(Z1I Y1) with
   | inl r3 =>
    refine fnS E0Ok Zb (c:=X0 f61) [] (.b false) [] func61 (p (sL (mR false [0,2,1,1,4,15,46]) 1 (Xb (Z2c Y1) (x:=(Z1I Y1)) (Z3u Y1 hp0 hp1 hp2 h0 h1 (((Y1.Tr.length:Int) - 0).toNat + 1) 0 (show 0≤0 from (by omega)) (Nat.lt_succ_self _)) h2)<|sK [] sN)) rfl (by kernel_rfl) (by kernel_rfl) rfl ?_ ?_
    · simp only [Za,h0,h1,h2,cond_false]
    · rfl
   | inr r3 =>
    refine fnS E0Ok Zb (c:=X0 f61) [] (.b true) [] func61 (p (sL (mR false [0,2,1,1,4,15,46]) 1 (Xb (Z2c Y1) (x:=(Z1I Y1)) (Z3u Y1 hp0 hp1 hp2 h0 h1 (((Y1.Tr.length:Int) - 0).toNat + 1) 0 (show 0≤0 from (by omega)) (Nat.lt_succ_self _)) h2)<|sK [] sN)) rfl (by kernel_rfl) (by kernel_rfl) rfl ?_ ?_
    · simp only [Za,h0,h1,h2,cond_false]
    · rfl
end Go.Ab
