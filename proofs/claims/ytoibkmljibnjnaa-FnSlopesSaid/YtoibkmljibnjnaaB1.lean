/- The functions of this seat as plain Lean, and that the program's are these. Printed by a program of the prover's own. -/
import Derived.Test.YtoibkmljibnjnaaB0
set_option linter.unusedVariables false
set_option linter.unusedSimpArgs false
set_option maxRecDepth 100000
namespace Go.Ab
open Go.RowKit Go.Proofs.Try
def Z2c (Y0:(List Int)) (Yh:(List Int)):Bool:=(cond (decide ((Y0.length:Int) > 1048576))
  true
  (decide ((Yh.length:Int) > 1048576)))
theorem Z7i {a b:List Int} (h:Z2c a b=false):a.length≤1048576∧b.length≤1048576:=by
  unfold Z2c at h
  cases h1:decide ((a.length:Int) > 1048576) with
  | true=>rw [h1] at h;cases h
  | false =>
    rw [h1,cond_false] at h
    have h1:=odf h1
    have h2:=odf h
    omega
theorem Z7F (Y0:(List Int)) (Yh:(List Int)) (hp0:Y0.length≤9223372036854775807) (hp1:Yh.length≤9223372036854775807)  : Fn prog 8 [.sl (Y0.map (cI .u8)), .sl (Yh.map (cI .u8))] (.b (Z2c Y0 Yh)) []:=by
 have p {a C} (s:Scr a C):=sZ (cI .u8) Y0<|s
 cases h0:(decide ((Y0.length:Int) > 1048576)) with
 | true =>
  have gh0:=odt h0
  refine fnS E0Ok Ze (c:=X0 f8) [] (.b true) [] func8 (p (sB h0<|sB h0<|sB h0<|sB h0<|sK [] sN)) rfl (by kernel_rfl) (by kernel_rfl) rfl ?_ ?_
  · simp only [Z2c,h0,cond_true]
  · rfl
 | false =>
  have gh0:=odf h0
  refine fnS E0Ok Ze (c:=X0 f8) [] (.b (decide ((Yh.length:Int) > 1048576))) [] func8 (p (sB h0<|sB h0<|sZ (cI .u8) Yh<|sB h0<|sB h0<|sK [] sN)) rfl (by kernel_rfl) (by kernel_rfl) rfl ?_ ?_
  · simp only [Z2c,h0,cond_false]
  · rfl
def Z1 (Y0:(List Int)):Gl00Src:=(⟨Y0,0,0⟩:Gl00Src)
@[simp] theorem Z6q (c:List Int):(Z1 c).code=c:=rfl
@[simp] theorem Zb2 (c:List Int):(Z1 c).at_=0:=rfl
@[simp] theorem Zb1 (c:List Int):(Z1 c).seed=0:=rfl
theorem Z6R (Yl:Nat) (Ym:Nat) (Yn:Nat) (Yo:Nat) (Yp:Nat) (Y0:(List Int)) (hp0:Y0.length≤1073741824)  : X7 prog 54 [.box 34 [.nils, .nils, .nils, .f .f32 Yl, .f .f32 Ym, .nils, .f .f32 Yn, .f .f32 Yo, .f .f32 Yp]] [.sl (Y0.map (cI .u8))] (.ptr 1 0 0) [.box 34 [.nils, .nils, .nils, .f .f32 Yl, .f .f32 Ym, .nils, .f .f32 Yn, .f .f32 Yo, .f .f32 Yp], .box 134 [.sl (((Z1 Y0).code).map (cI .u8)), .i .i64 ((Z1 Y0).at_), .i .u64 ((Z1 Y0).seed)]]:=by
 refine Xd (EpOk 1) Ze (c:=X0 f54) [.box 34 [.nils, .nils, .nils, .f .f32 Yl, .f .f32 Ym, .nils, .f .f32 Yn, .f .f32 Yo, .f .f32 Yp]] [] (.ptr 1 0 0) [.box 34 [.nils, .nils, .nils, .f .f32 Yl, .f .f32 Ym, .nils, .f .f32 Yn, .f .f32 Yo, .f .f32 Yp], .box 134 [.sl (Y0.map (cI .u8)), .i .i64 0, .i .u64 0]] func54 (sK [1] sN) rfl (by kernel_rfl) (by kernel_rfl) ?_ ?_
 · rfl
 · simp [Z1]
def Zf (Yc:Gl00Src):Int:=(IntKind.wrap .u64 ((IntKind.wrap .u64 ((IntKind.wrap .u64 (Yc.seed * 6364136223846793005)) + (IntKind.wrap .u64 (IntKind.wrap .i64 (Yc.code.getD Yc.at_.toNat default))))) + 1442695040888963407))
def Z2 (Yc:Gl00Src):Int × Int × Int:=(cond (decide (Yc.at_ < (Yc.code.length:Int)))
  (cond (decide ((IntKind.wrap .i64 (Yc.at_ + 1))≤(Yc.code.length:Int)))
    ((IntKind.wrap .i64 (Yc.code.getD Yc.at_.toNat default)),(IntKind.wrap .i64 (Yc.at_ + 1)),(Zf Yc))
    ((IntKind.wrap .i64 (bitsOf .and .u64 (Int.fdiv (Zf Yc) (2 ^ (min (Int.toNat 40) (IntKind.bits .u64)))) 255)),(IntKind.wrap .i64 (Yc.at_ + 1)),(Zf Yc)))
  (cond (decide ((IntKind.wrap .i64 (Yc.at_ + 1))≤(Yc.code.length:Int)))
    (0,(IntKind.wrap .i64 (Yc.at_ + 1)),(IntKind.wrap .u64 ((IntKind.wrap .u64 ((IntKind.wrap .u64 (Yc.seed * 6364136223846793005)) + 0)) + 1442695040888963407)))
    ((IntKind.wrap .i64 (bitsOf .and .u64 (Int.fdiv (IntKind.wrap .u64 ((IntKind.wrap .u64 ((IntKind.wrap .u64 (Yc.seed * 6364136223846793005)) + 0)) + 1442695040888963407)) (2 ^ (min (Int.toNat 40) (IntKind.bits .u64)))) 255)),(IntKind.wrap .i64 (Yc.at_ + 1)),(IntKind.wrap .u64 ((IntKind.wrap .u64 ((IntKind.wrap .u64 (Yc.seed * 6364136223846793005)) + 0)) + 1442695040888963407)))))
theorem Z2O (s:Gl00Src):0≤s.at_∧s.at_≤1152921504606846976→(Z2 s).2.1=s.at_ + 1:=by
  intro h
  have e:IntKind.wrap .i64 (s.at_ + 1)=s.at_ + 1:=Xt (by omega) (by omega)
  unfold Z2
  rw [e]
  cases decide (s.at_ < (s.code.length:Int))<;>cases decide (s.at_ + 1≤(s.code.length:Int))<;>rfl
theorem Z9F (s:Gl00Src) (hc:OkB s.code) (h0:0≤s.at_):0≤(Z2 s).1∧(Z2 s).1≤255:=by
  have hb:∀ x:Int,0≤IntKind.wrap .i64 (bitsOf .and .u64 x 255)∧IntKind.wrap .i64 (bitsOf .and .u64 x 255)≤255:=fun x=>by
    have q:=XaS x
    rw [Xt (by omega) (by omega)];exact q
  unfold Z2
  by_cases h1:s.at_ < (s.code.length:Int)
  · have hm:s.code.getD s.at_.toNat default∈s.code:=by
      rw [List.getD_eq_getElem?_getD,List.getElem?_eq_getElem (show s.at_.toNat < s.code.length by omega)];exact List.getElem_mem _
    have q:=hc _ hm
    have e:IntKind.wrap .i64 (s.code.getD s.at_.toNat default)=s.code.getD s.at_.toNat default:=Xt (by omega) (by omega)
    rw [decide_eq_true h1,cond_true,e]
    cases decide (IntKind.wrap .i64 (s.at_ + 1)≤(s.code.length:Int)) with
    | true=>exact ⟨q.1,by have:=q.2;show s.code.getD s.at_.toNat default≤255;omega⟩
    | false=>exact hb _
  · rw [decide_eq_false h1,cond_false]
    cases decide (IntKind.wrap .i64 (s.at_ + 1)≤(s.code.length:Int)) with
    | true=>exact ⟨Int.le_refl 0,by show (0:Int)≤255;omega⟩
    | false=>exact hb _
theorem Z3h (Yl:Nat) (Ym:Nat) (Yn:Nat) (Yo:Nat) (Yp:Nat) (Yc:Gl00Src) (hp0:Yc.code.length≤1073741824) (hp1:0≤Yc.at_) (hp2:Yc.at_≤1152921504606846976)  : X7 prog 99 [.box 34 [.nils, .nils, .nils, .f .f32 Yl, .f .f32 Ym, .nils, .f .f32 Yn, .f .f32 Yo, .f .f32 Yp], .box 134 [.sl (Yc.code.map (cI .u8)), .i .i64 Yc.at_, .i .u64 Yc.seed]] [.ptr 1 0 0] (.i .i64 ((Z2 Yc).1)) [.box 34 [.nils, .nils, .nils, .f .f32 Yl, .f .f32 Ym, .nils, .f .f32 Yn, .f .f32 Yo, .f .f32 Yp], .box 134 [.sl (Yc.code.map (cI .u8)), .i .i64 ((Z2 Yc).2.1), .i .u64 ((Z2 Yc).2.2)]]:=by
 have p {a C} (s:Scr a C):=sK [9,9]<|sZ (cI .u8) Yc.code<|s
 cases h0:(decide (Yc.at_ < (Yc.code.length:Int))) with
 | true =>
  have gh0:=odt h0
  have y0:(0:Int)≤Yc.at_:=by clear p;exact (by assumption)
  have y1:Yc.at_ < (Yc.code.length:Int):=by clear p;exact (by assumption)
  have q {a C} (s:Scr a C):=p (sB h0<|sK [8,8]<|sG (cI .u8) Yc.code Yc.at_ y0 y1<|sW .i64 (Yc.code.getD Yc.at_.toNat default)<|sW .i64 (Yc.at_ + 1)<|sW .u64 (Yc.seed * 6364136223846793005)<|sW .u64 (IntKind.wrap .i64 (Yc.code.getD Yc.at_.toNat default))<|sW .u64 ((IntKind.wrap .u64 (Yc.seed * 6364136223846793005)) + (IntKind.wrap .u64 (IntKind.wrap .i64 (Yc.code.getD Yc.at_.toNat default))))<|sM (show IntKind.wrap .u64 ((IntKind.wrap .u64 ((IntKind.wrap .u64 (Yc.seed * 6364136223846793005)) + (IntKind.wrap .u64 (IntKind.wrap .i64 (Yc.code.getD Yc.at_.toNat default))))) + 1442695040888963407)=(Zf Yc) from rfl)<|sK [9,9]<|sZ (cI .u8) Yc.code<|s)
  clear p
  cases h1:(decide ((IntKind.wrap .i64 (Yc.at_ + 1))≤(Yc.code.length:Int))) with
  | true =>
   have gh1:=odt h1
   refine Xd (EpOk 2) Ze (c:=X0 f99) [.box 34 [.nils, .nils, .nils, .f .f32 Yl, .f .f32 Ym, .nils, .f .f32 Yn, .f .f32 Yo, .f .f32 Yp], .box 134 [.sl (Yc.code.map (cI .u8)), .i .i64 Yc.at_, .i .u64 Yc.seed]] [] (.i .i64 (IntKind.wrap .i64 (Yc.code.getD Yc.at_.toNat default))) [.box 34 [.nils, .nils, .nils, .f .f32 Yl, .f .f32 Ym, .nils, .f .f32 Yn, .f .f32 Yo, .f .f32 Yp], .box 134 [.sl (Yc.code.map (cI .u8)), .i .i64 (IntKind.wrap .i64 (Yc.at_ + 1)), .i .u64 (Zf Yc)]] func99 (q (sB h1<|sK [] sN)) rfl (by kernel_rfl) (by kernel_rfl) ?_ ?_
   · simp only [Z2,h0,h1,cond_true]
   · simp [Z2,h0,h1]
  | false =>
   have gh1:=odf h1
   refine Xd (EpOk 2) Ze (c:=X0 f99) [.box 34 [.nils, .nils, .nils, .f .f32 Yl, .f .f32 Ym, .nils, .f .f32 Yn, .f .f32 Yo, .f .f32 Yp], .box 134 [.sl (Yc.code.map (cI .u8)), .i .i64 Yc.at_, .i .u64 Yc.seed]] [] (.i .i64 (IntKind.wrap .i64 (bitsOf .and .u64 (Int.fdiv (Zf Yc) (2 ^ (min (Int.toNat 40) (IntKind.bits .u64)))) 255))) [.box 34 [.nils, .nils, .nils, .f .f32 Yl, .f .f32 Ym, .nils, .f .f32 Yn, .f .f32 Yo, .f .f32 Yp], .box 134 [.sl (Yc.code.map (cI .u8)), .i .i64 (IntKind.wrap .i64 (Yc.at_ + 1)), .i .u64 (Zf Yc)]] func99 (q (sB h1<|sC (show (0:Int)≤40 from (by decide))<|sQ (Int.fdiv (Zf Yc) (2 ^ (min (Int.toNat 40) (IntKind.bits .u64))))<|sQ (bitsOf .and .u64 (Int.fdiv (Zf Yc) (2 ^ (min (Int.toNat 40) (IntKind.bits .u64)))) 255)<|sW .i64 (bitsOf .and .u64 (Int.fdiv (Zf Yc) (2 ^ (min (Int.toNat 40) (IntKind.bits .u64)))) 255)<|sK [] sN)) rfl (by kernel_rfl) (by kernel_rfl) ?_ ?_
   · simp only [Z2,h0,h1,cond_true,cond_false]
   · simp [Z2,h0,h1]
 | false =>
  have gh0:=odf h0
  have q {a C} (s:Scr a C):=p (sB h0<|sW .i64 (Yc.at_ + 1)<|sW .u64 (Yc.seed * 6364136223846793005)<|sM (show IntKind.wrap .u64 0=0 from rfl)<|sW .u64 ((IntKind.wrap .u64 (Yc.seed * 6364136223846793005)) + 0)<|sW .u64 ((IntKind.wrap .u64 ((IntKind.wrap .u64 (Yc.seed * 6364136223846793005)) + 0)) + 1442695040888963407)<|sK [9,9]<|sZ (cI .u8) Yc.code<|s)
  clear p
  cases h1:(decide ((IntKind.wrap .i64 (Yc.at_ + 1))≤(Yc.code.length:Int))) with
  | true =>
   have gh1:=odt h1
   refine Xd (EpOk 2) Ze (c:=X0 f99) [.box 34 [.nils, .nils, .nils, .f .f32 Yl, .f .f32 Ym, .nils, .f .f32 Yn, .f .f32 Yo, .f .f32 Yp], .box 134 [.sl (Yc.code.map (cI .u8)), .i .i64 Yc.at_, .i .u64 Yc.seed]] [] (.i .i64 0) [.box 34 [.nils, .nils, .nils, .f .f32 Yl, .f .f32 Ym, .nils, .f .f32 Yn, .f .f32 Yo, .f .f32 Yp], .box 134 [.sl (Yc.code.map (cI .u8)), .i .i64 (IntKind.wrap .i64 (Yc.at_ + 1)), .i .u64 (IntKind.wrap .u64 ((IntKind.wrap .u64 ((IntKind.wrap .u64 (Yc.seed * 6364136223846793005)) + 0)) + 1442695040888963407))]] func99 (q (sB h1<|sK [] sN)) rfl (by kernel_rfl) (by kernel_rfl) ?_ ?_
   · simp only [Z2,h0,h1,cond_true,cond_false]
   · simp [Z2,h0,h1]
  | false =>
   have gh1:=odf h1
   refine Xd (EpOk 2) Ze (c:=X0 f99) [.box 34 [.nils, .nils, .nils, .f .f32 Yl, .f .f32 Ym, .nils, .f .f32 Yn, .f .f32 Yo, .f .f32 Yp], .box 134 [.sl (Yc.code.map (cI .u8)), .i .i64 Yc.at_, .i .u64 Yc.seed]] [] (.i .i64 (IntKind.wrap .i64 (bitsOf .and .u64 (Int.fdiv (IntKind.wrap .u64 ((IntKind.wrap .u64 ((IntKind.wrap .u64 (Yc.seed * 6364136223846793005)) + 0)) + 1442695040888963407)) (2 ^ (min (Int.toNat 40) (IntKind.bits .u64)))) 255))) [.box 34 [.nils, .nils, .nils, .f .f32 Yl, .f .f32 Ym, .nils, .f .f32 Yn, .f .f32 Yo, .f .f32 Yp], .box 134 [.sl (Yc.code.map (cI .u8)), .i .i64 (IntKind.wrap .i64 (Yc.at_ + 1)), .i .u64 (IntKind.wrap .u64 ((IntKind.wrap .u64 ((IntKind.wrap .u64 (Yc.seed * 6364136223846793005)) + 0)) + 1442695040888963407))]] func99 (q (sB h1<|sC (show (0:Int)≤40 from (by decide))<|sQ (Int.fdiv (IntKind.wrap .u64 ((IntKind.wrap .u64 ((IntKind.wrap .u64 (Yc.seed * 6364136223846793005)) + 0)) + 1442695040888963407)) (2 ^ (min (Int.toNat 40) (IntKind.bits .u64))))<|sQ (bitsOf .and .u64 (Int.fdiv (IntKind.wrap .u64 ((IntKind.wrap .u64 ((IntKind.wrap .u64 (Yc.seed * 6364136223846793005)) + 0)) + 1442695040888963407)) (2 ^ (min (Int.toNat 40) (IntKind.bits .u64)))) 255)<|sW .i64 (bitsOf .and .u64 (Int.fdiv (IntKind.wrap .u64 ((IntKind.wrap .u64 ((IntKind.wrap .u64 (Yc.seed * 6364136223846793005)) + 0)) + 1442695040888963407)) (2 ^ (min (Int.toNat 40) (IntKind.bits .u64)))) 255)<|sK [] sN)) rfl (by kernel_rfl) (by kernel_rfl) ?_ ?_
   · simp only [Z2,h0,h1,cond_false]
   · simp [Z2,h0,h1]
def Zv (Yc:Gl00Src):Int:=(IntKind.wrap .i64 ((IntKind.wrap .i64 ((Z2 Yc).1 * 256)) + (Z2 (⟨Yc.code,(Z2 Yc).2.1,(Z2 Yc).2.2⟩:Gl00Src)).1))
def Z0 (Yc:Gl00Src) (YJ:Int):Int × Int × Int:=(cond (decide (YJ≤1))
  (0,Yc.at_,Yc.seed)
  (cond (decide (YJ > 200))
    ((Int.tmod (Zv Yc) YJ),(Z2 (⟨Yc.code,(Z2 Yc).2.1,(Z2 Yc).2.2⟩:Gl00Src)).2.1,(Z2 (⟨Yc.code,(Z2 Yc).2.1,(Z2 Yc).2.2⟩:Gl00Src)).2.2)
    ((Int.tmod ((Z2 Yc).1) YJ),(Z2 Yc).2.1,(Z2 Yc).2.2)))
theorem Z1u (s:Gl00Src) (n:Int):0≤s.at_∧s.at_≤1152921504606846970→s.at_≤(Z0 s n).2.1∧(Z0 s n).2.1≤s.at_ + 2:=by
  intro h
  have q1:=Z2O s ⟨h.1,by omega⟩
  have q2:=Z2O (⟨s.code,(Z2 s).2.1,(Z2 s).2.2⟩:Gl00Src) ⟨by show 0≤(Z2 s).2.1;omega,by show (Z2 s).2.1≤_;omega⟩
  have q2:_=(Z2 s).2.1 + 1:=q2
  unfold Z0
  cases decide (n≤1) with
  | true=>rw [cond_true];show s.at_≤s.at_∧s.at_≤s.at_ + 2;omega
  | false =>
    rw [cond_false]
    cases decide (n > 200) with
    | true=>rw [cond_true];show s.at_≤(Z2 (⟨s.code,(Z2 s).2.1,(Z2 s).2.2⟩:Gl00Src)).2.1∧(Z2 (⟨s.code,(Z2 s).2.1,(Z2 s).2.2⟩:Gl00Src)).2.1≤_;omega
    | false=>rw [cond_false];show s.at_≤(Z2 s).2.1∧(Z2 s).2.1≤_;rw [q1];omega
theorem Z45 (s:Gl00Src) (n:Int) (hc:OkB s.code) (h0:0≤s.at_) (hn:1≤n) (h2:n≤200):0≤(Z0 s n).1∧(Z0 s n).1 < n:=by
  have q:=Z9F s hc h0
  unfold Z0
  by_cases h1:n≤1
  · rw [decide_eq_true h1,cond_true];exact ⟨Int.le_refl 0,by show 0 < n;omega⟩
  · rw [decide_eq_false h1,cond_false,decide_eq_false (by omega),cond_false]
    exact ⟨Int.tmod_nonneg _ q.1,Int.tmod_lt_of_pos _ (by omega)⟩
theorem Z9u (s:Gl00Src) (n:Int) (hc:OkB s.code) (h0:0≤s.at_) (hn:1≤n) (h2:n≤200):1≤IntKind.wrap .i64 (1 + (Z0 s n).1)∧IntKind.wrap .i64 (1 + (Z0 s n).1)≤n:=by
  have q:=Z45 s n hc h0 hn h2
  rw [Xt (by omega) (by omega)];omega
theorem Z3i (Yl:Nat) (Ym:Nat) (Yn:Nat) (Yo:Nat) (Yp:Nat) (Yc:Gl00Src) (YJ:Int) (hp0:Yc.code.length≤1073741824) (hp1:0≤Yc.at_) (hp2:Yc.at_≤1152921504606846970)  : X7 prog 55 [.box 34 [.nils, .nils, .nils, .f .f32 Yl, .f .f32 Ym, .nils, .f .f32 Yn, .f .f32 Yo, .f .f32 Yp], .box 134 [.sl (Yc.code.map (cI .u8)), .i .i64 Yc.at_, .i .u64 Yc.seed]] [.ptr 1 0 0, .i .i64 YJ] (.i .i64 ((Z0 Yc YJ).1)) [.box 34 [.nils, .nils, .nils, .f .f32 Yl, .f .f32 Ym, .nils, .f .f32 Yn, .f .f32 Yo, .f .f32 Yp], .box 134 [.sl (Yc.code.map (cI .u8)), .i .i64 ((Z0 Yc YJ).2.1), .i .u64 ((Z0 Yc YJ).2.2)]]:=by
 cases h0:(decide (YJ≤1)) with
 | true =>
  have gh0:=odt h0
  refine Xd (EpOk 2) Ze (c:=X0 f55) [.box 34 [.nils, .nils, .nils, .f .f32 Yl, .f .f32 Ym, .nils, .f .f32 Yn, .f .f32 Yo, .f .f32 Yp], .box 134 [.sl (Yc.code.map (cI .u8)), .i .i64 Yc.at_, .i .u64 Yc.seed]] [] (.i .i64 0) [.box 34 [.nils, .nils, .nils, .f .f32 Yl, .f .f32 Ym, .nils, .f .f32 Yn, .f .f32 Yo, .f .f32 Yp], .box 134 [.sl (Yc.code.map (cI .u8)), .i .i64 Yc.at_, .i .u64 Yc.seed]] func55 (sB h0<|sK [] sN) rfl (by kernel_rfl) (by kernel_rfl) ?_ ?_
  · simp only [Z0,h0,cond_true]
  · simp [Z0,h0]
 | false =>
  have gh0:=odf h0
  have y0:Yc.at_≤1152921504606846976:=(by omega)
  have l1:=(Z2O Yc)
  have p {a C} (s:Scr a C):=sB h0<|sS (Z3h Yl Ym Yn Yo Yp Yc hp0 hp1 y0)<|s
  cases h1:(decide (YJ > 200)) with
  | true =>
   have gh1:=odt h1
   have y1:(⟨Yc.code,(Z2 Yc).2.1,(Z2 Yc).2.2⟩:Gl00Src).code.length≤1073741824:=by clear p;exact (by assumption)
   have y2:0≤(⟨Yc.code,(Z2 Yc).2.1,(Z2 Yc).2.2⟩:Gl00Src).at_:=by clear p;exact (by simp_all<;>omega)
   have y3:(⟨Yc.code,(Z2 Yc).2.1,(Z2 Yc).2.2⟩:Gl00Src).at_≤1152921504606846976:=by clear p;exact (by simp_all<;>omega)
   have l2:=(Z2O (⟨Yc.code,(Z2 Yc).2.1,(Z2 Yc).2.2⟩:Gl00Src))
   have y4:YJ≠0:=by clear p;exact (by omega)
   refine Xd (EpOk 2) Ze (c:=X0 f55) [.box 34 [.nils, .nils, .nils, .f .f32 Yl, .f .f32 Ym, .nils, .f .f32 Yn, .f .f32 Yo, .f .f32 Yp], .box 134 [.sl (Yc.code.map (cI .u8)), .i .i64 Yc.at_, .i .u64 Yc.seed]] [] (.i .i64 (Int.tmod (Zv Yc) YJ)) [.box 34 [.nils, .nils, .nils, .f .f32 Yl, .f .f32 Ym, .nils, .f .f32 Yn, .f .f32 Yo, .f .f32 Yp], .box 134 [.sl (Yc.code.map (cI .u8)), .i .i64 ((Z2 (⟨Yc.code,(Z2 Yc).2.1,(Z2 Yc).2.2⟩:Gl00Src)).2.1), .i .u64 ((Z2 (⟨Yc.code,(Z2 Yc).2.1,(Z2 Yc).2.2⟩:Gl00Src)).2.2)]] func55 (p (sB h1<|sW .i64 ((Z2 Yc).1 * 256)<|sS (Z3h Yl Ym Yn Yo Yp (⟨Yc.code,(Z2 Yc).2.1,(Z2 Yc).2.2⟩:Gl00Src) y1 y2 y3)<|sM (show IntKind.wrap .i64 ((IntKind.wrap .i64 ((Z2 Yc).1 * 256)) + (Z2 (⟨Yc.code,(Z2 Yc).2.1,(Z2 Yc).2.2⟩:Gl00Src)).1)=(Zv Yc) from rfl)<|sC y4<|sQ (Int.tmod (Zv Yc) YJ)<|sK [] sN)) rfl (by kernel_rfl) (by kernel_rfl) ?_ ?_
   · simp only [Z0,h0,h1,cond_true,cond_false]
   · simp [Z0,h0,h1]
  | false =>
   have gh1:=odf h1
   have y1:YJ≠0:=by clear p;exact (by omega)
   refine Xd (EpOk 2) Ze (c:=X0 f55) [.box 34 [.nils, .nils, .nils, .f .f32 Yl, .f .f32 Ym, .nils, .f .f32 Yn, .f .f32 Yo, .f .f32 Yp], .box 134 [.sl (Yc.code.map (cI .u8)), .i .i64 Yc.at_, .i .u64 Yc.seed]] [] (.i .i64 (Int.tmod ((Z2 Yc).1) YJ)) [.box 34 [.nils, .nils, .nils, .f .f32 Yl, .f .f32 Ym, .nils, .f .f32 Yn, .f .f32 Yo, .f .f32 Yp], .box 134 [.sl (Yc.code.map (cI .u8)), .i .i64 ((Z2 Yc).2.1), .i .u64 ((Z2 Yc).2.2)]] func55 (p (sB h1<|sC y1<|sQ (Int.tmod ((Z2 Yc).1) YJ)<|sK [] sN)) rfl (by kernel_rfl) (by kernel_rfl) ?_ ?_
   · simp only [Z0,h0,h1,cond_false]
   · simp [Z0,h0,h1]
theorem Z46 {a b:Int} (h0:0≤a) (h1:a≤8) (h2:0≤b) (h3:b≤8):0≤a * b∧a * b≤64:=⟨Int.mul_nonneg h0 h2,by have:=Int.mul_le_mul h1 h3 h2 (by omega:(0:Int)≤8);omega⟩
def Z1h (Y9:Int) (Yd:Int) (Yf:Nat) (Yg:Int) (Y3:(List Gv)):Nat→Int→(List Gv)→(List Gv)
  | 0,_,_=>default
  | k + 1,Y2,Y8=>(cond (decide (Y2≤Y9))
    (Z1h Y9 Yd Yf Yg Y3 k (Y2 + 1) (Y8 ++ [(⟨(fop .mul .f32 (X1 .f32 Y2) Yf),(fop .mul .f32 (X1 .f32 Yg) Yf),0⟩:Gv)]))
    Y8)
def Z3G (Y9:Int) (Yd:Int) (Yf:Nat) (Yg:Int) (Y3:(List Gv)) (r:(List Gv)):Ex × St:=((.exit 2),⟨.i .i64 Y9 :: .i .i64 Yd :: .f .f32 Yf :: .any :: .any :: .any :: .ptr 0 0 0 :: .ptr 1 0 0 :: .i .i64 Yg :: an 6 (.own 2 :: .any :: .i .i64 Yg :: .i .i64 Yd :: .b (decide (Yg≤Yd)) :: an 58 []),[.box 27 [.nils, .nils], .box 27 [.own 3, .own 2], .nest 60 [] false, .vec 32 3 (r.map Gv.c) false]⟩)
def Z5l (Y9:Int) (Yd:Int) (Yf:Nat) (Yg:Int) (Y3:(List Gv)) (Y2:Int) (Y8:(List Gv)):St:=⟨.i .i64 Y9 :: .i .i64 Yd :: .f .f32 Yf :: .any :: .any :: .any :: .ptr 0 0 0 :: .ptr 3 0 0 :: .i .i64 Yg :: .i .i64 Y2 :: an 5 (.own 2 :: .any :: .i .i64 Yg :: .i .i64 Yd :: .b (decide (Yg≤Yd)) :: an 58 []),[.box 27 [.nils, .nils], .vec 32 3 (Y8.map Gv.c) false, .nest 60 [] false, .box 27 [.own 1, .own 2]]⟩
theorem Z6S (Y9:Int) (Yd:Int) (Yf:Nat) (Yg:Int) (Y3:(List Gv)) (hp0:1≤Y9) (hp1:Y9≤3) (hp2:1≤Yd) (hp3:Yd≤2) (Z2F:0≤Yg) (Z2G:(Y3.length:Int)≤7 * Yg) (Z2H:Yg≤Yd + 1):∀ (k:Nat) (Y2:Int) (Y8:(List Gv)) (Z4G:0≤Y2) (Z4H:(Y8.length:Int)=(Y3.length:Int) + Y2) (hk:(Y9 + 1 - Y2).toNat < k),Lp prog 0 (sub (X0 f56) [1,1,0,1,0,0,1,0,0,1,0,0]) (Z5l Y9 Yd Yf Yg Y3 Y2 Y8) (Z3G Y9 Yd Yf Yg Y3 (Z1h Y9 Yd Yf Yg Y3 k Y2 Y8)).1 (Z3G Y9 Yd Yf Yg Y3 (Z1h Y9 Yd Yf Yg Y3 k Y2 Y8)).2:=by
 intro k
 induction k with
 | zero=>intro Y2 Y8 Z4G Z4H hk;exact absurd hk (Nat.not_lt_zero _)
 | succ k ih =>
  intro Y2 Y8 Z4G Z4H hk
  cases YA:(decide (Y2≤Y9)) with
  | true =>
   have YC:=odt YA
   have Y19:Y8.length + ([(⟨(fop .mul .f32 (X1 .f32 Y2) Yf),(fop .mul .f32 (X1 .f32 Yg) Yf),0⟩:Gv)]).length≤1073741824:=(by ((have q:=Z46 (a:=Y9 + 1) (b:=Yg) (by omega) (by omega) (by omega) (by omega);(simp only [List.length_append,List.length_cons,List.length_nil];omega))))
   have Y1a:(-9223372036854775808:Int)≤(Y2 + 1):=(by omega)
   have Y16:(Y2 + 1)≤(9223372036854775807:Int):=(by omega)
   have e:Z1h Y9 Yd Yf Yg Y3 (k + 1) Y2 Y8=(Z1h Y9 Yd Yf Yg Y3 k (Y2 + 1) (Y8 ++ [(⟨(fop .mul .f32 (X1 .f32 Y2) Yf),(fop .mul .f32 (X1 .f32 Yg) Yf),0⟩:Gv)])):=by simp only [Z1h,YA,cond_true]
   rw [e]
   exact X14 E0Ok Ze [] (mR false [0,3,3,4,5,1,1,3,58]) [0,1,2,3] (⟨.i .i64 Y9 :: .i .i64 Yd :: .f .f32 Yf :: .any :: .any :: .any :: .ptr 0 0 0 :: .ptr 3 0 0 :: .i .i64 Yg :: .i .i64 (Y2 + 1) :: an 5 (.own 2 :: .any :: .i .i64 Yg :: .i .i64 Yd :: .b (decide (Yg≤Yd)) :: an 58 []),[.box 27 [.nils, .nils], .vec 32 3 ((Y8.map Gv.c) ++ ([[.f .f32 (fop .mul .f32 (X1 .f32 Y2) Yf), .f .f32 (fop .mul .f32 (X1 .f32 Yg) Yf), .f .f32 0]]:List (List AV))) false, .nest 60 [] false, .box 27 [.own 1, .own 2]]⟩) (sB YA<|sC (show (Y8.map Gv.c).length + ([[.f .f32 (fop .mul .f32 (X1 .f32 Y2) Yf), .f .f32 (fop .mul .f32 (X1 .f32 Yg) Yf), .f .f32 0]]:List (List AV)).length≤1073741824 from (by simpa using Y19))<|sI (Y2 + 1) Y1a Y16<|sN) (by kernel_rfl) (by simp [Z5l,Gv.c,cL,cI]) (ih (Y2 + 1) (Y8 ++ [(⟨(fop .mul .f32 (X1 .f32 Y2) Yf),(fop .mul .f32 (X1 .f32 Yg) Yf),0⟩:Gv)]) (show 0≤(Y2 + 1) from (by omega)) (show ((Y8 ++ [(⟨(fop .mul .f32 (X1 .f32 Y2) Yf),(fop .mul .f32 (X1 .f32 Yg) Yf),0⟩:Gv)]).length:Int)=(Y3.length:Int) + (Y2 + 1) from (by simp_all<;>omega)) (by omega))
  | false =>
   have YC:=odf YA
   have e:Z1h Y9 Yd Yf Yg Y3 (k + 1) Y2 Y8=Y8:=by simp only [Z1h,YA,cond_false]
   rw [e]
   exact outR (e:=(.exit 2)) E0Ok Ze [] (mR false [0,3,3,3,6,1,1,3,58]) [0,3,2,1] (sB YA<|sN) (by kernel_rfl) (by intro h;cases h)
def Z1Z (Y9:Int) (Yd:Int) (Yf:Nat) (Yg:Int) (Y3:(List Gv)):(List Gv):=(Z1h Y9 Yd Yf Yg Y3 ((Y9 + 1 - 0).toNat + 1) 0 Y3)
theorem Z9G (w h:Int) (s:Nat) (x:Int) (r0:List Gv):∀ (k:Nat) (i:Int) (r:List Gv),0≤i→(Z1h w h s x r0 k i r).length≤r.length + (w + 1 - i).toNat:=by
  intro k
  induction k with
  | zero=>intro i r _;exact Nat.zero_le _
  | succ k ih =>
    intro i r h0
    rw [Z1h]
    by_cases hi:i≤w
    · rw [decide_eq_true hi,cond_true]
      refine Nat.le_trans (ih (i + 1) _ (by omega)) ?_
      simp only [List.length_append,List.length_cons,List.length_nil];omega
    · rw [decide_eq_false hi,cond_false];omega
theorem Zac (w h:Int) (s:Nat) (x:Int) (r:List Gv):(Z1Z w h s x r).length≤r.length + (w + 1).toNat:=by
  unfold Z1Z
  refine Nat.le_trans (Z9G _ _ _ _ _ _ _ _ (Int.le_refl 0)) ?_
  omega
def Z1C (Y9:Int) (Yd:Int) (Yf:Nat):Nat→Int→(List Gv)→(List Gv)
  | 0,_,_=>default
  | k + 1,Yg,Y3=>(cond (decide (Yg≤Yd))
    (Z1C Y9 Yd Yf k (Yg + 1) (Z1Z Y9 Yd Yf Yg Y3))
    Y3)
def Z3H (Y9:Int) (Yd:Int) (Yf:Nat) (r:(List Gv)):Ex × St:=((.exit 0),⟨.i .i64 Y9 :: .i .i64 Yd :: an 4 (.ptr 0 0 0 :: .ptr 1 0 0 :: an 7 (.own 2 :: an 62 [])),[.box 27 [.nils, .nils], .box 27 [.own 3, .own 2], .nest 60 [] false, .vec 32 3 (r.map Gv.c) false]⟩)
def Z5m (Y9:Int) (Yd:Int) (Yf:Nat) (Yg:Int) (Y3:(List Gv)):St:=⟨.i .i64 Y9 :: .i .i64 Yd :: .f .f32 Yf :: .any :: .any :: .any :: .ptr 0 0 0 :: .ptr 3 0 0 :: .i .i64 Yg :: an 6 (.own 2 :: an 62 []),[.box 27 [.nils, .nils], .vec 32 3 (Y3.map Gv.c) false, .nest 60 [] false, .box 27 [.own 1, .own 2]]⟩
theorem Z6T (Y9:Int) (Yd:Int) (Yf:Nat) (hp0:1≤Y9) (hp1:Y9≤3) (hp2:1≤Yd) (hp3:Yd≤2):∀ (k:Nat) (Yg:Int) (Y3:(List Gv)) (Z2F:0≤Yg) (Z2G:(Y3.length:Int)≤7 * Yg) (Z2H:Yg≤Yd + 1) (hk:(Yd + 1 - Yg).toNat < k),Lp prog 0 (sub (X0 f56) [1,1,0,1,0,0]) (Z5m Y9 Yd Yf Yg Y3) (Z3H Y9 Yd Yf (Z1C Y9 Yd Yf k Yg Y3)).1 (Z3H Y9 Yd Yf (Z1C Y9 Yd Yf k Yg Y3)).2:=by
 intro k
 induction k with
 | zero=>intro Yg Y3 Z2F Z2G Z2H hk;exact absurd hk (Nat.not_lt_zero _)
 | succ k ih =>
  intro Yg Y3 Z2F Z2G Z2H hk
  cases Yk:(decide (Yg≤Yd)) with
  | true =>
   have YH:=odt Yk
   have YQ:(-9223372036854775808:Int)≤(Yg + 1):=(by omega)
   have YN:(Yg + 1)≤(9223372036854775807:Int):=(by omega)
   have e:Z1C Y9 Yd Yf (k + 1) Yg Y3=(Z1C Y9 Yd Yf k (Yg + 1) (Z1Z Y9 Yd Yf Yg Y3)):=by simp only [Z1C,Yk,cond_true]
   rw [e]
   exact XG E0Ok Ze [] (mR false [0,3,3,3,6,1,62]) [0,3,2,1] (ih (Yg + 1) (Z1Z Y9 Yd Yf Yg Y3) (show 0≤(Yg + 1) from (by omega)) (show ((Z1Z Y9 Yd Yf Yg Y3).length:Int)≤7 * (Yg + 1) from (by have q:=Zac Y9 Yd Yf Yg Y3;omega)) (show (Yg + 1)≤Yd + 1 from (by omega)) (by omega)) (sB Yk<|sL (mR false [0,3,3,4,5,1,1,3,58]) 4 (X9 (Z3G Y9 Yd Yf Yg Y3) (x:=(Z1Z Y9 Yd Yf Yg Y3)) (Z6S Y9 Yd Yf Yg Y3 hp0 hp1 hp2 hp3 Z2F Z2G Z2H ((Y9 + 1 - 0).toNat + 1) 0 Y3 (show 0≤0 from (by omega)) (show (Y3.length:Int)=(Y3.length:Int) + 0 from (by omega)) (Nat.lt_succ_self _)) rfl)<|sI (Yg + 1) YQ YN<|sN) (by kernel_rfl)
  | false =>
   have YH:=odf Yk
   have e:Z1C Y9 Yd Yf (k + 1) Yg Y3=Y3:=by simp only [Z1C,Yk,cond_false]
   rw [e]
   exact outR (e:=(.exit 0)) E0Ok Ze [] (mR false [0,2,4,2,7,1,62]) [0,3,2,1] (sB Yk<|sN) (by kernel_rfl) (by intro h;cases h)
def Z1t (Y9:Int) (Yd:Int) (Yf:Nat):(List Gv):=(Z1C Y9 Yd Yf ((Yd + 1 - 0).toNat + 1) 0 ([]:List Gv))
def Z1i (Y9:Int) (Yd:Int) (Yf:Nat) (Yg:Int) (Ya:(List (List Int))):Nat→Int→(List (List Int))→(List (List Int))
  | 0,_,_=>default
  | k + 1,Y2,Ye=>(cond (decide (Y2 < Y9))
    (Z1i Y9 Yd Yf Yg Ya k (Y2 + 1) (Ye ++ [[(Y2 + ((Y9 + 1) * Yg)),((Y2 + ((Y9 + 1) * Yg)) + 1),((((Y2 + ((Y9 + 1) * Yg)) + Y9) + 1) + 1)],[(Y2 + ((Y9 + 1) * Yg)),((((Y2 + ((Y9 + 1) * Yg)) + Y9) + 1) + 1),(((Y2 + ((Y9 + 1) * Yg)) + Y9) + 1)]]))
    Ye)
def Z3I (Y9:Int) (Yd:Int) (Yf:Nat) (Yg:Int) (Ya:(List (List Int))) (r:(List (List Int))):Ex × St:=((.exit 6),⟨.i .i64 Y9 :: .i .i64 Yd :: an 4 (.ptr 0 0 0 :: .ptr 1 0 0 :: .any :: .any :: .i .i64 Yg :: an 30 (.i .i64 Yg :: .i .i64 Yd :: .b (decide (Yg < Yd)) :: an 34 [])),[.box 27 [.nils, .nils], .box 27 [.own 2, .own 3], .vec 32 3 ((Z1t Y9 Yd Yf).map Gv.c) false, .nest 60 (r.map fun l=>l.map (cI .i64)) false]⟩)
def Z5n (Y9:Int) (Yd:Int) (Yf:Nat) (Yg:Int) (Ya:(List (List Int))) (Y2:Int) (Ye:(List (List Int))):St:=⟨.i .i64 Y9 :: .i .i64 Yd :: an 4 (.ptr 0 0 0 :: .ptr 1 0 0 :: .any :: .any :: .i .i64 Yg :: .i .i64 Y2 :: an 29 (.i .i64 Yg :: .i .i64 Yd :: .b (decide (Yg < Yd)) :: an 34 [])),[.box 27 [.nils, .nils], .box 27 [.own 3, .own 2], .nest 60 (Ye.map fun l=>l.map (cI .i64)) false, .vec 32 3 ((Z1t Y9 Yd Yf).map Gv.c) false]⟩
def Z4I:List Bool:=(mR false [0,2,4,2,2,2,29,3,34])
def Z6e:List Bool:=(mR false [0,2,4,2,2,1,30,3,34])
set_option maxHeartbeats 1000000 in
theorem Z6U (Y9:Int) (Yd:Int) (Yf:Nat) (Yg:Int) (Ya:(List (List Int))) (hp0:1≤Y9) (hp1:Y9≤3) (hp2:1≤Yd) (hp3:Yd≤2) (Z2I:0≤Yg) (Z2J:(Ya.length:Int)≤12 * Yg) (Z2K:Yg≤Yd):∀ (k:Nat) (Y2:Int) (Ye:(List (List Int))) (Z4J:0≤Y2) (Z4K:(Ye.length:Int)=(Ya.length:Int) + 2 * Y2) (hk:(Y9 - Y2).toNat < k),Lp prog 0 (sub (X0 f56) [1,1,1,0,1,0,0,1,0,0,1,0,0]) (Z5n Y9 Yd Yf Yg Ya Y2 Ye) (Z3I Y9 Yd Yf Yg Ya (Z1i Y9 Yd Yf Yg Ya k Y2 Ye)).1 (Z3I Y9 Yd Yf Yg Ya (Z1i Y9 Yd Yf Yg Ya k Y2 Ye)).2:=by
 intro k
 induction k with
 | zero=>intro Y2 Ye Z4J Z4K hk;exact absurd hk (Nat.not_lt_zero _)
 | succ k ih =>
  intro Y2 Ye Z4J Z4K hk
  cases YA:(decide (Y2 < Y9)) with
  | true =>
   have YC:=odt YA
   have Y19:(-9223372036854775808:Int)≤(Y9 + 1):=(by omega)
   have Y1a:(Y9 + 1)≤(9223372036854775807:Int):=(by omega)
   have Y16:(-9223372036854775808:Int)≤((Y9 + 1) * Yg):=(by ((have q:=Z46 (a:=Y9 + 1) (b:=Yg) (by omega) (by omega) (by omega) (by omega);omega)))
   have Y17:((Y9 + 1) * Yg)≤(9223372036854775807:Int):=(by ((have q:=Z46 (a:=Y9 + 1) (b:=Yg) (by omega) (by omega) (by omega) (by omega);omega)))
   have Y1c:(-9223372036854775808:Int)≤(Y2 + ((Y9 + 1) * Yg)):=(by omega)
   have Y1f:(Y2 + ((Y9 + 1) * Yg))≤(9223372036854775807:Int):=(by ((have q:=Z46 (a:=Y9 + 1) (b:=Yg) (by omega) (by omega) (by omega) (by omega);omega)))
   have Y1b:(-9223372036854775808:Int)≤((Y2 + ((Y9 + 1) * Yg)) + Y9):=(by omega)
   have Y1d:((Y2 + ((Y9 + 1) * Yg)) + Y9)≤(9223372036854775807:Int):=(by ((have q:=Z46 (a:=Y9 + 1) (b:=Yg) (by omega) (by omega) (by omega) (by omega);omega)))
   have Y1m:(-9223372036854775808:Int)≤(((Y2 + ((Y9 + 1) * Yg)) + Y9) + 1):=(by omega)
   have Y1w:(((Y2 + ((Y9 + 1) * Yg)) + Y9) + 1)≤(9223372036854775807:Int):=(by ((have q:=Z46 (a:=Y9 + 1) (b:=Yg) (by omega) (by omega) (by omega) (by omega);omega)))
   have Y1p:(-9223372036854775808:Int)≤((Y2 + ((Y9 + 1) * Yg)) + 1):=(by omega)
   have Y1q:((Y2 + ((Y9 + 1) * Yg)) + 1)≤(9223372036854775807:Int):=(by omega)
   have Y1k:(-9223372036854775808:Int)≤((((Y2 + ((Y9 + 1) * Yg)) + Y9) + 1) + 1):=(by omega)
   have Y1l:((((Y2 + ((Y9 + 1) * Yg)) + Y9) + 1) + 1)≤(9223372036854775807:Int):=(by ((have q:=Z46 (a:=Y9 + 1) (b:=Yg) (by omega) (by omega) (by omega) (by omega);omega)))
   have Y1r:Ye.length + [[(Y2 + ((Y9 + 1) * Yg)),((Y2 + ((Y9 + 1) * Yg)) + 1),((((Y2 + ((Y9 + 1) * Yg)) + Y9) + 1) + 1)],[(Y2 + ((Y9 + 1) * Yg)),((((Y2 + ((Y9 + 1) * Yg)) + Y9) + 1) + 1),(((Y2 + ((Y9 + 1) * Yg)) + Y9) + 1)]].length≤1073741824:=(by ((have q:=Z46 (a:=Y9 + 1) (b:=Yg) (by omega) (by omega) (by omega) (by omega);(simp only [List.length_append,List.length_cons,List.length_nil];omega))))
   have Y1s:(-9223372036854775808:Int)≤(Y2 + 1):=(by omega)
   have Y1t:(Y2 + 1)≤(9223372036854775807:Int):=(by omega)
   have e:Z1i Y9 Yd Yf Yg Ya (k + 1) Y2 Ye=(Z1i Y9 Yd Yf Yg Ya k (Y2 + 1) (Ye ++ [[(Y2 + ((Y9 + 1) * Yg)),((Y2 + ((Y9 + 1) * Yg)) + 1),((((Y2 + ((Y9 + 1) * Yg)) + Y9) + 1) + 1)],[(Y2 + ((Y9 + 1) * Yg)),((((Y2 + ((Y9 + 1) * Yg)) + Y9) + 1) + 1),(((Y2 + ((Y9 + 1) * Yg)) + Y9) + 1)]])):=by simp only [Z1i,YA,cond_true]
   rw [e]
   exact X14 E0Ok Ze [] Z4I [0,1,2,3] (⟨.i .i64 Y9 :: .i .i64 Yd :: an 4 (.ptr 0 0 0 :: .ptr 1 0 0 :: .any :: .any :: .i .i64 Yg :: .i .i64 (Y2 + 1) :: an 29 (.i .i64 Yg :: .i .i64 Yd :: .b (decide (Yg < Yd)) :: an 34 [])),[.box 27 [.nils, .nils], .box 27 [.own 3, .own 2], .nest 60 ((Ye.map fun l=>l.map (cI .i64)) ++ [([[.i .i64 (Y2 + ((Y9 + 1) * Yg))],[.i .i64 ((Y2 + ((Y9 + 1) * Yg)) + 1)],[.i .i64 ((((Y2 + ((Y9 + 1) * Yg)) + Y9) + 1) + 1)]]:List (List AV)),([[.i .i64 (Y2 + ((Y9 + 1) * Yg))],[.i .i64 ((((Y2 + ((Y9 + 1) * Yg)) + Y9) + 1) + 1)],[.i .i64 (((Y2 + ((Y9 + 1) * Yg)) + Y9) + 1)]]:List (List AV))]) false, .vec 32 3 ((Z1t Y9 Yd Yf).map Gv.c) false]⟩) (sB YA<|sI (Y9 + 1) Y19 Y1a<|sI ((Y9 + 1) * Yg) Y16 Y17<|sI (Y2 + ((Y9 + 1) * Yg)) Y1c Y1f<|sI ((Y2 + ((Y9 + 1) * Yg)) + Y9) Y1b Y1d<|sI (((Y2 + ((Y9 + 1) * Yg)) + Y9) + 1) Y1m Y1w<|sI ((Y2 + ((Y9 + 1) * Yg)) + 1) Y1p Y1q<|sI ((((Y2 + ((Y9 + 1) * Yg)) + Y9) + 1) + 1) Y1k Y1l<|sI ((((Y2 + ((Y9 + 1) * Yg)) + Y9) + 1) + 1) Y1k Y1l<|sC (show (Ye.map fun l=>l.map (cI .i64)).length + [([[.i .i64 (Y2 + ((Y9 + 1) * Yg))],[.i .i64 ((Y2 + ((Y9 + 1) * Yg)) + 1)],[.i .i64 ((((Y2 + ((Y9 + 1) * Yg)) + Y9) + 1) + 1)]]:List (List AV)),([[.i .i64 (Y2 + ((Y9 + 1) * Yg))],[.i .i64 ((((Y2 + ((Y9 + 1) * Yg)) + Y9) + 1) + 1)],[.i .i64 (((Y2 + ((Y9 + 1) * Yg)) + Y9) + 1)]]:List (List AV))].length≤1073741824 from (by simpa using Y1r))<|sI (Y2 + 1) Y1s Y1t<|sN) (by kernel_rfl) (by simp [Z5n,cL,cI]) (ih (Y2 + 1) (Ye ++ [[(Y2 + ((Y9 + 1) * Yg)),((Y2 + ((Y9 + 1) * Yg)) + 1),((((Y2 + ((Y9 + 1) * Yg)) + Y9) + 1) + 1)],[(Y2 + ((Y9 + 1) * Yg)),((((Y2 + ((Y9 + 1) * Yg)) + Y9) + 1) + 1),(((Y2 + ((Y9 + 1) * Yg)) + Y9) + 1)]]) (show 0≤(Y2 + 1) from (by omega)) (show ((Ye ++ [[(Y2 + ((Y9 + 1) * Yg)),((Y2 + ((Y9 + 1) * Yg)) + 1),((((Y2 + ((Y9 + 1) * Yg)) + Y9) + 1) + 1)],[(Y2 + ((Y9 + 1) * Yg)),((((Y2 + ((Y9 + 1) * Yg)) + Y9) + 1) + 1),(((Y2 + ((Y9 + 1) * Yg)) + Y9) + 1)]]).length:Int)=(Ya.length:Int) + 2 * (Y2 + 1) from (by simp_all<;>omega)) (by omega))
  | false =>
   have YC:=odf YA
   have e:Z1i Y9 Yd Yf Yg Ya (k + 1) Y2 Ye=Ye:=by simp only [Z1i,YA,cond_false]
   rw [e]
   exact outR (e:=(.exit 6)) E0Ok Ze [] Z6e [0,1,3,2] (sB YA<|sN) (by kernel_rfl) (by intro h;cases h)
def Z20 (Y9:Int) (Yd:Int) (Yf:Nat) (Yg:Int) (Ya:(List (List Int))):(List (List Int)):=(Z1i Y9 Yd Yf Yg Ya ((Y9 - 0).toNat + 1) 0 Ya)
theorem Z9H (w h:Int) (s:Nat) (x:Int) (r0:List (List Int)):∀ (k:Nat) (i:Int) (r:List (List Int)),0≤i→(Z1i w h s x r0 k i r).length≤r.length + 2 * (w - i).toNat:=by
  intro k
  induction k with
  | zero=>intro i r _;exact Nat.zero_le _
  | succ k ih =>
    intro i r h0
    rw [Z1i]
    by_cases hi:i < w
    · rw [decide_eq_true hi,cond_true]
      refine Nat.le_trans (ih (i + 1) _ (by omega)) ?_
      simp only [List.length_append,List.length_cons,List.length_nil];omega
    · rw [decide_eq_false hi,cond_false];omega
theorem Zad (w h:Int) (s:Nat) (x:Int) (r:List (List Int)):(Z20 w h s x r).length≤r.length + 2 * w.toNat:=by
  unfold Z20
  refine Nat.le_trans (Z9H _ _ _ _ _ _ _ _ (Int.le_refl 0)) ?_
  omega
def Z1D (Y9:Int) (Yd:Int) (Yf:Nat):Nat→Int→(List (List Int))→(List (List Int))
  | 0,_,_=>default
  | k + 1,Yg,Ya=>(cond (decide (Yg < Yd))
    (Z1D Y9 Yd Yf k (Yg + 1) (Z20 Y9 Yd Yf Yg Ya))
    Ya)
def Z3J (Y9:Int) (Yd:Int) (Yf:Nat) (r:(List (List Int))):Ex × St:=((.exit 4),⟨.i .i64 Y9 :: .i .i64 Yd :: an 4 (.ptr 0 0 0 :: .ptr 1 0 0 :: an 70 []),[.box 27 [.nils, .nils], .box 27 [.own 2, .own 3], .vec 32 3 ((Z1t Y9 Yd Yf).map Gv.c) false, .nest 60 (r.map fun l=>l.map (cI .i64)) false]⟩)
def Z5o (Y9:Int) (Yd:Int) (Yf:Nat) (Yg:Int) (Ya:(List (List Int))):St:=⟨.i .i64 Y9 :: .i .i64 Yd :: an 4 (.ptr 0 0 0 :: .ptr 1 0 0 :: .any :: .any :: .i .i64 Yg :: an 67 []),[.box 27 [.nils, .nils], .box 27 [.own 3, .own 2], .nest 60 (Ya.map fun l=>l.map (cI .i64)) false, .vec 32 3 ((Z1t Y9 Yd Yf).map Gv.c) false]⟩
theorem Z6V (Y9:Int) (Yd:Int) (Yf:Nat) (hp0:1≤Y9) (hp1:Y9≤3) (hp2:1≤Yd) (hp3:Yd≤2):∀ (k:Nat) (Yg:Int) (Ya:(List (List Int))) (Z2I:0≤Yg) (Z2J:(Ya.length:Int)≤12 * Yg) (Z2K:Yg≤Yd) (hk:(Yd - Yg).toNat < k),Lp prog 0 (sub (X0 f56) [1,1,1,0,1,0,0]) (Z5o Y9 Yd Yf Yg Ya) (Z3J Y9 Yd Yf (Z1D Y9 Yd Yf k Yg Ya)).1 (Z3J Y9 Yd Yf (Z1D Y9 Yd Yf k Yg Ya)).2:=by
 intro k
 induction k with
 | zero=>intro Yg Ya Z2I Z2J Z2K hk;exact absurd hk (Nat.not_lt_zero _)
 | succ k ih =>
  intro Yg Ya Z2I Z2J Z2K hk
  cases Yk:(decide (Yg < Yd)) with
  | true =>
   have YH:=odt Yk
   have YQ:(-9223372036854775808:Int)≤(Yg + 1):=(by omega)
   have YN:(Yg + 1)≤(9223372036854775807:Int):=(by omega)
   have e:Z1D Y9 Yd Yf (k + 1) Yg Ya=(Z1D Y9 Yd Yf k (Yg + 1) (Z20 Y9 Yd Yf Yg Ya)):=by simp only [Z1D,Yk,cond_true]
   rw [e]
   exact XG E0Ok Ze [] (mR false [0,2,4,2,2,1,67]) [0,1,3,2] (ih (Yg + 1) (Z20 Y9 Yd Yf Yg Ya) (show 0≤(Yg + 1) from (by omega)) (show ((Z20 Y9 Yd Yf Yg Ya).length:Int)≤12 * (Yg + 1) from (by have q:=Zad Y9 Yd Yf Yg Ya;omega)) (show (Yg + 1)≤Yd from (by assumption)) (by omega)) (sB Yk<|sL Z4I 4 (X9 (Z3I Y9 Yd Yf Yg Ya) (x:=(Z20 Y9 Yd Yf Yg Ya)) (Z6U Y9 Yd Yf Yg Ya hp0 hp1 hp2 hp3 Z2I Z2J Z2K ((Y9 - 0).toNat + 1) 0 Ya (show 0≤0 from (by omega)) (show (Ya.length:Int)=(Ya.length:Int) + 2 * 0 from (by omega)) (Nat.lt_succ_self _)) rfl)<|sI (Yg + 1) YQ YN<|sN) (by kernel_rfl)
  | false =>
   have YH:=odf Yk
   have e:Z1D Y9 Yd Yf (k + 1) Yg Ya=Ya:=by simp only [Z1D,Yk,cond_false]
   rw [e]
   exact outR (e:=(.exit 4)) E0Ok Ze [] (mR false [0,2,4,2,70]) [0,1,3,2] (sB Yk<|sN) (by kernel_rfl) (by intro h;cases h)
def Z3a (Y9:Int) (Yd:Int) (Yf:Nat):(List (List Int)):=(Z1D Y9 Yd Yf ((Yd - 0).toNat + 1) 0 ([]:List (List Int)))
def Z5 (Y9:Int) (Yd:Int) (Yf:Nat):Gm:=(⟨(Z1t Y9 Yd Yf),(Z3a Y9 Yd Yf)⟩:Gm)
theorem Z7G (Y9:Int) (Yd:Int) (Yf:Nat) (hp0:1≤Y9) (hp1:Y9≤3) (hp2:1≤Yd) (hp3:Yd≤2)  : Fn prog 56 [.i .i64 Y9, .i .i64 Yd, .f .f32 Yf] (.agg [.own 0, .own 1]) [.vec 32 3 (((Z5 Y9 Yd Yf).Pq).map Gv.c) false, .nest 60 (((Z5 Y9 Yd Yf).Tr).map fun l=>l.map (cI .i64)) false]:=by
 refine fnS E0Ok Ze (c:=X0 f56) [] (.agg [.own 0, .own 1]) [.vec 32 3 ((Z1t Y9 Yd Yf).map Gv.c) false, .nest 60 ((Z3a Y9 Yd Yf).map fun l=>l.map (cI .i64)) false] func56 (sL (mR false [0,3,3,3,6,1,62]) 4 (X1e (st2:=⟨.i .i64 Y9 :: .i .i64 Yd :: .f .f32 Yf :: .any :: .any :: .any :: .ptr 0 0 0 :: .ptr 3 0 0 :: .i .i64 0 :: an 6 (.own 2 :: an 62 []),[.box 27 [.nils, .nils], .vec 32 3 ([]:List (List AV)) false, .nest 60 [] false, .box 27 [.own 1, .own 2]]⟩) (X9 (Z3H Y9 Yd Yf) (x:=(Z1t Y9 Yd Yf)) (Z6T Y9 Yd Yf hp0 hp1 hp2 hp3 ((Yd + 1 - 0).toNat + 1) 0 ([]:List Gv) (show 0≤0 from (by omega)) (show (([]:List Gv).length:Int)≤7 * 0 from (by simp;done)) (show 0≤Yd + 1 from (by omega)) (Nat.lt_succ_self _)) rfl) (by simp [Z5m,Gv.c,cL,cI]))<|sL (mR false [0,2,4,2,2,1,67]) 4 (X1e (st2:=⟨.i .i64 Y9 :: .i .i64 Yd :: an 4 (.ptr 0 0 0 :: .ptr 1 0 0 :: .any :: .any :: .i .i64 0 :: an 67 []),[.box 27 [.nils, .nils], .box 27 [.own 3, .own 2], .nest 60 [] false, .vec 32 3 ((Z1t Y9 Yd Yf).map Gv.c) false]⟩) (X9 (Z3J Y9 Yd Yf) (x:=(Z3a Y9 Yd Yf)) (Z6V Y9 Yd Yf hp0 hp1 hp2 hp3 ((Yd - 0).toNat + 1) 0 ([]:List (List Int)) (show 0≤0 from (by omega)) (show (([]:List (List Int)).length:Int)≤12 * 0 from (by simp;done)) (show 0≤Yd from (by omega)) (Nat.lt_succ_self _)) rfl) (by simp [Z5o,cL,cI]))<|sK [2,3] sN) rfl (by kernel_rfl) (by kernel_rfl) rfl ?_ ?_
 · rfl
 · simp [Z5]
theorem Z3j (Yl:Nat) (Ym:Nat) (Yn:Nat) (Yo:Nat) (Yp:Nat) (w2:(List Gv)) (w3:(List (List Int))) (Yc:Gl00Src) (hp0:Yc.code.length≤1073741824) (hp1:0≤Yc.at_) (hp2:Yc.at_≤1152921504606846976)  : X7 prog 99 [.box 34 [.nils, .nils, .nils, .f .f32 Yl, .f .f32 Ym, .nils, .f .f32 Yn, .f .f32 Yo, .f .f32 Yp], .box 134 [.sl (Yc.code.map (cI .u8)), .i .i64 Yc.at_, .i .u64 Yc.seed], .vec 32 3 (w2.map Gv.c) false, .nest 60 (w3.map fun l=>l.map (cI .i64)) false, .box 27 [.own 2, .own 3]] [.ptr 1 0 0] (.i .i64 ((Z2 Yc).1)) [.box 34 [.nils, .nils, .nils, .f .f32 Yl, .f .f32 Ym, .nils, .f .f32 Yn, .f .f32 Yo, .f .f32 Yp], .box 134 [.sl (Yc.code.map (cI .u8)), .i .i64 ((Z2 Yc).2.1), .i .u64 ((Z2 Yc).2.2)], .vec 32 3 (w2.map Gv.c) false, .nest 60 (w3.map fun l=>l.map (cI .i64)) false, .box 27 [.own 2, .own 3]]:=by
 have p {a C} (s:Scr a C):=sK [9,9]<|sZ (cI .u8) Yc.code<|s
 cases h0:(decide (Yc.at_ < (Yc.code.length:Int))) with
 | true =>
  have gh0:=odt h0
  have y0:(0:Int)≤Yc.at_:=by clear p;exact (by assumption)
  have y1:Yc.at_ < (Yc.code.length:Int):=by clear p;exact (by assumption)
  have q {a C} (s:Scr a C):=p (sB h0<|sK [8,8]<|sG (cI .u8) Yc.code Yc.at_ y0 y1<|sW .i64 (Yc.code.getD Yc.at_.toNat default)<|sW .i64 (Yc.at_ + 1)<|sW .u64 (Yc.seed * 6364136223846793005)<|sW .u64 (IntKind.wrap .i64 (Yc.code.getD Yc.at_.toNat default))<|sW .u64 ((IntKind.wrap .u64 (Yc.seed * 6364136223846793005)) + (IntKind.wrap .u64 (IntKind.wrap .i64 (Yc.code.getD Yc.at_.toNat default))))<|sM (show IntKind.wrap .u64 ((IntKind.wrap .u64 ((IntKind.wrap .u64 (Yc.seed * 6364136223846793005)) + (IntKind.wrap .u64 (IntKind.wrap .i64 (Yc.code.getD Yc.at_.toNat default))))) + 1442695040888963407)=(Zf Yc) from rfl)<|sK [9,9]<|sZ (cI .u8) Yc.code<|s)
  clear p
  cases h1:(decide ((IntKind.wrap .i64 (Yc.at_ + 1))≤(Yc.code.length:Int))) with
  | true =>
   have gh1:=odt h1
   refine Xd (EpOk 5) Ze (c:=X0 f99) [.box 34 [.nils, .nils, .nils, .f .f32 Yl, .f .f32 Ym, .nils, .f .f32 Yn, .f .f32 Yo, .f .f32 Yp], .box 134 [.sl (Yc.code.map (cI .u8)), .i .i64 Yc.at_, .i .u64 Yc.seed], .vec 32 3 (w2.map Gv.c) false, .nest 60 (w3.map fun l=>l.map (cI .i64)) false, .box 27 [.own 2, .own 3]] [] (.i .i64 (IntKind.wrap .i64 (Yc.code.getD Yc.at_.toNat default))) [.box 34 [.nils, .nils, .nils, .f .f32 Yl, .f .f32 Ym, .nils, .f .f32 Yn, .f .f32 Yo, .f .f32 Yp], .box 134 [.sl (Yc.code.map (cI .u8)), .i .i64 (IntKind.wrap .i64 (Yc.at_ + 1)), .i .u64 (Zf Yc)], .vec 32 3 (w2.map Gv.c) false, .nest 60 (w3.map fun l=>l.map (cI .i64)) false, .box 27 [.own 2, .own 3]] func99 (q (sB h1<|sK [] sN)) rfl (by kernel_rfl) (by kernel_rfl) ?_ ?_
   · simp only [Z2,h0,h1,cond_true]
   · simp [Z2,h0,h1]
  | false =>
   have gh1:=odf h1
   refine Xd (EpOk 5) Ze (c:=X0 f99) [.box 34 [.nils, .nils, .nils, .f .f32 Yl, .f .f32 Ym, .nils, .f .f32 Yn, .f .f32 Yo, .f .f32 Yp], .box 134 [.sl (Yc.code.map (cI .u8)), .i .i64 Yc.at_, .i .u64 Yc.seed], .vec 32 3 (w2.map Gv.c) false, .nest 60 (w3.map fun l=>l.map (cI .i64)) false, .box 27 [.own 2, .own 3]] [] (.i .i64 (IntKind.wrap .i64 (bitsOf .and .u64 (Int.fdiv (Zf Yc) (2 ^ (min (Int.toNat 40) (IntKind.bits .u64)))) 255))) [.box 34 [.nils, .nils, .nils, .f .f32 Yl, .f .f32 Ym, .nils, .f .f32 Yn, .f .f32 Yo, .f .f32 Yp], .box 134 [.sl (Yc.code.map (cI .u8)), .i .i64 (IntKind.wrap .i64 (Yc.at_ + 1)), .i .u64 (Zf Yc)], .vec 32 3 (w2.map Gv.c) false, .nest 60 (w3.map fun l=>l.map (cI .i64)) false, .box 27 [.own 2, .own 3]] func99 (q (sB h1<|sC (show (0:Int)≤40 from (by decide))<|sQ (Int.fdiv (Zf Yc) (2 ^ (min (Int.toNat 40) (IntKind.bits .u64))))<|sQ (bitsOf .and .u64 (Int.fdiv (Zf Yc) (2 ^ (min (Int.toNat 40) (IntKind.bits .u64)))) 255)<|sW .i64 (bitsOf .and .u64 (Int.fdiv (Zf Yc) (2 ^ (min (Int.toNat 40) (IntKind.bits .u64)))) 255)<|sK [] sN)) rfl (by kernel_rfl) (by kernel_rfl) ?_ ?_
   · simp only [Z2,h0,h1,cond_true,cond_false]
   · simp [Z2,h0,h1]
 | false =>
  have gh0:=odf h0
  have q {a C} (s:Scr a C):=p (sB h0<|sW .i64 (Yc.at_ + 1)<|sW .u64 (Yc.seed * 6364136223846793005)<|sM (show IntKind.wrap .u64 0=0 from rfl)<|sW .u64 ((IntKind.wrap .u64 (Yc.seed * 6364136223846793005)) + 0)<|sW .u64 ((IntKind.wrap .u64 ((IntKind.wrap .u64 (Yc.seed * 6364136223846793005)) + 0)) + 1442695040888963407)<|sK [9,9]<|sZ (cI .u8) Yc.code<|s)
  clear p
  cases h1:(decide ((IntKind.wrap .i64 (Yc.at_ + 1))≤(Yc.code.length:Int))) with
  | true =>
   have gh1:=odt h1
   refine Xd (EpOk 5) Ze (c:=X0 f99) [.box 34 [.nils, .nils, .nils, .f .f32 Yl, .f .f32 Ym, .nils, .f .f32 Yn, .f .f32 Yo, .f .f32 Yp], .box 134 [.sl (Yc.code.map (cI .u8)), .i .i64 Yc.at_, .i .u64 Yc.seed], .vec 32 3 (w2.map Gv.c) false, .nest 60 (w3.map fun l=>l.map (cI .i64)) false, .box 27 [.own 2, .own 3]] [] (.i .i64 0) [.box 34 [.nils, .nils, .nils, .f .f32 Yl, .f .f32 Ym, .nils, .f .f32 Yn, .f .f32 Yo, .f .f32 Yp], .box 134 [.sl (Yc.code.map (cI .u8)), .i .i64 (IntKind.wrap .i64 (Yc.at_ + 1)), .i .u64 (IntKind.wrap .u64 ((IntKind.wrap .u64 ((IntKind.wrap .u64 (Yc.seed * 6364136223846793005)) + 0)) + 1442695040888963407))], .vec 32 3 (w2.map Gv.c) false, .nest 60 (w3.map fun l=>l.map (cI .i64)) false, .box 27 [.own 2, .own 3]] func99 (q (sB h1<|sK [] sN)) rfl (by kernel_rfl) (by kernel_rfl) ?_ ?_
   · simp only [Z2,h0,h1,cond_true,cond_false]
   · simp [Z2,h0,h1]
  | false =>
   have gh1:=odf h1
   refine Xd (EpOk 5) Ze (c:=X0 f99) [.box 34 [.nils, .nils, .nils, .f .f32 Yl, .f .f32 Ym, .nils, .f .f32 Yn, .f .f32 Yo, .f .f32 Yp], .box 134 [.sl (Yc.code.map (cI .u8)), .i .i64 Yc.at_, .i .u64 Yc.seed], .vec 32 3 (w2.map Gv.c) false, .nest 60 (w3.map fun l=>l.map (cI .i64)) false, .box 27 [.own 2, .own 3]] [] (.i .i64 (IntKind.wrap .i64 (bitsOf .and .u64 (Int.fdiv (IntKind.wrap .u64 ((IntKind.wrap .u64 ((IntKind.wrap .u64 (Yc.seed * 6364136223846793005)) + 0)) + 1442695040888963407)) (2 ^ (min (Int.toNat 40) (IntKind.bits .u64)))) 255))) [.box 34 [.nils, .nils, .nils, .f .f32 Yl, .f .f32 Ym, .nils, .f .f32 Yn, .f .f32 Yo, .f .f32 Yp], .box 134 [.sl (Yc.code.map (cI .u8)), .i .i64 (IntKind.wrap .i64 (Yc.at_ + 1)), .i .u64 (IntKind.wrap .u64 ((IntKind.wrap .u64 ((IntKind.wrap .u64 (Yc.seed * 6364136223846793005)) + 0)) + 1442695040888963407))], .vec 32 3 (w2.map Gv.c) false, .nest 60 (w3.map fun l=>l.map (cI .i64)) false, .box 27 [.own 2, .own 3]] func99 (q (sB h1<|sC (show (0:Int)≤40 from (by decide))<|sQ (Int.fdiv (IntKind.wrap .u64 ((IntKind.wrap .u64 ((IntKind.wrap .u64 (Yc.seed * 6364136223846793005)) + 0)) + 1442695040888963407)) (2 ^ (min (Int.toNat 40) (IntKind.bits .u64))))<|sQ (bitsOf .and .u64 (Int.fdiv (IntKind.wrap .u64 ((IntKind.wrap .u64 ((IntKind.wrap .u64 (Yc.seed * 6364136223846793005)) + 0)) + 1442695040888963407)) (2 ^ (min (Int.toNat 40) (IntKind.bits .u64)))) 255)<|sW .i64 (bitsOf .and .u64 (Int.fdiv (IntKind.wrap .u64 ((IntKind.wrap .u64 ((IntKind.wrap .u64 (Yc.seed * 6364136223846793005)) + 0)) + 1442695040888963407)) (2 ^ (min (Int.toNat 40) (IntKind.bits .u64)))) 255)<|sK [] sN)) rfl (by kernel_rfl) (by kernel_rfl) ?_ ?_
   · simp only [Z2,h0,h1,cond_false]
   · simp [Z2,h0,h1]
theorem Z5D (Yl:Nat) (Ym:Nat) (Yn:Nat) (Yo:Nat) (Yp:Nat) (w2:(List Gv)) (w3:(List (List Int))) (Yc:Gl00Src) (YJ:Int) (hp0:Yc.code.length≤1073741824) (hp1:0≤Yc.at_) (hp2:Yc.at_≤1152921504606846970)  : X7 prog 55 [.box 34 [.nils, .nils, .nils, .f .f32 Yl, .f .f32 Ym, .nils, .f .f32 Yn, .f .f32 Yo, .f .f32 Yp], .box 134 [.sl (Yc.code.map (cI .u8)), .i .i64 Yc.at_, .i .u64 Yc.seed], .vec 32 3 (w2.map Gv.c) false, .nest 60 (w3.map fun l=>l.map (cI .i64)) false, .box 27 [.own 2, .own 3]] [.ptr 1 0 0, .i .i64 YJ] (.i .i64 ((Z0 Yc YJ).1)) [.box 34 [.nils, .nils, .nils, .f .f32 Yl, .f .f32 Ym, .nils, .f .f32 Yn, .f .f32 Yo, .f .f32 Yp], .box 134 [.sl (Yc.code.map (cI .u8)), .i .i64 ((Z0 Yc YJ).2.1), .i .u64 ((Z0 Yc YJ).2.2)], .vec 32 3 (w2.map Gv.c) false, .nest 60 (w3.map fun l=>l.map (cI .i64)) false, .box 27 [.own 2, .own 3]]:=by
 cases h0:(decide (YJ≤1)) with
 | true =>
  have gh0:=odt h0
  refine Xd (EpOk 5) Ze (c:=X0 f55) [.box 34 [.nils, .nils, .nils, .f .f32 Yl, .f .f32 Ym, .nils, .f .f32 Yn, .f .f32 Yo, .f .f32 Yp], .box 134 [.sl (Yc.code.map (cI .u8)), .i .i64 Yc.at_, .i .u64 Yc.seed], .vec 32 3 (w2.map Gv.c) false, .nest 60 (w3.map fun l=>l.map (cI .i64)) false, .box 27 [.own 2, .own 3]] [] (.i .i64 0) [.box 34 [.nils, .nils, .nils, .f .f32 Yl, .f .f32 Ym, .nils, .f .f32 Yn, .f .f32 Yo, .f .f32 Yp], .box 134 [.sl (Yc.code.map (cI .u8)), .i .i64 Yc.at_, .i .u64 Yc.seed], .vec 32 3 (w2.map Gv.c) false, .nest 60 (w3.map fun l=>l.map (cI .i64)) false, .box 27 [.own 2, .own 3]] func55 (sB h0<|sK [] sN) rfl (by kernel_rfl) (by kernel_rfl) ?_ ?_
  · simp only [Z0,h0,cond_true]
  · simp [Z0,h0]
 | false =>
  have gh0:=odf h0
  have y0:Yc.at_≤1152921504606846976:=(by omega)
  have l1:=(Z2O Yc)
  have p {a C} (s:Scr a C):=sB h0<|sS (Z3j Yl Ym Yn Yo Yp w2 w3 Yc hp0 hp1 y0)<|s
  cases h1:(decide (YJ > 200)) with
  | true =>
   have gh1:=odt h1
   have y1:(⟨Yc.code,(Z2 Yc).2.1,(Z2 Yc).2.2⟩:Gl00Src).code.length≤1073741824:=by clear p;exact (by assumption)
   have y2:0≤(⟨Yc.code,(Z2 Yc).2.1,(Z2 Yc).2.2⟩:Gl00Src).at_:=by clear p;exact (by simp_all<;>omega)
   have y3:(⟨Yc.code,(Z2 Yc).2.1,(Z2 Yc).2.2⟩:Gl00Src).at_≤1152921504606846976:=by clear p;exact (by simp_all<;>omega)
   have l2:=(Z2O (⟨Yc.code,(Z2 Yc).2.1,(Z2 Yc).2.2⟩:Gl00Src))
   have y4:YJ≠0:=by clear p;exact (by omega)
   refine Xd (EpOk 5) Ze (c:=X0 f55) [.box 34 [.nils, .nils, .nils, .f .f32 Yl, .f .f32 Ym, .nils, .f .f32 Yn, .f .f32 Yo, .f .f32 Yp], .box 134 [.sl (Yc.code.map (cI .u8)), .i .i64 Yc.at_, .i .u64 Yc.seed], .vec 32 3 (w2.map Gv.c) false, .nest 60 (w3.map fun l=>l.map (cI .i64)) false, .box 27 [.own 2, .own 3]] [] (.i .i64 (Int.tmod (Zv Yc) YJ)) [.box 34 [.nils, .nils, .nils, .f .f32 Yl, .f .f32 Ym, .nils, .f .f32 Yn, .f .f32 Yo, .f .f32 Yp], .box 134 [.sl (Yc.code.map (cI .u8)), .i .i64 ((Z2 (⟨Yc.code,(Z2 Yc).2.1,(Z2 Yc).2.2⟩:Gl00Src)).2.1), .i .u64 ((Z2 (⟨Yc.code,(Z2 Yc).2.1,(Z2 Yc).2.2⟩:Gl00Src)).2.2)], .vec 32 3 (w2.map Gv.c) false, .nest 60 (w3.map fun l=>l.map (cI .i64)) false, .box 27 [.own 2, .own 3]] func55 (p (sB h1<|sW .i64 ((Z2 Yc).1 * 256)<|sS (Z3j Yl Ym Yn Yo Yp w2 w3 (⟨Yc.code,(Z2 Yc).2.1,(Z2 Yc).2.2⟩:Gl00Src) y1 y2 y3)<|sM (show IntKind.wrap .i64 ((IntKind.wrap .i64 ((Z2 Yc).1 * 256)) + (Z2 (⟨Yc.code,(Z2 Yc).2.1,(Z2 Yc).2.2⟩:Gl00Src)).1)=(Zv Yc) from rfl)<|sC y4<|sQ (Int.tmod (Zv Yc) YJ)<|sK [] sN)) rfl (by kernel_rfl) (by kernel_rfl) ?_ ?_
   · simp only [Z0,h0,h1,cond_true,cond_false]
   · simp [Z0,h0,h1]
  | false =>
   have gh1:=odf h1
   have y1:YJ≠0:=by clear p;exact (by omega)
   refine Xd (EpOk 5) Ze (c:=X0 f55) [.box 34 [.nils, .nils, .nils, .f .f32 Yl, .f .f32 Ym, .nils, .f .f32 Yn, .f .f32 Yo, .f .f32 Yp], .box 134 [.sl (Yc.code.map (cI .u8)), .i .i64 Yc.at_, .i .u64 Yc.seed], .vec 32 3 (w2.map Gv.c) false, .nest 60 (w3.map fun l=>l.map (cI .i64)) false, .box 27 [.own 2, .own 3]] [] (.i .i64 (Int.tmod ((Z2 Yc).1) YJ)) [.box 34 [.nils, .nils, .nils, .f .f32 Yl, .f .f32 Ym, .nils, .f .f32 Yn, .f .f32 Yo, .f .f32 Yp], .box 134 [.sl (Yc.code.map (cI .u8)), .i .i64 ((Z2 Yc).2.1), .i .u64 ((Z2 Yc).2.2)], .vec 32 3 (w2.map Gv.c) false, .nest 60 (w3.map fun l=>l.map (cI .i64)) false, .box 27 [.own 2, .own 3]] func55 (p (sB h1<|sC y1<|sQ (Int.tmod ((Z2 Yc).1) YJ)<|sK [] sN)) rfl (by kernel_rfl) (by kernel_rfl) ?_ ?_
   · simp only [Z0,h0,h1,cond_false]
   · simp [Z0,h0,h1]
theorem Z3k (Yl:Nat) (Ym:Nat) (Yn:Nat) (Yo:Nat) (Yp:Nat) (w2:(List Gv)) (w3:(List (List Int))) (YS:Nat) (YT:Nat) (YU:Nat) (Yc:Gl00Src) (hp0:Yc.code.length≤1073741824) (hp1:0≤Yc.at_) (hp2:Yc.at_≤1152921504606846976)  : X7 prog 99 [.box 34 [.nils, .nils, .nils, .f .f32 Yl, .f .f32 Ym, .nils, .f .f32 Yn, .f .f32 Yo, .f .f32 Yp], .box 134 [.sl (Yc.code.map (cI .u8)), .i .i64 Yc.at_, .i .u64 Yc.seed], .vec 32 3 (w2.map Gv.c) false, .nest 60 (w3.map fun l=>l.map (cI .i64)) false, .box 27 [.own 2, .own 3], .box 32 [.f .f32 YS, .f .f32 YT, .f .f32 YU]] [.ptr 1 0 0] (.i .i64 ((Z2 Yc).1)) [.box 34 [.nils, .nils, .nils, .f .f32 Yl, .f .f32 Ym, .nils, .f .f32 Yn, .f .f32 Yo, .f .f32 Yp], .box 134 [.sl (Yc.code.map (cI .u8)), .i .i64 ((Z2 Yc).2.1), .i .u64 ((Z2 Yc).2.2)], .vec 32 3 (w2.map Gv.c) false, .nest 60 (w3.map fun l=>l.map (cI .i64)) false, .box 27 [.own 2, .own 3], .box 32 [.f .f32 YS, .f .f32 YT, .f .f32 YU]]:=by
 have p {a C} (s:Scr a C):=sK [9,9]<|sZ (cI .u8) Yc.code<|s
 cases h0:(decide (Yc.at_ < (Yc.code.length:Int))) with
 | true =>
  have gh0:=odt h0
  have y0:(0:Int)≤Yc.at_:=by clear p;exact (by assumption)
  have y1:Yc.at_ < (Yc.code.length:Int):=by clear p;exact (by assumption)
  have q {a C} (s:Scr a C):=p (sB h0<|sK [8,8]<|sG (cI .u8) Yc.code Yc.at_ y0 y1<|sW .i64 (Yc.code.getD Yc.at_.toNat default)<|sW .i64 (Yc.at_ + 1)<|sW .u64 (Yc.seed * 6364136223846793005)<|sW .u64 (IntKind.wrap .i64 (Yc.code.getD Yc.at_.toNat default))<|sW .u64 ((IntKind.wrap .u64 (Yc.seed * 6364136223846793005)) + (IntKind.wrap .u64 (IntKind.wrap .i64 (Yc.code.getD Yc.at_.toNat default))))<|sM (show IntKind.wrap .u64 ((IntKind.wrap .u64 ((IntKind.wrap .u64 (Yc.seed * 6364136223846793005)) + (IntKind.wrap .u64 (IntKind.wrap .i64 (Yc.code.getD Yc.at_.toNat default))))) + 1442695040888963407)=(Zf Yc) from rfl)<|sK [9,9]<|sZ (cI .u8) Yc.code<|s)
  clear p
  cases h1:(decide ((IntKind.wrap .i64 (Yc.at_ + 1))≤(Yc.code.length:Int))) with
  | true =>
   have gh1:=odt h1
   refine Xd (EpOk 6) Ze (c:=X0 f99) [.box 34 [.nils, .nils, .nils, .f .f32 Yl, .f .f32 Ym, .nils, .f .f32 Yn, .f .f32 Yo, .f .f32 Yp], .box 134 [.sl (Yc.code.map (cI .u8)), .i .i64 Yc.at_, .i .u64 Yc.seed], .vec 32 3 (w2.map Gv.c) false, .nest 60 (w3.map fun l=>l.map (cI .i64)) false, .box 27 [.own 2, .own 3], .box 32 [.f .f32 YS, .f .f32 YT, .f .f32 YU]] [] (.i .i64 (IntKind.wrap .i64 (Yc.code.getD Yc.at_.toNat default))) [.box 34 [.nils, .nils, .nils, .f .f32 Yl, .f .f32 Ym, .nils, .f .f32 Yn, .f .f32 Yo, .f .f32 Yp], .box 134 [.sl (Yc.code.map (cI .u8)), .i .i64 (IntKind.wrap .i64 (Yc.at_ + 1)), .i .u64 (Zf Yc)], .vec 32 3 (w2.map Gv.c) false, .nest 60 (w3.map fun l=>l.map (cI .i64)) false, .box 27 [.own 2, .own 3], .box 32 [.f .f32 YS, .f .f32 YT, .f .f32 YU]] func99 (q (sB h1<|sK [] sN)) rfl (by kernel_rfl) (by kernel_rfl) ?_ ?_
   · simp only [Z2,h0,h1,cond_true]
   · simp [Z2,h0,h1]
  | false =>
   have gh1:=odf h1
   refine Xd (EpOk 6) Ze (c:=X0 f99) [.box 34 [.nils, .nils, .nils, .f .f32 Yl, .f .f32 Ym, .nils, .f .f32 Yn, .f .f32 Yo, .f .f32 Yp], .box 134 [.sl (Yc.code.map (cI .u8)), .i .i64 Yc.at_, .i .u64 Yc.seed], .vec 32 3 (w2.map Gv.c) false, .nest 60 (w3.map fun l=>l.map (cI .i64)) false, .box 27 [.own 2, .own 3], .box 32 [.f .f32 YS, .f .f32 YT, .f .f32 YU]] [] (.i .i64 (IntKind.wrap .i64 (bitsOf .and .u64 (Int.fdiv (Zf Yc) (2 ^ (min (Int.toNat 40) (IntKind.bits .u64)))) 255))) [.box 34 [.nils, .nils, .nils, .f .f32 Yl, .f .f32 Ym, .nils, .f .f32 Yn, .f .f32 Yo, .f .f32 Yp], .box 134 [.sl (Yc.code.map (cI .u8)), .i .i64 (IntKind.wrap .i64 (Yc.at_ + 1)), .i .u64 (Zf Yc)], .vec 32 3 (w2.map Gv.c) false, .nest 60 (w3.map fun l=>l.map (cI .i64)) false, .box 27 [.own 2, .own 3], .box 32 [.f .f32 YS, .f .f32 YT, .f .f32 YU]] func99 (q (sB h1<|sC (show (0:Int)≤40 from (by decide))<|sQ (Int.fdiv (Zf Yc) (2 ^ (min (Int.toNat 40) (IntKind.bits .u64))))<|sQ (bitsOf .and .u64 (Int.fdiv (Zf Yc) (2 ^ (min (Int.toNat 40) (IntKind.bits .u64)))) 255)<|sW .i64 (bitsOf .and .u64 (Int.fdiv (Zf Yc) (2 ^ (min (Int.toNat 40) (IntKind.bits .u64)))) 255)<|sK [] sN)) rfl (by kernel_rfl) (by kernel_rfl) ?_ ?_
   · simp only [Z2,h0,h1,cond_true,cond_false]
   · simp [Z2,h0,h1]
 | false =>
  have gh0:=odf h0
  have q {a C} (s:Scr a C):=p (sB h0<|sW .i64 (Yc.at_ + 1)<|sW .u64 (Yc.seed * 6364136223846793005)<|sM (show IntKind.wrap .u64 0=0 from rfl)<|sW .u64 ((IntKind.wrap .u64 (Yc.seed * 6364136223846793005)) + 0)<|sW .u64 ((IntKind.wrap .u64 ((IntKind.wrap .u64 (Yc.seed * 6364136223846793005)) + 0)) + 1442695040888963407)<|sK [9,9]<|sZ (cI .u8) Yc.code<|s)
  clear p
  cases h1:(decide ((IntKind.wrap .i64 (Yc.at_ + 1))≤(Yc.code.length:Int))) with
  | true =>
   have gh1:=odt h1
   refine Xd (EpOk 6) Ze (c:=X0 f99) [.box 34 [.nils, .nils, .nils, .f .f32 Yl, .f .f32 Ym, .nils, .f .f32 Yn, .f .f32 Yo, .f .f32 Yp], .box 134 [.sl (Yc.code.map (cI .u8)), .i .i64 Yc.at_, .i .u64 Yc.seed], .vec 32 3 (w2.map Gv.c) false, .nest 60 (w3.map fun l=>l.map (cI .i64)) false, .box 27 [.own 2, .own 3], .box 32 [.f .f32 YS, .f .f32 YT, .f .f32 YU]] [] (.i .i64 0) [.box 34 [.nils, .nils, .nils, .f .f32 Yl, .f .f32 Ym, .nils, .f .f32 Yn, .f .f32 Yo, .f .f32 Yp], .box 134 [.sl (Yc.code.map (cI .u8)), .i .i64 (IntKind.wrap .i64 (Yc.at_ + 1)), .i .u64 (IntKind.wrap .u64 ((IntKind.wrap .u64 ((IntKind.wrap .u64 (Yc.seed * 6364136223846793005)) + 0)) + 1442695040888963407))], .vec 32 3 (w2.map Gv.c) false, .nest 60 (w3.map fun l=>l.map (cI .i64)) false, .box 27 [.own 2, .own 3], .box 32 [.f .f32 YS, .f .f32 YT, .f .f32 YU]] func99 (q (sB h1<|sK [] sN)) rfl (by kernel_rfl) (by kernel_rfl) ?_ ?_
   · simp only [Z2,h0,h1,cond_true,cond_false]
   · simp [Z2,h0,h1]
  | false =>
   have gh1:=odf h1
   refine Xd (EpOk 6) Ze (c:=X0 f99) [.box 34 [.nils, .nils, .nils, .f .f32 Yl, .f .f32 Ym, .nils, .f .f32 Yn, .f .f32 Yo, .f .f32 Yp], .box 134 [.sl (Yc.code.map (cI .u8)), .i .i64 Yc.at_, .i .u64 Yc.seed], .vec 32 3 (w2.map Gv.c) false, .nest 60 (w3.map fun l=>l.map (cI .i64)) false, .box 27 [.own 2, .own 3], .box 32 [.f .f32 YS, .f .f32 YT, .f .f32 YU]] [] (.i .i64 (IntKind.wrap .i64 (bitsOf .and .u64 (Int.fdiv (IntKind.wrap .u64 ((IntKind.wrap .u64 ((IntKind.wrap .u64 (Yc.seed * 6364136223846793005)) + 0)) + 1442695040888963407)) (2 ^ (min (Int.toNat 40) (IntKind.bits .u64)))) 255))) [.box 34 [.nils, .nils, .nils, .f .f32 Yl, .f .f32 Ym, .nils, .f .f32 Yn, .f .f32 Yo, .f .f32 Yp], .box 134 [.sl (Yc.code.map (cI .u8)), .i .i64 (IntKind.wrap .i64 (Yc.at_ + 1)), .i .u64 (IntKind.wrap .u64 ((IntKind.wrap .u64 ((IntKind.wrap .u64 (Yc.seed * 6364136223846793005)) + 0)) + 1442695040888963407))], .vec 32 3 (w2.map Gv.c) false, .nest 60 (w3.map fun l=>l.map (cI .i64)) false, .box 27 [.own 2, .own 3], .box 32 [.f .f32 YS, .f .f32 YT, .f .f32 YU]] func99 (q (sB h1<|sC (show (0:Int)≤40 from (by decide))<|sQ (Int.fdiv (IntKind.wrap .u64 ((IntKind.wrap .u64 ((IntKind.wrap .u64 (Yc.seed * 6364136223846793005)) + 0)) + 1442695040888963407)) (2 ^ (min (Int.toNat 40) (IntKind.bits .u64))))<|sQ (bitsOf .and .u64 (Int.fdiv (IntKind.wrap .u64 ((IntKind.wrap .u64 ((IntKind.wrap .u64 (Yc.seed * 6364136223846793005)) + 0)) + 1442695040888963407)) (2 ^ (min (Int.toNat 40) (IntKind.bits .u64)))) 255)<|sW .i64 (bitsOf .and .u64 (Int.fdiv (IntKind.wrap .u64 ((IntKind.wrap .u64 ((IntKind.wrap .u64 (Yc.seed * 6364136223846793005)) + 0)) + 1442695040888963407)) (2 ^ (min (Int.toNat 40) (IntKind.bits .u64)))) 255)<|sK [] sN)) rfl (by kernel_rfl) (by kernel_rfl) ?_ ?_
   · simp only [Z2,h0,h1,cond_false]
   · simp [Z2,h0,h1]
theorem Z3l (Yl:Nat) (Ym:Nat) (Yn:Nat) (Yo:Nat) (Yp:Nat) (w2:(List Gv)) (w3:(List (List Int))) (YS:Nat) (YT:Nat) (YU:Nat) (Yc:Gl00Src) (YJ:Int) (hp0:Yc.code.length≤1073741824) (hp1:0≤Yc.at_) (hp2:Yc.at_≤1152921504606846970)  : X7 prog 55 [.box 34 [.nils, .nils, .nils, .f .f32 Yl, .f .f32 Ym, .nils, .f .f32 Yn, .f .f32 Yo, .f .f32 Yp], .box 134 [.sl (Yc.code.map (cI .u8)), .i .i64 Yc.at_, .i .u64 Yc.seed], .vec 32 3 (w2.map Gv.c) false, .nest 60 (w3.map fun l=>l.map (cI .i64)) false, .box 27 [.own 2, .own 3], .box 32 [.f .f32 YS, .f .f32 YT, .f .f32 YU]] [.ptr 1 0 0, .i .i64 YJ] (.i .i64 ((Z0 Yc YJ).1)) [.box 34 [.nils, .nils, .nils, .f .f32 Yl, .f .f32 Ym, .nils, .f .f32 Yn, .f .f32 Yo, .f .f32 Yp], .box 134 [.sl (Yc.code.map (cI .u8)), .i .i64 ((Z0 Yc YJ).2.1), .i .u64 ((Z0 Yc YJ).2.2)], .vec 32 3 (w2.map Gv.c) false, .nest 60 (w3.map fun l=>l.map (cI .i64)) false, .box 27 [.own 2, .own 3], .box 32 [.f .f32 YS, .f .f32 YT, .f .f32 YU]]:=by
 cases h0:(decide (YJ≤1)) with
 | true =>
  have gh0:=odt h0
  refine Xd (EpOk 6) Ze (c:=X0 f55) [.box 34 [.nils, .nils, .nils, .f .f32 Yl, .f .f32 Ym, .nils, .f .f32 Yn, .f .f32 Yo, .f .f32 Yp], .box 134 [.sl (Yc.code.map (cI .u8)), .i .i64 Yc.at_, .i .u64 Yc.seed], .vec 32 3 (w2.map Gv.c) false, .nest 60 (w3.map fun l=>l.map (cI .i64)) false, .box 27 [.own 2, .own 3], .box 32 [.f .f32 YS, .f .f32 YT, .f .f32 YU]] [] (.i .i64 0) [.box 34 [.nils, .nils, .nils, .f .f32 Yl, .f .f32 Ym, .nils, .f .f32 Yn, .f .f32 Yo, .f .f32 Yp], .box 134 [.sl (Yc.code.map (cI .u8)), .i .i64 Yc.at_, .i .u64 Yc.seed], .vec 32 3 (w2.map Gv.c) false, .nest 60 (w3.map fun l=>l.map (cI .i64)) false, .box 27 [.own 2, .own 3], .box 32 [.f .f32 YS, .f .f32 YT, .f .f32 YU]] func55 (sB h0<|sK [] sN) rfl (by kernel_rfl) (by kernel_rfl) ?_ ?_
  · simp only [Z0,h0,cond_true]
  · simp [Z0,h0]
 | false =>
  have gh0:=odf h0
  have y0:Yc.at_≤1152921504606846976:=(by omega)
  have l1:=(Z2O Yc)
  have p {a C} (s:Scr a C):=sB h0<|sS (Z3k Yl Ym Yn Yo Yp w2 w3 YS YT YU Yc hp0 hp1 y0)<|s
  cases h1:(decide (YJ > 200)) with
  | true =>
   have gh1:=odt h1
   have y1:(⟨Yc.code,(Z2 Yc).2.1,(Z2 Yc).2.2⟩:Gl00Src).code.length≤1073741824:=by clear p;exact (by assumption)
   have y2:0≤(⟨Yc.code,(Z2 Yc).2.1,(Z2 Yc).2.2⟩:Gl00Src).at_:=by clear p;exact (by simp_all<;>omega)
   have y3:(⟨Yc.code,(Z2 Yc).2.1,(Z2 Yc).2.2⟩:Gl00Src).at_≤1152921504606846976:=by clear p;exact (by simp_all<;>omega)
   have l2:=(Z2O (⟨Yc.code,(Z2 Yc).2.1,(Z2 Yc).2.2⟩:Gl00Src))
   have y4:YJ≠0:=by clear p;exact (by omega)
   refine Xd (EpOk 6) Ze (c:=X0 f55) [.box 34 [.nils, .nils, .nils, .f .f32 Yl, .f .f32 Ym, .nils, .f .f32 Yn, .f .f32 Yo, .f .f32 Yp], .box 134 [.sl (Yc.code.map (cI .u8)), .i .i64 Yc.at_, .i .u64 Yc.seed], .vec 32 3 (w2.map Gv.c) false, .nest 60 (w3.map fun l=>l.map (cI .i64)) false, .box 27 [.own 2, .own 3], .box 32 [.f .f32 YS, .f .f32 YT, .f .f32 YU]] [] (.i .i64 (Int.tmod (Zv Yc) YJ)) [.box 34 [.nils, .nils, .nils, .f .f32 Yl, .f .f32 Ym, .nils, .f .f32 Yn, .f .f32 Yo, .f .f32 Yp], .box 134 [.sl (Yc.code.map (cI .u8)), .i .i64 ((Z2 (⟨Yc.code,(Z2 Yc).2.1,(Z2 Yc).2.2⟩:Gl00Src)).2.1), .i .u64 ((Z2 (⟨Yc.code,(Z2 Yc).2.1,(Z2 Yc).2.2⟩:Gl00Src)).2.2)], .vec 32 3 (w2.map Gv.c) false, .nest 60 (w3.map fun l=>l.map (cI .i64)) false, .box 27 [.own 2, .own 3], .box 32 [.f .f32 YS, .f .f32 YT, .f .f32 YU]] func55 (p (sB h1<|sW .i64 ((Z2 Yc).1 * 256)<|sS (Z3k Yl Ym Yn Yo Yp w2 w3 YS YT YU (⟨Yc.code,(Z2 Yc).2.1,(Z2 Yc).2.2⟩:Gl00Src) y1 y2 y3)<|sM (show IntKind.wrap .i64 ((IntKind.wrap .i64 ((Z2 Yc).1 * 256)) + (Z2 (⟨Yc.code,(Z2 Yc).2.1,(Z2 Yc).2.2⟩:Gl00Src)).1)=(Zv Yc) from rfl)<|sC y4<|sQ (Int.tmod (Zv Yc) YJ)<|sK [] sN)) rfl (by kernel_rfl) (by kernel_rfl) ?_ ?_
   · simp only [Z0,h0,h1,cond_true,cond_false]
   · simp [Z0,h0,h1]
  | false =>
   have gh1:=odf h1
   have y1:YJ≠0:=by clear p;exact (by omega)
   refine Xd (EpOk 6) Ze (c:=X0 f55) [.box 34 [.nils, .nils, .nils, .f .f32 Yl, .f .f32 Ym, .nils, .f .f32 Yn, .f .f32 Yo, .f .f32 Yp], .box 134 [.sl (Yc.code.map (cI .u8)), .i .i64 Yc.at_, .i .u64 Yc.seed], .vec 32 3 (w2.map Gv.c) false, .nest 60 (w3.map fun l=>l.map (cI .i64)) false, .box 27 [.own 2, .own 3], .box 32 [.f .f32 YS, .f .f32 YT, .f .f32 YU]] [] (.i .i64 (Int.tmod ((Z2 Yc).1) YJ)) [.box 34 [.nils, .nils, .nils, .f .f32 Yl, .f .f32 Ym, .nils, .f .f32 Yn, .f .f32 Yo, .f .f32 Yp], .box 134 [.sl (Yc.code.map (cI .u8)), .i .i64 ((Z2 Yc).2.1), .i .u64 ((Z2 Yc).2.2)], .vec 32 3 (w2.map Gv.c) false, .nest 60 (w3.map fun l=>l.map (cI .i64)) false, .box 27 [.own 2, .own 3], .box 32 [.f .f32 YS, .f .f32 YT, .f .f32 YU]] func55 (p (sB h1<|sC y1<|sQ (Int.tmod ((Z2 Yc).1) YJ)<|sK [] sN)) rfl (by kernel_rfl) (by kernel_rfl) ?_ ?_
   · simp only [Z0,h0,h1,cond_false]
   · simp [Z0,h0,h1]
def Z1G (Yw:Gv) (Yx:Gv):Gv:=(⟨(fop .add .f32 Yw.X Yx.X),(fop .add .f32 Yw.Y Yx.Y),(fop .add .f32 Yw.Z Yx.Z)⟩:Gv)
theorem Z7U (Yw:Gv) (Yx:Gv)   : Fn prog 57 [.agg [.f .f32 Yw.X, .f .f32 Yw.Y, .f .f32 Yw.Z], .agg [.f .f32 Yx.X, .f .f32 Yx.Y, .f .f32 Yx.Z]] (.agg [.f .f32 ((Z1G Yw Yx).X), .f .f32 ((Z1G Yw Yx).Y), .f .f32 ((Z1G Yw Yx).Z)]) []:=by
 refine fnS E0Ok Ze (c:=X0 f57) [] (.agg [.f .f32 (fop .add .f32 Yw.X Yx.X), .f .f32 (fop .add .f32 Yw.Y Yx.Y), .f .f32 (fop .add .f32 Yw.Z Yx.Z)]) [] func57 (sK [] sN) rfl (by kernel_rfl) (by kernel_rfl) rfl ?_ ?_
 · rfl
 · rfl
def Z3W (Yi:(List Int)):(List Int):=(([]:List Int) ++ Yi)
theorem Z7V (Yi:(List Int)) (hp0:Yi.length≤1073741824)  : Fn prog 108 [.sl (Yi.map (cI .i64))] (.own 0) [.vec 2 1 ((Z3W Yi).map (cI .i64)) false]:=by
 have y0:([]:List Int).length + Yi.length≤1073741824:=(by simp_all<;>omega)
 refine fnS E0Ok Ze (c:=X0 f108) [] (.own 0) [.vec 2 1 (([]:List (List AV)) ++ (Yi.map (cI .i64))) false] func108 (sC (show ([]:List (List AV)).length + (Yi.map (cI .i64)).length≤1073741824 from (by simpa using y0))<|sC (show (Yi.map (cI .i64)).all (fun cs=>cs.length == 1 && cs.all isS)=true from (X3g (fun _=>rfl)))<|sK [0] sN) rfl (by kernel_rfl) (by kernel_rfl) rfl ?_ ?_
 · rfl
 · simp [Z3W,cI]
@[simp] theorem Z8S (l:List Int):Z3W l=l:=by simp [Z3W]
theorem Z7W (Yi:(List Int)) (hp0:Yi.length≤1073741824):Fn prog 108 [.sl (Yi.map (cI .i64))] (.own 0) [.vec 2 1 (Yi.map (cI .i64)) false]:=by
 simpa only [Z8S] using Z7V  Yi hp0
def Z1y (Y4:Gm):Nat→Int→(List (List Int))→(List (List Int))
  | 0,_,_=>default
  | k + 1,Yj,Ya=>(cond (decide (Yj < (Y4.Tr.length:Int)))
    (Z1y Y4 k (Yj + 1) (Ya ++ [(Y4.Tr.getD Yj.toNat default)]))
    Ya)
def Z3Y (Y4:Gm) (r:(List (List Int))):Ex × St:=((.exit 0),⟨.ref (Gm.c Y4) 0 :: .any :: .ptr 0 0 0 :: .ptr 1 0 0 :: .any :: .any :: .ref (Gm.c Y4) 0 :: .ref (Gm.c Y4) 0 :: .ref (Gm.c Y4) 0 :: .sl (Y4.Pq.map Gv.c) :: .own 2 :: an 25 [],[.box 27 [.nils, .nils], .box 27 [.own 2, .own 3], .vec 32 3 (([]:List (List AV)) ++ (Y4.Pq.map Gv.c)) false, .nest 60 (r.map fun l=>l.map (cI .i64)) false]⟩)
def Z3Z (Y4:Gm) (Yj:Int) (Ya:(List (List Int))):St:=⟨.ref (Gm.c Y4) 0 :: .any :: .ptr 0 0 0 :: .ptr 3 0 0 :: .i .i64 Yj :: .any :: .ref (Gm.c Y4) 0 :: .ref (Gm.c Y4) 0 :: .ref (Gm.c Y4) 0 :: .sl (Y4.Pq.map Gv.c) :: .own 1 :: an 25 [],[.box 27 [.nils, .nils], .vec 32 3 (([]:List (List AV)) ++ (Y4.Pq.map Gv.c)) false, .nest 60 (Ya.map fun l=>l.map (cI .i64)) false, .box 27 [.own 1, .own 2]]⟩
theorem Z73 (Y4:Gm) (hp0:Y4.Pq.length≤1073741824) (hp1:Y4.Tr.length≤1073741824) (hp2:∀ t∈Y4.Tr,t.length≤1073741824):∀ (k:Nat) (Yj:Int) (Ya:(List (List Int))) (Z57:0≤Yj) (Z58:(Ya.length:Int)=Yj) (hk:((Y4.Tr.length:Int) - Yj).toNat < k),Lp prog 0 (sub (X0 f67) [1,1,0,1,0,0]) (Z3Z Y4 Yj Ya) (Z3Y Y4 (Z1y Y4 k Yj Ya)).1 (Z3Y Y4 (Z1y Y4 k Yj Ya)).2:=by
 intro k
 induction k with
 | zero=>intro Yj Ya Z57 Z58 hk;exact absurd hk (Nat.not_lt_zero _)
 | succ k ih =>
  intro Yj Ya Z57 Z58 hk
  have p {a C} (s:Scr a C):=sZ (cL (cI .i64)) Y4.Tr<|s
  cases Yk:(decide (Yj < (Y4.Tr.length:Int))) with
  | true =>
   have YH:=odt Yk
   have YQ:(0:Int)≤Yj:=by clear p;exact (by assumption)
   have YN:Yj < (Y4.Tr.length:Int):=by clear p;exact (by assumption)
   have y_2:(Y4.Tr.getD Yj.toNat default).length≤1073741824:=by clear p;exact (by simp_all<;>omega)
   have YR:Ya.length + [(Y4.Tr.getD Yj.toNat default)].length≤1073741824:=by clear p;exact (by simp_all<;>omega)
   have y_4:(-9223372036854775808:Int)≤(Yj + 1):=by clear p;exact (by omega)
   have y_5:(Yj + 1)≤(9223372036854775807:Int):=by clear p;exact (by omega)
   have e:Z1y Y4 (k + 1) Yj Ya=(Z1y Y4 k (Yj + 1) (Ya ++ [(Y4.Tr.getD Yj.toNat default)])):=by simp only [Z1y,Yk,cond_true]
   rw [e]
   exact X14 E0Ok Ze [] (mR false [0,1,1,3,1,5,25]) [0,1,2,3] (⟨.ref (Gm.c Y4) 0 :: .any :: .ptr 0 0 0 :: .ptr 3 0 0 :: .i .i64 (Yj + 1) :: .any :: .ref (Gm.c Y4) 0 :: .ref (Gm.c Y4) 0 :: .ref (Gm.c Y4) 0 :: .sl (Y4.Pq.map Gv.c) :: .own 1 :: an 25 [],[.box 27 [.nils, .nils], .vec 32 3 (([]:List (List AV)) ++ (Y4.Pq.map Gv.c)) false, .nest 60 ((Ya.map fun l=>l.map (cI .i64)) ++ [((Y4.Tr.getD Yj.toNat default).map (cI .i64))]) false, .box 27 [.own 1, .own 2]]⟩) (p (sB Yk<|sK [11,11]<|sG (cL (cI .i64)) Y4.Tr Yj YQ YN<|sF (Z7W (Y4.Tr.getD Yj.toNat default) y_2)<|sC (show (Ya.map fun l=>l.map (cI .i64)).length + [((Y4.Tr.getD Yj.toNat default).map (cI .i64))].length≤1073741824 from (by simpa using YR))<|sI (Yj + 1) y_4 y_5<|sN)) (by kernel_rfl) (by simp [Z3Z,Gv.c,cL,cI]) (ih (Yj + 1) (Ya ++ [(Y4.Tr.getD Yj.toNat default)]) (show 0≤(Yj + 1) from (by omega)) (show ((Ya ++ [(Y4.Tr.getD Yj.toNat default)]).length:Int)=(Yj + 1) from (by simp_all<;>omega)) (by omega))
  | false =>
   have YH:=odf Yk
   have e:Z1y Y4 (k + 1) Yj Ya=Ya:=by simp only [Z1y,Yk,cond_false]
   rw [e]
   exact outR (e:=(.exit 0)) E0Ok Ze [] (mR false [0,1,1,2,2,5,25]) [0,3,1,2] (p (sB Yk<|sN)) (by kernel_rfl) (by intro h;cases h)
def Z2P (Y4:Gm):(List (List Int)):=(Z1y Y4 (((Y4.Tr.length:Int) - 0).toNat + 1) 0 ([]:List (List Int)))
def Z36 (Y4:Gm):Gm:=(⟨(([]:List Gv) ++ Y4.Pq),(Z2P Y4)⟩:Gm)
theorem Z7X (Y4:Gm) (hp0:Y4.Pq.length≤1073741824) (hp1:Y4.Tr.length≤1073741824) (hp2:∀ t∈Y4.Tr,t.length≤1073741824)  : Fn prog 67 [.ref (Gm.c Y4) 0] (.agg [.own 0, .own 1]) [.vec 32 3 (((Z36 Y4).Pq).map Gv.c) false, .nest 60 (((Z36 Y4).Tr).map fun l=>l.map (cI .i64)) false]:=by
 have y0:([]:List Gv).length + Y4.Pq.length≤1073741824:=(by simp_all<;>omega)
 refine fnS E0Ok Ze (c:=X0 f67) [] (.agg [.own 0, .own 1]) [.vec 32 3 (([]:List (List AV)) ++ (Y4.Pq.map Gv.c)) false, .nest 60 ((Z2P Y4).map fun l=>l.map (cI .i64)) false] func67 (sC (show ([]:List (List AV)).length + (Y4.Pq.map Gv.c).length≤1073741824 from (by simpa using y0))<|sC (show (Y4.Pq.map Gv.c).all (fun cs=>cs.length == 3 && cs.all isS)=true from (X3g (fun _=>rfl)))<|sL (mR false [0,1,1,3,1,5,25]) 4 (X1e (st2:=⟨.ref (Gm.c Y4) 0 :: .any :: .ptr 0 0 0 :: .ptr 3 0 0 :: .i .i64 0 :: .any :: .ref (Gm.c Y4) 0 :: .ref (Gm.c Y4) 0 :: .ref (Gm.c Y4) 0 :: .sl (Y4.Pq.map Gv.c) :: .own 1 :: an 25 [],[.box 27 [.nils, .nils], .vec 32 3 (([]:List (List AV)) ++ (Y4.Pq.map Gv.c)) false, .nest 60 [] false, .box 27 [.own 1, .own 2]]⟩) (X9 (Z3Y Y4) (x:=(Z2P Y4)) (Z73 Y4 hp0 hp1 hp2 (((Y4.Tr.length:Int) - 0).toNat + 1) 0 ([]:List (List Int)) (show 0≤0 from (by omega)) (show (([]:List (List Int)).length:Int)=0 from (by simp)) (Nat.lt_succ_self _)) rfl) (by simp [Z3Z,Gv.c,cL,cI]))<|sK [2,3] sN) rfl (by kernel_rfl) (by kernel_rfl) rfl ?_ ?_
 · rfl
 · simp [Z36,Gv.c]
@[simp] theorem Z8T (m:Gm):Z36 m=m:=by
  unfold Z36 Z2P
  rw [X79 (f:=fun i=>(m.Tr.getD i.toNat default)) (n:=(m.Tr.length:Int)) (lo:=Z1y m) (fun k i r=>rfl) _ _ _ (Nat.lt_succ_self _)]
  simp [X4m]
theorem Z7Y (Y4:Gm) (hp0:Y4.Pq.length≤1073741824) (hp1:Y4.Tr.length≤1073741824) (hp2:∀ t∈Y4.Tr,t.length≤1073741824):Fn prog 67 [.ref (Gm.c Y4) 0] (.agg [.own 0, .own 1]) [.vec 32 3 (Y4.Pq.map Gv.c) false, .nest 60 (Y4.Tr.map fun l=>l.map (cI .i64)) false]:=by
 simpa only [Z8T] using Z7X  Y4 hp0 hp1 hp2
def Z9 (Y4:Gm):Gb:=(⟨Y4,([]:List Gs),0,0,(List.replicate (Y4.Pq.length:Int).toNat 0),(⟨0,0,0⟩:Gv)⟩:Gb)
theorem Z74 (m:Gm):(Z9 m).Me.Pq.length≤m.Pq.length:=by
  unfold Z9
  simp
theorem Z75 (m:Gm):(Z9 m).Me.Tr.length≤m.Tr.length:=by
  unfold Z9
  simp
theorem Z76 (m:Gm):(Z9 m).We.length≤m.Pq.length:=by
  unfold Z9
  simp
theorem Z77 (m:Gm):(Z9 m).Sp.length≤0:=by
  unfold Z9
  simp
theorem Z7H (Y4:Gm) (hp0:Y4.Pq.length≤1073741824) (hp1:Y4.Tr.length≤1073741824) (hp2:∀ t∈Y4.Tr,t.length≤1073741824)  : Fn prog 58 [.ref (Gm.c Y4) 0] (.agg [.own 0, .own 1, .own 2, .f .f32 ((Z9 Y4).Film), .f .f32 ((Z9 Y4).Bend), .own 3, .f .f32 ((Z9 Y4).Fall.X), .f .f32 ((Z9 Y4).Fall.Y), .f .f32 ((Z9 Y4).Fall.Z)]) [.vec 32 3 (((Z9 Y4).Me.Pq).map Gv.c) false, .nest 60 (((Z9 Y4).Me.Tr).map fun l=>l.map (cI .i64)) false, .vec 76 4 (((Z9 Y4).Sp).map Gs.c) false, .vec 29 1 (((Z9 Y4).We).map (cF .f32)) false]:=by
 have y0:(0:Int)≤(Y4.Pq.length:Int):=(by omega)
 have y1:((Y4.Pq.length:Int):Int)≤2147483648:=(by omega)
 refine fnS E0Ok Ze (c:=X0 f58) [] (.agg [.own 0, .own 1, .own 2, .f .f32 0, .f .f32 0, .own 3, .f .f32 0, .f .f32 0, .f .f32 0]) [.vec 32 3 (Y4.Pq.map Gv.c) false, .nest 60 (Y4.Tr.map fun l=>l.map (cI .i64)) false, .vec 76 4 ([]:List (List AV)) false, .vec 29 1 (List.replicate (Int.toNat (Y4.Pq.length:Int)) [.f .f32 0]) false] func58 (sK [9,9]<|sF (Z7Y Y4 hp0 hp1 hp2)<|sZ Gv.c Y4.Pq<|sC (show (Y4.Pq.length:Int)=(Y4.Pq.length:Int) from rfl)<|sC y0<|sC y1<|sK [1,2,3,4] sN) rfl (by kernel_rfl) (by kernel_rfl) rfl ?_ ?_
 · rfl
 · simp [Z9,Gs.c,cF]
def Z1H (Yw:Int) (Yx:Int):Int:=(cond (decide (Yw < Yx))
  Yw
  Yx)
theorem Z7Z (Yw:Int) (Yx:Int)   : Fn prog 100 [.i .i64 Yw, .i .i64 Yx] (.i .i64 (Z1H Yw Yx)) []:=by
 cases h0:(decide (Yw < Yx)) with
 | true =>
  have gh0:=odt h0
  refine fnS E0Ok Ze (c:=X0 f100) [] (.i .i64 Yw) [] func100 (sB h0<|sK [] sN) rfl (by kernel_rfl) (by kernel_rfl) rfl ?_ ?_
  · simp only [Z1H,h0,cond_true]
  · rfl
 | false =>
  have gh0:=odf h0
  refine fnS E0Ok Ze (c:=X0 f100) [] (.i .i64 Yx) [] func100 (sB h0<|sK [] sN) rfl (by kernel_rfl) (by kernel_rfl) rfl ?_ ?_
  · simp only [Z1H,h0,cond_false]
  · rfl
theorem Z5E {a b n:Int} (h1:0≤a∧a < n) (h2:0≤b∧b < n):0≤Z1H a b∧Z1H a b < n:=by
  unfold Z1H;cases decide (a < b)<;>simp only [cond_true,cond_false]<;>omega
def Z1I (Yw:Int) (Yx:Int):Int:=(cond (decide (Yw > Yx))
  Yw
  Yx)
theorem Z80 (Yw:Int) (Yx:Int)   : Fn prog 101 [.i .i64 Yw, .i .i64 Yx] (.i .i64 (Z1I Yw Yx)) []:=by
 cases h0:(decide (Yw > Yx)) with
 | true =>
  have gh0:=odt h0
  refine fnS E0Ok Ze (c:=X0 f101) [] (.i .i64 Yw) [] func101 (sB h0<|sK [] sN) rfl (by kernel_rfl) (by kernel_rfl) rfl ?_ ?_
  · simp only [Z1I,h0,cond_true]
  · rfl
 | false =>
  have gh0:=odf h0
  refine fnS E0Ok Ze (c:=X0 f101) [] (.i .i64 Yx) [] func101 (sB h0<|sK [] sN) rfl (by kernel_rfl) (by kernel_rfl) rfl ?_ ?_
  · simp only [Z1I,h0,cond_false]
  · rfl
theorem Z5F {a b n:Int} (h1:0≤a∧a < n) (h2:0≤b∧b < n):0≤Z1I a b∧Z1I a b < n:=by
  unfold Z1I;cases decide (a > b)<;>simp only [cond_true,cond_false]<;>omega
theorem Z5U (a b:Int):(⟨Z1H a b,Z1I a b⟩:Gedge)=mkE a b:=by
  unfold Z1H Z1I mkE
  by_cases h:a < b
  · rw [decide_eq_true h,decide_eq_false (by omega),if_pos (by omega)];rfl
  · rw [decide_eq_false h]
    by_cases h2:a > b
    · rw [decide_eq_true h2,if_neg (by omega)];rfl
    · rw [decide_eq_false h2,show a=b from by omega,if_pos (by omega)];rfl
def ZP (Y4:Gm) (Yj:Int) (Yy:Int):Int:=(Z1H ((Y4.Tr.getD Yj.toNat default).getD Yy.toNat default) ((Y4.Tr.getD Yj.toNat default).getD (Int.tmod (Yy + 1) 3).toNat default))
def ZV (Y4:Gm) (Yj:Int) (Yy:Int):Int:=(Z1I ((Y4.Tr.getD Yj.toNat default).getD Yy.toNat default) ((Y4.Tr.getD Yj.toNat default).getD (Int.tmod (Yy + 1) 3).toNat default))
def ZC (Y4:Gm) (Yj:Int) (Yt:(List Bool)):Nat→Int→(List Bool)→(List Bool)
  | 0,_,_=>default
  | k + 1,Yy,Yu=>(cond (decide (Yy < 3))
    (ZC Y4 Yj Yt k (Yy + 1) (Yu.set ((IntKind.wrap .i64 ((IntKind.wrap .i64 ((ZP Y4 Yj Yy) * (Y4.Pq.length:Int))) + (ZV Y4 Yj Yy))).toNat) true))
    Yu)
def Z3m (Y4:Gm) (Yj:Int) (Yt:(List Bool)) (r:(List Bool)):Ex × St:=((.exit 2),⟨.ref (Gm.c Y4) 0 :: .any :: .nils :: .i .i64 (Y4.Pq.length:Int) :: .own 0 :: .i .i64 Yj :: .sl ((Y4.Tr.getD Yj.toNat default).map (cI .i64)) :: an 6 (.ref (Gm.c Y4) 0 :: .ref (Gm.c Y4) 0 :: .ref (Gm.c Y4) 0 :: .sl (Y4.Pq.map Gv.c) :: .i .i64 (Y4.Pq.length:Int) :: .i .i64 (Y4.Pq.length:Int) :: .i .i64 (Y4.Pq.length:Int) :: .i .i64 (IntKind.wrap .i64 ((Y4.Pq.length:Int) * (Y4.Pq.length:Int))) :: .own 0 :: .i .i64 Yj :: .ref (Gm.c Y4) 0 :: .ref (Gm.c Y4) 0 :: .ref (Gm.c Y4) 1 :: .sl (Y4.Tr.map (cL (cI .i64))) :: .i .i64 (Y4.Tr.length:Int) :: .b (decide (Yj < (Y4.Tr.length:Int))) :: .any :: .any :: .ref (Gm.c Y4) 0 :: .ref (Gm.c Y4) 0 :: .ref (Gm.c Y4) 1 :: .sl (Y4.Tr.map (cL (cI .i64))) :: .i .i64 Yj :: .ref [.sl ((Y4.Tr.getD Yj.toNat default).map (cI .i64))] 0 :: .sl ((Y4.Tr.getD Yj.toNat default).map (cI .i64)) :: an 53 []),[.vec 4 1 (r.map cB) false]⟩)
def Z59 (Y4:Gm) (Yj:Int) (Yt:(List Bool)) (Yy:Int) (Yu:(List Bool)):St:=⟨.ref (Gm.c Y4) 0 :: .any :: .nils :: .i .i64 (Y4.Pq.length:Int) :: .own 0 :: .i .i64 Yj :: .sl ((Y4.Tr.getD Yj.toNat default).map (cI .i64)) :: .i .i64 Yy :: an 5 (.ref (Gm.c Y4) 0 :: .ref (Gm.c Y4) 0 :: .ref (Gm.c Y4) 0 :: .sl (Y4.Pq.map Gv.c) :: .i .i64 (Y4.Pq.length:Int) :: .i .i64 (Y4.Pq.length:Int) :: .i .i64 (Y4.Pq.length:Int) :: .i .i64 (IntKind.wrap .i64 ((Y4.Pq.length:Int) * (Y4.Pq.length:Int))) :: .own 0 :: .i .i64 Yj :: .ref (Gm.c Y4) 0 :: .ref (Gm.c Y4) 0 :: .ref (Gm.c Y4) 1 :: .sl (Y4.Tr.map (cL (cI .i64))) :: .i .i64 (Y4.Tr.length:Int) :: .b (decide (Yj < (Y4.Tr.length:Int))) :: .any :: .any :: .ref (Gm.c Y4) 0 :: .ref (Gm.c Y4) 0 :: .ref (Gm.c Y4) 1 :: .sl (Y4.Tr.map (cL (cI .i64))) :: .i .i64 Yj :: .ref [.sl ((Y4.Tr.getD Yj.toNat default).map (cI .i64))] 0 :: .sl ((Y4.Tr.getD Yj.toNat default).map (cI .i64)) :: an 53 []),[.vec 4 1 (Yu.map cB) false]⟩
def Z4k:List Bool:=(mR false [0,1,1,6,5,16,2,7,53])
end Go.Ab
