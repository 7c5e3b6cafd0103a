/- The functions of this seat as plain Lean, and that the program's are these. Printed by a program of the prover's own. -/
import Derived.Test.YtoibkmljibnjnaaB0
set_option linter.unusedVariables false
set_option linter.unusedSimpArgs false
set_option maxRecDepth 100000
namespace Go.Ab
open Go.RowKit Go.Proofs.Try
def Z1c (Y0:(List Int)) (Y1e:(List Int)):Bool:=(cond (decide ((Y0.length:Int) > 1048576))
  true
  (decide ((Y1e.length:Int) > 1048576)))
theorem Z78 {a b:List Int} (h:Z1c a b=false):a.length≤1048576∧b.length≤1048576:=by
  unfold Z1c at h
  cases h1:decide ((a.length:Int) > 1048576) with
  | true=>rw [h1] at h;cases h
  | false =>
    rw [h1,cond_false] at h
    have h1:=odf h1
    have h2:=odf h
    omega
theorem Z7s (Y0:(List Int)) (Y1e:(List Int)) (hp0:Y0.length≤9223372036854775807) (hp1:Y1e.length≤9223372036854775807)  : Fn prog 8 [.sl (Y0.map (cI .u8)), .sl (Y1e.map (cI .u8))] (.b (Z1c Y0 Y1e)) []:=by
 have p {a C} (s:Scr a C):=sZ (cI .u8) Y0<|s
 cases h0:(decide ((Y0.length:Int) > 1048576)) with
 | true =>
  have gh0:=odt h0
  refine fnS E0Ok Zg (c:=X2 f8) [] (.b true) [] func8 (p (sB h0<|sB h0<|sB h0<|sB h0<|sK [] sN)) rfl (by kernel_rfl) (by kernel_rfl) rfl ?_ ?_
  · simp only [Z1c,h0,cond_true]
  · rfl
 | false =>
  have gh0:=odf h0
  refine fnS E0Ok Zg (c:=X2 f8) [] (.b (decide ((Y1e.length:Int) > 1048576))) [] func8 (p (sB h0<|sB h0<|sZ (cI .u8) Y1e<|sB h0<|sB h0<|sK [] sN)) rfl (by kernel_rfl) (by kernel_rfl) rfl ?_ ?_
  · simp only [Z1c,h0,cond_false]
  · rfl
def Z1 (Y0:(List Int)):Gl00Src:=(⟨Y0,0,0⟩:Gl00Src)
@[simp] theorem Z6q (c:List Int):(Z1 c).code=c:=rfl
@[simp] theorem Z5G (c:List Int):(Z1 c).at_=0:=rfl
@[simp] theorem Zah (c:List Int):(Z1 c).seed=0:=rfl
theorem Z6F (Yl:Nat) (Ym:Nat) (Yn:Nat) (Yo:Nat) (Yp:Nat) (Y0:(List Int)) (hp0:Y0.length≤1073741824)  : X9 prog 54 [.box 34 [.nils, .nils, .nils, .f .f32 Yl, .f .f32 Ym, .nils, .f .f32 Yn, .f .f32 Yo, .f .f32 Yp]] [.sl (Y0.map (cI .u8))] (.ptr 1 0 0) [.box 34 [.nils, .nils, .nils, .f .f32 Yl, .f .f32 Ym, .nils, .f .f32 Yn, .f .f32 Yo, .f .f32 Yp], .box 134 [.sl (((Z1 Y0).code).map (cI .u8)), .i .i64 ((Z1 Y0).at_), .i .u64 ((Z1 Y0).seed)]]:=by
 refine X8 (EpOk 1) Zg (c:=X2 f54) [.box 34 [.nils, .nils, .nils, .f .f32 Yl, .f .f32 Ym, .nils, .f .f32 Yn, .f .f32 Yo, .f .f32 Yp]] [] (.ptr 1 0 0) [.box 34 [.nils, .nils, .nils, .f .f32 Yl, .f .f32 Ym, .nils, .f .f32 Yn, .f .f32 Yo, .f .f32 Yp], .box 134 [.sl (Y0.map (cI .u8)), .i .i64 0, .i .u64 0]] func54 (sK [1] sN) rfl (by kernel_rfl) (by kernel_rfl) ?_ ?_
 · rfl
 · simp [Z1]
def Zf (Y6:Gl00Src):Int:=(IntKind.wrap .u64 ((IntKind.wrap .u64 ((IntKind.wrap .u64 (Y6.seed * 6364136223846793005)) + (IntKind.wrap .u64 (IntKind.wrap .i64 (Y6.code.getD Y6.at_.toNat default))))) + 1442695040888963407))
def Z3 (Y6:Gl00Src):Int × Int × Int:=(cond (decide (Y6.at_ < (Y6.code.length:Int)))
  (cond (decide ((IntKind.wrap .i64 (Y6.at_ + 1))≤(Y6.code.length:Int)))
    ((IntKind.wrap .i64 (Y6.code.getD Y6.at_.toNat default)),(IntKind.wrap .i64 (Y6.at_ + 1)),(Zf Y6))
    ((IntKind.wrap .i64 (bitsOf .and .u64 (Int.fdiv (Zf Y6) (2 ^ (min (Int.toNat 40) (IntKind.bits .u64)))) 255)),(IntKind.wrap .i64 (Y6.at_ + 1)),(Zf Y6)))
  (cond (decide ((IntKind.wrap .i64 (Y6.at_ + 1))≤(Y6.code.length:Int)))
    (0,(IntKind.wrap .i64 (Y6.at_ + 1)),(IntKind.wrap .u64 ((IntKind.wrap .u64 ((IntKind.wrap .u64 (Y6.seed * 6364136223846793005)) + 0)) + 1442695040888963407)))
    ((IntKind.wrap .i64 (bitsOf .and .u64 (Int.fdiv (IntKind.wrap .u64 ((IntKind.wrap .u64 ((IntKind.wrap .u64 (Y6.seed * 6364136223846793005)) + 0)) + 1442695040888963407)) (2 ^ (min (Int.toNat 40) (IntKind.bits .u64)))) 255)),(IntKind.wrap .i64 (Y6.at_ + 1)),(IntKind.wrap .u64 ((IntKind.wrap .u64 ((IntKind.wrap .u64 (Y6.seed * 6364136223846793005)) + 0)) + 1442695040888963407)))))
theorem Z21 (s:Gl00Src):0≤s.at_∧s.at_≤1152921504606846976→(Z3 s).2.1=s.at_ + 1:=by
  intro h
  have e:IntKind.wrap .i64 (s.at_ + 1)=s.at_ + 1:=Xx (by omega) (by omega)
  unfold Z3
  rw [e]
  cases decide (s.at_ < (s.code.length:Int))<;>cases decide (s.at_ + 1≤(s.code.length:Int))<;>rfl
theorem Z99 (s:Gl00Src) (hc:OkB s.code) (h0:0≤s.at_):0≤(Z3 s).1∧(Z3 s).1≤255:=by
  have hb:∀ x:Int,0≤IntKind.wrap .i64 (bitsOf .and .u64 x 255)∧IntKind.wrap .i64 (bitsOf .and .u64 x 255)≤255:=fun x=>by
    have q:=XaQ x
    rw [Xx (by omega) (by omega)];exact q
  unfold Z3
  by_cases h1:s.at_ < (s.code.length:Int)
  · have hm:s.code.getD s.at_.toNat default∈s.code:=by
      rw [List.getD_eq_getElem?_getD,List.getElem?_eq_getElem (show s.at_.toNat < s.code.length by omega)];exact List.getElem_mem _
    have q:=hc _ hm
    have e:IntKind.wrap .i64 (s.code.getD s.at_.toNat default)=s.code.getD s.at_.toNat default:=Xx (by omega) (by omega)
    rw [decide_eq_true h1,cond_true,e]
    cases decide (IntKind.wrap .i64 (s.at_ + 1)≤(s.code.length:Int)) with
    | true=>exact ⟨q.1,by have:=q.2;show s.code.getD s.at_.toNat default≤255;omega⟩
    | false=>exact hb _
  · rw [decide_eq_false h1,cond_false]
    cases decide (IntKind.wrap .i64 (s.at_ + 1)≤(s.code.length:Int)) with
    | true=>exact ⟨Int.le_refl 0,by show (0:Int)≤255;omega⟩
    | false=>exact hb _
theorem Z3c (Yl:Nat) (Ym:Nat) (Yn:Nat) (Yo:Nat) (Yp:Nat) (Y6:Gl00Src) (hp0:Y6.code.length≤1073741824) (hp1:0≤Y6.at_) (hp2:Y6.at_≤1152921504606846976)  : X9 prog 99 [.box 34 [.nils, .nils, .nils, .f .f32 Yl, .f .f32 Ym, .nils, .f .f32 Yn, .f .f32 Yo, .f .f32 Yp], .box 134 [.sl (Y6.code.map (cI .u8)), .i .i64 Y6.at_, .i .u64 Y6.seed]] [.ptr 1 0 0] (.i .i64 ((Z3 Y6).1)) [.box 34 [.nils, .nils, .nils, .f .f32 Yl, .f .f32 Ym, .nils, .f .f32 Yn, .f .f32 Yo, .f .f32 Yp], .box 134 [.sl (Y6.code.map (cI .u8)), .i .i64 ((Z3 Y6).2.1), .i .u64 ((Z3 Y6).2.2)]]:=by
 have p {a C} (s:Scr a C):=sK [9,9]<|sZ (cI .u8) Y6.code<|s
 cases h0:(decide (Y6.at_ < (Y6.code.length:Int))) with
 | true =>
  have gh0:=odt h0
  have y0:(0:Int)≤Y6.at_:=by clear p;exact (by assumption)
  have y1:Y6.at_ < (Y6.code.length:Int):=by clear p;exact (by assumption)
  have q {a C} (s:Scr a C):=p (sB h0<|sK [8,8]<|sG (cI .u8) Y6.code Y6.at_ y0 y1<|sW .i64 (Y6.code.getD Y6.at_.toNat default)<|sW .i64 (Y6.at_ + 1)<|sW .u64 (Y6.seed * 6364136223846793005)<|sW .u64 (IntKind.wrap .i64 (Y6.code.getD Y6.at_.toNat default))<|sW .u64 ((IntKind.wrap .u64 (Y6.seed * 6364136223846793005)) + (IntKind.wrap .u64 (IntKind.wrap .i64 (Y6.code.getD Y6.at_.toNat default))))<|sM (show IntKind.wrap .u64 ((IntKind.wrap .u64 ((IntKind.wrap .u64 (Y6.seed * 6364136223846793005)) + (IntKind.wrap .u64 (IntKind.wrap .i64 (Y6.code.getD Y6.at_.toNat default))))) + 1442695040888963407)=(Zf Y6) from rfl)<|sK [9,9]<|sZ (cI .u8) Y6.code<|s)
  clear p
  cases h1:(decide ((IntKind.wrap .i64 (Y6.at_ + 1))≤(Y6.code.length:Int))) with
  | true =>
   have gh1:=odt h1
   refine X8 (EpOk 2) Zg (c:=X2 f99) [.box 34 [.nils, .nils, .nils, .f .f32 Yl, .f .f32 Ym, .nils, .f .f32 Yn, .f .f32 Yo, .f .f32 Yp], .box 134 [.sl (Y6.code.map (cI .u8)), .i .i64 Y6.at_, .i .u64 Y6.seed]] [] (.i .i64 (IntKind.wrap .i64 (Y6.code.getD Y6.at_.toNat default))) [.box 34 [.nils, .nils, .nils, .f .f32 Yl, .f .f32 Ym, .nils, .f .f32 Yn, .f .f32 Yo, .f .f32 Yp], .box 134 [.sl (Y6.code.map (cI .u8)), .i .i64 (IntKind.wrap .i64 (Y6.at_ + 1)), .i .u64 (Zf Y6)]] func99 (q (sB h1<|sK [] sN)) rfl (by kernel_rfl) (by kernel_rfl) ?_ ?_
   · simp only [Z3,h0,h1,cond_true]
   · simp [Z3,h0,h1]
  | false =>
   have gh1:=odf h1
   refine X8 (EpOk 2) Zg (c:=X2 f99) [.box 34 [.nils, .nils, .nils, .f .f32 Yl, .f .f32 Ym, .nils, .f .f32 Yn, .f .f32 Yo, .f .f32 Yp], .box 134 [.sl (Y6.code.map (cI .u8)), .i .i64 Y6.at_, .i .u64 Y6.seed]] [] (.i .i64 (IntKind.wrap .i64 (bitsOf .and .u64 (Int.fdiv (Zf Y6) (2 ^ (min (Int.toNat 40) (IntKind.bits .u64)))) 255))) [.box 34 [.nils, .nils, .nils, .f .f32 Yl, .f .f32 Ym, .nils, .f .f32 Yn, .f .f32 Yo, .f .f32 Yp], .box 134 [.sl (Y6.code.map (cI .u8)), .i .i64 (IntKind.wrap .i64 (Y6.at_ + 1)), .i .u64 (Zf Y6)]] func99 (q (sB h1<|sC (show (0:Int)≤40 from (by decide))<|sQ (Int.fdiv (Zf Y6) (2 ^ (min (Int.toNat 40) (IntKind.bits .u64))))<|sQ (bitsOf .and .u64 (Int.fdiv (Zf Y6) (2 ^ (min (Int.toNat 40) (IntKind.bits .u64)))) 255)<|sW .i64 (bitsOf .and .u64 (Int.fdiv (Zf Y6) (2 ^ (min (Int.toNat 40) (IntKind.bits .u64)))) 255)<|sK [] sN)) rfl (by kernel_rfl) (by kernel_rfl) ?_ ?_
   · simp only [Z3,h0,h1,cond_true,cond_false]
   · simp [Z3,h0,h1]
 | false =>
  have gh0:=odf h0
  have q {a C} (s:Scr a C):=p (sB h0<|sW .i64 (Y6.at_ + 1)<|sW .u64 (Y6.seed * 6364136223846793005)<|sM (show IntKind.wrap .u64 0=0 from rfl)<|sW .u64 ((IntKind.wrap .u64 (Y6.seed * 6364136223846793005)) + 0)<|sW .u64 ((IntKind.wrap .u64 ((IntKind.wrap .u64 (Y6.seed * 6364136223846793005)) + 0)) + 1442695040888963407)<|sK [9,9]<|sZ (cI .u8) Y6.code<|s)
  clear p
  cases h1:(decide ((IntKind.wrap .i64 (Y6.at_ + 1))≤(Y6.code.length:Int))) with
  | true =>
   have gh1:=odt h1
   refine X8 (EpOk 2) Zg (c:=X2 f99) [.box 34 [.nils, .nils, .nils, .f .f32 Yl, .f .f32 Ym, .nils, .f .f32 Yn, .f .f32 Yo, .f .f32 Yp], .box 134 [.sl (Y6.code.map (cI .u8)), .i .i64 Y6.at_, .i .u64 Y6.seed]] [] (.i .i64 0) [.box 34 [.nils, .nils, .nils, .f .f32 Yl, .f .f32 Ym, .nils, .f .f32 Yn, .f .f32 Yo, .f .f32 Yp], .box 134 [.sl (Y6.code.map (cI .u8)), .i .i64 (IntKind.wrap .i64 (Y6.at_ + 1)), .i .u64 (IntKind.wrap .u64 ((IntKind.wrap .u64 ((IntKind.wrap .u64 (Y6.seed * 6364136223846793005)) + 0)) + 1442695040888963407))]] func99 (q (sB h1<|sK [] sN)) rfl (by kernel_rfl) (by kernel_rfl) ?_ ?_
   · simp only [Z3,h0,h1,cond_true,cond_false]
   · simp [Z3,h0,h1]
  | false =>
   have gh1:=odf h1
   refine X8 (EpOk 2) Zg (c:=X2 f99) [.box 34 [.nils, .nils, .nils, .f .f32 Yl, .f .f32 Ym, .nils, .f .f32 Yn, .f .f32 Yo, .f .f32 Yp], .box 134 [.sl (Y6.code.map (cI .u8)), .i .i64 Y6.at_, .i .u64 Y6.seed]] [] (.i .i64 (IntKind.wrap .i64 (bitsOf .and .u64 (Int.fdiv (IntKind.wrap .u64 ((IntKind.wrap .u64 ((IntKind.wrap .u64 (Y6.seed * 6364136223846793005)) + 0)) + 1442695040888963407)) (2 ^ (min (Int.toNat 40) (IntKind.bits .u64)))) 255))) [.box 34 [.nils, .nils, .nils, .f .f32 Yl, .f .f32 Ym, .nils, .f .f32 Yn, .f .f32 Yo, .f .f32 Yp], .box 134 [.sl (Y6.code.map (cI .u8)), .i .i64 (IntKind.wrap .i64 (Y6.at_ + 1)), .i .u64 (IntKind.wrap .u64 ((IntKind.wrap .u64 ((IntKind.wrap .u64 (Y6.seed * 6364136223846793005)) + 0)) + 1442695040888963407))]] func99 (q (sB h1<|sC (show (0:Int)≤40 from (by decide))<|sQ (Int.fdiv (IntKind.wrap .u64 ((IntKind.wrap .u64 ((IntKind.wrap .u64 (Y6.seed * 6364136223846793005)) + 0)) + 1442695040888963407)) (2 ^ (min (Int.toNat 40) (IntKind.bits .u64))))<|sQ (bitsOf .and .u64 (Int.fdiv (IntKind.wrap .u64 ((IntKind.wrap .u64 ((IntKind.wrap .u64 (Y6.seed * 6364136223846793005)) + 0)) + 1442695040888963407)) (2 ^ (min (Int.toNat 40) (IntKind.bits .u64)))) 255)<|sW .i64 (bitsOf .and .u64 (Int.fdiv (IntKind.wrap .u64 ((IntKind.wrap .u64 ((IntKind.wrap .u64 (Y6.seed * 6364136223846793005)) + 0)) + 1442695040888963407)) (2 ^ (min (Int.toNat 40) (IntKind.bits .u64)))) 255)<|sK [] sN)) rfl (by kernel_rfl) (by kernel_rfl) ?_ ?_
   · simp only [Z3,h0,h1,cond_false]
   · simp [Z3,h0,h1]
def Zp (Y6:Gl00Src):Int:=(IntKind.wrap .i64 ((IntKind.wrap .i64 ((Z3 Y6).1 * 256)) + (Z3 (⟨Y6.code,(Z3 Y6).2.1,(Z3 Y6).2.2⟩:Gl00Src)).1))
def Z0 (Y6:Gl00Src) (YK:Int):Int × Int × Int:=(cond (decide (YK≤1))
  (0,Y6.at_,Y6.seed)
  (cond (decide (YK > 200))
    ((Int.tmod (Zp Y6) YK),(Z3 (⟨Y6.code,(Z3 Y6).2.1,(Z3 Y6).2.2⟩:Gl00Src)).2.1,(Z3 (⟨Y6.code,(Z3 Y6).2.1,(Z3 Y6).2.2⟩:Gl00Src)).2.2)
    ((Int.tmod ((Z3 Y6).1) YK),(Z3 Y6).2.1,(Z3 Y6).2.2)))
theorem Z14 (s:Gl00Src) (n:Int):0≤s.at_∧s.at_≤1152921504606846970→s.at_≤(Z0 s n).2.1∧(Z0 s n).2.1≤s.at_ + 2:=by
  intro h
  have q1:=Z21 s ⟨h.1,by omega⟩
  have q2:=Z21 (⟨s.code,(Z3 s).2.1,(Z3 s).2.2⟩:Gl00Src) ⟨by show 0≤(Z3 s).2.1;omega,by show (Z3 s).2.1≤_;omega⟩
  have q2:_=(Z3 s).2.1 + 1:=q2
  unfold Z0
  cases decide (n≤1) with
  | true=>rw [cond_true];show s.at_≤s.at_∧s.at_≤s.at_ + 2;omega
  | false =>
    rw [cond_false]
    cases decide (n > 200) with
    | true=>rw [cond_true];show s.at_≤(Z3 (⟨s.code,(Z3 s).2.1,(Z3 s).2.2⟩:Gl00Src)).2.1∧(Z3 (⟨s.code,(Z3 s).2.1,(Z3 s).2.2⟩:Gl00Src)).2.1≤_;omega
    | false=>rw [cond_false];show s.at_≤(Z3 s).2.1∧(Z3 s).2.1≤_;rw [q1];omega
theorem Z2J (s:Gl00Src) (n:Int) (hc:OkB s.code) (h0:0≤s.at_) (hn:1≤n) (h2:n≤200):0≤(Z0 s n).1∧(Z0 s n).1 < n:=by
  have q:=Z99 s hc h0
  unfold Z0
  by_cases h1:n≤1
  · rw [decide_eq_true h1,cond_true];exact ⟨Int.le_refl 0,by show 0 < n;omega⟩
  · rw [decide_eq_false h1,cond_false,decide_eq_false (by omega),cond_false]
    exact ⟨Int.tmod_nonneg _ q.1,Int.tmod_lt_of_pos _ (by omega)⟩
theorem Z91 (s:Gl00Src) (n:Int) (hc:OkB s.code) (h0:0≤s.at_) (hn:1≤n) (h2:n≤200):1≤IntKind.wrap .i64 (1 + (Z0 s n).1)∧IntKind.wrap .i64 (1 + (Z0 s n).1)≤n:=by
  have q:=Z2J s n hc h0 hn h2
  rw [Xx (by omega) (by omega)];omega
theorem Z3d (Yl:Nat) (Ym:Nat) (Yn:Nat) (Yo:Nat) (Yp:Nat) (Y6:Gl00Src) (YK:Int) (hp0:Y6.code.length≤1073741824) (hp1:0≤Y6.at_) (hp2:Y6.at_≤1152921504606846970)  : X9 prog 55 [.box 34 [.nils, .nils, .nils, .f .f32 Yl, .f .f32 Ym, .nils, .f .f32 Yn, .f .f32 Yo, .f .f32 Yp], .box 134 [.sl (Y6.code.map (cI .u8)), .i .i64 Y6.at_, .i .u64 Y6.seed]] [.ptr 1 0 0, .i .i64 YK] (.i .i64 ((Z0 Y6 YK).1)) [.box 34 [.nils, .nils, .nils, .f .f32 Yl, .f .f32 Ym, .nils, .f .f32 Yn, .f .f32 Yo, .f .f32 Yp], .box 134 [.sl (Y6.code.map (cI .u8)), .i .i64 ((Z0 Y6 YK).2.1), .i .u64 ((Z0 Y6 YK).2.2)]]:=by
 cases h0:(decide (YK≤1)) with
 | true =>
  have gh0:=odt h0
  refine X8 (EpOk 2) Zg (c:=X2 f55) [.box 34 [.nils, .nils, .nils, .f .f32 Yl, .f .f32 Ym, .nils, .f .f32 Yn, .f .f32 Yo, .f .f32 Yp], .box 134 [.sl (Y6.code.map (cI .u8)), .i .i64 Y6.at_, .i .u64 Y6.seed]] [] (.i .i64 0) [.box 34 [.nils, .nils, .nils, .f .f32 Yl, .f .f32 Ym, .nils, .f .f32 Yn, .f .f32 Yo, .f .f32 Yp], .box 134 [.sl (Y6.code.map (cI .u8)), .i .i64 Y6.at_, .i .u64 Y6.seed]] func55 (sB h0<|sK [] sN) rfl (by kernel_rfl) (by kernel_rfl) ?_ ?_
  · simp only [Z0,h0,cond_true]
  · simp [Z0,h0]
 | false =>
  have gh0:=odf h0
  have y0:Y6.at_≤1152921504606846976:=(by omega)
  have l1:=(Z21 Y6)
  have p {a C} (s:Scr a C):=sB h0<|sS (Z3c Yl Ym Yn Yo Yp Y6 hp0 hp1 y0)<|s
  cases h1:(decide (YK > 200)) with
  | true =>
   have gh1:=odt h1
   have y1:(⟨Y6.code,(Z3 Y6).2.1,(Z3 Y6).2.2⟩:Gl00Src).code.length≤1073741824:=by clear p;exact (by assumption)
   have y2:0≤(⟨Y6.code,(Z3 Y6).2.1,(Z3 Y6).2.2⟩:Gl00Src).at_:=by clear p;exact (by simp_all<;>omega)
   have y3:(⟨Y6.code,(Z3 Y6).2.1,(Z3 Y6).2.2⟩:Gl00Src).at_≤1152921504606846976:=by clear p;exact (by simp_all<;>omega)
   have l2:=(Z21 (⟨Y6.code,(Z3 Y6).2.1,(Z3 Y6).2.2⟩:Gl00Src))
   have y4:YK≠0:=by clear p;exact (by omega)
   refine X8 (EpOk 2) Zg (c:=X2 f55) [.box 34 [.nils, .nils, .nils, .f .f32 Yl, .f .f32 Ym, .nils, .f .f32 Yn, .f .f32 Yo, .f .f32 Yp], .box 134 [.sl (Y6.code.map (cI .u8)), .i .i64 Y6.at_, .i .u64 Y6.seed]] [] (.i .i64 (Int.tmod (Zp Y6) YK)) [.box 34 [.nils, .nils, .nils, .f .f32 Yl, .f .f32 Ym, .nils, .f .f32 Yn, .f .f32 Yo, .f .f32 Yp], .box 134 [.sl (Y6.code.map (cI .u8)), .i .i64 ((Z3 (⟨Y6.code,(Z3 Y6).2.1,(Z3 Y6).2.2⟩:Gl00Src)).2.1), .i .u64 ((Z3 (⟨Y6.code,(Z3 Y6).2.1,(Z3 Y6).2.2⟩:Gl00Src)).2.2)]] func55 (p (sB h1<|sW .i64 ((Z3 Y6).1 * 256)<|sS (Z3c Yl Ym Yn Yo Yp (⟨Y6.code,(Z3 Y6).2.1,(Z3 Y6).2.2⟩:Gl00Src) y1 y2 y3)<|sM (show IntKind.wrap .i64 ((IntKind.wrap .i64 ((Z3 Y6).1 * 256)) + (Z3 (⟨Y6.code,(Z3 Y6).2.1,(Z3 Y6).2.2⟩:Gl00Src)).1)=(Zp Y6) from rfl)<|sC y4<|sQ (Int.tmod (Zp Y6) YK)<|sK [] sN)) rfl (by kernel_rfl) (by kernel_rfl) ?_ ?_
   · simp only [Z0,h0,h1,cond_true,cond_false]
   · simp [Z0,h0,h1]
  | false =>
   have gh1:=odf h1
   have y1:YK≠0:=by clear p;exact (by omega)
   refine X8 (EpOk 2) Zg (c:=X2 f55) [.box 34 [.nils, .nils, .nils, .f .f32 Yl, .f .f32 Ym, .nils, .f .f32 Yn, .f .f32 Yo, .f .f32 Yp], .box 134 [.sl (Y6.code.map (cI .u8)), .i .i64 Y6.at_, .i .u64 Y6.seed]] [] (.i .i64 (Int.tmod ((Z3 Y6).1) YK)) [.box 34 [.nils, .nils, .nils, .f .f32 Yl, .f .f32 Ym, .nils, .f .f32 Yn, .f .f32 Yo, .f .f32 Yp], .box 134 [.sl (Y6.code.map (cI .u8)), .i .i64 ((Z3 Y6).2.1), .i .u64 ((Z3 Y6).2.2)]] func55 (p (sB h1<|sC y1<|sQ (Int.tmod ((Z3 Y6).1) YK)<|sK [] sN)) rfl (by kernel_rfl) (by kernel_rfl) ?_ ?_
   · simp only [Z0,h0,h1,cond_false]
   · simp [Z0,h0,h1]
theorem Z47 {a b:Int} (h0:0≤a) (h1:a≤8) (h2:0≤b) (h3:b≤8):0≤a * b∧a * b≤64:=⟨Int.mul_nonneg h0 h2,by have:=Int.mul_le_mul h1 h3 h2 (by omega:(0:Int)≤8);omega⟩
def Z1i (Y9:Int) (Yb:Int) (Yc:Nat) (Ye:Int) (Y3:(List Gv)):Nat→Int→(List Gv)→(List Gv)
  | 0,_,_=>default
  | k + 1,Y2,Y8=>(cond (decide (Y2≤Y9))
    (Z1i Y9 Yb Yc Ye Y3 k (Y2 + 1) (Y8 ++ [(⟨(fop .mul .f32 (X3 .f32 Y2) Yc),(fop .mul .f32 (X3 .f32 Ye) Yc),0⟩:Gv)]))
    Y8)
def Z3E (Y9:Int) (Yb:Int) (Yc:Nat) (Ye:Int) (Y3:(List Gv)) (r:(List Gv)):Ex × St:=((.exit 2),⟨.i .i64 Y9 :: .i .i64 Yb :: .f .f32 Yc :: .any :: .any :: .any :: .ptr 0 0 0 :: .ptr 1 0 0 :: .i .i64 Ye :: an 6 (.own 2 :: .any :: .i .i64 Ye :: .i .i64 Yb :: .b (decide (Ye≤Yb)) :: an 58 []),[.box 27 [.nils, .nils], .box 27 [.own 3, .own 2], .nest 60 [] false, .vec 32 3 (r.map Gv.c) false]⟩)
def Z57 (Y9:Int) (Yb:Int) (Yc:Nat) (Ye:Int) (Y3:(List Gv)) (Y2:Int) (Y8:(List Gv)):St:=⟨.i .i64 Y9 :: .i .i64 Yb :: .f .f32 Yc :: .any :: .any :: .any :: .ptr 0 0 0 :: .ptr 3 0 0 :: .i .i64 Ye :: .i .i64 Y2 :: an 5 (.own 2 :: .any :: .i .i64 Ye :: .i .i64 Yb :: .b (decide (Ye≤Yb)) :: an 58 []),[.box 27 [.nils, .nils], .vec 32 3 (Y8.map Gv.c) false, .nest 60 [] false, .box 27 [.own 1, .own 2]]⟩
theorem Z6G (Y9:Int) (Yb:Int) (Yc:Nat) (Ye:Int) (Y3:(List Gv)) (hp0:1≤Y9) (hp1:Y9≤3) (hp2:1≤Yb) (hp3:Yb≤2) (Z2q:0≤Ye) (Z2r:(Y3.length:Int)≤7 * Ye) (Z2s:Ye≤Yb + 1):∀ (k:Nat) (Y2:Int) (Y8:(List Gv)) (Z4u:0≤Y2) (Z4v:(Y8.length:Int)=(Y3.length:Int) + Y2) (hk:(Y9 + 1 - Y2).toNat < k),Lp prog 0 (sub (X2 f56) [1,1,0,1,0,0,1,0,0,1,0,0]) (Z57 Y9 Yb Yc Ye Y3 Y2 Y8) (Z3E Y9 Yb Yc Ye Y3 (Z1i Y9 Yb Yc Ye Y3 k Y2 Y8)).1 (Z3E Y9 Yb Yc Ye Y3 (Z1i Y9 Yb Yc Ye Y3 k Y2 Y8)).2:=by
 intro k
 induction k with
 | zero=>intro Y2 Y8 Z4u Z4v hk;exact absurd hk (Nat.not_lt_zero _)
 | succ k ih =>
  intro Y2 Y8 Z4u Z4v hk
  cases YG:(decide (Y2≤Y9)) with
  | true =>
   have Y1d:=odt YG
   have Y1h:Y8.length + ([(⟨(fop .mul .f32 (X3 .f32 Y2) Yc),(fop .mul .f32 (X3 .f32 Ye) Yc),0⟩:Gv)]).length≤1073741824:=(by ((have q:=Z47 (a:=Y9 + 1) (b:=Ye) (by omega) (by omega) (by omega) (by omega);(simp only [List.length_append,List.length_cons,List.length_nil];omega))))
   have Y1i:(-9223372036854775808:Int)≤(Y2 + 1):=(by omega)
   have Y1f:(Y2 + 1)≤(9223372036854775807:Int):=(by omega)
   have e:Z1i Y9 Yb Yc Ye Y3 (k + 1) Y2 Y8=(Z1i Y9 Yb Yc Ye Y3 k (Y2 + 1) (Y8 ++ [(⟨(fop .mul .f32 (X3 .f32 Y2) Yc),(fop .mul .f32 (X3 .f32 Ye) Yc),0⟩:Gv)])):=by simp only [Z1i,YG,cond_true]
   rw [e]
   exact XD E0Ok Zg [] (mR false [0,3,3,4,5,1,1,3,58]) [0,1,2,3] (⟨.i .i64 Y9 :: .i .i64 Yb :: .f .f32 Yc :: .any :: .any :: .any :: .ptr 0 0 0 :: .ptr 3 0 0 :: .i .i64 Ye :: .i .i64 (Y2 + 1) :: an 5 (.own 2 :: .any :: .i .i64 Ye :: .i .i64 Yb :: .b (decide (Ye≤Yb)) :: an 58 []),[.box 27 [.nils, .nils], .vec 32 3 ((Y8.map Gv.c) ++ ([[.f .f32 (fop .mul .f32 (X3 .f32 Y2) Yc), .f .f32 (fop .mul .f32 (X3 .f32 Ye) Yc), .f .f32 0]]:List (List AV))) false, .nest 60 [] false, .box 27 [.own 1, .own 2]]⟩) (sB YG<|sC (show (Y8.map Gv.c).length + ([[.f .f32 (fop .mul .f32 (X3 .f32 Y2) Yc), .f .f32 (fop .mul .f32 (X3 .f32 Ye) Yc), .f .f32 0]]:List (List AV)).length≤1073741824 from (by simpa using Y1h))<|sI (Y2 + 1) Y1i Y1f<|sN) (by kernel_rfl) (by simp [Z57,Gv.c,cL,cI]) (ih (Y2 + 1) (Y8 ++ [(⟨(fop .mul .f32 (X3 .f32 Y2) Yc),(fop .mul .f32 (X3 .f32 Ye) Yc),0⟩:Gv)]) (show 0≤(Y2 + 1) from (by omega)) (show ((Y8 ++ [(⟨(fop .mul .f32 (X3 .f32 Y2) Yc),(fop .mul .f32 (X3 .f32 Ye) Yc),0⟩:Gv)]).length:Int)=(Y3.length:Int) + (Y2 + 1) from (by simp_all<;>omega)) (by omega))
  | false =>
   have Y1d:=odf YG
   have e:Z1i Y9 Yb Yc Ye Y3 (k + 1) Y2 Y8=Y8:=by simp only [Z1i,YG,cond_false]
   rw [e]
   exact outR (e:=(.exit 2)) E0Ok Zg [] (mR false [0,3,3,3,6,1,1,3,58]) [0,3,2,1] (sB YG<|sN) (by kernel_rfl) (by intro h;cases h)
def Z1L (Y9:Int) (Yb:Int) (Yc:Nat) (Ye:Int) (Y3:(List Gv)):(List Gv):=(Z1i Y9 Yb Yc Ye Y3 ((Y9 + 1 - 0).toNat + 1) 0 Y3)
theorem Z9a (w h:Int) (s:Nat) (x:Int) (r0:List Gv):∀ (k:Nat) (i:Int) (r:List Gv),0≤i→(Z1i w h s x r0 k i r).length≤r.length + (w + 1 - i).toNat:=by
  intro k
  induction k with
  | zero=>intro i r _;exact Nat.zero_le _
  | succ k ih =>
    intro i r h0
    rw [Z1i]
    by_cases hi:i≤w
    · rw [decide_eq_true hi,cond_true]
      refine Nat.le_trans (ih (i + 1) _ (by omega)) ?_
      simp only [List.length_append,List.length_cons,List.length_nil];omega
    · rw [decide_eq_false hi,cond_false];omega
theorem Z9A (w h:Int) (s:Nat) (x:Int) (r:List Gv):(Z1L w h s x r).length≤r.length + (w + 1).toNat:=by
  unfold Z1L
  refine Nat.le_trans (Z9a _ _ _ _ _ _ _ _ (Int.le_refl 0)) ?_
  omega
def Z1v (Y9:Int) (Yb:Int) (Yc:Nat):Nat→Int→(List Gv)→(List Gv)
  | 0,_,_=>default
  | k + 1,Ye,Y3=>(cond (decide (Ye≤Yb))
    (Z1v Y9 Yb Yc k (Ye + 1) (Z1L Y9 Yb Yc Ye Y3))
    Y3)
def Z3F (Y9:Int) (Yb:Int) (Yc:Nat) (r:(List Gv)):Ex × St:=((.exit 0),⟨.i .i64 Y9 :: .i .i64 Yb :: an 4 (.ptr 0 0 0 :: .ptr 1 0 0 :: an 7 (.own 2 :: an 62 [])),[.box 27 [.nils, .nils], .box 27 [.own 3, .own 2], .nest 60 [] false, .vec 32 3 (r.map Gv.c) false]⟩)
def Z58 (Y9:Int) (Yb:Int) (Yc:Nat) (Ye:Int) (Y3:(List Gv)):St:=⟨.i .i64 Y9 :: .i .i64 Yb :: .f .f32 Yc :: .any :: .any :: .any :: .ptr 0 0 0 :: .ptr 3 0 0 :: .i .i64 Ye :: an 6 (.own 2 :: an 62 []),[.box 27 [.nils, .nils], .vec 32 3 (Y3.map Gv.c) false, .nest 60 [] false, .box 27 [.own 1, .own 2]]⟩
theorem Z6H (Y9:Int) (Yb:Int) (Yc:Nat) (hp0:1≤Y9) (hp1:Y9≤3) (hp2:1≤Yb) (hp3:Yb≤2):∀ (k:Nat) (Ye:Int) (Y3:(List Gv)) (Z2q:0≤Ye) (Z2r:(Y3.length:Int)≤7 * Ye) (Z2s:Ye≤Yb + 1) (hk:(Yb + 1 - Ye).toNat < k),Lp prog 0 (sub (X2 f56) [1,1,0,1,0,0]) (Z58 Y9 Yb Yc Ye Y3) (Z3F Y9 Yb Yc (Z1v Y9 Yb Yc k Ye Y3)).1 (Z3F Y9 Yb Yc (Z1v Y9 Yb Yc k Ye Y3)).2:=by
 intro k
 induction k with
 | zero=>intro Ye Y3 Z2q Z2r Z2s hk;exact absurd hk (Nat.not_lt_zero _)
 | succ k ih =>
  intro Ye Y3 Z2q Z2r Z2s hk
  cases Yr:(decide (Ye≤Yb)) with
  | true =>
   have YM:=odt Yr
   have YU:(-9223372036854775808:Int)≤(Ye + 1):=(by omega)
   have YR:(Ye + 1)≤(9223372036854775807:Int):=(by omega)
   have e:Z1v Y9 Yb Yc (k + 1) Ye Y3=(Z1v Y9 Yb Yc k (Ye + 1) (Z1L Y9 Yb Yc Ye Y3)):=by simp only [Z1v,Yr,cond_true]
   rw [e]
   exact X1r E0Ok Zg [] (mR false [0,3,3,3,6,1,62]) [0,3,2,1] (ih (Ye + 1) (Z1L Y9 Yb Yc Ye Y3) (show 0≤(Ye + 1) from (by omega)) (show ((Z1L Y9 Yb Yc Ye Y3).length:Int)≤7 * (Ye + 1) from (by have q:=Z9A Y9 Yb Yc Ye Y3;omega)) (show (Ye + 1)≤Yb + 1 from (by omega)) (by omega)) (sB Yr<|sL (mR false [0,3,3,4,5,1,1,3,58]) 4 (Xc (Z3E Y9 Yb Yc Ye Y3) (x:=(Z1L Y9 Yb Yc Ye Y3)) (Z6G Y9 Yb Yc Ye Y3 hp0 hp1 hp2 hp3 Z2q Z2r Z2s ((Y9 + 1 - 0).toNat + 1) 0 Y3 (show 0≤0 from (by omega)) (show (Y3.length:Int)=(Y3.length:Int) + 0 from (by omega)) (Nat.lt_succ_self _)) rfl)<|sI (Ye + 1) YU YR<|sN) (by kernel_rfl)
  | false =>
   have YM:=odf Yr
   have e:Z1v Y9 Yb Yc (k + 1) Ye Y3=Y3:=by simp only [Z1v,Yr,cond_false]
   rw [e]
   exact outR (e:=(.exit 0)) E0Ok Zg [] (mR false [0,2,4,2,7,1,62]) [0,3,2,1] (sB Yr<|sN) (by kernel_rfl) (by intro h;cases h)
def Z1q (Y9:Int) (Yb:Int) (Yc:Nat):(List Gv):=(Z1v Y9 Yb Yc ((Yb + 1 - 0).toNat + 1) 0 ([]:List Gv))
def Z1j (Y9:Int) (Yb:Int) (Yc:Nat) (Ye:Int) (Yh:(List (List Int))):Nat→Int→(List (List Int))→(List (List Int))
  | 0,_,_=>default
  | k + 1,Y2,YE=>(cond (decide (Y2 < Y9))
    (Z1j Y9 Yb Yc Ye Yh k (Y2 + 1) (YE ++ [[(Y2 + ((Y9 + 1) * Ye)),((Y2 + ((Y9 + 1) * Ye)) + 1),((((Y2 + ((Y9 + 1) * Ye)) + Y9) + 1) + 1)],[(Y2 + ((Y9 + 1) * Ye)),((((Y2 + ((Y9 + 1) * Ye)) + Y9) + 1) + 1),(((Y2 + ((Y9 + 1) * Ye)) + Y9) + 1)]]))
    YE)
def Z3G (Y9:Int) (Yb:Int) (Yc:Nat) (Ye:Int) (Yh:(List (List Int))) (r:(List (List Int))):Ex × St:=((.exit 6),⟨.i .i64 Y9 :: .i .i64 Yb :: an 4 (.ptr 0 0 0 :: .ptr 1 0 0 :: .any :: .any :: .i .i64 Ye :: an 30 (.i .i64 Ye :: .i .i64 Yb :: .b (decide (Ye < Yb)) :: an 34 [])),[.box 27 [.nils, .nils], .box 27 [.own 2, .own 3], .vec 32 3 ((Z1q Y9 Yb Yc).map Gv.c) false, .nest 60 (r.map fun l=>l.map (cI .i64)) false]⟩)
def Z59 (Y9:Int) (Yb:Int) (Yc:Nat) (Ye:Int) (Yh:(List (List Int))) (Y2:Int) (YE:(List (List Int))):St:=⟨.i .i64 Y9 :: .i .i64 Yb :: an 4 (.ptr 0 0 0 :: .ptr 1 0 0 :: .any :: .any :: .i .i64 Ye :: .i .i64 Y2 :: an 29 (.i .i64 Ye :: .i .i64 Yb :: .b (decide (Ye < Yb)) :: an 34 [])),[.box 27 [.nils, .nils], .box 27 [.own 3, .own 2], .nest 60 (YE.map fun l=>l.map (cI .i64)) false, .vec 32 3 ((Z1q Y9 Yb Yc).map Gv.c) false]⟩
def Z4w:List Bool:=(mR false [0,2,4,2,2,2,29,3,34])
def Z67:List Bool:=(mR false [0,2,4,2,2,1,30,3,34])
set_option maxHeartbeats 1000000 in
theorem Z6I (Y9:Int) (Yb:Int) (Yc:Nat) (Ye:Int) (Yh:(List (List Int))) (hp0:1≤Y9) (hp1:Y9≤3) (hp2:1≤Yb) (hp3:Yb≤2) (Z2t:0≤Ye) (Z2u:(Yh.length:Int)≤12 * Ye) (Z2v:Ye≤Yb):∀ (k:Nat) (Y2:Int) (YE:(List (List Int))) (Z4x:0≤Y2) (Z4y:(YE.length:Int)=(Yh.length:Int) + 2 * Y2) (hk:(Y9 - Y2).toNat < k),Lp prog 0 (sub (X2 f56) [1,1,1,0,1,0,0,1,0,0,1,0,0]) (Z59 Y9 Yb Yc Ye Yh Y2 YE) (Z3G Y9 Yb Yc Ye Yh (Z1j Y9 Yb Yc Ye Yh k Y2 YE)).1 (Z3G Y9 Yb Yc Ye Yh (Z1j Y9 Yb Yc Ye Yh k Y2 YE)).2:=by
 intro k
 induction k with
 | zero=>intro Y2 YE Z4x Z4y hk;exact absurd hk (Nat.not_lt_zero _)
 | succ k ih =>
  intro Y2 YE Z4x Z4y hk
  cases YG:(decide (Y2 < Y9)) with
  | true =>
   have Y1d:=odt YG
   have Y1h:(-9223372036854775808:Int)≤(Y9 + 1):=(by omega)
   have Y1i:(Y9 + 1)≤(9223372036854775807:Int):=(by omega)
   have Y1f:(-9223372036854775808:Int)≤((Y9 + 1) * Ye):=(by ((have q:=Z47 (a:=Y9 + 1) (b:=Ye) (by omega) (by omega) (by omega) (by omega);omega)))
   have Y1g:((Y9 + 1) * Ye)≤(9223372036854775807:Int):=(by ((have q:=Z47 (a:=Y9 + 1) (b:=Ye) (by omega) (by omega) (by omega) (by omega);omega)))
   have Y1m:(-9223372036854775808:Int)≤(Y2 + ((Y9 + 1) * Ye)):=(by omega)
   have Y1q:(Y2 + ((Y9 + 1) * Ye))≤(9223372036854775807:Int):=(by ((have q:=Z47 (a:=Y9 + 1) (b:=Ye) (by omega) (by omega) (by omega) (by omega);omega)))
   have Y1k:(-9223372036854775808:Int)≤((Y2 + ((Y9 + 1) * Ye)) + Y9):=(by omega)
   have Y1n:((Y2 + ((Y9 + 1) * Ye)) + Y9)≤(9223372036854775807:Int):=(by ((have q:=Z47 (a:=Y9 + 1) (b:=Ye) (by omega) (by omega) (by omega) (by omega);omega)))
   have Y1s:(-9223372036854775808:Int)≤(((Y2 + ((Y9 + 1) * Ye)) + Y9) + 1):=(by omega)
   have y__9:(((Y2 + ((Y9 + 1) * Ye)) + Y9) + 1)≤(9223372036854775807:Int):=(by ((have q:=Z47 (a:=Y9 + 1) (b:=Ye) (by omega) (by omega) (by omega) (by omega);omega)))
   have y__10:(-9223372036854775808:Int)≤((Y2 + ((Y9 + 1) * Ye)) + 1):=(by omega)
   have y__11:((Y2 + ((Y9 + 1) * Ye)) + 1)≤(9223372036854775807:Int):=(by omega)
   have Y1w:(-9223372036854775808:Int)≤((((Y2 + ((Y9 + 1) * Ye)) + Y9) + 1) + 1):=(by omega)
   have Y1x:((((Y2 + ((Y9 + 1) * Ye)) + Y9) + 1) + 1)≤(9223372036854775807:Int):=(by ((have q:=Z47 (a:=Y9 + 1) (b:=Ye) (by omega) (by omega) (by omega) (by omega);omega)))
   have y__14:YE.length + [[(Y2 + ((Y9 + 1) * Ye)),((Y2 + ((Y9 + 1) * Ye)) + 1),((((Y2 + ((Y9 + 1) * Ye)) + Y9) + 1) + 1)],[(Y2 + ((Y9 + 1) * Ye)),((((Y2 + ((Y9 + 1) * Ye)) + Y9) + 1) + 1),(((Y2 + ((Y9 + 1) * Ye)) + Y9) + 1)]].length≤1073741824:=(by ((have q:=Z47 (a:=Y9 + 1) (b:=Ye) (by omega) (by omega) (by omega) (by omega);(simp only [List.length_append,List.length_cons,List.length_nil];omega))))
   have y__15:(-9223372036854775808:Int)≤(Y2 + 1):=(by omega)
   have y__16:(Y2 + 1)≤(9223372036854775807:Int):=(by omega)
   have e:Z1j Y9 Yb Yc Ye Yh (k + 1) Y2 YE=(Z1j Y9 Yb Yc Ye Yh k (Y2 + 1) (YE ++ [[(Y2 + ((Y9 + 1) * Ye)),((Y2 + ((Y9 + 1) * Ye)) + 1),((((Y2 + ((Y9 + 1) * Ye)) + Y9) + 1) + 1)],[(Y2 + ((Y9 + 1) * Ye)),((((Y2 + ((Y9 + 1) * Ye)) + Y9) + 1) + 1),(((Y2 + ((Y9 + 1) * Ye)) + Y9) + 1)]])):=by simp only [Z1j,YG,cond_true]
   rw [e]
   exact XD E0Ok Zg [] Z4w [0,1,2,3] (⟨.i .i64 Y9 :: .i .i64 Yb :: an 4 (.ptr 0 0 0 :: .ptr 1 0 0 :: .any :: .any :: .i .i64 Ye :: .i .i64 (Y2 + 1) :: an 29 (.i .i64 Ye :: .i .i64 Yb :: .b (decide (Ye < Yb)) :: an 34 [])),[.box 27 [.nils, .nils], .box 27 [.own 3, .own 2], .nest 60 ((YE.map fun l=>l.map (cI .i64)) ++ [([[.i .i64 (Y2 + ((Y9 + 1) * Ye))],[.i .i64 ((Y2 + ((Y9 + 1) * Ye)) + 1)],[.i .i64 ((((Y2 + ((Y9 + 1) * Ye)) + Y9) + 1) + 1)]]:List (List AV)),([[.i .i64 (Y2 + ((Y9 + 1) * Ye))],[.i .i64 ((((Y2 + ((Y9 + 1) * Ye)) + Y9) + 1) + 1)],[.i .i64 (((Y2 + ((Y9 + 1) * Ye)) + Y9) + 1)]]:List (List AV))]) false, .vec 32 3 ((Z1q Y9 Yb Yc).map Gv.c) false]⟩) (sB YG<|sI (Y9 + 1) Y1h Y1i<|sI ((Y9 + 1) * Ye) Y1f Y1g<|sI (Y2 + ((Y9 + 1) * Ye)) Y1m Y1q<|sI ((Y2 + ((Y9 + 1) * Ye)) + Y9) Y1k Y1n<|sI (((Y2 + ((Y9 + 1) * Ye)) + Y9) + 1) Y1s y__9<|sI ((Y2 + ((Y9 + 1) * Ye)) + 1) y__10 y__11<|sI ((((Y2 + ((Y9 + 1) * Ye)) + Y9) + 1) + 1) Y1w Y1x<|sI ((((Y2 + ((Y9 + 1) * Ye)) + Y9) + 1) + 1) Y1w Y1x<|sC (show (YE.map fun l=>l.map (cI .i64)).length + [([[.i .i64 (Y2 + ((Y9 + 1) * Ye))],[.i .i64 ((Y2 + ((Y9 + 1) * Ye)) + 1)],[.i .i64 ((((Y2 + ((Y9 + 1) * Ye)) + Y9) + 1) + 1)]]:List (List AV)),([[.i .i64 (Y2 + ((Y9 + 1) * Ye))],[.i .i64 ((((Y2 + ((Y9 + 1) * Ye)) + Y9) + 1) + 1)],[.i .i64 (((Y2 + ((Y9 + 1) * Ye)) + Y9) + 1)]]:List (List AV))].length≤1073741824 from (by simpa using y__14))<|sI (Y2 + 1) y__15 y__16<|sN) (by kernel_rfl) (by simp [Z59,cL,cI]) (ih (Y2 + 1) (YE ++ [[(Y2 + ((Y9 + 1) * Ye)),((Y2 + ((Y9 + 1) * Ye)) + 1),((((Y2 + ((Y9 + 1) * Ye)) + Y9) + 1) + 1)],[(Y2 + ((Y9 + 1) * Ye)),((((Y2 + ((Y9 + 1) * Ye)) + Y9) + 1) + 1),(((Y2 + ((Y9 + 1) * Ye)) + Y9) + 1)]]) (show 0≤(Y2 + 1) from (by omega)) (show ((YE ++ [[(Y2 + ((Y9 + 1) * Ye)),((Y2 + ((Y9 + 1) * Ye)) + 1),((((Y2 + ((Y9 + 1) * Ye)) + Y9) + 1) + 1)],[(Y2 + ((Y9 + 1) * Ye)),((((Y2 + ((Y9 + 1) * Ye)) + Y9) + 1) + 1),(((Y2 + ((Y9 + 1) * Ye)) + Y9) + 1)]]).length:Int)=(Yh.length:Int) + 2 * (Y2 + 1) from (by simp_all<;>omega)) (by omega))
  | false =>
   have Y1d:=odf YG
   have e:Z1j Y9 Yb Yc Ye Yh (k + 1) Y2 YE=YE:=by simp only [Z1j,YG,cond_false]
   rw [e]
   exact outR (e:=(.exit 6)) E0Ok Zg [] Z67 [0,1,3,2] (sB YG<|sN) (by kernel_rfl) (by intro h;cases h)
def Z1M (Y9:Int) (Yb:Int) (Yc:Nat) (Ye:Int) (Yh:(List (List Int))):(List (List Int)):=(Z1j Y9 Yb Yc Ye Yh ((Y9 - 0).toNat + 1) 0 Yh)
theorem Z9b (w h:Int) (s:Nat) (x:Int) (r0:List (List Int)):∀ (k:Nat) (i:Int) (r:List (List Int)),0≤i→(Z1j w h s x r0 k i r).length≤r.length + 2 * (w - i).toNat:=by
  intro k
  induction k with
  | zero=>intro i r _;exact Nat.zero_le _
  | succ k ih =>
    intro i r h0
    rw [Z1j]
    by_cases hi:i < w
    · rw [decide_eq_true hi,cond_true]
      refine Nat.le_trans (ih (i + 1) _ (by omega)) ?_
      simp only [List.length_append,List.length_cons,List.length_nil];omega
    · rw [decide_eq_false hi,cond_false];omega
theorem Z9B (w h:Int) (s:Nat) (x:Int) (r:List (List Int)):(Z1M w h s x r).length≤r.length + 2 * w.toNat:=by
  unfold Z1M
  refine Nat.le_trans (Z9b _ _ _ _ _ _ _ _ (Int.le_refl 0)) ?_
  omega
def Z1w (Y9:Int) (Yb:Int) (Yc:Nat):Nat→Int→(List (List Int))→(List (List Int))
  | 0,_,_=>default
  | k + 1,Ye,Yh=>(cond (decide (Ye < Yb))
    (Z1w Y9 Yb Yc k (Ye + 1) (Z1M Y9 Yb Yc Ye Yh))
    Yh)
def Z3H (Y9:Int) (Yb:Int) (Yc:Nat) (r:(List (List Int))):Ex × St:=((.exit 4),⟨.i .i64 Y9 :: .i .i64 Yb :: an 4 (.ptr 0 0 0 :: .ptr 1 0 0 :: an 70 []),[.box 27 [.nils, .nils], .box 27 [.own 2, .own 3], .vec 32 3 ((Z1q Y9 Yb Yc).map Gv.c) false, .nest 60 (r.map fun l=>l.map (cI .i64)) false]⟩)
def Z5a (Y9:Int) (Yb:Int) (Yc:Nat) (Ye:Int) (Yh:(List (List Int))):St:=⟨.i .i64 Y9 :: .i .i64 Yb :: an 4 (.ptr 0 0 0 :: .ptr 1 0 0 :: .any :: .any :: .i .i64 Ye :: an 67 []),[.box 27 [.nils, .nils], .box 27 [.own 3, .own 2], .nest 60 (Yh.map fun l=>l.map (cI .i64)) false, .vec 32 3 ((Z1q Y9 Yb Yc).map Gv.c) false]⟩
theorem Z6J (Y9:Int) (Yb:Int) (Yc:Nat) (hp0:1≤Y9) (hp1:Y9≤3) (hp2:1≤Yb) (hp3:Yb≤2):∀ (k:Nat) (Ye:Int) (Yh:(List (List Int))) (Z2t:0≤Ye) (Z2u:(Yh.length:Int)≤12 * Ye) (Z2v:Ye≤Yb) (hk:(Yb - Ye).toNat < k),Lp prog 0 (sub (X2 f56) [1,1,1,0,1,0,0]) (Z5a Y9 Yb Yc Ye Yh) (Z3H Y9 Yb Yc (Z1w Y9 Yb Yc k Ye Yh)).1 (Z3H Y9 Yb Yc (Z1w Y9 Yb Yc k Ye Yh)).2:=by
 intro k
 induction k with
 | zero=>intro Ye Yh Z2t Z2u Z2v hk;exact absurd hk (Nat.not_lt_zero _)
 | succ k ih =>
  intro Ye Yh Z2t Z2u Z2v hk
  cases Yr:(decide (Ye < Yb)) with
  | true =>
   have YM:=odt Yr
   have YU:(-9223372036854775808:Int)≤(Ye + 1):=(by omega)
   have YR:(Ye + 1)≤(9223372036854775807:Int):=(by omega)
   have e:Z1w Y9 Yb Yc (k + 1) Ye Yh=(Z1w Y9 Yb Yc k (Ye + 1) (Z1M Y9 Yb Yc Ye Yh)):=by simp only [Z1w,Yr,cond_true]
   rw [e]
   exact X1r E0Ok Zg [] (mR false [0,2,4,2,2,1,67]) [0,1,3,2] (ih (Ye + 1) (Z1M Y9 Yb Yc Ye Yh) (show 0≤(Ye + 1) from (by omega)) (show ((Z1M Y9 Yb Yc Ye Yh).length:Int)≤12 * (Ye + 1) from (by have q:=Z9B Y9 Yb Yc Ye Yh;omega)) (show (Ye + 1)≤Yb from (by assumption)) (by omega)) (sB Yr<|sL Z4w 4 (Xc (Z3G Y9 Yb Yc Ye Yh) (x:=(Z1M Y9 Yb Yc Ye Yh)) (Z6I Y9 Yb Yc Ye Yh hp0 hp1 hp2 hp3 Z2t Z2u Z2v ((Y9 - 0).toNat + 1) 0 Yh (show 0≤0 from (by omega)) (show (Yh.length:Int)=(Yh.length:Int) + 2 * 0 from (by omega)) (Nat.lt_succ_self _)) rfl)<|sI (Ye + 1) YU YR<|sN) (by kernel_rfl)
  | false =>
   have YM:=odf Yr
   have e:Z1w Y9 Yb Yc (k + 1) Ye Yh=Yh:=by simp only [Z1w,Yr,cond_false]
   rw [e]
   exact outR (e:=(.exit 4)) E0Ok Zg [] (mR false [0,2,4,2,70]) [0,1,3,2] (sB Yr<|sN) (by kernel_rfl) (by intro h;cases h)
def Z35 (Y9:Int) (Yb:Int) (Yc:Nat):(List (List Int)):=(Z1w Y9 Yb Yc ((Yb - 0).toNat + 1) 0 ([]:List (List Int)))
def Z8 (Y9:Int) (Yb:Int) (Yc:Nat):Gm:=(⟨(Z1q Y9 Yb Yc),(Z35 Y9 Yb Yc)⟩:Gm)
theorem Z7t (Y9:Int) (Yb:Int) (Yc:Nat) (hp0:1≤Y9) (hp1:Y9≤3) (hp2:1≤Yb) (hp3:Yb≤2)  : Fn prog 56 [.i .i64 Y9, .i .i64 Yb, .f .f32 Yc] (.agg [.own 0, .own 1]) [.vec 32 3 (((Z8 Y9 Yb Yc).Pq).map Gv.c) false, .nest 60 (((Z8 Y9 Yb Yc).Tr).map fun l=>l.map (cI .i64)) false]:=by
 refine fnS E0Ok Zg (c:=X2 f56) [] (.agg [.own 0, .own 1]) [.vec 32 3 ((Z1q Y9 Yb Yc).map Gv.c) false, .nest 60 ((Z35 Y9 Yb Yc).map fun l=>l.map (cI .i64)) false] func56 (sL (mR false [0,3,3,3,6,1,62]) 4 (X13 (st2:=⟨.i .i64 Y9 :: .i .i64 Yb :: .f .f32 Yc :: .any :: .any :: .any :: .ptr 0 0 0 :: .ptr 3 0 0 :: .i .i64 0 :: an 6 (.own 2 :: an 62 []),[.box 27 [.nils, .nils], .vec 32 3 ([]:List (List AV)) false, .nest 60 [] false, .box 27 [.own 1, .own 2]]⟩) (Xc (Z3F Y9 Yb Yc) (x:=(Z1q Y9 Yb Yc)) (Z6H Y9 Yb Yc hp0 hp1 hp2 hp3 ((Yb + 1 - 0).toNat + 1) 0 ([]:List Gv) (show 0≤0 from (by omega)) (show (([]:List Gv).length:Int)≤7 * 0 from (by simp;done)) (show 0≤Yb + 1 from (by omega)) (Nat.lt_succ_self _)) rfl) (by simp [Z58,Gv.c,cL,cI]))<|sL (mR false [0,2,4,2,2,1,67]) 4 (X13 (st2:=⟨.i .i64 Y9 :: .i .i64 Yb :: an 4 (.ptr 0 0 0 :: .ptr 1 0 0 :: .any :: .any :: .i .i64 0 :: an 67 []),[.box 27 [.nils, .nils], .box 27 [.own 3, .own 2], .nest 60 [] false, .vec 32 3 ((Z1q Y9 Yb Yc).map Gv.c) false]⟩) (Xc (Z3H Y9 Yb Yc) (x:=(Z35 Y9 Yb Yc)) (Z6J Y9 Yb Yc hp0 hp1 hp2 hp3 ((Yb - 0).toNat + 1) 0 ([]:List (List Int)) (show 0≤0 from (by omega)) (show (([]:List (List Int)).length:Int)≤12 * 0 from (by simp;done)) (show 0≤Yb from (by omega)) (Nat.lt_succ_self _)) rfl) (by simp [Z5a,cL,cI]))<|sK [2,3] sN) rfl (by kernel_rfl) (by kernel_rfl) rfl ?_ ?_
 · rfl
 · simp [Z8]
theorem Z3e (Yl:Nat) (Ym:Nat) (Yn:Nat) (Yo:Nat) (Yp:Nat) (w2:(List Gv)) (w3:(List (List Int))) (Y6:Gl00Src) (hp0:Y6.code.length≤1073741824) (hp1:0≤Y6.at_) (hp2:Y6.at_≤1152921504606846976)  : X9 prog 99 [.box 34 [.nils, .nils, .nils, .f .f32 Yl, .f .f32 Ym, .nils, .f .f32 Yn, .f .f32 Yo, .f .f32 Yp], .box 134 [.sl (Y6.code.map (cI .u8)), .i .i64 Y6.at_, .i .u64 Y6.seed], .vec 32 3 (w2.map Gv.c) false, .nest 60 (w3.map fun l=>l.map (cI .i64)) false, .box 27 [.own 2, .own 3]] [.ptr 1 0 0] (.i .i64 ((Z3 Y6).1)) [.box 34 [.nils, .nils, .nils, .f .f32 Yl, .f .f32 Ym, .nils, .f .f32 Yn, .f .f32 Yo, .f .f32 Yp], .box 134 [.sl (Y6.code.map (cI .u8)), .i .i64 ((Z3 Y6).2.1), .i .u64 ((Z3 Y6).2.2)], .vec 32 3 (w2.map Gv.c) false, .nest 60 (w3.map fun l=>l.map (cI .i64)) false, .box 27 [.own 2, .own 3]]:=by
 have p {a C} (s:Scr a C):=sK [9,9]<|sZ (cI .u8) Y6.code<|s
 cases h0:(decide (Y6.at_ < (Y6.code.length:Int))) with
 | true =>
  have gh0:=odt h0
  have y0:(0:Int)≤Y6.at_:=by clear p;exact (by assumption)
  have y1:Y6.at_ < (Y6.code.length:Int):=by clear p;exact (by assumption)
  have q {a C} (s:Scr a C):=p (sB h0<|sK [8,8]<|sG (cI .u8) Y6.code Y6.at_ y0 y1<|sW .i64 (Y6.code.getD Y6.at_.toNat default)<|sW .i64 (Y6.at_ + 1)<|sW .u64 (Y6.seed * 6364136223846793005)<|sW .u64 (IntKind.wrap .i64 (Y6.code.getD Y6.at_.toNat default))<|sW .u64 ((IntKind.wrap .u64 (Y6.seed * 6364136223846793005)) + (IntKind.wrap .u64 (IntKind.wrap .i64 (Y6.code.getD Y6.at_.toNat default))))<|sM (show IntKind.wrap .u64 ((IntKind.wrap .u64 ((IntKind.wrap .u64 (Y6.seed * 6364136223846793005)) + (IntKind.wrap .u64 (IntKind.wrap .i64 (Y6.code.getD Y6.at_.toNat default))))) + 1442695040888963407)=(Zf Y6) from rfl)<|sK [9,9]<|sZ (cI .u8) Y6.code<|s)
  clear p
  cases h1:(decide ((IntKind.wrap .i64 (Y6.at_ + 1))≤(Y6.code.length:Int))) with
  | true =>
   have gh1:=odt h1
   refine X8 (EpOk 5) Zg (c:=X2 f99) [.box 34 [.nils, .nils, .nils, .f .f32 Yl, .f .f32 Ym, .nils, .f .f32 Yn, .f .f32 Yo, .f .f32 Yp], .box 134 [.sl (Y6.code.map (cI .u8)), .i .i64 Y6.at_, .i .u64 Y6.seed], .vec 32 3 (w2.map Gv.c) false, .nest 60 (w3.map fun l=>l.map (cI .i64)) false, .box 27 [.own 2, .own 3]] [] (.i .i64 (IntKind.wrap .i64 (Y6.code.getD Y6.at_.toNat default))) [.box 34 [.nils, .nils, .nils, .f .f32 Yl, .f .f32 Ym, .nils, .f .f32 Yn, .f .f32 Yo, .f .f32 Yp], .box 134 [.sl (Y6.code.map (cI .u8)), .i .i64 (IntKind.wrap .i64 (Y6.at_ + 1)), .i .u64 (Zf Y6)], .vec 32 3 (w2.map Gv.c) false, .nest 60 (w3.map fun l=>l.map (cI .i64)) false, .box 27 [.own 2, .own 3]] func99 (q (sB h1<|sK [] sN)) rfl (by kernel_rfl) (by kernel_rfl) ?_ ?_
   · simp only [Z3,h0,h1,cond_true]
   · simp [Z3,h0,h1]
  | false =>
   have gh1:=odf h1
   refine X8 (EpOk 5) Zg (c:=X2 f99) [.box 34 [.nils, .nils, .nils, .f .f32 Yl, .f .f32 Ym, .nils, .f .f32 Yn, .f .f32 Yo, .f .f32 Yp], .box 134 [.sl (Y6.code.map (cI .u8)), .i .i64 Y6.at_, .i .u64 Y6.seed], .vec 32 3 (w2.map Gv.c) false, .nest 60 (w3.map fun l=>l.map (cI .i64)) false, .box 27 [.own 2, .own 3]] [] (.i .i64 (IntKind.wrap .i64 (bitsOf .and .u64 (Int.fdiv (Zf Y6) (2 ^ (min (Int.toNat 40) (IntKind.bits .u64)))) 255))) [.box 34 [.nils, .nils, .nils, .f .f32 Yl, .f .f32 Ym, .nils, .f .f32 Yn, .f .f32 Yo, .f .f32 Yp], .box 134 [.sl (Y6.code.map (cI .u8)), .i .i64 (IntKind.wrap .i64 (Y6.at_ + 1)), .i .u64 (Zf Y6)], .vec 32 3 (w2.map Gv.c) false, .nest 60 (w3.map fun l=>l.map (cI .i64)) false, .box 27 [.own 2, .own 3]] func99 (q (sB h1<|sC (show (0:Int)≤40 from (by decide))<|sQ (Int.fdiv (Zf Y6) (2 ^ (min (Int.toNat 40) (IntKind.bits .u64))))<|sQ (bitsOf .and .u64 (Int.fdiv (Zf Y6) (2 ^ (min (Int.toNat 40) (IntKind.bits .u64)))) 255)<|sW .i64 (bitsOf .and .u64 (Int.fdiv (Zf Y6) (2 ^ (min (Int.toNat 40) (IntKind.bits .u64)))) 255)<|sK [] sN)) rfl (by kernel_rfl) (by kernel_rfl) ?_ ?_
   · simp only [Z3,h0,h1,cond_true,cond_false]
   · simp [Z3,h0,h1]
 | false =>
  have gh0:=odf h0
  have q {a C} (s:Scr a C):=p (sB h0<|sW .i64 (Y6.at_ + 1)<|sW .u64 (Y6.seed * 6364136223846793005)<|sM (show IntKind.wrap .u64 0=0 from rfl)<|sW .u64 ((IntKind.wrap .u64 (Y6.seed * 6364136223846793005)) + 0)<|sW .u64 ((IntKind.wrap .u64 ((IntKind.wrap .u64 (Y6.seed * 6364136223846793005)) + 0)) + 1442695040888963407)<|sK [9,9]<|sZ (cI .u8) Y6.code<|s)
  clear p
  cases h1:(decide ((IntKind.wrap .i64 (Y6.at_ + 1))≤(Y6.code.length:Int))) with
  | true =>
   have gh1:=odt h1
   refine X8 (EpOk 5) Zg (c:=X2 f99) [.box 34 [.nils, .nils, .nils, .f .f32 Yl, .f .f32 Ym, .nils, .f .f32 Yn, .f .f32 Yo, .f .f32 Yp], .box 134 [.sl (Y6.code.map (cI .u8)), .i .i64 Y6.at_, .i .u64 Y6.seed], .vec 32 3 (w2.map Gv.c) false, .nest 60 (w3.map fun l=>l.map (cI .i64)) false, .box 27 [.own 2, .own 3]] [] (.i .i64 0) [.box 34 [.nils, .nils, .nils, .f .f32 Yl, .f .f32 Ym, .nils, .f .f32 Yn, .f .f32 Yo, .f .f32 Yp], .box 134 [.sl (Y6.code.map (cI .u8)), .i .i64 (IntKind.wrap .i64 (Y6.at_ + 1)), .i .u64 (IntKind.wrap .u64 ((IntKind.wrap .u64 ((IntKind.wrap .u64 (Y6.seed * 6364136223846793005)) + 0)) + 1442695040888963407))], .vec 32 3 (w2.map Gv.c) false, .nest 60 (w3.map fun l=>l.map (cI .i64)) false, .box 27 [.own 2, .own 3]] func99 (q (sB h1<|sK [] sN)) rfl (by kernel_rfl) (by kernel_rfl) ?_ ?_
   · simp only [Z3,h0,h1,cond_true,cond_false]
   · simp [Z3,h0,h1]
  | false =>
   have gh1:=odf h1
   refine X8 (EpOk 5) Zg (c:=X2 f99) [.box 34 [.nils, .nils, .nils, .f .f32 Yl, .f .f32 Ym, .nils, .f .f32 Yn, .f .f32 Yo, .f .f32 Yp], .box 134 [.sl (Y6.code.map (cI .u8)), .i .i64 Y6.at_, .i .u64 Y6.seed], .vec 32 3 (w2.map Gv.c) false, .nest 60 (w3.map fun l=>l.map (cI .i64)) false, .box 27 [.own 2, .own 3]] [] (.i .i64 (IntKind.wrap .i64 (bitsOf .and .u64 (Int.fdiv (IntKind.wrap .u64 ((IntKind.wrap .u64 ((IntKind.wrap .u64 (Y6.seed * 6364136223846793005)) + 0)) + 1442695040888963407)) (2 ^ (min (Int.toNat 40) (IntKind.bits .u64)))) 255))) [.box 34 [.nils, .nils, .nils, .f .f32 Yl, .f .f32 Ym, .nils, .f .f32 Yn, .f .f32 Yo, .f .f32 Yp], .box 134 [.sl (Y6.code.map (cI .u8)), .i .i64 (IntKind.wrap .i64 (Y6.at_ + 1)), .i .u64 (IntKind.wrap .u64 ((IntKind.wrap .u64 ((IntKind.wrap .u64 (Y6.seed * 6364136223846793005)) + 0)) + 1442695040888963407))], .vec 32 3 (w2.map Gv.c) false, .nest 60 (w3.map fun l=>l.map (cI .i64)) false, .box 27 [.own 2, .own 3]] func99 (q (sB h1<|sC (show (0:Int)≤40 from (by decide))<|sQ (Int.fdiv (IntKind.wrap .u64 ((IntKind.wrap .u64 ((IntKind.wrap .u64 (Y6.seed * 6364136223846793005)) + 0)) + 1442695040888963407)) (2 ^ (min (Int.toNat 40) (IntKind.bits .u64))))<|sQ (bitsOf .and .u64 (Int.fdiv (IntKind.wrap .u64 ((IntKind.wrap .u64 ((IntKind.wrap .u64 (Y6.seed * 6364136223846793005)) + 0)) + 1442695040888963407)) (2 ^ (min (Int.toNat 40) (IntKind.bits .u64)))) 255)<|sW .i64 (bitsOf .and .u64 (Int.fdiv (IntKind.wrap .u64 ((IntKind.wrap .u64 ((IntKind.wrap .u64 (Y6.seed * 6364136223846793005)) + 0)) + 1442695040888963407)) (2 ^ (min (Int.toNat 40) (IntKind.bits .u64)))) 255)<|sK [] sN)) rfl (by kernel_rfl) (by kernel_rfl) ?_ ?_
   · simp only [Z3,h0,h1,cond_false]
   · simp [Z3,h0,h1]
theorem Z5r (Yl:Nat) (Ym:Nat) (Yn:Nat) (Yo:Nat) (Yp:Nat) (w2:(List Gv)) (w3:(List (List Int))) (Y6:Gl00Src) (YK:Int) (hp0:Y6.code.length≤1073741824) (hp1:0≤Y6.at_) (hp2:Y6.at_≤1152921504606846970)  : X9 prog 55 [.box 34 [.nils, .nils, .nils, .f .f32 Yl, .f .f32 Ym, .nils, .f .f32 Yn, .f .f32 Yo, .f .f32 Yp], .box 134 [.sl (Y6.code.map (cI .u8)), .i .i64 Y6.at_, .i .u64 Y6.seed], .vec 32 3 (w2.map Gv.c) false, .nest 60 (w3.map fun l=>l.map (cI .i64)) false, .box 27 [.own 2, .own 3]] [.ptr 1 0 0, .i .i64 YK] (.i .i64 ((Z0 Y6 YK).1)) [.box 34 [.nils, .nils, .nils, .f .f32 Yl, .f .f32 Ym, .nils, .f .f32 Yn, .f .f32 Yo, .f .f32 Yp], .box 134 [.sl (Y6.code.map (cI .u8)), .i .i64 ((Z0 Y6 YK).2.1), .i .u64 ((Z0 Y6 YK).2.2)], .vec 32 3 (w2.map Gv.c) false, .nest 60 (w3.map fun l=>l.map (cI .i64)) false, .box 27 [.own 2, .own 3]]:=by
 cases h0:(decide (YK≤1)) with
 | true =>
  have gh0:=odt h0
  refine X8 (EpOk 5) Zg (c:=X2 f55) [.box 34 [.nils, .nils, .nils, .f .f32 Yl, .f .f32 Ym, .nils, .f .f32 Yn, .f .f32 Yo, .f .f32 Yp], .box 134 [.sl (Y6.code.map (cI .u8)), .i .i64 Y6.at_, .i .u64 Y6.seed], .vec 32 3 (w2.map Gv.c) false, .nest 60 (w3.map fun l=>l.map (cI .i64)) false, .box 27 [.own 2, .own 3]] [] (.i .i64 0) [.box 34 [.nils, .nils, .nils, .f .f32 Yl, .f .f32 Ym, .nils, .f .f32 Yn, .f .f32 Yo, .f .f32 Yp], .box 134 [.sl (Y6.code.map (cI .u8)), .i .i64 Y6.at_, .i .u64 Y6.seed], .vec 32 3 (w2.map Gv.c) false, .nest 60 (w3.map fun l=>l.map (cI .i64)) false, .box 27 [.own 2, .own 3]] func55 (sB h0<|sK [] sN) rfl (by kernel_rfl) (by kernel_rfl) ?_ ?_
  · simp only [Z0,h0,cond_true]
  · simp [Z0,h0]
 | false =>
  have gh0:=odf h0
  have y0:Y6.at_≤1152921504606846976:=(by omega)
  have l1:=(Z21 Y6)
  have p {a C} (s:Scr a C):=sB h0<|sS (Z3e Yl Ym Yn Yo Yp w2 w3 Y6 hp0 hp1 y0)<|s
  cases h1:(decide (YK > 200)) with
  | true =>
   have gh1:=odt h1
   have y1:(⟨Y6.code,(Z3 Y6).2.1,(Z3 Y6).2.2⟩:Gl00Src).code.length≤1073741824:=by clear p;exact (by assumption)
   have y2:0≤(⟨Y6.code,(Z3 Y6).2.1,(Z3 Y6).2.2⟩:Gl00Src).at_:=by clear p;exact (by simp_all<;>omega)
   have y3:(⟨Y6.code,(Z3 Y6).2.1,(Z3 Y6).2.2⟩:Gl00Src).at_≤1152921504606846976:=by clear p;exact (by simp_all<;>omega)
   have l2:=(Z21 (⟨Y6.code,(Z3 Y6).2.1,(Z3 Y6).2.2⟩:Gl00Src))
   have y4:YK≠0:=by clear p;exact (by omega)
   refine X8 (EpOk 5) Zg (c:=X2 f55) [.box 34 [.nils, .nils, .nils, .f .f32 Yl, .f .f32 Ym, .nils, .f .f32 Yn, .f .f32 Yo, .f .f32 Yp], .box 134 [.sl (Y6.code.map (cI .u8)), .i .i64 Y6.at_, .i .u64 Y6.seed], .vec 32 3 (w2.map Gv.c) false, .nest 60 (w3.map fun l=>l.map (cI .i64)) false, .box 27 [.own 2, .own 3]] [] (.i .i64 (Int.tmod (Zp Y6) YK)) [.box 34 [.nils, .nils, .nils, .f .f32 Yl, .f .f32 Ym, .nils, .f .f32 Yn, .f .f32 Yo, .f .f32 Yp], .box 134 [.sl (Y6.code.map (cI .u8)), .i .i64 ((Z3 (⟨Y6.code,(Z3 Y6).2.1,(Z3 Y6).2.2⟩:Gl00Src)).2.1), .i .u64 ((Z3 (⟨Y6.code,(Z3 Y6).2.1,(Z3 Y6).2.2⟩:Gl00Src)).2.2)], .vec 32 3 (w2.map Gv.c) false, .nest 60 (w3.map fun l=>l.map (cI .i64)) false, .box 27 [.own 2, .own 3]] func55 (p (sB h1<|sW .i64 ((Z3 Y6).1 * 256)<|sS (Z3e Yl Ym Yn Yo Yp w2 w3 (⟨Y6.code,(Z3 Y6).2.1,(Z3 Y6).2.2⟩:Gl00Src) y1 y2 y3)<|sM (show IntKind.wrap .i64 ((IntKind.wrap .i64 ((Z3 Y6).1 * 256)) + (Z3 (⟨Y6.code,(Z3 Y6).2.1,(Z3 Y6).2.2⟩:Gl00Src)).1)=(Zp Y6) from rfl)<|sC y4<|sQ (Int.tmod (Zp Y6) YK)<|sK [] sN)) rfl (by kernel_rfl) (by kernel_rfl) ?_ ?_
   · simp only [Z0,h0,h1,cond_true,cond_false]
   · simp [Z0,h0,h1]
  | false =>
   have gh1:=odf h1
   have y1:YK≠0:=by clear p;exact (by omega)
   refine X8 (EpOk 5) Zg (c:=X2 f55) [.box 34 [.nils, .nils, .nils, .f .f32 Yl, .f .f32 Ym, .nils, .f .f32 Yn, .f .f32 Yo, .f .f32 Yp], .box 134 [.sl (Y6.code.map (cI .u8)), .i .i64 Y6.at_, .i .u64 Y6.seed], .vec 32 3 (w2.map Gv.c) false, .nest 60 (w3.map fun l=>l.map (cI .i64)) false, .box 27 [.own 2, .own 3]] [] (.i .i64 (Int.tmod ((Z3 Y6).1) YK)) [.box 34 [.nils, .nils, .nils, .f .f32 Yl, .f .f32 Ym, .nils, .f .f32 Yn, .f .f32 Yo, .f .f32 Yp], .box 134 [.sl (Y6.code.map (cI .u8)), .i .i64 ((Z3 Y6).2.1), .i .u64 ((Z3 Y6).2.2)], .vec 32 3 (w2.map Gv.c) false, .nest 60 (w3.map fun l=>l.map (cI .i64)) false, .box 27 [.own 2, .own 3]] func55 (p (sB h1<|sC y1<|sQ (Int.tmod ((Z3 Y6).1) YK)<|sK [] sN)) rfl (by kernel_rfl) (by kernel_rfl) ?_ ?_
   · simp only [Z0,h0,h1,cond_false]
   · simp [Z0,h0,h1]
theorem Z3f (Yl:Nat) (Ym:Nat) (Yn:Nat) (Yo:Nat) (Yp:Nat) (w2:(List Gv)) (w3:(List (List Int))) (YW:Nat) (YX:Nat) (YY:Nat) (Y6:Gl00Src) (hp0:Y6.code.length≤1073741824) (hp1:0≤Y6.at_) (hp2:Y6.at_≤1152921504606846976)  : X9 prog 99 [.box 34 [.nils, .nils, .nils, .f .f32 Yl, .f .f32 Ym, .nils, .f .f32 Yn, .f .f32 Yo, .f .f32 Yp], .box 134 [.sl (Y6.code.map (cI .u8)), .i .i64 Y6.at_, .i .u64 Y6.seed], .vec 32 3 (w2.map Gv.c) false, .nest 60 (w3.map fun l=>l.map (cI .i64)) false, .box 27 [.own 2, .own 3], .box 32 [.f .f32 YW, .f .f32 YX, .f .f32 YY]] [.ptr 1 0 0] (.i .i64 ((Z3 Y6).1)) [.box 34 [.nils, .nils, .nils, .f .f32 Yl, .f .f32 Ym, .nils, .f .f32 Yn, .f .f32 Yo, .f .f32 Yp], .box 134 [.sl (Y6.code.map (cI .u8)), .i .i64 ((Z3 Y6).2.1), .i .u64 ((Z3 Y6).2.2)], .vec 32 3 (w2.map Gv.c) false, .nest 60 (w3.map fun l=>l.map (cI .i64)) false, .box 27 [.own 2, .own 3], .box 32 [.f .f32 YW, .f .f32 YX, .f .f32 YY]]:=by
 have p {a C} (s:Scr a C):=sK [9,9]<|sZ (cI .u8) Y6.code<|s
 cases h0:(decide (Y6.at_ < (Y6.code.length:Int))) with
 | true =>
  have gh0:=odt h0
  have y0:(0:Int)≤Y6.at_:=by clear p;exact (by assumption)
  have y1:Y6.at_ < (Y6.code.length:Int):=by clear p;exact (by assumption)
  have q {a C} (s:Scr a C):=p (sB h0<|sK [8,8]<|sG (cI .u8) Y6.code Y6.at_ y0 y1<|sW .i64 (Y6.code.getD Y6.at_.toNat default)<|sW .i64 (Y6.at_ + 1)<|sW .u64 (Y6.seed * 6364136223846793005)<|sW .u64 (IntKind.wrap .i64 (Y6.code.getD Y6.at_.toNat default))<|sW .u64 ((IntKind.wrap .u64 (Y6.seed * 6364136223846793005)) + (IntKind.wrap .u64 (IntKind.wrap .i64 (Y6.code.getD Y6.at_.toNat default))))<|sM (show IntKind.wrap .u64 ((IntKind.wrap .u64 ((IntKind.wrap .u64 (Y6.seed * 6364136223846793005)) + (IntKind.wrap .u64 (IntKind.wrap .i64 (Y6.code.getD Y6.at_.toNat default))))) + 1442695040888963407)=(Zf Y6) from rfl)<|sK [9,9]<|sZ (cI .u8) Y6.code<|s)
  clear p
  cases h1:(decide ((IntKind.wrap .i64 (Y6.at_ + 1))≤(Y6.code.length:Int))) with
  | true =>
   have gh1:=odt h1
   refine X8 (EpOk 6) Zg (c:=X2 f99) [.box 34 [.nils, .nils, .nils, .f .f32 Yl, .f .f32 Ym, .nils, .f .f32 Yn, .f .f32 Yo, .f .f32 Yp], .box 134 [.sl (Y6.code.map (cI .u8)), .i .i64 Y6.at_, .i .u64 Y6.seed], .vec 32 3 (w2.map Gv.c) false, .nest 60 (w3.map fun l=>l.map (cI .i64)) false, .box 27 [.own 2, .own 3], .box 32 [.f .f32 YW, .f .f32 YX, .f .f32 YY]] [] (.i .i64 (IntKind.wrap .i64 (Y6.code.getD Y6.at_.toNat default))) [.box 34 [.nils, .nils, .nils, .f .f32 Yl, .f .f32 Ym, .nils, .f .f32 Yn, .f .f32 Yo, .f .f32 Yp], .box 134 [.sl (Y6.code.map (cI .u8)), .i .i64 (IntKind.wrap .i64 (Y6.at_ + 1)), .i .u64 (Zf Y6)], .vec 32 3 (w2.map Gv.c) false, .nest 60 (w3.map fun l=>l.map (cI .i64)) false, .box 27 [.own 2, .own 3], .box 32 [.f .f32 YW, .f .f32 YX, .f .f32 YY]] func99 (q (sB h1<|sK [] sN)) rfl (by kernel_rfl) (by kernel_rfl) ?_ ?_
   · simp only [Z3,h0,h1,cond_true]
   · simp [Z3,h0,h1]
  | false =>
   have gh1:=odf h1
   refine X8 (EpOk 6) Zg (c:=X2 f99) [.box 34 [.nils, .nils, .nils, .f .f32 Yl, .f .f32 Ym, .nils, .f .f32 Yn, .f .f32 Yo, .f .f32 Yp], .box 134 [.sl (Y6.code.map (cI .u8)), .i .i64 Y6.at_, .i .u64 Y6.seed], .vec 32 3 (w2.map Gv.c) false, .nest 60 (w3.map fun l=>l.map (cI .i64)) false, .box 27 [.own 2, .own 3], .box 32 [.f .f32 YW, .f .f32 YX, .f .f32 YY]] [] (.i .i64 (IntKind.wrap .i64 (bitsOf .and .u64 (Int.fdiv (Zf Y6) (2 ^ (min (Int.toNat 40) (IntKind.bits .u64)))) 255))) [.box 34 [.nils, .nils, .nils, .f .f32 Yl, .f .f32 Ym, .nils, .f .f32 Yn, .f .f32 Yo, .f .f32 Yp], .box 134 [.sl (Y6.code.map (cI .u8)), .i .i64 (IntKind.wrap .i64 (Y6.at_ + 1)), .i .u64 (Zf Y6)], .vec 32 3 (w2.map Gv.c) false, .nest 60 (w3.map fun l=>l.map (cI .i64)) false, .box 27 [.own 2, .own 3], .box 32 [.f .f32 YW, .f .f32 YX, .f .f32 YY]] func99 (q (sB h1<|sC (show (0:Int)≤40 from (by decide))<|sQ (Int.fdiv (Zf Y6) (2 ^ (min (Int.toNat 40) (IntKind.bits .u64))))<|sQ (bitsOf .and .u64 (Int.fdiv (Zf Y6) (2 ^ (min (Int.toNat 40) (IntKind.bits .u64)))) 255)<|sW .i64 (bitsOf .and .u64 (Int.fdiv (Zf Y6) (2 ^ (min (Int.toNat 40) (IntKind.bits .u64)))) 255)<|sK [] sN)) rfl (by kernel_rfl) (by kernel_rfl) ?_ ?_
   · simp only [Z3,h0,h1,cond_true,cond_false]
   · simp [Z3,h0,h1]
 | false =>
  have gh0:=odf h0
  have q {a C} (s:Scr a C):=p (sB h0<|sW .i64 (Y6.at_ + 1)<|sW .u64 (Y6.seed * 6364136223846793005)<|sM (show IntKind.wrap .u64 0=0 from rfl)<|sW .u64 ((IntKind.wrap .u64 (Y6.seed * 6364136223846793005)) + 0)<|sW .u64 ((IntKind.wrap .u64 ((IntKind.wrap .u64 (Y6.seed * 6364136223846793005)) + 0)) + 1442695040888963407)<|sK [9,9]<|sZ (cI .u8) Y6.code<|s)
  clear p
  cases h1:(decide ((IntKind.wrap .i64 (Y6.at_ + 1))≤(Y6.code.length:Int))) with
  | true =>
   have gh1:=odt h1
   refine X8 (EpOk 6) Zg (c:=X2 f99) [.box 34 [.nils, .nils, .nils, .f .f32 Yl, .f .f32 Ym, .nils, .f .f32 Yn, .f .f32 Yo, .f .f32 Yp], .box 134 [.sl (Y6.code.map (cI .u8)), .i .i64 Y6.at_, .i .u64 Y6.seed], .vec 32 3 (w2.map Gv.c) false, .nest 60 (w3.map fun l=>l.map (cI .i64)) false, .box 27 [.own 2, .own 3], .box 32 [.f .f32 YW, .f .f32 YX, .f .f32 YY]] [] (.i .i64 0) [.box 34 [.nils, .nils, .nils, .f .f32 Yl, .f .f32 Ym, .nils, .f .f32 Yn, .f .f32 Yo, .f .f32 Yp], .box 134 [.sl (Y6.code.map (cI .u8)), .i .i64 (IntKind.wrap .i64 (Y6.at_ + 1)), .i .u64 (IntKind.wrap .u64 ((IntKind.wrap .u64 ((IntKind.wrap .u64 (Y6.seed * 6364136223846793005)) + 0)) + 1442695040888963407))], .vec 32 3 (w2.map Gv.c) false, .nest 60 (w3.map fun l=>l.map (cI .i64)) false, .box 27 [.own 2, .own 3], .box 32 [.f .f32 YW, .f .f32 YX, .f .f32 YY]] func99 (q (sB h1<|sK [] sN)) rfl (by kernel_rfl) (by kernel_rfl) ?_ ?_
   · simp only [Z3,h0,h1,cond_true,cond_false]
   · simp [Z3,h0,h1]
  | false =>
   have gh1:=odf h1
   refine X8 (EpOk 6) Zg (c:=X2 f99) [.box 34 [.nils, .nils, .nils, .f .f32 Yl, .f .f32 Ym, .nils, .f .f32 Yn, .f .f32 Yo, .f .f32 Yp], .box 134 [.sl (Y6.code.map (cI .u8)), .i .i64 Y6.at_, .i .u64 Y6.seed], .vec 32 3 (w2.map Gv.c) false, .nest 60 (w3.map fun l=>l.map (cI .i64)) false, .box 27 [.own 2, .own 3], .box 32 [.f .f32 YW, .f .f32 YX, .f .f32 YY]] [] (.i .i64 (IntKind.wrap .i64 (bitsOf .and .u64 (Int.fdiv (IntKind.wrap .u64 ((IntKind.wrap .u64 ((IntKind.wrap .u64 (Y6.seed * 6364136223846793005)) + 0)) + 1442695040888963407)) (2 ^ (min (Int.toNat 40) (IntKind.bits .u64)))) 255))) [.box 34 [.nils, .nils, .nils, .f .f32 Yl, .f .f32 Ym, .nils, .f .f32 Yn, .f .f32 Yo, .f .f32 Yp], .box 134 [.sl (Y6.code.map (cI .u8)), .i .i64 (IntKind.wrap .i64 (Y6.at_ + 1)), .i .u64 (IntKind.wrap .u64 ((IntKind.wrap .u64 ((IntKind.wrap .u64 (Y6.seed * 6364136223846793005)) + 0)) + 1442695040888963407))], .vec 32 3 (w2.map Gv.c) false, .nest 60 (w3.map fun l=>l.map (cI .i64)) false, .box 27 [.own 2, .own 3], .box 32 [.f .f32 YW, .f .f32 YX, .f .f32 YY]] func99 (q (sB h1<|sC (show (0:Int)≤40 from (by decide))<|sQ (Int.fdiv (IntKind.wrap .u64 ((IntKind.wrap .u64 ((IntKind.wrap .u64 (Y6.seed * 6364136223846793005)) + 0)) + 1442695040888963407)) (2 ^ (min (Int.toNat 40) (IntKind.bits .u64))))<|sQ (bitsOf .and .u64 (Int.fdiv (IntKind.wrap .u64 ((IntKind.wrap .u64 ((IntKind.wrap .u64 (Y6.seed * 6364136223846793005)) + 0)) + 1442695040888963407)) (2 ^ (min (Int.toNat 40) (IntKind.bits .u64)))) 255)<|sW .i64 (bitsOf .and .u64 (Int.fdiv (IntKind.wrap .u64 ((IntKind.wrap .u64 ((IntKind.wrap .u64 (Y6.seed * 6364136223846793005)) + 0)) + 1442695040888963407)) (2 ^ (min (Int.toNat 40) (IntKind.bits .u64)))) 255)<|sK [] sN)) rfl (by kernel_rfl) (by kernel_rfl) ?_ ?_
   · simp only [Z3,h0,h1,cond_false]
   · simp [Z3,h0,h1]
theorem Z3g (Yl:Nat) (Ym:Nat) (Yn:Nat) (Yo:Nat) (Yp:Nat) (w2:(List Gv)) (w3:(List (List Int))) (YW:Nat) (YX:Nat) (YY:Nat) (Y6:Gl00Src) (YK:Int) (hp0:Y6.code.length≤1073741824) (hp1:0≤Y6.at_) (hp2:Y6.at_≤1152921504606846970)  : X9 prog 55 [.box 34 [.nils, .nils, .nils, .f .f32 Yl, .f .f32 Ym, .nils, .f .f32 Yn, .f .f32 Yo, .f .f32 Yp], .box 134 [.sl (Y6.code.map (cI .u8)), .i .i64 Y6.at_, .i .u64 Y6.seed], .vec 32 3 (w2.map Gv.c) false, .nest 60 (w3.map fun l=>l.map (cI .i64)) false, .box 27 [.own 2, .own 3], .box 32 [.f .f32 YW, .f .f32 YX, .f .f32 YY]] [.ptr 1 0 0, .i .i64 YK] (.i .i64 ((Z0 Y6 YK).1)) [.box 34 [.nils, .nils, .nils, .f .f32 Yl, .f .f32 Ym, .nils, .f .f32 Yn, .f .f32 Yo, .f .f32 Yp], .box 134 [.sl (Y6.code.map (cI .u8)), .i .i64 ((Z0 Y6 YK).2.1), .i .u64 ((Z0 Y6 YK).2.2)], .vec 32 3 (w2.map Gv.c) false, .nest 60 (w3.map fun l=>l.map (cI .i64)) false, .box 27 [.own 2, .own 3], .box 32 [.f .f32 YW, .f .f32 YX, .f .f32 YY]]:=by
 cases h0:(decide (YK≤1)) with
 | true =>
  have gh0:=odt h0
  refine X8 (EpOk 6) Zg (c:=X2 f55) [.box 34 [.nils, .nils, .nils, .f .f32 Yl, .f .f32 Ym, .nils, .f .f32 Yn, .f .f32 Yo, .f .f32 Yp], .box 134 [.sl (Y6.code.map (cI .u8)), .i .i64 Y6.at_, .i .u64 Y6.seed], .vec 32 3 (w2.map Gv.c) false, .nest 60 (w3.map fun l=>l.map (cI .i64)) false, .box 27 [.own 2, .own 3], .box 32 [.f .f32 YW, .f .f32 YX, .f .f32 YY]] [] (.i .i64 0) [.box 34 [.nils, .nils, .nils, .f .f32 Yl, .f .f32 Ym, .nils, .f .f32 Yn, .f .f32 Yo, .f .f32 Yp], .box 134 [.sl (Y6.code.map (cI .u8)), .i .i64 Y6.at_, .i .u64 Y6.seed], .vec 32 3 (w2.map Gv.c) false, .nest 60 (w3.map fun l=>l.map (cI .i64)) false, .box 27 [.own 2, .own 3], .box 32 [.f .f32 YW, .f .f32 YX, .f .f32 YY]] func55 (sB h0<|sK [] sN) rfl (by kernel_rfl) (by kernel_rfl) ?_ ?_
  · simp only [Z0,h0,cond_true]
  · simp [Z0,h0]
 | false =>
  have gh0:=odf h0
  have y0:Y6.at_≤1152921504606846976:=(by omega)
  have l1:=(Z21 Y6)
  have p {a C} (s:Scr a C):=sB h0<|sS (Z3f Yl Ym Yn Yo Yp w2 w3 YW YX YY Y6 hp0 hp1 y0)<|s
  cases h1:(decide (YK > 200)) with
  | true =>
   have gh1:=odt h1
   have y1:(⟨Y6.code,(Z3 Y6).2.1,(Z3 Y6).2.2⟩:Gl00Src).code.length≤1073741824:=by clear p;exact (by assumption)
   have y2:0≤(⟨Y6.code,(Z3 Y6).2.1,(Z3 Y6).2.2⟩:Gl00Src).at_:=by clear p;exact (by simp_all<;>omega)
   have y3:(⟨Y6.code,(Z3 Y6).2.1,(Z3 Y6).2.2⟩:Gl00Src).at_≤1152921504606846976:=by clear p;exact (by simp_all<;>omega)
   have l2:=(Z21 (⟨Y6.code,(Z3 Y6).2.1,(Z3 Y6).2.2⟩:Gl00Src))
   have y4:YK≠0:=by clear p;exact (by omega)
   refine X8 (EpOk 6) Zg (c:=X2 f55) [.box 34 [.nils, .nils, .nils, .f .f32 Yl, .f .f32 Ym, .nils, .f .f32 Yn, .f .f32 Yo, .f .f32 Yp], .box 134 [.sl (Y6.code.map (cI .u8)), .i .i64 Y6.at_, .i .u64 Y6.seed], .vec 32 3 (w2.map Gv.c) false, .nest 60 (w3.map fun l=>l.map (cI .i64)) false, .box 27 [.own 2, .own 3], .box 32 [.f .f32 YW, .f .f32 YX, .f .f32 YY]] [] (.i .i64 (Int.tmod (Zp Y6) YK)) [.box 34 [.nils, .nils, .nils, .f .f32 Yl, .f .f32 Ym, .nils, .f .f32 Yn, .f .f32 Yo, .f .f32 Yp], .box 134 [.sl (Y6.code.map (cI .u8)), .i .i64 ((Z3 (⟨Y6.code,(Z3 Y6).2.1,(Z3 Y6).2.2⟩:Gl00Src)).2.1), .i .u64 ((Z3 (⟨Y6.code,(Z3 Y6).2.1,(Z3 Y6).2.2⟩:Gl00Src)).2.2)], .vec 32 3 (w2.map Gv.c) false, .nest 60 (w3.map fun l=>l.map (cI .i64)) false, .box 27 [.own 2, .own 3], .box 32 [.f .f32 YW, .f .f32 YX, .f .f32 YY]] func55 (p (sB h1<|sW .i64 ((Z3 Y6).1 * 256)<|sS (Z3f Yl Ym Yn Yo Yp w2 w3 YW YX YY (⟨Y6.code,(Z3 Y6).2.1,(Z3 Y6).2.2⟩:Gl00Src) y1 y2 y3)<|sM (show IntKind.wrap .i64 ((IntKind.wrap .i64 ((Z3 Y6).1 * 256)) + (Z3 (⟨Y6.code,(Z3 Y6).2.1,(Z3 Y6).2.2⟩:Gl00Src)).1)=(Zp Y6) from rfl)<|sC y4<|sQ (Int.tmod (Zp Y6) YK)<|sK [] sN)) rfl (by kernel_rfl) (by kernel_rfl) ?_ ?_
   · simp only [Z0,h0,h1,cond_true,cond_false]
   · simp [Z0,h0,h1]
  | false =>
   have gh1:=odf h1
   have y1:YK≠0:=by clear p;exact (by omega)
   refine X8 (EpOk 6) Zg (c:=X2 f55) [.box 34 [.nils, .nils, .nils, .f .f32 Yl, .f .f32 Ym, .nils, .f .f32 Yn, .f .f32 Yo, .f .f32 Yp], .box 134 [.sl (Y6.code.map (cI .u8)), .i .i64 Y6.at_, .i .u64 Y6.seed], .vec 32 3 (w2.map Gv.c) false, .nest 60 (w3.map fun l=>l.map (cI .i64)) false, .box 27 [.own 2, .own 3], .box 32 [.f .f32 YW, .f .f32 YX, .f .f32 YY]] [] (.i .i64 (Int.tmod ((Z3 Y6).1) YK)) [.box 34 [.nils, .nils, .nils, .f .f32 Yl, .f .f32 Ym, .nils, .f .f32 Yn, .f .f32 Yo, .f .f32 Yp], .box 134 [.sl (Y6.code.map (cI .u8)), .i .i64 ((Z3 Y6).2.1), .i .u64 ((Z3 Y6).2.2)], .vec 32 3 (w2.map Gv.c) false, .nest 60 (w3.map fun l=>l.map (cI .i64)) false, .box 27 [.own 2, .own 3], .box 32 [.f .f32 YW, .f .f32 YX, .f .f32 YY]] func55 (p (sB h1<|sC y1<|sQ (Int.tmod ((Z3 Y6).1) YK)<|sK [] sN)) rfl (by kernel_rfl) (by kernel_rfl) ?_ ?_
   · simp only [Z0,h0,h1,cond_false]
   · simp [Z0,h0,h1]
def Z1y (Yx:Gv) (Yy:Gv):Gv:=(⟨(fop .add .f32 Yx.X Yy.X),(fop .add .f32 Yx.Y Yy.Y),(fop .add .f32 Yx.Z Yy.Z)⟩:Gv)
theorem Z7J (Yx:Gv) (Yy:Gv)   : Fn prog 57 [.agg [.f .f32 Yx.X, .f .f32 Yx.Y, .f .f32 Yx.Z], .agg [.f .f32 Yy.X, .f .f32 Yy.Y, .f .f32 Yy.Z]] (.agg [.f .f32 ((Z1y Yx Yy).X), .f .f32 ((Z1y Yx Yy).Y), .f .f32 ((Z1y Yx Yy).Z)]) []:=by
 refine fnS E0Ok Zg (c:=X2 f57) [] (.agg [.f .f32 (fop .add .f32 Yx.X Yy.X), .f .f32 (fop .add .f32 Yx.Y Yy.Y), .f .f32 (fop .add .f32 Yx.Z Yy.Z)]) [] func57 (sK [] sN) rfl (by kernel_rfl) (by kernel_rfl) rfl ?_ ?_
 · rfl
 · rfl
def Z3Z (YP:(List Int)):(List Int):=(([]:List Int) ++ YP)
theorem Z7K (YP:(List Int)) (hp0:YP.length≤1073741824)  : Fn prog 108 [.sl (YP.map (cI .i64))] (.own 0) [.vec 2 1 ((Z3Z YP).map (cI .i64)) false]:=by
 have y0:([]:List Int).length + YP.length≤1073741824:=(by simp_all<;>omega)
 refine fnS E0Ok Zg (c:=X2 f108) [] (.own 0) [.vec 2 1 (([]:List (List AV)) ++ (YP.map (cI .i64))) false] func108 (sC (show ([]:List (List AV)).length + (YP.map (cI .i64)).length≤1073741824 from (by simpa using y0))<|sC (show (YP.map (cI .i64)).all (fun cs=>cs.length == 1 && cs.all isS)=true from (X3d (fun _=>rfl)))<|sK [0] sN) rfl (by kernel_rfl) (by kernel_rfl) rfl ?_ ?_
 · rfl
 · simp [Z3Z,cI]
@[simp] theorem Z8t (l:List Int):Z3Z l=l:=by simp [Z3Z]
theorem Z7L (YP:(List Int)) (hp0:YP.length≤1073741824):Fn prog 108 [.sl (YP.map (cI .i64))] (.own 0) [.vec 2 1 (YP.map (cI .i64)) false]:=by
 simpa only [Z8t] using Z7K  YP hp0
def Z1u (Y4:Gm):Nat→Int→(List (List Int))→(List (List Int))
  | 0,_,_=>default
  | k + 1,Yg,Yh=>(cond (decide (Yg < (Y4.Tr.length:Int)))
    (Z1u Y4 k (Yg + 1) (Yh ++ [(Y4.Tr.getD Yg.toNat default)]))
    Yh)
def Z41 (Y4:Gm) (r:(List (List Int))):Ex × St:=((.exit 0),⟨.ref (Gm.c Y4) 0 :: .any :: .ptr 0 0 0 :: .ptr 1 0 0 :: .any :: .any :: .ref (Gm.c Y4) 0 :: .ref (Gm.c Y4) 0 :: .ref (Gm.c Y4) 0 :: .sl (Y4.Pq.map Gv.c) :: .own 2 :: an 25 [],[.box 27 [.nils, .nils], .box 27 [.own 2, .own 3], .vec 32 3 (([]:List (List AV)) ++ (Y4.Pq.map Gv.c)) false, .nest 60 (r.map fun l=>l.map (cI .i64)) false]⟩)
def Z42 (Y4:Gm) (Yg:Int) (Yh:(List (List Int))):St:=⟨.ref (Gm.c Y4) 0 :: .any :: .ptr 0 0 0 :: .ptr 3 0 0 :: .i .i64 Yg :: .any :: .ref (Gm.c Y4) 0 :: .ref (Gm.c Y4) 0 :: .ref (Gm.c Y4) 0 :: .sl (Y4.Pq.map Gv.c) :: .own 1 :: an 25 [],[.box 27 [.nils, .nils], .vec 32 3 (([]:List (List AV)) ++ (Y4.Pq.map Gv.c)) false, .nest 60 (Yh.map fun l=>l.map (cI .i64)) false, .box 27 [.own 1, .own 2]]⟩
theorem Z6Y (Y4:Gm) (hp0:Y4.Pq.length≤1073741824) (hp1:Y4.Tr.length≤1073741824) (hp2:∀ t∈Y4.Tr,t.length≤1073741824):∀ (k:Nat) (Yg:Int) (Yh:(List (List Int))) (Z4T:0≤Yg) (Z4U:(Yh.length:Int)=Yg) (hk:((Y4.Tr.length:Int) - Yg).toNat < k),Lp prog 0 (sub (X2 f67) [1,1,0,1,0,0]) (Z42 Y4 Yg Yh) (Z41 Y4 (Z1u Y4 k Yg Yh)).1 (Z41 Y4 (Z1u Y4 k Yg Yh)).2:=by
 intro k
 induction k with
 | zero=>intro Yg Yh Z4T Z4U hk;exact absurd hk (Nat.not_lt_zero _)
 | succ k ih =>
  intro Yg Yh Z4T Z4U hk
  have p {a C} (s:Scr a C):=sZ (cL (cI .i64)) Y4.Tr<|s
  cases Yr:(decide (Yg < (Y4.Tr.length:Int))) with
  | true =>
   have YM:=odt Yr
   have YU:(0:Int)≤Yg:=by clear p;exact (by assumption)
   have YR:Yg < (Y4.Tr.length:Int):=by clear p;exact (by assumption)
   have y_2:(Y4.Tr.getD Yg.toNat default).length≤1073741824:=by clear p;exact (by simp_all<;>omega)
   have YV:Yh.length + [(Y4.Tr.getD Yg.toNat default)].length≤1073741824:=by clear p;exact (by simp_all<;>omega)
   have y_4:(-9223372036854775808:Int)≤(Yg + 1):=by clear p;exact (by omega)
   have y_5:(Yg + 1)≤(9223372036854775807:Int):=by clear p;exact (by omega)
   have e:Z1u Y4 (k + 1) Yg Yh=(Z1u Y4 k (Yg + 1) (Yh ++ [(Y4.Tr.getD Yg.toNat default)])):=by simp only [Z1u,Yr,cond_true]
   rw [e]
   exact XD E0Ok Zg [] (mR false [0,1,1,3,1,5,25]) [0,1,2,3] (⟨.ref (Gm.c Y4) 0 :: .any :: .ptr 0 0 0 :: .ptr 3 0 0 :: .i .i64 (Yg + 1) :: .any :: .ref (Gm.c Y4) 0 :: .ref (Gm.c Y4) 0 :: .ref (Gm.c Y4) 0 :: .sl (Y4.Pq.map Gv.c) :: .own 1 :: an 25 [],[.box 27 [.nils, .nils], .vec 32 3 (([]:List (List AV)) ++ (Y4.Pq.map Gv.c)) false, .nest 60 ((Yh.map fun l=>l.map (cI .i64)) ++ [((Y4.Tr.getD Yg.toNat default).map (cI .i64))]) false, .box 27 [.own 1, .own 2]]⟩) (p (sB Yr<|sK [11,11]<|sG (cL (cI .i64)) Y4.Tr Yg YU YR<|sF (Z7L (Y4.Tr.getD Yg.toNat default) y_2)<|sC (show (Yh.map fun l=>l.map (cI .i64)).length + [((Y4.Tr.getD Yg.toNat default).map (cI .i64))].length≤1073741824 from (by simpa using YV))<|sI (Yg + 1) y_4 y_5<|sN)) (by kernel_rfl) (by simp [Z42,Gv.c,cL,cI]) (ih (Yg + 1) (Yh ++ [(Y4.Tr.getD Yg.toNat default)]) (show 0≤(Yg + 1) from (by omega)) (show ((Yh ++ [(Y4.Tr.getD Yg.toNat default)]).length:Int)=(Yg + 1) from (by simp_all<;>omega)) (by omega))
  | false =>
   have YM:=odf Yr
   have e:Z1u Y4 (k + 1) Yg Yh=Yh:=by simp only [Z1u,Yr,cond_false]
   rw [e]
   exact outR (e:=(.exit 0)) E0Ok Zg [] (mR false [0,1,1,2,2,5,25]) [0,3,1,2] (p (sB Yr<|sN)) (by kernel_rfl) (by intro h;cases h)
def Z2B (Y4:Gm):(List (List Int)):=(Z1u Y4 (((Y4.Tr.length:Int) - 0).toNat + 1) 0 ([]:List (List Int)))
def Z2Z (Y4:Gm):Gm:=(⟨(([]:List Gv) ++ Y4.Pq),(Z2B Y4)⟩:Gm)
theorem Z7M (Y4:Gm) (hp0:Y4.Pq.length≤1073741824) (hp1:Y4.Tr.length≤1073741824) (hp2:∀ t∈Y4.Tr,t.length≤1073741824)  : Fn prog 67 [.ref (Gm.c Y4) 0] (.agg [.own 0, .own 1]) [.vec 32 3 (((Z2Z Y4).Pq).map Gv.c) false, .nest 60 (((Z2Z Y4).Tr).map fun l=>l.map (cI .i64)) false]:=by
 have y0:([]:List Gv).length + Y4.Pq.length≤1073741824:=(by simp_all<;>omega)
 refine fnS E0Ok Zg (c:=X2 f67) [] (.agg [.own 0, .own 1]) [.vec 32 3 (([]:List (List AV)) ++ (Y4.Pq.map Gv.c)) false, .nest 60 ((Z2B Y4).map fun l=>l.map (cI .i64)) false] func67 (sC (show ([]:List (List AV)).length + (Y4.Pq.map Gv.c).length≤1073741824 from (by simpa using y0))<|sC (show (Y4.Pq.map Gv.c).all (fun cs=>cs.length == 3 && cs.all isS)=true from (X3d (fun _=>rfl)))<|sL (mR false [0,1,1,3,1,5,25]) 4 (X13 (st2:=⟨.ref (Gm.c Y4) 0 :: .any :: .ptr 0 0 0 :: .ptr 3 0 0 :: .i .i64 0 :: .any :: .ref (Gm.c Y4) 0 :: .ref (Gm.c Y4) 0 :: .ref (Gm.c Y4) 0 :: .sl (Y4.Pq.map Gv.c) :: .own 1 :: an 25 [],[.box 27 [.nils, .nils], .vec 32 3 (([]:List (List AV)) ++ (Y4.Pq.map Gv.c)) false, .nest 60 [] false, .box 27 [.own 1, .own 2]]⟩) (Xc (Z41 Y4) (x:=(Z2B Y4)) (Z6Y Y4 hp0 hp1 hp2 (((Y4.Tr.length:Int) - 0).toNat + 1) 0 ([]:List (List Int)) (show 0≤0 from (by omega)) (show (([]:List (List Int)).length:Int)=0 from (by simp)) (Nat.lt_succ_self _)) rfl) (by simp [Z42,Gv.c,cL,cI]))<|sK [2,3] sN) rfl (by kernel_rfl) (by kernel_rfl) rfl ?_ ?_
 · rfl
 · simp [Z2Z,Gv.c]
@[simp] theorem Z8u (m:Gm):Z2Z m=m:=by
  unfold Z2Z Z2B
  rw [X1k (f:=fun i=>(m.Tr.getD i.toNat default)) (n:=(m.Tr.length:Int)) (lo:=Z1u m) (fun k i r=>rfl) _ _ _ (Nat.lt_succ_self _)]
  simp [X4e]
theorem Z7N (Y4:Gm) (hp0:Y4.Pq.length≤1073741824) (hp1:Y4.Tr.length≤1073741824) (hp2:∀ t∈Y4.Tr,t.length≤1073741824):Fn prog 67 [.ref (Gm.c Y4) 0] (.agg [.own 0, .own 1]) [.vec 32 3 (Y4.Pq.map Gv.c) false, .nest 60 (Y4.Tr.map fun l=>l.map (cI .i64)) false]:=by
 simpa only [Z8u] using Z7M  Y4 hp0 hp1 hp2
def Zd (Y4:Gm):Gb:=(⟨Y4,([]:List Gs),0,0,(List.replicate (Y4.Pq.length:Int).toNat 0),(⟨0,0,0⟩:Gv)⟩:Gb)
theorem Z6Z (m:Gm):(Zd m).Me.Pq.length≤m.Pq.length:=by
  unfold Zd
  simp
theorem Z70 (m:Gm):(Zd m).Me.Tr.length≤m.Tr.length:=by
  unfold Zd
  simp
theorem Z71 (m:Gm):(Zd m).We.length≤m.Pq.length:=by
  unfold Zd
  simp
theorem Z72 (m:Gm):(Zd m).Sp.length≤0:=by
  unfold Zd
  simp
theorem Z7u (Y4:Gm) (hp0:Y4.Pq.length≤1073741824) (hp1:Y4.Tr.length≤1073741824) (hp2:∀ t∈Y4.Tr,t.length≤1073741824)  : Fn prog 58 [.ref (Gm.c Y4) 0] (.agg [.own 0, .own 1, .own 2, .f .f32 ((Zd Y4).Film), .f .f32 ((Zd Y4).Bend), .own 3, .f .f32 ((Zd Y4).Fall.X), .f .f32 ((Zd Y4).Fall.Y), .f .f32 ((Zd Y4).Fall.Z)]) [.vec 32 3 (((Zd Y4).Me.Pq).map Gv.c) false, .nest 60 (((Zd Y4).Me.Tr).map fun l=>l.map (cI .i64)) false, .vec 76 4 (((Zd Y4).Sp).map Gs.c) false, .vec 29 1 (((Zd Y4).We).map (cF .f32)) false]:=by
 have y0:(0:Int)≤(Y4.Pq.length:Int):=(by omega)
 have y1:((Y4.Pq.length:Int):Int)≤2147483648:=(by omega)
 refine fnS E0Ok Zg (c:=X2 f58) [] (.agg [.own 0, .own 1, .own 2, .f .f32 0, .f .f32 0, .own 3, .f .f32 0, .f .f32 0, .f .f32 0]) [.vec 32 3 (Y4.Pq.map Gv.c) false, .nest 60 (Y4.Tr.map fun l=>l.map (cI .i64)) false, .vec 76 4 ([]:List (List AV)) false, .vec 29 1 (List.replicate (Int.toNat (Y4.Pq.length:Int)) [.f .f32 0]) false] func58 (sK [9,9]<|sF (Z7N Y4 hp0 hp1 hp2)<|sZ Gv.c Y4.Pq<|sC (show (Y4.Pq.length:Int)=(Y4.Pq.length:Int) from rfl)<|sC y0<|sC y1<|sK [1,2,3,4] sN) rfl (by kernel_rfl) (by kernel_rfl) rfl ?_ ?_
 · rfl
 · simp [Zd,Gs.c,cF]
def Z1z (Yx:Int) (Yy:Int):Int:=(cond (decide (Yx < Yy))
  Yx
  Yy)
theorem Z7O (Yx:Int) (Yy:Int)   : Fn prog 100 [.i .i64 Yx, .i .i64 Yy] (.i .i64 (Z1z Yx Yy)) []:=by
 cases h0:(decide (Yx < Yy)) with
 | true =>
  have gh0:=odt h0
  refine fnS E0Ok Zg (c:=X2 f100) [] (.i .i64 Yx) [] func100 (sB h0<|sK [] sN) rfl (by kernel_rfl) (by kernel_rfl) rfl ?_ ?_
  · simp only [Z1z,h0,cond_true]
  · rfl
 | false =>
  have gh0:=odf h0
  refine fnS E0Ok Zg (c:=X2 f100) [] (.i .i64 Yy) [] func100 (sB h0<|sK [] sN) rfl (by kernel_rfl) (by kernel_rfl) rfl ?_ ?_
  · simp only [Z1z,h0,cond_false]
  · rfl
theorem Z5s {a b n:Int} (h1:0≤a∧a < n) (h2:0≤b∧b < n):0≤Z1z a b∧Z1z a b < n:=by
  unfold Z1z;cases decide (a < b)<;>simp only [cond_true,cond_false]<;>omega
def Z1A (Yx:Int) (Yy:Int):Int:=(cond (decide (Yx > Yy))
  Yx
  Yy)
theorem Z7P (Yx:Int) (Yy:Int)   : Fn prog 101 [.i .i64 Yx, .i .i64 Yy] (.i .i64 (Z1A Yx Yy)) []:=by
 cases h0:(decide (Yx > Yy)) with
 | true =>
  have gh0:=odt h0
  refine fnS E0Ok Zg (c:=X2 f101) [] (.i .i64 Yx) [] func101 (sB h0<|sK [] sN) rfl (by kernel_rfl) (by kernel_rfl) rfl ?_ ?_
  · simp only [Z1A,h0,cond_true]
  · rfl
 | false =>
  have gh0:=odf h0
  refine fnS E0Ok Zg (c:=X2 f101) [] (.i .i64 Yy) [] func101 (sB h0<|sK [] sN) rfl (by kernel_rfl) (by kernel_rfl) rfl ?_ ?_
  · simp only [Z1A,h0,cond_false]
  · rfl
theorem Z5t {a b n:Int} (h1:0≤a∧a < n) (h2:0≤b∧b < n):0≤Z1A a b∧Z1A a b < n:=by
  unfold Z1A;cases decide (a > b)<;>simp only [cond_true,cond_false]<;>omega
theorem Z5P (a b:Int):(⟨Z1z a b,Z1A a b⟩:Gedge)=mkE a b:=by
  unfold Z1z Z1A mkE
  by_cases h:a < b
  · rw [decide_eq_true h,decide_eq_false (by omega),if_pos (by omega)];rfl
  · rw [decide_eq_false h]
    by_cases h2:a > b
    · rw [decide_eq_true h2,if_neg (by omega)];rfl
    · rw [decide_eq_false h2,show a=b from by omega,if_pos (by omega)];rfl
def ZT (Y4:Gm) (Yg:Int) (Yz:Int):Int:=(Z1z ((Y4.Tr.getD Yg.toNat default).getD Yz.toNat default) ((Y4.Tr.getD Yg.toNat default).getD (Int.tmod (Yz + 1) 3).toNat default))
def ZY (Y4:Gm) (Yg:Int) (Yz:Int):Int:=(Z1A ((Y4.Tr.getD Yg.toNat default).getD Yz.toNat default) ((Y4.Tr.getD Yg.toNat default).getD (Int.tmod (Yz + 1) 3).toNat default))
def ZE (Y4:Gm) (Yg:Int) (Yu:(List Bool)):Nat→Int→(List Bool)→(List Bool)
  | 0,_,_=>default
  | k + 1,Yz,Yv=>(cond (decide (Yz < 3))
    (ZE Y4 Yg Yu k (Yz + 1) (Yv.set ((IntKind.wrap .i64 ((IntKind.wrap .i64 ((ZT Y4 Yg Yz) * (Y4.Pq.length:Int))) + (ZY Y4 Yg Yz))).toNat) true))
    Yv)
def Z3h (Y4:Gm) (Yg:Int) (Yu:(List Bool)) (r:(List Bool)):Ex × St:=((.exit 2),⟨.ref (Gm.c Y4) 0 :: .any :: .nils :: .i .i64 (Y4.Pq.length:Int) :: .own 0 :: .i .i64 Yg :: .sl ((Y4.Tr.getD Yg.toNat default).map (cI .i64)) :: an 6 (.ref (Gm.c Y4) 0 :: .ref (Gm.c Y4) 0 :: .ref (Gm.c Y4) 0 :: .sl (Y4.Pq.map Gv.c) :: .i .i64 (Y4.Pq.length:Int) :: .i .i64 (Y4.Pq.length:Int) :: .i .i64 (Y4.Pq.length:Int) :: .i .i64 (IntKind.wrap .i64 ((Y4.Pq.length:Int) * (Y4.Pq.length:Int))) :: .own 0 :: .i .i64 Yg :: .ref (Gm.c Y4) 0 :: .ref (Gm.c Y4) 0 :: .ref (Gm.c Y4) 1 :: .sl (Y4.Tr.map (cL (cI .i64))) :: .i .i64 (Y4.Tr.length:Int) :: .b (decide (Yg < (Y4.Tr.length:Int))) :: .any :: .any :: .ref (Gm.c Y4) 0 :: .ref (Gm.c Y4) 0 :: .ref (Gm.c Y4) 1 :: .sl (Y4.Tr.map (cL (cI .i64))) :: .i .i64 Yg :: .ref [.sl ((Y4.Tr.getD Yg.toNat default).map (cI .i64))] 0 :: .sl ((Y4.Tr.getD Yg.toNat default).map (cI .i64)) :: an 53 []),[.vec 4 1 (r.map cB) false]⟩)
def Z4V (Y4:Gm) (Yg:Int) (Yu:(List Bool)) (Yz:Int) (Yv:(List Bool)):St:=⟨.ref (Gm.c Y4) 0 :: .any :: .nils :: .i .i64 (Y4.Pq.length:Int) :: .own 0 :: .i .i64 Yg :: .sl ((Y4.Tr.getD Yg.toNat default).map (cI .i64)) :: .i .i64 Yz :: an 5 (.ref (Gm.c Y4) 0 :: .ref (Gm.c Y4) 0 :: .ref (Gm.c Y4) 0 :: .sl (Y4.Pq.map Gv.c) :: .i .i64 (Y4.Pq.length:Int) :: .i .i64 (Y4.Pq.length:Int) :: .i .i64 (Y4.Pq.length:Int) :: .i .i64 (IntKind.wrap .i64 ((Y4.Pq.length:Int) * (Y4.Pq.length:Int))) :: .own 0 :: .i .i64 Yg :: .ref (Gm.c Y4) 0 :: .ref (Gm.c Y4) 0 :: .ref (Gm.c Y4) 1 :: .sl (Y4.Tr.map (cL (cI .i64))) :: .i .i64 (Y4.Tr.length:Int) :: .b (decide (Yg < (Y4.Tr.length:Int))) :: .any :: .any :: .ref (Gm.c Y4) 0 :: .ref (Gm.c Y4) 0 :: .ref (Gm.c Y4) 1 :: .sl (Y4.Tr.map (cL (cI .i64))) :: .i .i64 Yg :: .ref [.sl ((Y4.Tr.getD Yg.toNat default).map (cI .i64))] 0 :: .sl ((Y4.Tr.getD Yg.toNat default).map (cI .i64)) :: an 53 []),[.vec 4 1 (Yv.map cB) false]⟩
def Z4m:List Bool:=(mR false [0,1,1,6,5,16,2,7,53])
end Go.Ab
