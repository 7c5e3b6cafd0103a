/- The functions of this seat as plain Lean, and that the program's are these. Printed by a program of the prover's own. -/
import Derived.Test.YtpndflbllggeiaaGreatB8
set_option linter.unusedVariables false
set_option linter.unusedSimpArgs false
set_option maxRecDepth 100000
namespace Go.Ab
open Go.RowKit Go.Proofs.Tryz
theorem Zdz (Y0:Gb):∀ (k:Nat) (Y1:Int) (Yl:(List Gv)) (hk:((Y0.Sp.length:Int) - Y1).toNat < k),(Z1L Y0 k Y1 Yl).length=Yl.length:=by
  intro k
  induction k with
  | zero=>intro Y1 Yl hk;exact absurd hk (Nat.not_lt_zero _)
  | succ k ih =>
    intro Y1 Yl hk
    cases Yv:(decide (Y1 < (Y0.Sp.length:Int))) with
    | true =>
      have e:Z1L Y0 (k + 1) Y1 Yl=(Z1L Y0 k (Y1 + 1) (Z3W Y0 Y1 Yl)):=by simp only [Z1L,Yv,cond_true]
      rw [e,ih (Y1 + 1) (Z3W Y0 Y1 Yl) (by simp_all<;>omega)];simp
    | false =>
      have e:Z1L Y0 (k + 1) Y1 Yl=Yl:=by simp only [Z1L,Yv,cond_false]
      first | (rw [e];done) | (rw [e];rfl)
def Z3B (Y0:Gb):(List Gv):=(Z1L Y0 (((Y0.Sp.length:Int) - 0).toNat + 1) 0 (List.replicate (Y0.Me.Pq.length:Int).toNat (⟨0,0,0⟩:Gv)))
@[simp] theorem Zhk (Y0:Gb):(Z3B Y0).length=((List.replicate (Y0.Me.Pq.length:Int).toNat (⟨0,0,0⟩:Gv)):(List Gv)).length:=Zdz Y0 (((Y0.Sp.length:Int) - 0).toNat + 1) 0 (List.replicate (Y0.Me.Pq.length:Int).toNat (⟨0,0,0⟩:Gv)) (by exact Nat.lt_succ_self _)
def Z2x (Y0:Gb) (Y1:Int) (Yh:Int):Gv:=(Z2g (Y0.Me.Pq.getD ((Y0.Me.Tr.getD Y1.toNat default).getD (Int.tmod (Yh + 2) 3).toNat default).toNat default) (Y0.Me.Pq.getD ((Y0.Me.Tr.getD Y1.toNat default).getD (Int.tmod (Yh + 1) 3).toNat default).toNat default))
def Z3X (Y0:Gb) (Y1:Int) (Yh:Int) (YE:(List Gv)):(List Gv):=(ZL ((Y0.Me.Tr.getD Y1.toNat default).getD Yh.toNat default) (Z2U (Zf Y0.Me (Y0.Me.Tr.getD Y1.toNat default)) (Z2x Y0 Y1 Yh)) (fop .quo .f32 (fneg .f32 (fop .mul .f32 1056964608 Y0.Film)) (ZJ (Zf Y0.Me (Y0.Me.Tr.getD Y1.toNat default)))) YE)
@[simp] theorem ZhP (Y0:Gb) (Y1:Int) (Yh:Int) (YE:(List Gv)):(Z3X Y0 Y1 Yh YE).length=YE.length:=by unfold Z3X;simp
def Z1u (Y0:Gb) (Y1:Int) (Ys:(List Gv)):Nat→Int→(List Gv)→(List Gv)
  | 0,_,_=>default
  | k + 1,Yh,YE=>(cond (decide (Yh < 3))
    (Z1u Y0 Y1 Ys k (Yh + 1) (Z3X Y0 Y1 Yh YE))
    YE)
def Z7O (Y0:Gb) (Y1:Int) (Ys:(List Gv)) (r:(List Gv)):Ex × St:=((.exit 4),⟨.agg [.sl (Y0.Me.Pq.map Gv.c), .sl (Y0.Me.Tr.map (cL (cI .i64))), .sl (Y0.Sp.map Gs.c), .f .f32 Y0.Film, .f .f32 Y0.Bend, .sl (Y0.We.map (cF .f32)), .f .f32 Y0.Fall.X, .f .f32 Y0.Fall.Y, .f .f32 Y0.Fall.Z] :: .ptr 0 0 0 :: .nils :: .ptr 1 0 0 :: .fn 106 [.ptr 1 0 0] :: an 4 (.sl (Y0.Me.Pq.map Gv.c) :: .any :: .sl ((Y0.Me.Tr.getD Y1.toNat default).map (cI .i64)) :: .ptr 2 0 0 :: .f .f32 (fop .quo .f32 (fneg .f32 (fop .mul .f32 1056964608 Y0.Film)) (ZJ (Zf Y0.Me (Y0.Me.Tr.getD Y1.toNat default)))) :: .f .f32 (ZJ (Zf Y0.Me (Y0.Me.Tr.getD Y1.toNat default))) :: an 8 (.ptr 0 0 0 :: .ptr 0 0 0 :: .sl (Y0.Me.Pq.map Gv.c) :: .i .i64 (Y0.Me.Pq.length:Int) :: .own 3 :: .fn 106 [.ptr 1 0 0] :: .ptr 0 0 2 :: .sl (Y0.Sp.map Gs.c) :: an 25 (.ptr 0 0 0 :: .ptr 0 0 0 :: .sl (Y0.Me.Pq.map Gv.c) :: .ptr 0 0 0 :: .ptr 0 0 1 :: .sl (Y0.Me.Tr.map (cL (cI .i64))) :: .i .i64 (Y0.Me.Tr.length:Int) :: .i .i64 Y1 :: .b (decide (Y1 < (Y0.Me.Tr.length:Int))) :: .ref [.sl ((Y0.Me.Tr.getD Y1.toNat default).map (cI .i64))] 0 :: .sl ((Y0.Me.Tr.getD Y1.toNat default).map (cI .i64)) :: .ptr 0 0 0 :: .agg [.sl (Y0.Me.Pq.map Gv.c), .sl (Y0.Me.Tr.map (cL (cI .i64)))] :: .sl ((Y0.Me.Tr.getD Y1.toNat default).map (cI .i64)) :: .agg [.f .f32 ((Zf Y0.Me (Y0.Me.Tr.getD Y1.toNat default)).X), .f .f32 ((Zf Y0.Me (Y0.Me.Tr.getD Y1.toNat default)).Y), .f .f32 ((Zf Y0.Me (Y0.Me.Tr.getD Y1.toNat default)).Z)] :: .agg [.f .f32 ((Zf Y0.Me (Y0.Me.Tr.getD Y1.toNat default)).X), .f .f32 ((Zf Y0.Me (Y0.Me.Tr.getD Y1.toNat default)).Y), .f .f32 ((Zf Y0.Me (Y0.Me.Tr.getD Y1.toNat default)).Z)] :: .f .f32 (ZJ (Zf Y0.Me (Y0.Me.Tr.getD Y1.toNat default))) :: .f .f32 (ZJ (Zf Y0.Me (Y0.Me.Tr.getD Y1.toNat default))) :: .b (fcmp .gtr .f32 (ZJ (Zf Y0.Me (Y0.Me.Tr.getD Y1.toNat default))) 0) :: .ptr 0 0 3 :: .f .f32 Y0.Film :: .f .f32 (fop .mul .f32 1056964608 Y0.Film) :: .f .f32 (fneg .f32 (fop .mul .f32 1056964608 Y0.Film)) :: .f .f32 (ZJ (Zf Y0.Me (Y0.Me.Tr.getD Y1.toNat default))) :: .f .f32 (fop .quo .f32 (fneg .f32 (fop .mul .f32 1056964608 Y0.Film)) (ZJ (Zf Y0.Me (Y0.Me.Tr.getD Y1.toNat default)))) :: an 98 []))),[.box 42 [.sl (Y0.Me.Pq.map Gv.c), .sl (Y0.Me.Tr.map (cL (cI .i64))), .sl (Y0.Sp.map Gs.c), .f .f32 Y0.Film, .f .f32 Y0.Bend, .sl (Y0.We.map (cF .f32)), .f .f32 Y0.Fall.X, .f .f32 Y0.Fall.Y, .f .f32 Y0.Fall.Z], .box 34 [.own 3], .box 40 [.f .f32 ((Zf Y0.Me (Y0.Me.Tr.getD Y1.toNat default)).X), .f .f32 ((Zf Y0.Me (Y0.Me.Tr.getD Y1.toNat default)).Y), .f .f32 ((Zf Y0.Me (Y0.Me.Tr.getD Y1.toNat default)).Z)], .vec 40 3 (r.map Gv.c) false]⟩)
def ZeM (Y0:Gb) (Y1:Int) (Ys:(List Gv)) (Yh:Int) (YE:(List Gv)):St:=⟨.agg [.sl (Y0.Me.Pq.map Gv.c), .sl (Y0.Me.Tr.map (cL (cI .i64))), .sl (Y0.Sp.map Gs.c), .f .f32 Y0.Film, .f .f32 Y0.Bend, .sl (Y0.We.map (cF .f32)), .f .f32 Y0.Fall.X, .f .f32 Y0.Fall.Y, .f .f32 Y0.Fall.Z] :: .ptr 0 0 0 :: .nils :: .ptr 1 0 0 :: .fn 106 [.ptr 1 0 0] :: an 4 (.sl (Y0.Me.Pq.map Gv.c) :: .any :: .sl ((Y0.Me.Tr.getD Y1.toNat default).map (cI .i64)) :: .ptr 3 0 0 :: .f .f32 (fop .quo .f32 (fneg .f32 (fop .mul .f32 1056964608 Y0.Film)) (ZJ (Zf Y0.Me (Y0.Me.Tr.getD Y1.toNat default)))) :: .f .f32 (ZJ (Zf Y0.Me (Y0.Me.Tr.getD Y1.toNat default))) :: an 8 (.ptr 0 0 0 :: .ptr 0 0 0 :: .sl (Y0.Me.Pq.map Gv.c) :: .i .i64 (Y0.Me.Pq.length:Int) :: .own 2 :: .fn 106 [.ptr 1 0 0] :: .ptr 0 0 2 :: .sl (Y0.Sp.map Gs.c) :: an 25 (.ptr 0 0 0 :: .ptr 0 0 0 :: .sl (Y0.Me.Pq.map Gv.c) :: .ptr 0 0 0 :: .ptr 0 0 1 :: .sl (Y0.Me.Tr.map (cL (cI .i64))) :: .i .i64 (Y0.Me.Tr.length:Int) :: .i .i64 Y1 :: .b (decide (Y1 < (Y0.Me.Tr.length:Int))) :: .ref [.sl ((Y0.Me.Tr.getD Y1.toNat default).map (cI .i64))] 0 :: .sl ((Y0.Me.Tr.getD Y1.toNat default).map (cI .i64)) :: .ptr 0 0 0 :: .agg [.sl (Y0.Me.Pq.map Gv.c), .sl (Y0.Me.Tr.map (cL (cI .i64)))] :: .sl ((Y0.Me.Tr.getD Y1.toNat default).map (cI .i64)) :: .agg [.f .f32 ((Zf Y0.Me (Y0.Me.Tr.getD Y1.toNat default)).X), .f .f32 ((Zf Y0.Me (Y0.Me.Tr.getD Y1.toNat default)).Y), .f .f32 ((Zf Y0.Me (Y0.Me.Tr.getD Y1.toNat default)).Z)] :: .agg [.f .f32 ((Zf Y0.Me (Y0.Me.Tr.getD Y1.toNat default)).X), .f .f32 ((Zf Y0.Me (Y0.Me.Tr.getD Y1.toNat default)).Y), .f .f32 ((Zf Y0.Me (Y0.Me.Tr.getD Y1.toNat default)).Z)] :: .f .f32 (ZJ (Zf Y0.Me (Y0.Me.Tr.getD Y1.toNat default))) :: .f .f32 (ZJ (Zf Y0.Me (Y0.Me.Tr.getD Y1.toNat default))) :: .b (fcmp .gtr .f32 (ZJ (Zf Y0.Me (Y0.Me.Tr.getD Y1.toNat default))) 0) :: .ptr 0 0 3 :: .f .f32 Y0.Film :: .f .f32 (fop .mul .f32 1056964608 Y0.Film) :: .f .f32 (fneg .f32 (fop .mul .f32 1056964608 Y0.Film)) :: .f .f32 (ZJ (Zf Y0.Me (Y0.Me.Tr.getD Y1.toNat default))) :: .f .f32 (fop .quo .f32 (fneg .f32 (fop .mul .f32 1056964608 Y0.Film)) (ZJ (Zf Y0.Me (Y0.Me.Tr.getD Y1.toNat default)))) :: .i .i64 Yh :: an 97 []))),[.box 42 [.sl (Y0.Me.Pq.map Gv.c), .sl (Y0.Me.Tr.map (cL (cI .i64))), .sl (Y0.Sp.map Gs.c), .f .f32 Y0.Film, .f .f32 Y0.Bend, .sl (Y0.We.map (cF .f32)), .f .f32 Y0.Fall.X, .f .f32 Y0.Fall.Y, .f .f32 Y0.Fall.Z], .box 34 [.own 2], .vec 40 3 (YE.map Gv.c) false, .box 40 [.f .f32 ((Zf Y0.Me (Y0.Me.Tr.getD Y1.toNat default)).X), .f .f32 ((Zf Y0.Me (Y0.Me.Tr.getD Y1.toNat default)).Y), .f .f32 ((Zf Y0.Me (Y0.Me.Tr.getD Y1.toNat default)).Z)]]⟩
def Z9P:List Bool:=(mR false [0,5,4,1,1,4,8,8,25,26,97])
def ZdA:List Bool:=(mR false [0,5,4,1,1,4,8,8,25,25,98])
theorem ZeN (Y0:Gb) (Y1:Int) (Ys:(List Gv)) (hp0:Y0.Me.Pq.length≤1073741824) (hp1:Y0.Me.Tr.length≤1073741824) (hp2:∀ t∈Y0.Me.Tr,t.length≤1073741824) (hp3:Y0.Sp.length≤1073741824) (hp4:Y0.We.length≤1073741824) (hp5:OkBd Y0) (Z4r:0≤Y1) (Z4s:Ys.length=Y0.Me.Pq.length) (Z2u:(decide (Y1 < (Y0.Me.Tr.length:Int)))=true):∀ (k:Nat) (Yh:Int) (YE:(List Gv)) (Z9Q:0≤Yh) (Z9R:YE.length=Ys.length) (hk:((3:Int) - Yh).toNat < k),Lp prog 0 (sub (X0 f57) [1,1,1,1,1,0,1,0,0,1,1,0,0,1,1,1,1,1,0,0]) (ZeM Y0 Y1 Ys Yh YE) (Z7O Y0 Y1 Ys (Z1u Y0 Y1 Ys k Yh YE)).1 (Z7O Y0 Y1 Ys (Z1u Y0 Y1 Ys k Yh YE)).2:=by
 intro k
 induction k with
 | zero=>intro Yh YE Z9Q Z9R hk;exact absurd hk (Nat.not_lt_zero _)
 | succ k ih =>
  intro Yh YE Z9Q Z9R hk
  cases YS:(decide (Yh < 3)) with
  | true =>
   have YW:=odt YS
   have Y1c:(-9223372036854775808:Int)≤(Yh + 1):=(by omega)
   have Y1g:(Yh + 1)≤(9223372036854775807:Int):=(by omega)
   have Y1e:(0:Int)≤(Int.tmod (Yh + 1) 3):=(by have q:=Z2S hp5.e (by assumption) (odt Z2u) (by assumption) YW;omega)
   have Y19:(Int.tmod (Yh + 1) 3) < ((Y0.Me.Tr.getD Y1.toNat default).length:Int):=(by have q:=Z2S hp5.e (by assumption) (odt Z2u) (by assumption) YW;omega)
   have Y1f:(-9223372036854775808:Int)≤(Yh + 2):=(by omega)
   have Y1n:(Yh + 2)≤(9223372036854775807:Int):=(by omega)
   have Y1j:(0:Int)≤(Int.tmod (Yh + 2) 3):=(by have q:=Z2S hp5.e (by assumption) (odt Z2u) (by assumption) YW;omega)
   have Y1w:(Int.tmod (Yh + 2) 3) < ((Y0.Me.Tr.getD Y1.toNat default).length:Int):=(by have q:=Z2S hp5.e (by assumption) (odt Z2u) (by assumption) YW;omega)
   have Y1I:(0:Int)≤Yh:=(by assumption)
   have Y1O:Yh < ((Y0.Me.Tr.getD Y1.toNat default).length:Int):=(by have q:=Z2S hp5.e (by assumption) (odt Z2u) (by assumption) YW;omega)
   have Y1J:(0:Int)≤((Y0.Me.Tr.getD Y1.toNat default).getD (Int.tmod (Yh + 2) 3).toNat default):=(by have q:=Z2S hp5.e (by assumption) (odt Z2u) (by assumption) YW;omega)
   have Y1K:((Y0.Me.Tr.getD Y1.toNat default).getD (Int.tmod (Yh + 2) 3).toNat default) < (Y0.Me.Pq.length:Int):=(by have q:=Z2S hp5.e (by assumption) (odt Z2u) (by assumption) YW;omega)
   have Y1D:(0:Int)≤((Y0.Me.Tr.getD Y1.toNat default).getD (Int.tmod (Yh + 1) 3).toNat default):=(by have q:=Z2S hp5.e (by assumption) (odt Z2u) (by assumption) YW;omega)
   have Y1E:((Y0.Me.Tr.getD Y1.toNat default).getD (Int.tmod (Yh + 1) 3).toNat default) < (Y0.Me.Pq.length:Int):=(by have q:=Z2S hp5.e (by assumption) (odt Z2u) (by assumption) YW;omega)
   have Y1F:YE.length≤1073741824:=(by omega)
   have Y1G:0≤((Y0.Me.Tr.getD Y1.toNat default).getD Yh.toNat default):=(by have q:=Z2S hp5.e (by assumption) (odt Z2u) (by assumption) YW;omega)
   have Y1H:((Y0.Me.Tr.getD Y1.toNat default).getD Yh.toNat default) < (YE.length:Int):=(by have q:=Z2S hp5.e (by assumption) (odt Z2u) (by assumption) YW;omega)
   have e:Z1u Y0 Y1 Ys (k + 1) Yh YE=(Z1u Y0 Y1 Ys k (Yh + 1) (Z3X Y0 Y1 Yh YE)):=by simp only [Z1u,YS,cond_true]
   rw [e]
   exact X8 E0Ok Z7 [] Z9P [0,1,2,3] (ih (Yh + 1) (Z3X Y0 Y1 Yh YE) (show 0≤(Yh + 1) from (by omega)) (show (Z3X Y0 Y1 Yh YE).length=Ys.length from (by simp_all<;>omega)) (by omega)) (sB YS<|sK [13,13]<|sI (Yh + 1) Y1c Y1g<|sC (show (3:Int)≠0 from (by decide))<|sQ (Int.tmod (Yh + 1) 3)<|sG (cI .i64) (Y0.Me.Tr.getD Y1.toNat default) (Int.tmod (Yh + 1) 3) Y1e Y19<|sI (Yh + 2) Y1f Y1n<|sC (show (3:Int)≠0 from (by decide))<|sQ (Int.tmod (Yh + 2) 3)<|sG (cI .i64) (Y0.Me.Tr.getD Y1.toNat default) (Int.tmod (Yh + 2) 3) Y1j Y1w<|sK [17,17]<|sG (cI .i64) (Y0.Me.Tr.getD Y1.toNat default) Yh Y1I Y1O<|sG Gv.c Y0.Me.Pq ((Y0.Me.Tr.getD Y1.toNat default).getD (Int.tmod (Yh + 2) 3).toNat default) Y1J Y1K<|sG Gv.c Y0.Me.Pq ((Y0.Me.Tr.getD Y1.toNat default).getD (Int.tmod (Yh + 1) 3).toNat default) Y1D Y1E<|sF (Z4N (Y0.Me.Pq.getD ((Y0.Me.Tr.getD Y1.toNat default).getD (Int.tmod (Yh + 2) 3).toNat default).toNat default) (Y0.Me.Pq.getD ((Y0.Me.Tr.getD Y1.toNat default).getD (Int.tmod (Yh + 1) 3).toNat default).toNat default))<|sF (ZaJ (Zf Y0.Me (Y0.Me.Tr.getD Y1.toNat default)) (Z2x Y0 Y1 Yh))<|sS (X4.frame (Z2k ((Y0.Me.Tr.getD Y1.toNat default).getD Yh.toNat default) (Z2U (Zf Y0.Me (Y0.Me.Tr.getD Y1.toNat default)) (Z2x Y0 Y1 Yh)) (fop .quo .f32 (fneg .f32 (fop .mul .f32 1056964608 Y0.Film)) (ZJ (Zf Y0.Me (Y0.Me.Tr.getD Y1.toNat default)))) YE Y1F Y1G Y1H) [1,2] (R:=[.box 42 [.sl (Y0.Me.Pq.map Gv.c), .sl (Y0.Me.Tr.map (cL (cI .i64))), .sl (Y0.Sp.map Gs.c), .f .f32 Y0.Film, .f .f32 Y0.Bend, .sl (Y0.We.map (cF .f32)), .f .f32 Y0.Fall.X, .f .f32 Y0.Fall.Y, .f .f32 Y0.Fall.Z], .box 34 [.own 2], .vec 40 3 (YE.map Gv.c) false, .box 40 [.f .f32 ((Zf Y0.Me (Y0.Me.Tr.getD Y1.toNat default)).X), .f .f32 ((Zf Y0.Me (Y0.Me.Tr.getD Y1.toNat default)).Y), .f .f32 ((Zf Y0.Me (Y0.Me.Tr.getD Y1.toNat default)).Z)]]) (args':=[.i .i64 ((Y0.Me.Tr.getD Y1.toNat default).getD Yh.toNat default), .agg [.f .f32 ((Z2U (Zf Y0.Me (Y0.Me.Tr.getD Y1.toNat default)) (Z2x Y0 Y1 Yh)).X), .f .f32 ((Z2U (Zf Y0.Me (Y0.Me.Tr.getD Y1.toNat default)) (Z2x Y0 Y1 Yh)).Y), .f .f32 ((Z2U (Zf Y0.Me (Y0.Me.Tr.getD Y1.toNat default)) (Z2x Y0 Y1 Yh)).Z)], .f .f32 (fop .quo .f32 (fneg .f32 (fop .mul .f32 1056964608 Y0.Film)) (ZJ (Zf Y0.Me (Y0.Me.Tr.getD Y1.toNat default)))), .ptr 1 0 0]) rfl rfl rfl rfl rfl rfl)<|sI (Yh + 1) Y1c Y1g<|sN) (by kernel_rfl)
  | false =>
   have YW:=odf YS
   have e:Z1u Y0 Y1 Ys (k + 1) Yh YE=YE:=by simp only [Z1u,YS,cond_false]
   rw [e]
   exact outR (e:=(.exit 4)) E0Ok Z7 [] ZdA [0,1,3,2] (sB YS<|sN) (by kernel_rfl) (by intro h;cases h)
theorem ZdB (Y0:Gb) (Y1:Int) (Ys:(List Gv)):∀ (k:Nat) (Yh:Int) (YE:(List Gv)) (hk:((3:Int) - Yh).toNat < k),(Z1u Y0 Y1 Ys k Yh YE).length=YE.length:=by
  intro k
  induction k with
  | zero=>intro Yh YE hk;exact absurd hk (Nat.not_lt_zero _)
  | succ k ih =>
    intro Yh YE hk
    cases YS:(decide (Yh < 3)) with
    | true =>
      have e:Z1u Y0 Y1 Ys (k + 1) Yh YE=(Z1u Y0 Y1 Ys k (Yh + 1) (Z3X Y0 Y1 Yh YE)):=by simp only [Z1u,YS,cond_true]
      rw [e,ih (Yh + 1) (Z3X Y0 Y1 Yh YE) (by simp_all<;>omega)];simp
    | false =>
      have e:Z1u Y0 Y1 Ys (k + 1) Yh YE=YE:=by simp only [Z1u,YS,cond_false]
      first | (rw [e];done) | (rw [e];rfl)
def Z37 (Y0:Gb) (Y1:Int) (Ys:(List Gv)):(List Gv):=(Z1u Y0 Y1 Ys (((3:Int) - 0).toNat + 1) 0 Ys)
@[simp] theorem Zhl (Y0:Gb) (Y1:Int) (Ys:(List Gv)):(Z37 Y0 Y1 Ys).length=(Ys:(List Gv)).length:=ZdB Y0 Y1 Ys (((3:Int) - 0).toNat + 1) 0 Ys (by exact Nat.lt_succ_self _)
def Z3Y (Y0:Gb) (Y1:Int) (Yh:Int) (YE:(List Gv)):(List Gv):=(ZL ((Y0.Me.Tr.getD Y1.toNat default).getD Yh.toNat default) (Z2U (Zf Y0.Me (Y0.Me.Tr.getD Y1.toNat default)) (Z2x Y0 Y1 Yh)) 0 YE)
@[simp] theorem ZhQ (Y0:Gb) (Y1:Int) (Yh:Int) (YE:(List Gv)):(Z3Y Y0 Y1 Yh YE).length=YE.length:=by unfold Z3Y;simp
def Z1v (Y0:Gb) (Y1:Int) (Ys:(List Gv)):Nat→Int→(List Gv)→(List Gv)
  | 0,_,_=>default
  | k + 1,Yh,YE=>(cond (decide (Yh < 3))
    (Z1v Y0 Y1 Ys k (Yh + 1) (Z3Y Y0 Y1 Yh YE))
    YE)
def Z7P (Y0:Gb) (Y1:Int) (Ys:(List Gv)) (r:(List Gv)):Ex × St:=((.exit 4),⟨.agg [.sl (Y0.Me.Pq.map Gv.c), .sl (Y0.Me.Tr.map (cL (cI .i64))), .sl (Y0.Sp.map Gs.c), .f .f32 Y0.Film, .f .f32 Y0.Bend, .sl (Y0.We.map (cF .f32)), .f .f32 Y0.Fall.X, .f .f32 Y0.Fall.Y, .f .f32 Y0.Fall.Z] :: .ptr 0 0 0 :: .nils :: .ptr 1 0 0 :: .fn 106 [.ptr 1 0 0] :: an 4 (.sl (Y0.Me.Pq.map Gv.c) :: .any :: .sl ((Y0.Me.Tr.getD Y1.toNat default).map (cI .i64)) :: .ptr 2 0 0 :: .f .f32 0 :: .f .f32 (ZJ (Zf Y0.Me (Y0.Me.Tr.getD Y1.toNat default))) :: an 8 (.ptr 0 0 0 :: .ptr 0 0 0 :: .sl (Y0.Me.Pq.map Gv.c) :: .i .i64 (Y0.Me.Pq.length:Int) :: .own 3 :: .fn 106 [.ptr 1 0 0] :: .ptr 0 0 2 :: .sl (Y0.Sp.map Gs.c) :: an 25 (.ptr 0 0 0 :: .ptr 0 0 0 :: .sl (Y0.Me.Pq.map Gv.c) :: .ptr 0 0 0 :: .ptr 0 0 1 :: .sl (Y0.Me.Tr.map (cL (cI .i64))) :: .i .i64 (Y0.Me.Tr.length:Int) :: .i .i64 Y1 :: .b (decide (Y1 < (Y0.Me.Tr.length:Int))) :: .ref [.sl ((Y0.Me.Tr.getD Y1.toNat default).map (cI .i64))] 0 :: .sl ((Y0.Me.Tr.getD Y1.toNat default).map (cI .i64)) :: .ptr 0 0 0 :: .agg [.sl (Y0.Me.Pq.map Gv.c), .sl (Y0.Me.Tr.map (cL (cI .i64)))] :: .sl ((Y0.Me.Tr.getD Y1.toNat default).map (cI .i64)) :: .agg [.f .f32 ((Zf Y0.Me (Y0.Me.Tr.getD Y1.toNat default)).X), .f .f32 ((Zf Y0.Me (Y0.Me.Tr.getD Y1.toNat default)).Y), .f .f32 ((Zf Y0.Me (Y0.Me.Tr.getD Y1.toNat default)).Z)] :: .agg [.f .f32 ((Zf Y0.Me (Y0.Me.Tr.getD Y1.toNat default)).X), .f .f32 ((Zf Y0.Me (Y0.Me.Tr.getD Y1.toNat default)).Y), .f .f32 ((Zf Y0.Me (Y0.Me.Tr.getD Y1.toNat default)).Z)] :: .f .f32 (ZJ (Zf Y0.Me (Y0.Me.Tr.getD Y1.toNat default))) :: .f .f32 (ZJ (Zf Y0.Me (Y0.Me.Tr.getD Y1.toNat default))) :: .b (fcmp .gtr .f32 (ZJ (Zf Y0.Me (Y0.Me.Tr.getD Y1.toNat default))) 0) :: an 104 []))),[.box 42 [.sl (Y0.Me.Pq.map Gv.c), .sl (Y0.Me.Tr.map (cL (cI .i64))), .sl (Y0.Sp.map Gs.c), .f .f32 Y0.Film, .f .f32 Y0.Bend, .sl (Y0.We.map (cF .f32)), .f .f32 Y0.Fall.X, .f .f32 Y0.Fall.Y, .f .f32 Y0.Fall.Z], .box 34 [.own 3], .box 40 [.f .f32 ((Zf Y0.Me (Y0.Me.Tr.getD Y1.toNat default)).X), .f .f32 ((Zf Y0.Me (Y0.Me.Tr.getD Y1.toNat default)).Y), .f .f32 ((Zf Y0.Me (Y0.Me.Tr.getD Y1.toNat default)).Z)], .vec 40 3 (r.map Gv.c) false]⟩)
def ZeO (Y0:Gb) (Y1:Int) (Ys:(List Gv)) (Yh:Int) (YE:(List Gv)):St:=⟨.agg [.sl (Y0.Me.Pq.map Gv.c), .sl (Y0.Me.Tr.map (cL (cI .i64))), .sl (Y0.Sp.map Gs.c), .f .f32 Y0.Film, .f .f32 Y0.Bend, .sl (Y0.We.map (cF .f32)), .f .f32 Y0.Fall.X, .f .f32 Y0.Fall.Y, .f .f32 Y0.Fall.Z] :: .ptr 0 0 0 :: .nils :: .ptr 1 0 0 :: .fn 106 [.ptr 1 0 0] :: an 4 (.sl (Y0.Me.Pq.map Gv.c) :: .any :: .sl ((Y0.Me.Tr.getD Y1.toNat default).map (cI .i64)) :: .ptr 3 0 0 :: .f .f32 0 :: .f .f32 (ZJ (Zf Y0.Me (Y0.Me.Tr.getD Y1.toNat default))) :: an 8 (.ptr 0 0 0 :: .ptr 0 0 0 :: .sl (Y0.Me.Pq.map Gv.c) :: .i .i64 (Y0.Me.Pq.length:Int) :: .own 2 :: .fn 106 [.ptr 1 0 0] :: .ptr 0 0 2 :: .sl (Y0.Sp.map Gs.c) :: an 25 (.ptr 0 0 0 :: .ptr 0 0 0 :: .sl (Y0.Me.Pq.map Gv.c) :: .ptr 0 0 0 :: .ptr 0 0 1 :: .sl (Y0.Me.Tr.map (cL (cI .i64))) :: .i .i64 (Y0.Me.Tr.length:Int) :: .i .i64 Y1 :: .b (decide (Y1 < (Y0.Me.Tr.length:Int))) :: .ref [.sl ((Y0.Me.Tr.getD Y1.toNat default).map (cI .i64))] 0 :: .sl ((Y0.Me.Tr.getD Y1.toNat default).map (cI .i64)) :: .ptr 0 0 0 :: .agg [.sl (Y0.Me.Pq.map Gv.c), .sl (Y0.Me.Tr.map (cL (cI .i64)))] :: .sl ((Y0.Me.Tr.getD Y1.toNat default).map (cI .i64)) :: .agg [.f .f32 ((Zf Y0.Me (Y0.Me.Tr.getD Y1.toNat default)).X), .f .f32 ((Zf Y0.Me (Y0.Me.Tr.getD Y1.toNat default)).Y), .f .f32 ((Zf Y0.Me (Y0.Me.Tr.getD Y1.toNat default)).Z)] :: .agg [.f .f32 ((Zf Y0.Me (Y0.Me.Tr.getD Y1.toNat default)).X), .f .f32 ((Zf Y0.Me (Y0.Me.Tr.getD Y1.toNat default)).Y), .f .f32 ((Zf Y0.Me (Y0.Me.Tr.getD Y1.toNat default)).Z)] :: .f .f32 (ZJ (Zf Y0.Me (Y0.Me.Tr.getD Y1.toNat default))) :: .f .f32 (ZJ (Zf Y0.Me (Y0.Me.Tr.getD Y1.toNat default))) :: .b (fcmp .gtr .f32 (ZJ (Zf Y0.Me (Y0.Me.Tr.getD Y1.toNat default))) 0) :: an 6 (.i .i64 Yh :: an 97 [])))),[.box 42 [.sl (Y0.Me.Pq.map Gv.c), .sl (Y0.Me.Tr.map (cL (cI .i64))), .sl (Y0.Sp.map Gs.c), .f .f32 Y0.Film, .f .f32 Y0.Bend, .sl (Y0.We.map (cF .f32)), .f .f32 Y0.Fall.X, .f .f32 Y0.Fall.Y, .f .f32 Y0.Fall.Z], .box 34 [.own 2], .vec 40 3 (YE.map Gv.c) false, .box 40 [.f .f32 ((Zf Y0.Me (Y0.Me.Tr.getD Y1.toNat default)).X), .f .f32 ((Zf Y0.Me (Y0.Me.Tr.getD Y1.toNat default)).Y), .f .f32 ((Zf Y0.Me (Y0.Me.Tr.getD Y1.toNat default)).Z)]]⟩
def Z9S:List Bool:=(mR false [0,5,4,1,1,4,8,8,25,19,6,1,97])
def ZdC:List Bool:=(mR false [0,5,4,1,1,4,8,8,25,19,104])
theorem ZeP (Y0:Gb) (Y1:Int) (Ys:(List Gv)) (hp0:Y0.Me.Pq.length≤1073741824) (hp1:Y0.Me.Tr.length≤1073741824) (hp2:∀ t∈Y0.Me.Tr,t.length≤1073741824) (hp3:Y0.Sp.length≤1073741824) (hp4:Y0.We.length≤1073741824) (hp5:OkBd Y0) (Z4r:0≤Y1) (Z4s:Ys.length=Y0.Me.Pq.length) (Z2v:(decide (Y1 < (Y0.Me.Tr.length:Int)))=true):∀ (k:Nat) (Yh:Int) (YE:(List Gv)) (Z9T:0≤Yh) (Z9U:YE.length=Ys.length) (hk:((3:Int) - Yh).toNat < k),Lp prog 0 (sub (X0 f57) [1,1,1,1,1,0,1,0,0,1,1,0,0,1,1,1,1,1,0,0]) (ZeO Y0 Y1 Ys Yh YE) (Z7P Y0 Y1 Ys (Z1v Y0 Y1 Ys k Yh YE)).1 (Z7P Y0 Y1 Ys (Z1v Y0 Y1 Ys k Yh YE)).2:=by
 intro k
 induction k with
 | zero=>intro Yh YE Z9T Z9U hk;exact absurd hk (Nat.not_lt_zero _)
 | succ k ih =>
  intro Yh YE Z9T Z9U hk
  cases YS:(decide (Yh < 3)) with
  | true =>
   have YW:=odt YS
   have Y1c:(-9223372036854775808:Int)≤(Yh + 1):=(by omega)
   have Y1g:(Yh + 1)≤(9223372036854775807:Int):=(by omega)
   have Y1e:(0:Int)≤(Int.tmod (Yh + 1) 3):=(by have q:=Z2S hp5.e (by assumption) (odt Z2v) (by assumption) YW;omega)
   have Y19:(Int.tmod (Yh + 1) 3) < ((Y0.Me.Tr.getD Y1.toNat default).length:Int):=(by have q:=Z2S hp5.e (by assumption) (odt Z2v) (by assumption) YW;omega)
   have Y1f:(-9223372036854775808:Int)≤(Yh + 2):=(by omega)
   have Y1n:(Yh + 2)≤(9223372036854775807:Int):=(by omega)
   have Y1j:(0:Int)≤(Int.tmod (Yh + 2) 3):=(by have q:=Z2S hp5.e (by assumption) (odt Z2v) (by assumption) YW;omega)
   have Y1w:(Int.tmod (Yh + 2) 3) < ((Y0.Me.Tr.getD Y1.toNat default).length:Int):=(by have q:=Z2S hp5.e (by assumption) (odt Z2v) (by assumption) YW;omega)
   have Y1I:(0:Int)≤Yh:=(by assumption)
   have Y1O:Yh < ((Y0.Me.Tr.getD Y1.toNat default).length:Int):=(by have q:=Z2S hp5.e (by assumption) (odt Z2v) (by assumption) YW;omega)
   have Y1J:(0:Int)≤((Y0.Me.Tr.getD Y1.toNat default).getD (Int.tmod (Yh + 2) 3).toNat default):=(by have q:=Z2S hp5.e (by assumption) (odt Z2v) (by assumption) YW;omega)
   have Y1K:((Y0.Me.Tr.getD Y1.toNat default).getD (Int.tmod (Yh + 2) 3).toNat default) < (Y0.Me.Pq.length:Int):=(by have q:=Z2S hp5.e (by assumption) (odt Z2v) (by assumption) YW;omega)
   have Y1D:(0:Int)≤((Y0.Me.Tr.getD Y1.toNat default).getD (Int.tmod (Yh + 1) 3).toNat default):=(by have q:=Z2S hp5.e (by assumption) (odt Z2v) (by assumption) YW;omega)
   have Y1E:((Y0.Me.Tr.getD Y1.toNat default).getD (Int.tmod (Yh + 1) 3).toNat default) < (Y0.Me.Pq.length:Int):=(by have q:=Z2S hp5.e (by assumption) (odt Z2v) (by assumption) YW;omega)
   have Y1F:YE.length≤1073741824:=(by omega)
   have Y1G:0≤((Y0.Me.Tr.getD Y1.toNat default).getD Yh.toNat default):=(by have q:=Z2S hp5.e (by assumption) (odt Z2v) (by assumption) YW;omega)
   have Y1H:((Y0.Me.Tr.getD Y1.toNat default).getD Yh.toNat default) < (YE.length:Int):=(by have q:=Z2S hp5.e (by assumption) (odt Z2v) (by assumption) YW;omega)
   have e:Z1v Y0 Y1 Ys (k + 1) Yh YE=(Z1v Y0 Y1 Ys k (Yh + 1) (Z3Y Y0 Y1 Yh YE)):=by simp only [Z1v,YS,cond_true]
   rw [e]
   exact X8 E0Ok Z7 [] Z9S [0,1,2,3] (ih (Yh + 1) (Z3Y Y0 Y1 Yh YE) (show 0≤(Yh + 1) from (by omega)) (show (Z3Y Y0 Y1 Yh YE).length=Ys.length from (by simp_all<;>omega)) (by omega)) (sB YS<|sK [13,13]<|sI (Yh + 1) Y1c Y1g<|sC (show (3:Int)≠0 from (by decide))<|sQ (Int.tmod (Yh + 1) 3)<|sG (cI .i64) (Y0.Me.Tr.getD Y1.toNat default) (Int.tmod (Yh + 1) 3) Y1e Y19<|sI (Yh + 2) Y1f Y1n<|sC (show (3:Int)≠0 from (by decide))<|sQ (Int.tmod (Yh + 2) 3)<|sG (cI .i64) (Y0.Me.Tr.getD Y1.toNat default) (Int.tmod (Yh + 2) 3) Y1j Y1w<|sK [17,17]<|sG (cI .i64) (Y0.Me.Tr.getD Y1.toNat default) Yh Y1I Y1O<|sG Gv.c Y0.Me.Pq ((Y0.Me.Tr.getD Y1.toNat default).getD (Int.tmod (Yh + 2) 3).toNat default) Y1J Y1K<|sG Gv.c Y0.Me.Pq ((Y0.Me.Tr.getD Y1.toNat default).getD (Int.tmod (Yh + 1) 3).toNat default) Y1D Y1E<|sF (Z4N (Y0.Me.Pq.getD ((Y0.Me.Tr.getD Y1.toNat default).getD (Int.tmod (Yh + 2) 3).toNat default).toNat default) (Y0.Me.Pq.getD ((Y0.Me.Tr.getD Y1.toNat default).getD (Int.tmod (Yh + 1) 3).toNat default).toNat default))<|sF (ZaJ (Zf Y0.Me (Y0.Me.Tr.getD Y1.toNat default)) (Z2x Y0 Y1 Yh))<|sS (X4.frame (Z2k ((Y0.Me.Tr.getD Y1.toNat default).getD Yh.toNat default) (Z2U (Zf Y0.Me (Y0.Me.Tr.getD Y1.toNat default)) (Z2x Y0 Y1 Yh)) 0 YE Y1F Y1G Y1H) [1,2] (R:=[.box 42 [.sl (Y0.Me.Pq.map Gv.c), .sl (Y0.Me.Tr.map (cL (cI .i64))), .sl (Y0.Sp.map Gs.c), .f .f32 Y0.Film, .f .f32 Y0.Bend, .sl (Y0.We.map (cF .f32)), .f .f32 Y0.Fall.X, .f .f32 Y0.Fall.Y, .f .f32 Y0.Fall.Z], .box 34 [.own 2], .vec 40 3 (YE.map Gv.c) false, .box 40 [.f .f32 ((Zf Y0.Me (Y0.Me.Tr.getD Y1.toNat default)).X), .f .f32 ((Zf Y0.Me (Y0.Me.Tr.getD Y1.toNat default)).Y), .f .f32 ((Zf Y0.Me (Y0.Me.Tr.getD Y1.toNat default)).Z)]]) (args':=[.i .i64 ((Y0.Me.Tr.getD Y1.toNat default).getD Yh.toNat default), .agg [.f .f32 ((Z2U (Zf Y0.Me (Y0.Me.Tr.getD Y1.toNat default)) (Z2x Y0 Y1 Yh)).X), .f .f32 ((Z2U (Zf Y0.Me (Y0.Me.Tr.getD Y1.toNat default)) (Z2x Y0 Y1 Yh)).Y), .f .f32 ((Z2U (Zf Y0.Me (Y0.Me.Tr.getD Y1.toNat default)) (Z2x Y0 Y1 Yh)).Z)], .f .f32 0, .ptr 1 0 0]) rfl rfl rfl rfl rfl rfl)<|sI (Yh + 1) Y1c Y1g<|sN) (by kernel_rfl)
  | false =>
   have YW:=odf YS
   have e:Z1v Y0 Y1 Ys (k + 1) Yh YE=YE:=by simp only [Z1v,YS,cond_false]
   rw [e]
   exact outR (e:=(.exit 4)) E0Ok Z7 [] ZdC [0,1,3,2] (sB YS<|sN) (by kernel_rfl) (by intro h;cases h)
theorem ZdD (Y0:Gb) (Y1:Int) (Ys:(List Gv)):∀ (k:Nat) (Yh:Int) (YE:(List Gv)) (hk:((3:Int) - Yh).toNat < k),(Z1v Y0 Y1 Ys k Yh YE).length=YE.length:=by
  intro k
  induction k with
  | zero=>intro Yh YE hk;exact absurd hk (Nat.not_lt_zero _)
  | succ k ih =>
    intro Yh YE hk
    cases YS:(decide (Yh < 3)) with
    | true =>
      have e:Z1v Y0 Y1 Ys (k + 1) Yh YE=(Z1v Y0 Y1 Ys k (Yh + 1) (Z3Y Y0 Y1 Yh YE)):=by simp only [Z1v,YS,cond_true]
      rw [e,ih (Yh + 1) (Z3Y Y0 Y1 Yh YE) (by simp_all<;>omega)];simp
    | false =>
      have e:Z1v Y0 Y1 Ys (k + 1) Yh YE=YE:=by simp only [Z1v,YS,cond_false]
      first | (rw [e];done) | (rw [e];rfl)
def Z38 (Y0:Gb) (Y1:Int) (Ys:(List Gv)):(List Gv):=(Z1v Y0 Y1 Ys (((3:Int) - 0).toNat + 1) 0 Ys)
@[simp] theorem Zhm (Y0:Gb) (Y1:Int) (Ys:(List Gv)):(Z38 Y0 Y1 Ys).length=(Ys:(List Gv)).length:=ZdD Y0 Y1 Ys (((3:Int) - 0).toNat + 1) 0 Ys (by exact Nat.lt_succ_self _)
def ZM (Y0:Gb):Nat→Int→(List Gv)→(List Gv)
  | 0,_,_=>default
  | k + 1,Y1,Ys=>(cond (decide (Y1 < (Y0.Me.Tr.length:Int)))
    (cond (fcmp .gtr .f32 (ZJ (Zf Y0.Me (Y0.Me.Tr.getD Y1.toNat default))) 0)
      (ZM Y0 k (Y1 + 1) (Z37 Y0 Y1 Ys))
      (ZM Y0 k (Y1 + 1) (Z38 Y0 Y1 Ys)))
    Ys)
def Z7Q (Y0:Gb) (r:(List Gv)):Ex × St:=((.exit 2),⟨.agg [.sl (Y0.Me.Pq.map Gv.c), .sl (Y0.Me.Tr.map (cL (cI .i64))), .sl (Y0.Sp.map Gs.c), .f .f32 Y0.Film, .f .f32 Y0.Bend, .sl (Y0.We.map (cF .f32)), .f .f32 Y0.Fall.X, .f .f32 Y0.Fall.Y, .f .f32 Y0.Fall.Z] :: .ptr 0 0 0 :: .nils :: .ptr 1 0 0 :: .fn 106 [.ptr 1 0 0] :: an 18 (.ptr 0 0 0 :: .ptr 0 0 0 :: .sl (Y0.Me.Pq.map Gv.c) :: .i .i64 (Y0.Me.Pq.length:Int) :: .own 2 :: .fn 106 [.ptr 1 0 0] :: .ptr 0 0 2 :: .sl (Y0.Sp.map Gs.c) :: an 25 (.ptr 0 0 0 :: .ptr 0 0 0 :: .sl (Y0.Me.Pq.map Gv.c) :: .ptr 0 0 0 :: .ptr 0 0 1 :: .sl (Y0.Me.Tr.map (cL (cI .i64))) :: an 117 [])),[.box 42 [.sl (Y0.Me.Pq.map Gv.c), .sl (Y0.Me.Tr.map (cL (cI .i64))), .sl (Y0.Sp.map Gs.c), .f .f32 Y0.Film, .f .f32 Y0.Bend, .sl (Y0.We.map (cF .f32)), .f .f32 Y0.Fall.X, .f .f32 Y0.Fall.Y, .f .f32 Y0.Fall.Z], .box 34 [.own 2], .vec 40 3 (r.map Gv.c) false]⟩)
def ZeQ (Y0:Gb) (Y1:Int) (Ys:(List Gv)):St:=⟨.agg [.sl (Y0.Me.Pq.map Gv.c), .sl (Y0.Me.Tr.map (cL (cI .i64))), .sl (Y0.Sp.map Gs.c), .f .f32 Y0.Film, .f .f32 Y0.Bend, .sl (Y0.We.map (cF .f32)), .f .f32 Y0.Fall.X, .f .f32 Y0.Fall.Y, .f .f32 Y0.Fall.Z] :: .ptr 0 0 0 :: .nils :: .ptr 1 0 0 :: .fn 106 [.ptr 1 0 0] :: an 4 (.sl (Y0.Me.Pq.map Gv.c) :: an 13 (.ptr 0 0 0 :: .ptr 0 0 0 :: .sl (Y0.Me.Pq.map Gv.c) :: .i .i64 (Y0.Me.Pq.length:Int) :: .own 2 :: .fn 106 [.ptr 1 0 0] :: .ptr 0 0 2 :: .sl (Y0.Sp.map Gs.c) :: an 25 (.ptr 0 0 0 :: .ptr 0 0 0 :: .sl (Y0.Me.Pq.map Gv.c) :: .ptr 0 0 0 :: .ptr 0 0 1 :: .sl (Y0.Me.Tr.map (cL (cI .i64))) :: .i .i64 (Y0.Me.Tr.length:Int) :: .i .i64 Y1 :: an 115 []))),[.box 42 [.sl (Y0.Me.Pq.map Gv.c), .sl (Y0.Me.Tr.map (cL (cI .i64))), .sl (Y0.Sp.map Gs.c), .f .f32 Y0.Film, .f .f32 Y0.Bend, .sl (Y0.We.map (cF .f32)), .f .f32 Y0.Fall.X, .f .f32 Y0.Fall.Y, .f .f32 Y0.Fall.Z], .box 34 [.own 2], .vec 40 3 (Ys.map Gv.c) false]⟩
def Z6E:List Bool:=(mR false [0,5,4,1,13,8,25,8,115])
theorem ZeR (Y0:Gb) (hp0:Y0.Me.Pq.length≤1073741824) (hp1:Y0.Me.Tr.length≤1073741824) (hp2:∀ t∈Y0.Me.Tr,t.length≤1073741824) (hp3:Y0.Sp.length≤1073741824) (hp4:Y0.We.length≤1073741824) (hp5:OkBd Y0):∀ (k:Nat) (Y1:Int) (Ys:(List Gv)) (Z4r:0≤Y1) (Z4s:Ys.length=Y0.Me.Pq.length) (hk:((Y0.Me.Tr.length:Int) - Y1).toNat < k),Lp prog 0 (sub (X0 f57) [1,1,1,1,1,0,1,0,0]) (ZeQ Y0 Y1 Ys) (Z7Q Y0 (ZM Y0 k Y1 Ys)).1 (Z7Q Y0 (ZM Y0 k Y1 Ys)).2:=by
 intro k
 induction k with
 | zero=>intro Y1 Ys Z4r Z4s hk;exact absurd hk (Nat.not_lt_zero _)
 | succ k ih =>
  intro Y1 Ys Z4r Z4s hk
  cases Yv:(decide (Y1 < (Y0.Me.Tr.length:Int))) with
  | true =>
   have YI:=odt Yv
   have YT:(0:Int)≤Y1:=(by assumption)
   have YV:Y1 < (Y0.Me.Tr.length:Int):=(by assumption)
   have YX:(Y0.Me.Tr.getD Y1.toNat default).length≤1073741824:=(by exact X4Q hp5.e (by assumption) Yv)
   have YZ:(Y0.Me.Tr.getD Y1.toNat default).length=3∧∀ x∈(Y0.Me.Tr.getD Y1.toNat default),0≤x∧x < (Y0.Me.Pq.length:Int):=(by exact tri3 hp5.e (by assumption) Yv)
   have p {a C} (s:Scr a C):=sB Yv<|sG (cL (cI .i64)) Y0.Me.Tr Y1 YT YV<|sF (Zcx Y0.Me (Y0.Me.Tr.getD Y1.toNat default) hp0 hp1 hp2 YX YZ)<|sF (Z8y (Zf Y0.Me (Y0.Me.Tr.getD Y1.toNat default)))<|s
   cases YF:(fcmp .gtr .f32 (ZJ (Zf Y0.Me (Y0.Me.Tr.getD Y1.toNat default))) 0) with
   | true =>
    have y_4:(-9223372036854775808:Int)≤(Y1 + 1):=by clear p;exact (by omega)
    have y_5:(Y1 + 1)≤(9223372036854775807:Int):=by clear p;exact (by omega)
    have e:ZM Y0 (k + 1) Y1 Ys=(ZM Y0 k (Y1 + 1) (Z37 Y0 Y1 Ys)):=by simp only [ZM,Yv,YF,cond_true]
    rw [e]
    exact X8 E0Ok Z7 [] Z6E [0,1,3] (ih (Y1 + 1) (Z37 Y0 Y1 Ys) (show 0≤(Y1 + 1) from (by omega)) (show (Z37 Y0 Y1 Ys).length=Y0.Me.Pq.length from (by simp_all<;>omega)) (by omega)) (p (sB YF<|sL Z9P 4 (X1 (Z7O Y0 Y1 Ys) (x:=(Z37 Y0 Y1 Ys)) (ZeN Y0 Y1 Ys hp0 hp1 hp2 hp3 hp4 hp5 Z4r Z4s Yv (((3:Int) - 0).toNat + 1) 0 Ys (show 0≤0 from (by omega)) (show Ys.length=Ys.length from (by omega)) (Nat.lt_succ_self _)) rfl)<|sI (Y1 + 1) y_4 y_5<|sN)) (by kernel_rfl)
   | false =>
    have y_4:(-9223372036854775808:Int)≤(Y1 + 1):=by clear p;exact (by omega)
    have y_5:(Y1 + 1)≤(9223372036854775807:Int):=by clear p;exact (by omega)
    have e:ZM Y0 (k + 1) Y1 Ys=(ZM Y0 k (Y1 + 1) (Z38 Y0 Y1 Ys)):=by simp only [ZM,Yv,YF,cond_true,cond_false]
    rw [e]
    exact X8 E0Ok Z7 [] Z6E [0,1,3] (ih (Y1 + 1) (Z38 Y0 Y1 Ys) (show 0≤(Y1 + 1) from (by omega)) (show (Z38 Y0 Y1 Ys).length=Y0.Me.Pq.length from (by simp_all<;>omega)) (by omega)) (p (sB YF<|sL Z9S 4 (X1 (Z7P Y0 Y1 Ys) (x:=(Z38 Y0 Y1 Ys)) (ZeP Y0 Y1 Ys hp0 hp1 hp2 hp3 hp4 hp5 Z4r Z4s Yv (((3:Int) - 0).toNat + 1) 0 Ys (show 0≤0 from (by omega)) (show Ys.length=Ys.length from (by omega)) (Nat.lt_succ_self _)) rfl)<|sI (Y1 + 1) y_4 y_5<|sN)) (by kernel_rfl)
  | false =>
   have YI:=odf Yv
   have e:ZM Y0 (k + 1) Y1 Ys=Ys:=by simp only [ZM,Yv,cond_false]
   rw [e]
   exact outR (e:=(.exit 2)) E0Ok Z7 [] (mR false [0,5,18,8,25,6,117]) [0,1,2] (sB Yv<|sN) (by kernel_rfl) (by intro h;cases h)
theorem ZdE (Y0:Gb):∀ (k:Nat) (Y1:Int) (Ys:(List Gv)) (hk:((Y0.Me.Tr.length:Int) - Y1).toNat < k),(ZM Y0 k Y1 Ys).length=Ys.length:=by
  intro k
  induction k with
  | zero=>intro Y1 Ys hk;exact absurd hk (Nat.not_lt_zero _)
  | succ k ih =>
    intro Y1 Ys hk
    cases Yv:(decide (Y1 < (Y0.Me.Tr.length:Int))) with
    | true =>
      cases YF:(fcmp .gtr .f32 (ZJ (Zf Y0.Me (Y0.Me.Tr.getD Y1.toNat default))) 0) with
      | true =>
        have e:ZM Y0 (k + 1) Y1 Ys=(ZM Y0 k (Y1 + 1) (Z37 Y0 Y1 Ys)):=by simp only [ZM,Yv,YF,cond_true]
        rw [e,ih (Y1 + 1) (Z37 Y0 Y1 Ys) (by simp_all<;>omega)];simp
      | false =>
        have e:ZM Y0 (k + 1) Y1 Ys=(ZM Y0 k (Y1 + 1) (Z38 Y0 Y1 Ys)):=by simp only [ZM,Yv,YF,cond_true,cond_false]
        rw [e,ih (Y1 + 1) (Z38 Y0 Y1 Ys) (by simp_all<;>omega)];simp
    | false =>
      have e:ZM Y0 (k + 1) Y1 Ys=Ys:=by simp only [ZM,Yv,cond_false]
      first | (rw [e];done) | (rw [e];rfl)
def Z3C (Y0:Gb):(List Gv):=(ZM Y0 (((Y0.Me.Tr.length:Int) - 0).toNat + 1) 0 (Z3B Y0))
@[simp] theorem Zhn (Y0:Gb):(Z3C Y0).length=((Z3B Y0):(List Gv)).length:=ZdE Y0 (((Y0.Me.Tr.length:Int) - 0).toNat + 1) 0 (Z3B Y0) (by exact Nat.lt_succ_self _)
def Z3D (Y0:Gb) (Y1:Int) (Ys:(List Gv)):(List Gv):=(ZL (((Za Y0.Me).getD Y1.toNat default).getD 0 default) (ZG Y0.Me ((Za Y0.Me).getD Y1.toNat default)) Y0.Bend Ys)
@[simp] theorem Z46 (Y0:Gb) (Y1:Int) (Ys:(List Gv)):(Z3D Y0 Y1 Ys).length=Ys.length:=by unfold Z3D;simp
def Z3o (Y0:Gb) (Y1:Int) (Ys:(List Gv)):(List Gv):=(ZL (((Za Y0.Me).getD Y1.toNat default).getD 1 default) (ZG Y0.Me ((Za Y0.Me).getD Y1.toNat default)) Y0.Bend (Z3D Y0 Y1 Ys))
@[simp] theorem Z40 (Y0:Gb) (Y1:Int) (Ys:(List Gv)):(Z3o Y0 Y1 Ys).length=(Z3D Y0 Y1 Ys).length:=by unfold Z3o;simp
def Z3p (Y0:Gb) (Y1:Int) (Ys:(List Gv)):(List Gv):=(ZL (((Za Y0.Me).getD Y1.toNat default).getD 2 default) (ZG Y0.Me ((Za Y0.Me).getD Y1.toNat default)) (fneg .f32 Y0.Bend) (Z3o Y0 Y1 Ys))
@[simp] theorem Z41 (Y0:Gb) (Y1:Int) (Ys:(List Gv)):(Z3p Y0 Y1 Ys).length=(Z3o Y0 Y1 Ys).length:=by unfold Z3p;simp
def Z3q (Y0:Gb) (Y1:Int) (Ys:(List Gv)):(List Gv):=(ZL (((Za Y0.Me).getD Y1.toNat default).getD 3 default) (ZG Y0.Me ((Za Y0.Me).getD Y1.toNat default)) (fneg .f32 Y0.Bend) (Z3p Y0 Y1 Ys))
@[simp] theorem ZhH (Y0:Gb) (Y1:Int) (Ys:(List Gv)):(Z3q Y0 Y1 Ys).length=(Z3p Y0 Y1 Ys).length:=by unfold Z3q;simp
def Z1k (Y0:Gb):Nat→Int→(List Gv)→(List Gv)
  | 0,_,_=>default
  | k + 1,Y1,Ys=>(cond (decide (Y1 < ((Za Y0.Me).length:Int)))
    (Z1k Y0 k (Y1 + 1) (Z3q Y0 Y1 Ys))
    Ys)
def Z7R (Y0:Gb) (r:(List Gv)):Ex × St:=((.exit 6),⟨.agg [.sl (Y0.Me.Pq.map Gv.c), .sl (Y0.Me.Tr.map (cL (cI .i64))), .sl (Y0.Sp.map Gs.c), .f .f32 Y0.Film, .f .f32 Y0.Bend, .sl (Y0.We.map (cF .f32)), .f .f32 Y0.Fall.X, .f .f32 Y0.Fall.Y, .f .f32 Y0.Fall.Z] :: .ptr 0 0 0 :: .nils :: .ptr 1 0 0 :: .fn 106 [.ptr 1 0 0] :: an 18 (.ptr 0 0 0 :: .ptr 0 0 0 :: .sl (Y0.Me.Pq.map Gv.c) :: .i .i64 (Y0.Me.Pq.length:Int) :: .own 2 :: .fn 106 [.ptr 1 0 0] :: .ptr 0 0 2 :: .sl (Y0.Sp.map Gs.c) :: an 25 (.ptr 0 0 0 :: .ptr 0 0 0 :: .sl (Y0.Me.Pq.map Gv.c) :: .ptr 0 0 0 :: .ptr 0 0 1 :: .sl (Y0.Me.Tr.map (cL (cI .i64))) :: an 54 (.ptr 0 0 0 :: .agg [.sl (Y0.Me.Pq.map Gv.c), .sl (Y0.Me.Tr.map (cL (cI .i64)))] :: .own 3 :: an 60 []))),[.box 42 [.sl (Y0.Me.Pq.map Gv.c), .sl (Y0.Me.Tr.map (cL (cI .i64))), .sl (Y0.Sp.map Gs.c), .f .f32 Y0.Film, .f .f32 Y0.Bend, .sl (Y0.We.map (cF .f32)), .f .f32 Y0.Fall.X, .f .f32 Y0.Fall.Y, .f .f32 Y0.Fall.Z], .box 34 [.own 2], .vec 40 3 (r.map Gv.c) false, .nest 49 ((Za Y0.Me).map fun l=>l.map (cI .i64)) false]⟩)
def ZeS (Y0:Gb) (Y1:Int) (Ys:(List Gv)):St:=⟨.agg [.sl (Y0.Me.Pq.map Gv.c), .sl (Y0.Me.Tr.map (cL (cI .i64))), .sl (Y0.Sp.map Gs.c), .f .f32 Y0.Film, .f .f32 Y0.Bend, .sl (Y0.We.map (cF .f32)), .f .f32 Y0.Fall.X, .f .f32 Y0.Fall.Y, .f .f32 Y0.Fall.Z] :: .ptr 0 0 0 :: .nils :: .ptr 1 0 0 :: .fn 106 [.ptr 1 0 0] :: an 18 (.ptr 0 0 0 :: .ptr 0 0 0 :: .sl (Y0.Me.Pq.map Gv.c) :: .i .i64 (Y0.Me.Pq.length:Int) :: .own 2 :: .fn 106 [.ptr 1 0 0] :: .ptr 0 0 2 :: .sl (Y0.Sp.map Gs.c) :: an 25 (.ptr 0 0 0 :: .ptr 0 0 0 :: .sl (Y0.Me.Pq.map Gv.c) :: .ptr 0 0 0 :: .ptr 0 0 1 :: .sl (Y0.Me.Tr.map (cL (cI .i64))) :: an 54 (.ptr 0 0 0 :: .agg [.sl (Y0.Me.Pq.map Gv.c), .sl (Y0.Me.Tr.map (cL (cI .i64)))] :: .own 3 :: .i .i64 ((Za Y0.Me).length:Int) :: .i .i64 Y1 :: an 58 []))),[.box 42 [.sl (Y0.Me.Pq.map Gv.c), .sl (Y0.Me.Tr.map (cL (cI .i64))), .sl (Y0.Sp.map Gs.c), .f .f32 Y0.Film, .f .f32 Y0.Bend, .sl (Y0.We.map (cF .f32)), .f .f32 Y0.Fall.X, .f .f32 Y0.Fall.Y, .f .f32 Y0.Fall.Z], .box 34 [.own 2], .vec 40 3 (Ys.map Gv.c) false, .nest 49 ((Za Y0.Me).map fun l=>l.map (cI .i64)) false]⟩
def Z9V:List Bool:=(mR false [0,5,18,8,25,6,54,5,58])
def ZdF:List Bool:=(mR false [0,5,18,8,25,6,54,3,60])
set_option maxHeartbeats 1000000 in
theorem ZeT (Y0:Gb) (hp0:Y0.Me.Pq.length≤1073741824) (hp1:Y0.Me.Tr.length≤1073741824) (hp2:∀ t∈Y0.Me.Tr,t.length≤1073741824) (hp3:Y0.Sp.length≤1073741824) (hp4:Y0.We.length≤1073741824) (hp5:OkBd Y0):∀ (k:Nat) (Y1:Int) (Ys:(List Gv)) (Z9W:0≤Y1) (Z9X:Ys.length=Y0.Me.Pq.length) (hk:(((Za Y0.Me).length:Int) - Y1).toNat < k),Lp prog 0 (sub (X0 f57) [1,1,1,1,1,1,0,1,0,0]) (ZeS Y0 Y1 Ys) (Z7R Y0 (Z1k Y0 k Y1 Ys)).1 (Z7R Y0 (Z1k Y0 k Y1 Ys)).2:=by
 intro k
 induction k with
 | zero=>intro Y1 Ys Z9W Z9X hk;exact absurd hk (Nat.not_lt_zero _)
 | succ k ih =>
  intro Y1 Ys Z9W Z9X hk
  cases Yv:(decide (Y1 < ((Za Y0.Me).length:Int))) with
  | true =>
   have YI:=odt Yv
   have YT:(0:Int)≤Y1:=(by assumption)
   have YV:Int.toNat Y1 < (Za Y0.Me).length:=(by omega)
   have YX:Y1.toNat < (Za Y0.Me).length:=(by assumption)
   have YZ:((Za Y0.Me).getD Y1.toNat default).length≤1073741824:=(by exact ZiE hp5.e (by assumption) Yv)
   have y_4:((Za Y0.Me).getD Y1.toNat default).length=4∧∀ x∈((Za Y0.Me).getD Y1.toNat default),0≤x∧x < (Y0.Me.Pq.length:Int):=(by exact Z7m hp5.e (by assumption) Yv)
   have y_5:(0:Int)≤0:=(by omega)
   have y_6:0 < (((Za Y0.Me).getD Y1.toNat default).length:Int):=(by omega)
   have y_7:0 < ((Za Y0.Me).getD Y1.toNat default).length:=(by omega)
   have y_8:Ys.length≤1073741824:=(by omega)
   have y_9:0≤(((Za Y0.Me).getD Y1.toNat default).getD 0 default):=(by (have q:=Okh.at (Z7m hp5.e (by assumption) Yv);omega))
   have Y1b:(((Za Y0.Me).getD Y1.toNat default).getD 0 default) < (Ys.length:Int):=(by (have q:=Okh.at (Z7m hp5.e (by assumption) Yv);omega))
   have Y1h:(0:Int)≤1:=(by omega)
   have Y1l:1 < (((Za Y0.Me).getD Y1.toNat default).length:Int):=(by omega)
   have Y1m:1 < ((Za Y0.Me).getD Y1.toNat default).length:=(by omega)
   have Y1q:(Z3D Y0 Y1 Ys).length≤1073741824:=(by (have q:=Okh.at (Z7m hp5.e (by assumption) Yv);(simp only [Z46,Z40,Z41];omega)))
   have Y1r:0≤(((Za Y0.Me).getD Y1.toNat default).getD 1 default):=(by (have q:=Okh.at (Z7m hp5.e (by assumption) Yv);omega))
   have Y1s:(((Za Y0.Me).getD Y1.toNat default).getD 1 default) < ((Z3D Y0 Y1 Ys).length:Int):=(by (have q:=Okh.at (Z7m hp5.e (by assumption) Yv);(simp only [Z46,Z40,Z41];omega)))
   have Y1t:(0:Int)≤2:=(by omega)
   have Y1p:2 < (((Za Y0.Me).getD Y1.toNat default).length:Int):=(by omega)
   have Y1u:2 < ((Za Y0.Me).getD Y1.toNat default).length:=(by omega)
   have Y1v:(Z3o Y0 Y1 Ys).length≤1073741824:=(by (have q:=Okh.at (Z7m hp5.e (by assumption) Yv);(simp only [Z46,Z40,Z41];omega)))
   have Y1y:0≤(((Za Y0.Me).getD Y1.toNat default).getD 2 default):=(by (have q:=Okh.at (Z7m hp5.e (by assumption) Yv);omega))
   have Y1z:(((Za Y0.Me).getD Y1.toNat default).getD 2 default) < ((Z3o Y0 Y1 Ys).length:Int):=(by (have q:=Okh.at (Z7m hp5.e (by assumption) Yv);(simp only [Z46,Z40,Z41];omega)))
   have Y1C:(0:Int)≤3:=(by omega)
   have Y1L:3 < (((Za Y0.Me).getD Y1.toNat default).length:Int):=(by omega)
   have Y1P:3 < ((Za Y0.Me).getD Y1.toNat default).length:=(by omega)
   have Y1Q:(Z3p Y0 Y1 Ys).length≤1073741824:=(by (have q:=Okh.at (Z7m hp5.e (by assumption) Yv);(simp only [Z46,Z40,Z41];omega)))
   have Y1R:0≤(((Za Y0.Me).getD Y1.toNat default).getD 3 default):=(by (have q:=Okh.at (Z7m hp5.e (by assumption) Yv);omega))
   have Y1S:(((Za Y0.Me).getD Y1.toNat default).getD 3 default) < ((Z3p Y0 Y1 Ys).length:Int):=(by (have q:=Okh.at (Z7m hp5.e (by assumption) Yv);(simp only [Z46,Z40,Z41];omega)))
   have Y1U:(-9223372036854775808:Int)≤(Y1 + 1):=(by omega)
   have Y1V:(Y1 + 1)≤(9223372036854775807:Int):=(by have q:=ZbE _ hp5.e;omega)
   have e:Z1k Y0 (k + 1) Y1 Ys=(Z1k Y0 k (Y1 + 1) (Z3q Y0 Y1 Ys)):=by simp only [Z1k,Yv,cond_true]
   rw [e]
   exact X8 E0Ok Z7 [] Z9V [0,1,2,3] (ih (Y1 + 1) (Z3q Y0 Y1 Ys) (show 0≤(Y1 + 1) from (by omega)) (show (Z3q Y0 Y1 Ys).length=Y0.Me.Pq.length from (by simp_all<;>omega)) (by omega)) (sB Yv<|sC (X1V (c:=(cI .i64)) (l:=(Za Y0.Me)) (i:=Y1) YT YV)<|sC (X2g (c:=(cI .i64)) (l:=(Za Y0.Me)) YX)<|sF (Fn.castA (args':=[.agg [.sl (Y0.Me.Pq.map Gv.c), .sl (Y0.Me.Tr.map (cL (cI .i64)))], .sl (((Za Y0.Me).map fun l=>l.map (cI .i64)).getD Y1.toNat [])]) (ZdP Y0.Me ((Za Y0.Me).getD Y1.toNat default) hp0 hp1 hp2 YZ y_4) (by simp [cI];done))<|sK [7,7]<|sC (Xz (c:=(cI .i64)) (l:=(Za Y0.Me)) (j:=Y1.toNat) (i:=0) y_5 y_6)<|sE (Xy (c:=(cI .i64)) (l:=(Za Y0.Me)) (j:=Y1.toNat) (k:=0) y_7)<|sS (X4.frame (Z2k (((Za Y0.Me).getD Y1.toNat default).getD 0 default) (ZG Y0.Me ((Za Y0.Me).getD Y1.toNat default)) Y0.Bend Ys y_8 y_9 Y1b) [1,2] (R:=[.box 42 [.sl (Y0.Me.Pq.map Gv.c), .sl (Y0.Me.Tr.map (cL (cI .i64))), .sl (Y0.Sp.map Gs.c), .f .f32 Y0.Film, .f .f32 Y0.Bend, .sl (Y0.We.map (cF .f32)), .f .f32 Y0.Fall.X, .f .f32 Y0.Fall.Y, .f .f32 Y0.Fall.Z], .box 34 [.own 2], .vec 40 3 (Ys.map Gv.c) false, .nest 49 ((Za Y0.Me).map fun l=>l.map (cI .i64)) false, .box 40 [.f .f32 ((ZG Y0.Me ((Za Y0.Me).getD Y1.toNat default)).X), .f .f32 ((ZG Y0.Me ((Za Y0.Me).getD Y1.toNat default)).Y), .f .f32 ((ZG Y0.Me ((Za Y0.Me).getD Y1.toNat default)).Z)]]) (args':=[.i .i64 (((Za Y0.Me).getD Y1.toNat default).getD 0 default), .agg [.f .f32 ((ZG Y0.Me ((Za Y0.Me).getD Y1.toNat default)).X), .f .f32 ((ZG Y0.Me ((Za Y0.Me).getD Y1.toNat default)).Y), .f .f32 ((ZG Y0.Me ((Za Y0.Me).getD Y1.toNat default)).Z)], .f .f32 Y0.Bend, .ptr 1 0 0]) rfl rfl rfl rfl rfl rfl)<|sK [7,7]<|sC (Xz (c:=(cI .i64)) (l:=(Za Y0.Me)) (j:=Y1.toNat) (i:=1) Y1h Y1l)<|sE (Xy (c:=(cI .i64)) (l:=(Za Y0.Me)) (j:=Y1.toNat) (k:=1) Y1m)<|sS (X4.frame (Z2k (((Za Y0.Me).getD Y1.toNat default).getD 1 default) (ZG Y0.Me ((Za Y0.Me).getD Y1.toNat default)) Y0.Bend (Z3D Y0 Y1 Ys) Y1q Y1r Y1s) [1,2] (R:=[.box 42 [.sl (Y0.Me.Pq.map Gv.c), .sl (Y0.Me.Tr.map (cL (cI .i64))), .sl (Y0.Sp.map Gs.c), .f .f32 Y0.Film, .f .f32 Y0.Bend, .sl (Y0.We.map (cF .f32)), .f .f32 Y0.Fall.X, .f .f32 Y0.Fall.Y, .f .f32 Y0.Fall.Z], .box 34 [.own 2], .vec 40 3 ((Z3D Y0 Y1 Ys).map Gv.c) false, .nest 49 ((Za Y0.Me).map fun l=>l.map (cI .i64)) false, .box 40 [.f .f32 ((ZG Y0.Me ((Za Y0.Me).getD Y1.toNat default)).X), .f .f32 ((ZG Y0.Me ((Za Y0.Me).getD Y1.toNat default)).Y), .f .f32 ((ZG Y0.Me ((Za Y0.Me).getD Y1.toNat default)).Z)]]) (args':=[.i .i64 (((Za Y0.Me).getD Y1.toNat default).getD 1 default), .agg [.f .f32 ((ZG Y0.Me ((Za Y0.Me).getD Y1.toNat default)).X), .f .f32 ((ZG Y0.Me ((Za Y0.Me).getD Y1.toNat default)).Y), .f .f32 ((ZG Y0.Me ((Za Y0.Me).getD Y1.toNat default)).Z)], .f .f32 Y0.Bend, .ptr 1 0 0]) rfl rfl rfl rfl rfl rfl)<|sK [8,8]<|sC (Xz (c:=(cI .i64)) (l:=(Za Y0.Me)) (j:=Y1.toNat) (i:=2) Y1t Y1p)<|sE (Xy (c:=(cI .i64)) (l:=(Za Y0.Me)) (j:=Y1.toNat) (k:=2) Y1u)<|sS (X4.frame (Z2k (((Za Y0.Me).getD Y1.toNat default).getD 2 default) (ZG Y0.Me ((Za Y0.Me).getD Y1.toNat default)) (fneg .f32 Y0.Bend) (Z3o Y0 Y1 Ys) Y1v Y1y Y1z) [1,2] (R:=[.box 42 [.sl (Y0.Me.Pq.map Gv.c), .sl (Y0.Me.Tr.map (cL (cI .i64))), .sl (Y0.Sp.map Gs.c), .f .f32 Y0.Film, .f .f32 Y0.Bend, .sl (Y0.We.map (cF .f32)), .f .f32 Y0.Fall.X, .f .f32 Y0.Fall.Y, .f .f32 Y0.Fall.Z], .box 34 [.own 2], .vec 40 3 ((Z3o Y0 Y1 Ys).map Gv.c) false, .nest 49 ((Za Y0.Me).map fun l=>l.map (cI .i64)) false, .box 40 [.f .f32 ((ZG Y0.Me ((Za Y0.Me).getD Y1.toNat default)).X), .f .f32 ((ZG Y0.Me ((Za Y0.Me).getD Y1.toNat default)).Y), .f .f32 ((ZG Y0.Me ((Za Y0.Me).getD Y1.toNat default)).Z)]]) (args':=[.i .i64 (((Za Y0.Me).getD Y1.toNat default).getD 2 default), .agg [.f .f32 ((ZG Y0.Me ((Za Y0.Me).getD Y1.toNat default)).X), .f .f32 ((ZG Y0.Me ((Za Y0.Me).getD Y1.toNat default)).Y), .f .f32 ((ZG Y0.Me ((Za Y0.Me).getD Y1.toNat default)).Z)], .f .f32 (fneg .f32 Y0.Bend), .ptr 1 0 0]) rfl rfl rfl rfl rfl rfl)<|sK [8,8]<|sC (Xz (c:=(cI .i64)) (l:=(Za Y0.Me)) (j:=Y1.toNat) (i:=3) Y1C Y1L)<|sE (Xy (c:=(cI .i64)) (l:=(Za Y0.Me)) (j:=Y1.toNat) (k:=3) Y1P)<|sS (X4.frame (Z2k (((Za Y0.Me).getD Y1.toNat default).getD 3 default) (ZG Y0.Me ((Za Y0.Me).getD Y1.toNat default)) (fneg .f32 Y0.Bend) (Z3p Y0 Y1 Ys) Y1Q Y1R Y1S) [1,2] (R:=[.box 42 [.sl (Y0.Me.Pq.map Gv.c), .sl (Y0.Me.Tr.map (cL (cI .i64))), .sl (Y0.Sp.map Gs.c), .f .f32 Y0.Film, .f .f32 Y0.Bend, .sl (Y0.We.map (cF .f32)), .f .f32 Y0.Fall.X, .f .f32 Y0.Fall.Y, .f .f32 Y0.Fall.Z], .box 34 [.own 2], .vec 40 3 ((Z3p Y0 Y1 Ys).map Gv.c) false, .nest 49 ((Za Y0.Me).map fun l=>l.map (cI .i64)) false, .box 40 [.f .f32 ((ZG Y0.Me ((Za Y0.Me).getD Y1.toNat default)).X), .f .f32 ((ZG Y0.Me ((Za Y0.Me).getD Y1.toNat default)).Y), .f .f32 ((ZG Y0.Me ((Za Y0.Me).getD Y1.toNat default)).Z)]]) (args':=[.i .i64 (((Za Y0.Me).getD Y1.toNat default).getD 3 default), .agg [.f .f32 ((ZG Y0.Me ((Za Y0.Me).getD Y1.toNat default)).X), .f .f32 ((ZG Y0.Me ((Za Y0.Me).getD Y1.toNat default)).Y), .f .f32 ((ZG Y0.Me ((Za Y0.Me).getD Y1.toNat default)).Z)], .f .f32 (fneg .f32 Y0.Bend), .ptr 1 0 0]) rfl rfl rfl rfl rfl rfl)<|sI (Y1 + 1) Y1U Y1V<|sN) (by kernel_rfl)
  | false =>
   have YI:=odf Yv
   have e:Z1k Y0 (k + 1) Y1 Ys=Ys:=by simp only [Z1k,Yv,cond_false]
   rw [e]
   exact outR (e:=(.exit 6)) E0Ok Z7 [] ZdF [0,1,2,3] (sB Yv<|sN) (by kernel_rfl) (by intro h;cases h)
theorem ZdG (Y0:Gb):∀ (k:Nat) (Y1:Int) (Ys:(List Gv)) (hk:(((Za Y0.Me).length:Int) - Y1).toNat < k),(Z1k Y0 k Y1 Ys).length=Ys.length:=by
  intro k
  induction k with
  | zero=>intro Y1 Ys hk;exact absurd hk (Nat.not_lt_zero _)
  | succ k ih =>
    intro Y1 Ys hk
    cases Yv:(decide (Y1 < ((Za Y0.Me).length:Int))) with
    | true =>
      have e:Z1k Y0 (k + 1) Y1 Ys=(Z1k Y0 k (Y1 + 1) (Z3q Y0 Y1 Ys)):=by simp only [Z1k,Yv,cond_true]
      rw [e,ih (Y1 + 1) (Z3q Y0 Y1 Ys) (by simp_all<;>omega)];simp
    | false =>
      have e:Z1k Y0 (k + 1) Y1 Ys=Ys:=by simp only [Z1k,Yv,cond_false]
      first | (rw [e];done) | (rw [e];rfl)
def Z3E (Y0:Gb):(List Gv):=(Z1k Y0 ((((Za Y0.Me).length:Int) - 0).toNat + 1) 0 (Z3C Y0))
@[simp] theorem Zho (Y0:Gb):(Z3E Y0).length=((Z3C Y0):(List Gv)).length:=ZdG Y0 ((((Za Y0.Me).length:Int) - 0).toNat + 1) 0 (Z3C Y0) (by exact Nat.lt_succ_self _)
def Z1l (Y0:Gb):Nat→Int→(List Gv)→(List Gv)
  | 0,_,_=>default
  | k + 1,Y1,Ys=>(cond (decide (Y1 < (Y0.We.length:Int)))
    (Z1l Y0 k (Y1 + 1) (ZL Y1 Y0.Fall (Y0.We.getD Y1.toNat default) Ys))
    Ys)
def Z7S (Y0:Gb) (r:(List Gv)):Ex × St:=((.exit 8),⟨.agg [.sl (Y0.Me.Pq.map Gv.c), .sl (Y0.Me.Tr.map (cL (cI .i64))), .sl (Y0.Sp.map Gs.c), .f .f32 Y0.Film, .f .f32 Y0.Bend, .sl (Y0.We.map (cF .f32)), .f .f32 Y0.Fall.X, .f .f32 Y0.Fall.Y, .f .f32 Y0.Fall.Z] :: .ptr 0 0 0 :: .nils :: .ptr 1 0 0 :: .fn 106 [.ptr 1 0 0] :: an 18 (.ptr 0 0 0 :: .ptr 0 0 0 :: .sl (Y0.Me.Pq.map Gv.c) :: .i .i64 (Y0.Me.Pq.length:Int) :: .own 2 :: .fn 106 [.ptr 1 0 0] :: .ptr 0 0 2 :: .sl (Y0.Sp.map Gs.c) :: an 25 (.ptr 0 0 0 :: .ptr 0 0 0 :: .sl (Y0.Me.Pq.map Gv.c) :: .ptr 0 0 0 :: .ptr 0 0 1 :: .sl (Y0.Me.Tr.map (cL (cI .i64))) :: an 54 (.ptr 0 0 0 :: .agg [.sl (Y0.Me.Pq.map Gv.c), .sl (Y0.Me.Tr.map (cL (cI .i64)))] :: .own 3 :: an 44 (.ptr 0 0 5 :: .sl (Y0.We.map (cF .f32)) :: an 14 [])))),[.box 42 [.sl (Y0.Me.Pq.map Gv.c), .sl (Y0.Me.Tr.map (cL (cI .i64))), .sl (Y0.Sp.map Gs.c), .f .f32 Y0.Film, .f .f32 Y0.Bend, .sl (Y0.We.map (cF .f32)), .f .f32 Y0.Fall.X, .f .f32 Y0.Fall.Y, .f .f32 Y0.Fall.Z], .box 34 [.own 2], .vec 40 3 (r.map Gv.c) false, .nest 49 ((Za Y0.Me).map fun l=>l.map (cI .i64)) false]⟩)
def ZeU (Y0:Gb) (Y1:Int) (Ys:(List Gv)):St:=⟨.agg [.sl (Y0.Me.Pq.map Gv.c), .sl (Y0.Me.Tr.map (cL (cI .i64))), .sl (Y0.Sp.map Gs.c), .f .f32 Y0.Film, .f .f32 Y0.Bend, .sl (Y0.We.map (cF .f32)), .f .f32 Y0.Fall.X, .f .f32 Y0.Fall.Y, .f .f32 Y0.Fall.Z] :: .ptr 0 0 0 :: .nils :: .ptr 1 0 0 :: .fn 106 [.ptr 1 0 0] :: an 18 (.ptr 0 0 0 :: .ptr 0 0 0 :: .sl (Y0.Me.Pq.map Gv.c) :: .i .i64 (Y0.Me.Pq.length:Int) :: .own 2 :: .fn 106 [.ptr 1 0 0] :: .ptr 0 0 2 :: .sl (Y0.Sp.map Gs.c) :: an 25 (.ptr 0 0 0 :: .ptr 0 0 0 :: .sl (Y0.Me.Pq.map Gv.c) :: .ptr 0 0 0 :: .ptr 0 0 1 :: .sl (Y0.Me.Tr.map (cL (cI .i64))) :: an 54 (.ptr 0 0 0 :: .agg [.sl (Y0.Me.Pq.map Gv.c), .sl (Y0.Me.Tr.map (cL (cI .i64)))] :: .own 3 :: an 44 (.ptr 0 0 5 :: .sl (Y0.We.map (cF .f32)) :: .i .i64 (Y0.We.length:Int) :: .i .i64 Y1 :: an 12 [])))),[.box 42 [.sl (Y0.Me.Pq.map Gv.c), .sl (Y0.Me.Tr.map (cL (cI .i64))), .sl (Y0.Sp.map Gs.c), .f .f32 Y0.Film, .f .f32 Y0.Bend, .sl (Y0.We.map (cF .f32)), .f .f32 Y0.Fall.X, .f .f32 Y0.Fall.Y, .f .f32 Y0.Fall.Z], .box 34 [.own 2], .vec 40 3 (Ys.map Gv.c) false, .nest 49 ((Za Y0.Me).map fun l=>l.map (cI .i64)) false]⟩
def Z9Y:List Bool:=(mR false [0,5,18,8,25,6,54,3,44,4,12])
def ZdH:List Bool:=(mR false [0,5,18,8,25,6,54,3,44,2,14])
theorem ZeV (Y0:Gb) (hp0:Y0.Me.Pq.length≤1073741824) (hp1:Y0.Me.Tr.length≤1073741824) (hp2:∀ t∈Y0.Me.Tr,t.length≤1073741824) (hp3:Y0.Sp.length≤1073741824) (hp4:Y0.We.length≤1073741824) (hp5:OkBd Y0):∀ (k:Nat) (Y1:Int) (Ys:(List Gv)) (Z6F:0≤Y1) (Z9Z:Ys.length=Y0.Me.Pq.length) (hk:((Y0.We.length:Int) - Y1).toNat < k),Lp prog 0 (sub (X0 f57) [1,1,1,1,1,1,1,0,1,0,0]) (ZeU Y0 Y1 Ys) (Z7S Y0 (Z1l Y0 k Y1 Ys)).1 (Z7S Y0 (Z1l Y0 k Y1 Ys)).2:=by
 intro k
 induction k with
 | zero=>intro Y1 Ys Z6F Z9Z hk;exact absurd hk (Nat.not_lt_zero _)
 | succ k ih =>
  intro Y1 Ys Z6F Z9Z hk
  cases Yv:(decide (Y1 < (Y0.We.length:Int))) with
  | true =>
   have YI:=odt Yv
   have YT:(0:Int)≤Y1:=(by assumption)
   have YV:Y1 < (Y0.We.length:Int):=(by assumption)
   have YX:Ys.length≤1073741824:=(by omega)
   have YZ:Y1 < (Ys.length:Int):=(by have q:=hp5.w;omega)
   have y_4:(-9223372036854775808:Int)≤(Y1 + 1):=(by omega)
   have y_5:(Y1 + 1)≤(9223372036854775807:Int):=(by omega)
   have e:Z1l Y0 (k + 1) Y1 Ys=(Z1l Y0 k (Y1 + 1) (ZL Y1 Y0.Fall (Y0.We.getD Y1.toNat default) Ys)):=by simp only [Z1l,Yv,cond_true]
   rw [e]
   exact X8 E0Ok Z7 [] Z9Y [0,1,2,3] (ih (Y1 + 1) (ZL Y1 Y0.Fall (Y0.We.getD Y1.toNat default) Ys) (show 0≤(Y1 + 1) from (by omega)) (show (ZL Y1 Y0.Fall (Y0.We.getD Y1.toNat default) Ys).length=Y0.Me.Pq.length from (by simp_all<;>omega)) (by omega)) (sB Yv<|sG (cF .f32) Y0.We Y1 YT YV<|sS (X4.frame (Z2k Y1 Y0.Fall (Y0.We.getD Y1.toNat default) Ys YX Z6F YZ) [1,2] (R:=[.box 42 [.sl (Y0.Me.Pq.map Gv.c), .sl (Y0.Me.Tr.map (cL (cI .i64))), .sl (Y0.Sp.map Gs.c), .f .f32 Y0.Film, .f .f32 Y0.Bend, .sl (Y0.We.map (cF .f32)), .f .f32 Y0.Fall.X, .f .f32 Y0.Fall.Y, .f .f32 Y0.Fall.Z], .box 34 [.own 2], .vec 40 3 (Ys.map Gv.c) false, .nest 49 ((Za Y0.Me).map fun l=>l.map (cI .i64)) false]) (args':=[.i .i64 Y1, .agg [.f .f32 Y0.Fall.X, .f .f32 Y0.Fall.Y, .f .f32 Y0.Fall.Z], .f .f32 (Y0.We.getD Y1.toNat default), .ptr 1 0 0]) rfl rfl rfl rfl rfl rfl)<|sI (Y1 + 1) y_4 y_5<|sN) (by kernel_rfl)
  | false =>
   have YI:=odf Yv
   have e:Z1l Y0 (k + 1) Y1 Ys=Ys:=by simp only [Z1l,Yv,cond_false]
   rw [e]
   exact outR (e:=(.exit 8)) E0Ok Z7 [] ZdH [0,1,2,3] (sB Yv<|sN) (by kernel_rfl) (by intro h;cases h)
theorem ZdI (Y0:Gb):∀ (k:Nat) (Y1:Int) (Ys:(List Gv)) (hk:((Y0.We.length:Int) - Y1).toNat < k),(Z1l Y0 k Y1 Ys).length=Ys.length:=by
  intro k
  induction k with
  | zero=>intro Y1 Ys hk;exact absurd hk (Nat.not_lt_zero _)
  | succ k ih =>
    intro Y1 Ys hk
    cases Yv:(decide (Y1 < (Y0.We.length:Int))) with
    | true =>
      have e:Z1l Y0 (k + 1) Y1 Ys=(Z1l Y0 k (Y1 + 1) (ZL Y1 Y0.Fall (Y0.We.getD Y1.toNat default) Ys)):=by simp only [Z1l,Yv,cond_true]
      rw [e,ih (Y1 + 1) (ZL Y1 Y0.Fall (Y0.We.getD Y1.toNat default) Ys) (by simp_all<;>omega)];simp
    | false =>
      have e:Z1l Y0 (k + 1) Y1 Ys=Ys:=by simp only [Z1l,Yv,cond_false]
      first | (rw [e];done) | (rw [e];rfl)
def Z4U (Y0:Gb):(List Gv):=(Z1l Y0 (((Y0.We.length:Int) - 0).toNat + 1) 0 (Z3E Y0))
@[simp] theorem Zhp (Y0:Gb):(Z4U Y0).length=((Z3E Y0):(List Gv)).length:=ZdI Y0 (((Y0.We.length:Int) - 0).toNat + 1) 0 (Z3E Y0) (by exact Nat.lt_succ_self _)
def Z3F (Y0:Gb):(List Gv):=(Z4U Y0)
@[simp] theorem Zi7 (Y0:Gb):(Z3F Y0).length=Y0.Me.Pq.length:=by
  first | (simp [Z3F];done)
theorem Zij (b:Gb):Z1L b=Z1y b:=by kernel_rfl
theorem Zik (b:Gb) (x:Int) (r:List Gv) (h:fcmp .gtr .f32 (Z2w (Zr b.Me (b.Me.Tr.getD x.toNat default))) 0=true):∀ (k:Nat) (y:Int) (s:List Gv),Z1u b x r k y s=Z13 b x r k y s:=by
  intro k
  induction k with
  | zero=>intro y s;rfl
  | succ k ih =>
    intro y s
    rw [Z1u,Z13,ih]
    unfold Z2z Z5J Z2Y Zu
    rw [h]
    kernel_rfl
theorem Zil (b:Gb) (x:Int) (r:List Gv) (h:fcmp .gtr .f32 (Z2w (Zr b.Me (b.Me.Tr.getD x.toNat default))) 0=false):∀ (k:Nat) (y:Int) (s:List Gv),Z1v b x r k y s=Z13 b x r k y s:=by
  intro k
  induction k with
  | zero=>intro y s;rfl
  | succ k ih =>
    intro y s
    rw [Z1v,Z13,ih]
    unfold Z2z Z5J Z2Y Zu
    rw [h]
    kernel_rfl
theorem Zim (b:Gb):∀ (k:Nat) (x:Int) (r:List Gv),ZM b k x r=Z1e b k x r:=by
  intro k
  induction k with
  | zero=>intro x r;rfl
  | succ k ih =>
    intro x r
    rw [ZM,Z1e]
    rw [show fcmp .gtr .f32 (ZJ (Zf b.Me (b.Me.Tr.getD x.toNat default))) 0=fcmp .gtr .f32 (Z2w (Zr b.Me (b.Me.Tr.getD x.toNat default))) 0 from by kernel_rfl]
    unfold Z37 Z38 Z2T
    cases h:fcmp .gtr .f32 (Z2w (Zr b.Me (b.Me.Tr.getD x.toNat default))) 0 with
    | true=>rw [cond_true,ih,Zik b x r h]
    | false=>rw [cond_false,ih,Zil b x r h]
theorem Zin (b:Gb) (h:Za b.Me=Z2 b.Me):∀ (k:Nat) (x:Int) (r:List Gv),Z1k b k x r=Z1f b k x r:=by
  intro k
  induction k with
  | zero=>intro x r;rfl
  | succ k ih =>
    intro x r
    rw [Z1k,Z1f,ih]
    unfold Z3q Z3p Z3o Z3D
    rw [h]
    kernel_rfl
theorem Zio (b:Gb) (h:b.We.length=b.Me.Pq.length):∀ (k:Nat) (x:Int) (r:List Gv),Z1l b k x r=Z1g b k x r:=by
  intro k
  induction k with
  | zero=>intro x r;rfl
  | succ k ih =>
    intro x r
    rw [Z1l,Z1g,ih,h]
    kernel_rfl
theorem ZhR (b:Gb) (ok:OkBd b):Z3F b=Z3m b:=by
  have h:Za b.Me=Z2 b.Me:=by rw [Z6C _ ok.e,Z9m _ ok.e]
  unfold Z3F Z3m Z4U Z4G Z3E Z3t Z3C Z3s Z3B Z3r
  have e2:ZM b=Z1e b:=by funext k x r;exact Zim b k x r
  have e5:Z1k b=Z1f b:=by funext k x r;exact Zin b h k x r
  have e6:Z1l b=Z1g b:=by funext k x r;exact Zio b ok.w k x r
  rw [Zij,e2,e5,e6,h,ok.w]
theorem Zgr (Y0:Gb) (hp0:Y0.Me.Pq.length≤1073741824) (hp1:Y0.Me.Tr.length≤1073741824) (hp2:∀ t∈Y0.Me.Tr,t.length≤1073741824) (hp3:Y0.Sp.length≤1073741824) (hp4:Y0.We.length≤1073741824) (hp5:OkBd Y0)  : Fn prog 57 [.agg [.sl (Y0.Me.Pq.map Gv.c), .sl (Y0.Me.Tr.map (cL (cI .i64))), .sl (Y0.Sp.map Gs.c), .f .f32 Y0.Film, .f .f32 Y0.Bend, .sl (Y0.We.map (cF .f32)), .f .f32 Y0.Fall.X, .f .f32 Y0.Fall.Y, .f .f32 Y0.Fall.Z]] (.own 0) [.vec 40 3 ((Z3F Y0).map Gv.c) false]:=by
 have y0:(0:Int)≤(Y0.Me.Pq.length:Int):=(by omega)
 have y1:((Y0.Me.Pq.length:Int):Int)≤2147483648:=(by omega)
 have y2:OkE Y0.Me.Pq.length Y0.Me.Tr:=(by exact hp5.e)
 refine fnS E0Ok Z7 (c:=X0 f57) [] (.own 0) [.vec 40 3 ((Z4U Y0).map Gv.c) false] func57 (sZ Gv.c Y0.Me.Pq<|sC (show (Y0.Me.Pq.length:Int)=(Y0.Me.Pq.length:Int) from rfl)<|sC y0<|sC y1<|sZ Gs.c Y0.Sp<|sL (mR false [0,5,18,10,146]) 3 (Xk (st2:=⟨.agg [.sl (Y0.Me.Pq.map Gv.c), .sl (Y0.Me.Tr.map (cL (cI .i64))), .sl (Y0.Sp.map Gs.c), .f .f32 Y0.Film, .f .f32 Y0.Bend, .sl (Y0.We.map (cF .f32)), .f .f32 Y0.Fall.X, .f .f32 Y0.Fall.Y, .f .f32 Y0.Fall.Z] :: .ptr 0 0 0 :: .nils :: .ptr 2 0 0 :: .fn 106 [.ptr 2 0 0] :: an 18 (.ptr 0 0 0 :: .ptr 0 0 0 :: .sl (Y0.Me.Pq.map Gv.c) :: .i .i64 (Y0.Me.Pq.length:Int) :: .own 1 :: .fn 106 [.ptr 2 0 0] :: .ptr 0 0 2 :: .sl (Y0.Sp.map Gs.c) :: .i .i64 (Y0.Sp.length:Int) :: .i .i64 0 :: an 146 []),[.box 42 [.sl (Y0.Me.Pq.map Gv.c), .sl (Y0.Me.Tr.map (cL (cI .i64))), .sl (Y0.Sp.map Gs.c), .f .f32 Y0.Film, .f .f32 Y0.Bend, .sl (Y0.We.map (cF .f32)), .f .f32 Y0.Fall.X, .f .f32 Y0.Fall.Y, .f .f32 Y0.Fall.Z], .vec 40 3 (List.replicate (Int.toNat (Y0.Me.Pq.length:Int)) [.f .f32 0, .f .f32 0, .f .f32 0]) false, .box 34 [.own 1]]⟩) (X1 (Z7N Y0) (x:=(Z3B Y0)) (ZeL Y0 hp0 hp1 hp2 hp3 hp4 hp5 (((Y0.Sp.length:Int) - 0).toNat + 1) 0 (List.replicate (Y0.Me.Pq.length:Int).toNat (⟨0,0,0⟩:Gv)) (show 0≤0 from (by omega)) (show (List.replicate (Y0.Me.Pq.length:Int).toNat (⟨0,0,0⟩:Gv)).length=Y0.Me.Pq.length from (by simp;done)) (Nat.lt_succ_self _)) rfl) (by simp [Zb5,Gv.c]))<|sZ (cL (cI .i64)) Y0.Me.Tr<|sL Z6E 3 (X1 (Z7Q Y0) (x:=(Z3C Y0)) (ZeR Y0 hp0 hp1 hp2 hp3 hp4 hp5 (((Y0.Me.Tr.length:Int) - 0).toNat + 1) 0 (Z3B Y0) (show 0≤0 from (by omega)) (show (Z3B Y0).length=Y0.Me.Pq.length from (by simp;done)) (Nat.lt_succ_self _)) rfl)<|sF (Zcz Y0.Me hp0 hp1 hp2 y2)<|sM (X26 (l:=(Za Y0.Me)) (f:=fun l=>l.map (cI .i64)))<|sL Z9V 4 (X1 (Z7R Y0) (x:=(Z3E Y0)) (ZeT Y0 hp0 hp1 hp2 hp3 hp4 hp5 ((((Za Y0.Me).length:Int) - 0).toNat + 1) 0 (Z3C Y0) (show 0≤0 from (by omega)) (show (Z3C Y0).length=Y0.Me.Pq.length from (by simp;done)) (Nat.lt_succ_self _)) rfl)<|sZ (cF .f32) Y0.We<|sL Z9Y 4 (X1 (Z7S Y0) (x:=(Z4U Y0)) (ZeV Y0 hp0 hp1 hp2 hp3 hp4 hp5 (((Y0.We.length:Int) - 0).toNat + 1) 0 (Z3E Y0) (show 0≤0 from (by omega)) (show (Z3E Y0).length=Y0.Me.Pq.length from (by simp;done)) (Nat.lt_succ_self _)) rfl)<|sK [2] sN) rfl (by kernel_rfl) (by kernel_rfl) rfl ?_ ?_
 · rfl
 · simp [Z3F]
def Z1m (Yd:Gb) (Y3:(List Int)):Nat→Int→(List Gv)→(List Gv)
  | 0,_,_=>default
  | k + 1,Y1,Yl=>(cond (decide (Y1 < (Y3.length:Int)))
    (Z1m Yd Y3 k (Y1 + 1) (Yl.set ((Y3.getD Y1.toNat default).toNat) (⟨0,0,0⟩:Gv)))
    Yl)
def Z6G (Yd:Gb) (Y3:(List Int)) (r:(List Gv)):Ex × St:=((.exit 0),⟨.agg [.sl (Yd.Me.Pq.map Gv.c), .sl (Yd.Me.Tr.map (cL (cI .i64))), .sl (Yd.Sp.map Gs.c), .f .f32 Yd.Film, .f .f32 Yd.Bend, .sl (Yd.We.map (cF .f32)), .f .f32 Yd.Fall.X, .f .f32 Yd.Fall.Y, .f .f32 Yd.Fall.Z] :: .sl (Y3.map (cI .i64)) :: .ptr 0 0 0 :: .any :: .nils :: .own 1 :: .any :: .any :: .agg [.sl (Yd.Me.Pq.map Gv.c), .sl (Yd.Me.Tr.map (cL (cI .i64))), .sl (Yd.Sp.map Gs.c), .f .f32 Yd.Film, .f .f32 Yd.Bend, .sl (Yd.We.map (cF .f32)), .f .f32 Yd.Fall.X, .f .f32 Yd.Fall.Y, .f .f32 Yd.Fall.Z] :: .own 1 :: .sl (Y3.map (cI .i64)) :: an 11 [],[.box 42 [.sl (Yd.Me.Pq.map Gv.c), .sl (Yd.Me.Tr.map (cL (cI .i64))), .sl (Yd.Sp.map Gs.c), .f .f32 Yd.Film, .f .f32 Yd.Bend, .sl (Yd.We.map (cF .f32)), .f .f32 Yd.Fall.X, .f .f32 Yd.Fall.Y, .f .f32 Yd.Fall.Z], .vec 40 3 (r.map Gv.c) false]⟩)
def Za0 (Yd:Gb) (Y3:(List Int)) (Y1:Int) (Yl:(List Gv)):St:=⟨.agg [.sl (Yd.Me.Pq.map Gv.c), .sl (Yd.Me.Tr.map (cL (cI .i64))), .sl (Yd.Sp.map Gs.c), .f .f32 Yd.Film, .f .f32 Yd.Bend, .sl (Yd.We.map (cF .f32)), .f .f32 Yd.Fall.X, .f .f32 Yd.Fall.Y, .f .f32 Yd.Fall.Z] :: .sl (Y3.map (cI .i64)) :: .ptr 0 0 0 :: .any :: .nils :: .own 1 :: .any :: .any :: .agg [.sl (Yd.Me.Pq.map Gv.c), .sl (Yd.Me.Tr.map (cL (cI .i64))), .sl (Yd.Sp.map Gs.c), .f .f32 Yd.Film, .f .f32 Yd.Bend, .sl (Yd.We.map (cF .f32)), .f .f32 Yd.Fall.X, .f .f32 Yd.Fall.Y, .f .f32 Yd.Fall.Z] :: .own 1 :: .sl (Y3.map (cI .i64)) :: .i .i64 (Y3.length:Int) :: .i .i64 Y1 :: an 9 [],[.box 42 [.sl (Yd.Me.Pq.map Gv.c), .sl (Yd.Me.Tr.map (cL (cI .i64))), .sl (Yd.Sp.map Gs.c), .f .f32 Yd.Film, .f .f32 Yd.Bend, .sl (Yd.We.map (cF .f32)), .f .f32 Yd.Fall.X, .f .f32 Yd.Fall.Y, .f .f32 Yd.Fall.Z], .vec 40 3 (Yl.map Gv.c) false]⟩
theorem ZdJ (Yd:Gb) (Y3:(List Int)) (hp0:Yd.Me.Pq.length≤1073741824) (hp1:Yd.Me.Tr.length≤1073741824) (hp2:∀ t∈Yd.Me.Tr,t.length≤1073741824) (hp3:Yd.Sp.length≤1073741824) (hp4:Yd.We.length≤1073741824) (hp5:Y3.length≤1073741824) (hp6:OkBd Yd) (hp7:OkIx Yd.Me.Pq.length (fun x=>x) Y3):∀ (k:Nat) (Y1:Int) (Yl:(List Gv)) (Z8r:0≤Y1) (Z8s:Yl.length=Yd.Me.Pq.length) (hk:((Y3.length:Int) - Y1).toNat < k),Lp prog 0 (sub (X0 f68) [1,1,0,1,0,0]) (Za0 Yd Y3 Y1 Yl) (Z6G Yd Y3 (Z1m Yd Y3 k Y1 Yl)).1 (Z6G Yd Y3 (Z1m Yd Y3 k Y1 Yl)).2:=by
 intro k
 induction k with
 | zero=>intro Y1 Yl Z8r Z8s hk;exact absurd hk (Nat.not_lt_zero _)
 | succ k ih =>
  intro Y1 Yl Z8r Z8s hk
  cases Yv:(decide (Y1 < (Y3.length:Int))) with
  | true =>
   have YI:=odt Yv
   have YT:(0:Int)≤Y1:=(by assumption)
   have YV:Y1 < (Y3.length:Int):=(by assumption)
   have YX:(0:Int)≤(Y3.getD Y1.toNat default):=(by have q:=OkIx.at hp7 (by assumption) YI;omega)
   have YZ:(Y3.getD Y1.toNat default) < (Yl.length:Int):=(by have q:=OkIx.at hp7 (by assumption) YI;omega)
   have y_4:(Y3.getD Y1.toNat default).toNat < Yl.length:=(by omega)
   have y_5:(-9223372036854775808:Int)≤(Y1 + 1):=(by omega)
   have y_6:(Y1 + 1)≤(9223372036854775807:Int):=(by omega)
   have e:Z1m Yd Y3 (k + 1) Y1 Yl=(Z1m Yd Y3 k (Y1 + 1) (Yl.set ((Y3.getD Y1.toNat default).toNat) (⟨0,0,0⟩:Gv))):=by simp only [Z1m,Yv,cond_true]
   rw [e]
   exact X9 E0Ok Z7 [] (mR false [0,3,1,2,2,5,9]) [0,1] (⟨.agg [.sl (Yd.Me.Pq.map Gv.c), .sl (Yd.Me.Tr.map (cL (cI .i64))), .sl (Yd.Sp.map Gs.c), .f .f32 Yd.Film, .f .f32 Yd.Bend, .sl (Yd.We.map (cF .f32)), .f .f32 Yd.Fall.X, .f .f32 Yd.Fall.Y, .f .f32 Yd.Fall.Z] :: .sl (Y3.map (cI .i64)) :: .ptr 0 0 0 :: .any :: .nils :: .own 1 :: .any :: .any :: .agg [.sl (Yd.Me.Pq.map Gv.c), .sl (Yd.Me.Tr.map (cL (cI .i64))), .sl (Yd.Sp.map Gs.c), .f .f32 Yd.Film, .f .f32 Yd.Bend, .sl (Yd.We.map (cF .f32)), .f .f32 Yd.Fall.X, .f .f32 Yd.Fall.Y, .f .f32 Yd.Fall.Z] :: .own 1 :: .sl (Y3.map (cI .i64)) :: .i .i64 (Y3.length:Int) :: .i .i64 (Y1 + 1) :: an 9 [],[.box 42 [.sl (Yd.Me.Pq.map Gv.c), .sl (Yd.Me.Tr.map (cL (cI .i64))), .sl (Yd.Sp.map Gs.c), .f .f32 Yd.Film, .f .f32 Yd.Bend, .sl (Yd.We.map (cF .f32)), .f .f32 Yd.Fall.X, .f .f32 Yd.Fall.Y, .f .f32 Yd.Fall.Z], .vec 40 3 ((Yl.map Gv.c).set ((Y3.getD Y1.toNat default).toNat) [.f .f32 0, .f .f32 0, .f .f32 0]) false]⟩) (sB Yv<|sG (cI .i64) Y3 Y1 YT YV<|sX Gv.c Yl (Y3.getD Y1.toNat default) YX YZ<|sC (Xl (c:=Gv.c) (l:=Yl) y_4)<|sI (Y1 + 1) y_5 y_6<|sN) (by kernel_rfl) (by simp [Za0,List.map_set,Gv.c]) (ih (Y1 + 1) (Yl.set ((Y3.getD Y1.toNat default).toNat) (⟨0,0,0⟩:Gv)) (show 0≤(Y1 + 1) from (by omega)) (show (Yl.set ((Y3.getD Y1.toNat default).toNat) (⟨0,0,0⟩:Gv)).length=Yd.Me.Pq.length from (by have q:=OkIx.at hp7 (by assumption) YI;(simp only [List.length_set];omega))) (by omega))
  | false =>
   have YI:=odf Yv
   have e:Z1m Yd Y3 (k + 1) Y1 Yl=Yl:=by simp only [Z1m,Yv,cond_false]
   rw [e]
   exact outR (e:=(.exit 0)) E0Ok Z7 [] (mR false [0,3,1,2,2,3,11]) [0,1] (sB Yv<|sN) (by kernel_rfl) (by intro h;cases h)
theorem ZcN (Yd:Gb) (Y3:(List Int)):∀ (k:Nat) (Y1:Int) (Yl:(List Gv)) (hk:((Y3.length:Int) - Y1).toNat < k),(Z1m Yd Y3 k Y1 Yl).length=Yl.length:=by
  intro k
  induction k with
  | zero=>intro Y1 Yl hk;exact absurd hk (Nat.not_lt_zero _)
  | succ k ih =>
    intro Y1 Yl hk
    cases Yv:(decide (Y1 < (Y3.length:Int))) with
    | true =>
      have e:Z1m Yd Y3 (k + 1) Y1 Yl=(Z1m Yd Y3 k (Y1 + 1) (Yl.set ((Y3.getD Y1.toNat default).toNat) (⟨0,0,0⟩:Gv))):=by simp only [Z1m,Yv,cond_true]
      rw [e,ih (Y1 + 1) (Yl.set ((Y3.getD Y1.toNat default).toNat) (⟨0,0,0⟩:Gv)) (by simp_all<;>omega)];simp
    | false =>
      have e:Z1m Yd Y3 (k + 1) Y1 Yl=Yl:=by simp only [Z1m,Yv,cond_false]
      first | (rw [e];done) | (rw [e];rfl)
def Z4B (Yd:Gb) (Y3:(List Int)):(List Gv):=(Z1m Yd Y3 (((Y3.length:Int) - 0).toNat + 1) 0 (Z3F Yd))
@[simp] theorem ZgG (Yd:Gb) (Y3:(List Int)):(Z4B Yd Y3).length=((Z3F Yd):(List Gv)).length:=ZcN Yd Y3 (((Y3.length:Int) - 0).toNat + 1) 0 (Z3F Yd) (by exact Nat.lt_succ_self _)
def Z9 (Yd:Gb) (Y3:(List Int)):(List Gv):=(Z4B Yd Y3)
@[simp] theorem Zp (Yd:Gb) (Y3:(List Int)):(Z9 Yd Y3).length=Yd.Me.Pq.length:=by
  first | (simp [Z9];done)
end Go.Ab
