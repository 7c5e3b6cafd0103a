/- The functions of this seat as plain Lean, and that the program's are these. Printed by a program of the prover's own. -/
import Derived.Test.YtpndflbllggeiaaGreatB7
set_option linter.unusedVariables false
set_option linter.unusedSimpArgs false
set_option maxRecDepth 100000
namespace Go.Ab
open Go.RowKit Go.Proofs.Tryz
def Z3Q (Y0:Gb) (Y1:Int) (Yd:(List Gv)):(List Gv):=(ZF ((Y0.Sp.getD Y1.toNat default).A) (Zx Y0 (Y0.Sp.getD Y1.toNat default)) (Z4p (Zx Y0 (Y0.Sp.getD Y1.toNat default)) (Y0.Sp.getD Y1.toNat default)) Yd)
@[simp] theorem Z86 (Y0:Gb) (Y1:Int) (Yd:(List Gv)):(Z3Q Y0 Y1 Yd).length=Yd.length:=by unfold Z3Q; simp
def Z3R (Y0:Gb) (Y1:Int) (Yd:(List Gv)):(List Gv):=(ZF ((Y0.Sp.getD Y1.toNat default).B) (Zx Y0 (Y0.Sp.getD Y1.toNat default)) (fneg .f32 (Z4p (Zx Y0 (Y0.Sp.getD Y1.toNat default)) (Y0.Sp.getD Y1.toNat default))) (Z3Q Y0 Y1 Yd))
@[simp] theorem ZhH (Y0:Gb) (Y1:Int) (Yd:(List Gv)):(Z3R Y0 Y1 Yd).length=(Z3Q Y0 Y1 Yd).length:=by unfold Z3R; simp
def Z1F (Y0:Gb):Nat→Int→(List Gv)→(List Gv)
  | 0,_,_ => default
  | k + 1,Y1,Yd => (cond (decide (Y1 < (Y0.Sp.length:Int)))
    (Z1F Y0 k (Y1 + 1) (Z3R Y0 Y1 Yd))
    Yd)
def Z7A (Y0:Gb) (r:(List Gv)):Ex × St:=((.exit 0),⟨.agg [.sl (Y0.Me.Pq.map Gv.c), .sl (Y0.Me.Tr.map (cL (cI .i64))), .sl (Y0.Sp.map Gs.c), .f .f32 Y0.Film, .f .f32 Y0.Bend, .sl (Y0.We.map (cF .f32)), .f .f32 Y0.Fall.X, .f .f32 Y0.Fall.Y, .f .f32 Y0.Fall.Z] :: .ptr 0 0 0 :: .nils :: .ptr 1 0 0 :: .fn 106 [.ptr 1 0 0] :: an 18 (.ptr 0 0 0 :: .ptr 0 0 0 :: .sl (Y0.Me.Pq.map Gv.c) :: .i .i64 (Y0.Me.Pq.length:Int) :: .own 2 :: .fn 106 [.ptr 1 0 0] :: .ptr 0 0 2 :: .sl (Y0.Sp.map Gs.c) :: an 148 []),[.box 42 [.sl (Y0.Me.Pq.map Gv.c), .sl (Y0.Me.Tr.map (cL (cI .i64))), .sl (Y0.Sp.map Gs.c), .f .f32 Y0.Film, .f .f32 Y0.Bend, .sl (Y0.We.map (cF .f32)), .f .f32 Y0.Fall.X, .f .f32 Y0.Fall.Y, .f .f32 Y0.Fall.Z], .box 34 [.own 2], .vec 40 3 (r.map Gv.c) false]⟩)
def ZaI (Y0:Gb) (Y1:Int) (Yd:(List Gv)):St:=⟨.agg [.sl (Y0.Me.Pq.map Gv.c), .sl (Y0.Me.Tr.map (cL (cI .i64))), .sl (Y0.Sp.map Gs.c), .f .f32 Y0.Film, .f .f32 Y0.Bend, .sl (Y0.We.map (cF .f32)), .f .f32 Y0.Fall.X, .f .f32 Y0.Fall.Y, .f .f32 Y0.Fall.Z] :: .ptr 0 0 0 :: .nils :: .ptr 2 0 0 :: .fn 106 [.ptr 2 0 0] :: an 18 (.ptr 0 0 0 :: .ptr 0 0 0 :: .sl (Y0.Me.Pq.map Gv.c) :: .i .i64 (Y0.Me.Pq.length:Int) :: .own 1 :: .fn 106 [.ptr 2 0 0] :: .ptr 0 0 2 :: .sl (Y0.Sp.map Gs.c) :: .i .i64 (Y0.Sp.length:Int) :: .i .i64 Y1 :: an 146 []),[.box 42 [.sl (Y0.Me.Pq.map Gv.c), .sl (Y0.Me.Tr.map (cL (cI .i64))), .sl (Y0.Sp.map Gs.c), .f .f32 Y0.Film, .f .f32 Y0.Bend, .sl (Y0.We.map (cF .f32)), .f .f32 Y0.Fall.X, .f .f32 Y0.Fall.Y, .f .f32 Y0.Fall.Z], .vec 40 3 (Yd.map Gv.c) false, .box 34 [.own 1]]⟩
theorem ZeC (Y0:Gb) (hp0:Y0.Me.Pq.length≤1073741824) (hp1:Y0.Me.Tr.length≤1073741824) (hp2:∀ t∈Y0.Me.Tr,t.length≤1073741824) (hp3:Y0.Sp.length≤1073741824) (hp4:Y0.We.length≤1073741824) (hp5:OkBd Y0):∀ (k:Nat) (Y1:Int) (Yd:(List Gv)) (Z9s:0≤Y1) (Z9t:Yd.length=Y0.Me.Pq.length) (hk:((Y0.Sp.length:Int) - Y1).toNat < k),Lp prog 0 (sub (X0 f57) [1,1,1,0,1,0,0]) (ZaI Y0 Y1 Yd) (Z7A Y0 (Z1F Y0 k Y1 Yd)).1 (Z7A Y0 (Z1F Y0 k Y1 Yd)).2:=by
 intro k
 induction k with
 | zero => intro Y1 Yd Z9s Z9t hk; exact absurd hk (Nat.not_lt_zero _)
 | succ k ih =>
  intro Y1 Yd Z9s Z9t hk
  cases Yn:(decide (Y1 < (Y0.Sp.length:Int))) with
  | true =>
   have YM:=odt Yn
   have YS:(0:Int)≤Y1:=(by assumption)
   have YT:Y1 < (Y0.Sp.length:Int):=(by assumption)
   have YY:0≤(Y0.Sp.getD Y1.toNat default).A:=(by have q:=Z3E hp5 (by assumption) Yn; omega)
   have YZ:(Y0.Sp.getD Y1.toNat default).A < (Y0.Me.Pq.length:Int):=(by have q:=Z3E hp5 (by assumption) Yn; omega)
   have y_4:0≤(Y0.Sp.getD Y1.toNat default).B:=(by have q:=Z3E hp5 (by assumption) Yn; omega)
   have y_5:(Y0.Sp.getD Y1.toNat default).B < (Y0.Me.Pq.length:Int):=(by have q:=Z3E hp5 (by assumption) Yn; omega)
   have y_6:Yd.length≤1073741824:=(by omega)
   have y_7:0≤((Y0.Sp.getD Y1.toNat default).A):=(by assumption)
   have y_8:((Y0.Sp.getD Y1.toNat default).A) < (Yd.length:Int):=(by omega)
   have y_9:(Z3Q Y0 Y1 Yd).length≤1073741824:=(by have q:=Z3E hp5 (by assumption) Yn; (simp only [Z86]; omega))
   have Y19:0≤((Y0.Sp.getD Y1.toNat default).B):=(by assumption)
   have Y1g:((Y0.Sp.getD Y1.toNat default).B) < ((Z3Q Y0 Y1 Yd).length:Int):=(by have q:=Z3E hp5 (by assumption) Yn; (simp only [Z86]; omega))
   have Y1j:(-9223372036854775808:Int)≤(Y1 + 1):=(by omega)
   have Y1k:(Y1 + 1)≤(9223372036854775807:Int):=(by omega)
   have e:Z1F Y0 (k + 1) Y1 Yd=(Z1F Y0 k (Y1 + 1) (Z3R Y0 Y1 Yd)):=by simp only [Z1F,Yn,cond_true]
   rw [e]
   exact X9 E0Ok Z4 [] (mR false [0,5,18,10,146]) [0,1,2] (ih (Y1 + 1) (Z3R Y0 Y1 Yd) (show 0≤(Y1 + 1) from (by omega)) (show (Z3R Y0 Y1 Yd).length=Y0.Me.Pq.length from (by simp_all <;> omega)) (by omega)) (sB Yn <| sG Gs.c Y0.Sp Y1 YS YT <| sF (ZaG Y0 (Y0.Sp.getD Y1.toNat default) hp0 hp1 hp2 hp3 hp4 YY YZ y_4 y_5) <| sF (Zh4 (Zx Y0 (Y0.Sp.getD Y1.toNat default)) (Y0.Sp.getD Y1.toNat default)) <| sS (X3.frame (Z2h ((Y0.Sp.getD Y1.toNat default).A) (Zx Y0 (Y0.Sp.getD Y1.toNat default)) (Z4p (Zx Y0 (Y0.Sp.getD Y1.toNat default)) (Y0.Sp.getD Y1.toNat default)) Yd y_6 y_7 y_8) [2,1] (R:=[.box 42 [.sl (Y0.Me.Pq.map Gv.c), .sl (Y0.Me.Tr.map (cL (cI .i64))), .sl (Y0.Sp.map Gs.c), .f .f32 Y0.Film, .f .f32 Y0.Bend, .sl (Y0.We.map (cF .f32)), .f .f32 Y0.Fall.X, .f .f32 Y0.Fall.Y, .f .f32 Y0.Fall.Z], .vec 40 3 (Yd.map Gv.c) false, .box 34 [.own 1], .box 133 [.i .i64 ((Y0.Sp.getD Y1.toNat default).A), .i .i64 ((Y0.Sp.getD Y1.toNat default).B), .f .f32 ((Y0.Sp.getD Y1.toNat default).Long), .f .f32 ((Y0.Sp.getD Y1.toNat default).Stiff)], .box 40 [.f .f32 ((Zx Y0 (Y0.Sp.getD Y1.toNat default)).X), .f .f32 ((Zx Y0 (Y0.Sp.getD Y1.toNat default)).Y), .f .f32 ((Zx Y0 (Y0.Sp.getD Y1.toNat default)).Z)]]) (args':=[.i .i64 ((Y0.Sp.getD Y1.toNat default).A), .agg [.f .f32 ((Zx Y0 (Y0.Sp.getD Y1.toNat default)).X), .f .f32 ((Zx Y0 (Y0.Sp.getD Y1.toNat default)).Y), .f .f32 ((Zx Y0 (Y0.Sp.getD Y1.toNat default)).Z)], .f .f32 (Z4p (Zx Y0 (Y0.Sp.getD Y1.toNat default)) (Y0.Sp.getD Y1.toNat default)), .ptr 2 0 0]) rfl rfl rfl rfl rfl rfl) <| sS (X3.frame (Z2h ((Y0.Sp.getD Y1.toNat default).B) (Zx Y0 (Y0.Sp.getD Y1.toNat default)) (fneg .f32 (Z4p (Zx Y0 (Y0.Sp.getD Y1.toNat default)) (Y0.Sp.getD Y1.toNat default))) (Z3Q Y0 Y1 Yd) y_9 Y19 Y1g) [2,1] (R:=[.box 42 [.sl (Y0.Me.Pq.map Gv.c), .sl (Y0.Me.Tr.map (cL (cI .i64))), .sl (Y0.Sp.map Gs.c), .f .f32 Y0.Film, .f .f32 Y0.Bend, .sl (Y0.We.map (cF .f32)), .f .f32 Y0.Fall.X, .f .f32 Y0.Fall.Y, .f .f32 Y0.Fall.Z], .vec 40 3 ((Z3Q Y0 Y1 Yd).map Gv.c) false, .box 34 [.own 1], .box 133 [.i .i64 ((Y0.Sp.getD Y1.toNat default).A), .i .i64 ((Y0.Sp.getD Y1.toNat default).B), .f .f32 ((Y0.Sp.getD Y1.toNat default).Long), .f .f32 ((Y0.Sp.getD Y1.toNat default).Stiff)], .box 40 [.f .f32 ((Zx Y0 (Y0.Sp.getD Y1.toNat default)).X), .f .f32 ((Zx Y0 (Y0.Sp.getD Y1.toNat default)).Y), .f .f32 ((Zx Y0 (Y0.Sp.getD Y1.toNat default)).Z)]]) (args':=[.i .i64 ((Y0.Sp.getD Y1.toNat default).B), .agg [.f .f32 ((Zx Y0 (Y0.Sp.getD Y1.toNat default)).X), .f .f32 ((Zx Y0 (Y0.Sp.getD Y1.toNat default)).Y), .f .f32 ((Zx Y0 (Y0.Sp.getD Y1.toNat default)).Z)], .f .f32 (fneg .f32 (Z4p (Zx Y0 (Y0.Sp.getD Y1.toNat default)) (Y0.Sp.getD Y1.toNat default))), .ptr 2 0 0]) rfl rfl rfl rfl rfl rfl) <| sI (Y1 + 1) Y1j Y1k <| sN) (by kernel_rfl)
  | false =>
   have YM:=odf Yn
   have e:Z1F Y0 (k + 1) Y1 Yd=Yd:=by simp only [Z1F,Yn,cond_false]
   rw [e]
   exact outR (e:=(.exit 0)) E0Ok Z4 [] (mR false [0,5,18,8,148]) [0,2,1] (sB Yn <| sN) (by kernel_rfl) (by intro h; cases h)
theorem Zdh (Y0:Gb):∀ (k:Nat) (Y1:Int) (Yd:(List Gv)) (hk:((Y0.Sp.length:Int) - Y1).toNat < k),(Z1F Y0 k Y1 Yd).length=Yd.length:=by
  intro k
  induction k with
  | zero => intro Y1 Yd hk; exact absurd hk (Nat.not_lt_zero _)
  | succ k ih =>
    intro Y1 Yd hk
    cases Yn:(decide (Y1 < (Y0.Sp.length:Int))) with
    | true =>
      have e:Z1F Y0 (k + 1) Y1 Yd=(Z1F Y0 k (Y1 + 1) (Z3R Y0 Y1 Yd)):=by simp only [Z1F,Yn,cond_true]
      rw [e,ih (Y1 + 1) (Z3R Y0 Y1 Yd) (by simp_all <;> omega)]; simp
    | false =>
      have e:Z1F Y0 (k + 1) Y1 Yd=Yd:=by simp only [Z1F,Yn,cond_false]
      first | (rw [e]; done) | (rw [e]; rfl)
def Z3q (Y0:Gb):(List Gv):=(Z1F Y0 (((Y0.Sp.length:Int) - 0).toNat + 1) 0 (List.replicate (Y0.Me.Pq.length:Int).toNat (⟨0,0,0⟩:Gv)))
@[simp] theorem Zh6 (Y0:Gb):(Z3q Y0).length=((List.replicate (Y0.Me.Pq.length:Int).toNat (⟨0,0,0⟩:Gv)):(List Gv)).length:=Zdh Y0 (((Y0.Sp.length:Int) - 0).toNat + 1) 0 (List.replicate (Y0.Me.Pq.length:Int).toNat (⟨0,0,0⟩:Gv)) (by exact Nat.lt_succ_self _)
def Z2v (Y0:Gb) (Y1:Int) (Y8:Int):Gv:=(Z2d (Y0.Me.Pq.getD ((Y0.Me.Tr.getD Y1.toNat default).getD (Int.tmod (Y8 + 2) 3).toNat default).toNat default) (Y0.Me.Pq.getD ((Y0.Me.Tr.getD Y1.toNat default).getD (Int.tmod (Y8 + 1) 3).toNat default).toNat default))
def Z3S (Y0:Gb) (Y1:Int) (Y8:Int) (YD:(List Gv)):(List Gv):=(ZF ((Y0.Me.Tr.getD Y1.toNat default).getD Y8.toNat default) (Z2T (Zd Y0.Me (Y0.Me.Tr.getD Y1.toNat default)) (Z2v Y0 Y1 Y8)) (fop .quo .f32 (fneg .f32 (fop .mul .f32 1056964608 Y0.Film)) (ZD (Zd Y0.Me (Y0.Me.Tr.getD Y1.toNat default)))) YD)
@[simp] theorem ZhI (Y0:Gb) (Y1:Int) (Y8:Int) (YD:(List Gv)):(Z3S Y0 Y1 Y8 YD).length=YD.length:=by unfold Z3S; simp
def Z1q (Y0:Gb) (Y1:Int) (Yb:(List Gv)):Nat→Int→(List Gv)→(List Gv)
  | 0,_,_ => default
  | k + 1,Y8,YD => (cond (decide (Y8 < 3))
    (Z1q Y0 Y1 Yb k (Y8 + 1) (Z3S Y0 Y1 Y8 YD))
    YD)
def Z7B (Y0:Gb) (Y1:Int) (Yb:(List Gv)) (r:(List Gv)):Ex × St:=((.exit 4),⟨.agg [.sl (Y0.Me.Pq.map Gv.c), .sl (Y0.Me.Tr.map (cL (cI .i64))), .sl (Y0.Sp.map Gs.c), .f .f32 Y0.Film, .f .f32 Y0.Bend, .sl (Y0.We.map (cF .f32)), .f .f32 Y0.Fall.X, .f .f32 Y0.Fall.Y, .f .f32 Y0.Fall.Z] :: .ptr 0 0 0 :: .nils :: .ptr 1 0 0 :: .fn 106 [.ptr 1 0 0] :: an 4 (.sl (Y0.Me.Pq.map Gv.c) :: .any :: .sl ((Y0.Me.Tr.getD Y1.toNat default).map (cI .i64)) :: .ptr 2 0 0 :: .f .f32 (fop .quo .f32 (fneg .f32 (fop .mul .f32 1056964608 Y0.Film)) (ZD (Zd Y0.Me (Y0.Me.Tr.getD Y1.toNat default)))) :: .f .f32 (ZD (Zd Y0.Me (Y0.Me.Tr.getD Y1.toNat default))) :: an 8 (.ptr 0 0 0 :: .ptr 0 0 0 :: .sl (Y0.Me.Pq.map Gv.c) :: .i .i64 (Y0.Me.Pq.length:Int) :: .own 3 :: .fn 106 [.ptr 1 0 0] :: .ptr 0 0 2 :: .sl (Y0.Sp.map Gs.c) :: an 25 (.ptr 0 0 0 :: .ptr 0 0 0 :: .sl (Y0.Me.Pq.map Gv.c) :: .ptr 0 0 0 :: .ptr 0 0 1 :: .sl (Y0.Me.Tr.map (cL (cI .i64))) :: .i .i64 (Y0.Me.Tr.length:Int) :: .i .i64 Y1 :: .b (decide (Y1 < (Y0.Me.Tr.length:Int))) :: .ref [.sl ((Y0.Me.Tr.getD Y1.toNat default).map (cI .i64))] 0 :: .sl ((Y0.Me.Tr.getD Y1.toNat default).map (cI .i64)) :: .ptr 0 0 0 :: .agg [.sl (Y0.Me.Pq.map Gv.c), .sl (Y0.Me.Tr.map (cL (cI .i64)))] :: .sl ((Y0.Me.Tr.getD Y1.toNat default).map (cI .i64)) :: .agg [.f .f32 ((Zd Y0.Me (Y0.Me.Tr.getD Y1.toNat default)).X), .f .f32 ((Zd Y0.Me (Y0.Me.Tr.getD Y1.toNat default)).Y), .f .f32 ((Zd Y0.Me (Y0.Me.Tr.getD Y1.toNat default)).Z)] :: .agg [.f .f32 ((Zd Y0.Me (Y0.Me.Tr.getD Y1.toNat default)).X), .f .f32 ((Zd Y0.Me (Y0.Me.Tr.getD Y1.toNat default)).Y), .f .f32 ((Zd Y0.Me (Y0.Me.Tr.getD Y1.toNat default)).Z)] :: .f .f32 (ZD (Zd Y0.Me (Y0.Me.Tr.getD Y1.toNat default))) :: .f .f32 (ZD (Zd Y0.Me (Y0.Me.Tr.getD Y1.toNat default))) :: .b (fcmp .gtr .f32 (ZD (Zd Y0.Me (Y0.Me.Tr.getD Y1.toNat default))) 0) :: .ptr 0 0 3 :: .f .f32 Y0.Film :: .f .f32 (fop .mul .f32 1056964608 Y0.Film) :: .f .f32 (fneg .f32 (fop .mul .f32 1056964608 Y0.Film)) :: .f .f32 (ZD (Zd Y0.Me (Y0.Me.Tr.getD Y1.toNat default))) :: .f .f32 (fop .quo .f32 (fneg .f32 (fop .mul .f32 1056964608 Y0.Film)) (ZD (Zd Y0.Me (Y0.Me.Tr.getD Y1.toNat default)))) :: an 98 []))),[.box 42 [.sl (Y0.Me.Pq.map Gv.c), .sl (Y0.Me.Tr.map (cL (cI .i64))), .sl (Y0.Sp.map Gs.c), .f .f32 Y0.Film, .f .f32 Y0.Bend, .sl (Y0.We.map (cF .f32)), .f .f32 Y0.Fall.X, .f .f32 Y0.Fall.Y, .f .f32 Y0.Fall.Z], .box 34 [.own 3], .box 40 [.f .f32 ((Zd Y0.Me (Y0.Me.Tr.getD Y1.toNat default)).X), .f .f32 ((Zd Y0.Me (Y0.Me.Tr.getD Y1.toNat default)).Y), .f .f32 ((Zd Y0.Me (Y0.Me.Tr.getD Y1.toNat default)).Z)], .vec 40 3 (r.map Gv.c) false]⟩)
def ZeD (Y0:Gb) (Y1:Int) (Yb:(List Gv)) (Y8:Int) (YD:(List Gv)):St:=⟨.agg [.sl (Y0.Me.Pq.map Gv.c), .sl (Y0.Me.Tr.map (cL (cI .i64))), .sl (Y0.Sp.map Gs.c), .f .f32 Y0.Film, .f .f32 Y0.Bend, .sl (Y0.We.map (cF .f32)), .f .f32 Y0.Fall.X, .f .f32 Y0.Fall.Y, .f .f32 Y0.Fall.Z] :: .ptr 0 0 0 :: .nils :: .ptr 1 0 0 :: .fn 106 [.ptr 1 0 0] :: an 4 (.sl (Y0.Me.Pq.map Gv.c) :: .any :: .sl ((Y0.Me.Tr.getD Y1.toNat default).map (cI .i64)) :: .ptr 3 0 0 :: .f .f32 (fop .quo .f32 (fneg .f32 (fop .mul .f32 1056964608 Y0.Film)) (ZD (Zd Y0.Me (Y0.Me.Tr.getD Y1.toNat default)))) :: .f .f32 (ZD (Zd Y0.Me (Y0.Me.Tr.getD Y1.toNat default))) :: an 8 (.ptr 0 0 0 :: .ptr 0 0 0 :: .sl (Y0.Me.Pq.map Gv.c) :: .i .i64 (Y0.Me.Pq.length:Int) :: .own 2 :: .fn 106 [.ptr 1 0 0] :: .ptr 0 0 2 :: .sl (Y0.Sp.map Gs.c) :: an 25 (.ptr 0 0 0 :: .ptr 0 0 0 :: .sl (Y0.Me.Pq.map Gv.c) :: .ptr 0 0 0 :: .ptr 0 0 1 :: .sl (Y0.Me.Tr.map (cL (cI .i64))) :: .i .i64 (Y0.Me.Tr.length:Int) :: .i .i64 Y1 :: .b (decide (Y1 < (Y0.Me.Tr.length:Int))) :: .ref [.sl ((Y0.Me.Tr.getD Y1.toNat default).map (cI .i64))] 0 :: .sl ((Y0.Me.Tr.getD Y1.toNat default).map (cI .i64)) :: .ptr 0 0 0 :: .agg [.sl (Y0.Me.Pq.map Gv.c), .sl (Y0.Me.Tr.map (cL (cI .i64)))] :: .sl ((Y0.Me.Tr.getD Y1.toNat default).map (cI .i64)) :: .agg [.f .f32 ((Zd Y0.Me (Y0.Me.Tr.getD Y1.toNat default)).X), .f .f32 ((Zd Y0.Me (Y0.Me.Tr.getD Y1.toNat default)).Y), .f .f32 ((Zd Y0.Me (Y0.Me.Tr.getD Y1.toNat default)).Z)] :: .agg [.f .f32 ((Zd Y0.Me (Y0.Me.Tr.getD Y1.toNat default)).X), .f .f32 ((Zd Y0.Me (Y0.Me.Tr.getD Y1.toNat default)).Y), .f .f32 ((Zd Y0.Me (Y0.Me.Tr.getD Y1.toNat default)).Z)] :: .f .f32 (ZD (Zd Y0.Me (Y0.Me.Tr.getD Y1.toNat default))) :: .f .f32 (ZD (Zd Y0.Me (Y0.Me.Tr.getD Y1.toNat default))) :: .b (fcmp .gtr .f32 (ZD (Zd Y0.Me (Y0.Me.Tr.getD Y1.toNat default))) 0) :: .ptr 0 0 3 :: .f .f32 Y0.Film :: .f .f32 (fop .mul .f32 1056964608 Y0.Film) :: .f .f32 (fneg .f32 (fop .mul .f32 1056964608 Y0.Film)) :: .f .f32 (ZD (Zd Y0.Me (Y0.Me.Tr.getD Y1.toNat default))) :: .f .f32 (fop .quo .f32 (fneg .f32 (fop .mul .f32 1056964608 Y0.Film)) (ZD (Zd Y0.Me (Y0.Me.Tr.getD Y1.toNat default)))) :: .i .i64 Y8 :: an 97 []))),[.box 42 [.sl (Y0.Me.Pq.map Gv.c), .sl (Y0.Me.Tr.map (cL (cI .i64))), .sl (Y0.Sp.map Gs.c), .f .f32 Y0.Film, .f .f32 Y0.Bend, .sl (Y0.We.map (cF .f32)), .f .f32 Y0.Fall.X, .f .f32 Y0.Fall.Y, .f .f32 Y0.Fall.Z], .box 34 [.own 2], .vec 40 3 (YD.map Gv.c) false, .box 40 [.f .f32 ((Zd Y0.Me (Y0.Me.Tr.getD Y1.toNat default)).X), .f .f32 ((Zd Y0.Me (Y0.Me.Tr.getD Y1.toNat default)).Y), .f .f32 ((Zd Y0.Me (Y0.Me.Tr.getD Y1.toNat default)).Z)]]⟩
def Z9u:List Bool:=(mR false [0,5,4,1,1,4,8,8,25,26,97])
def Zdi:List Bool:=(mR false [0,5,4,1,1,4,8,8,25,25,98])
theorem ZeE (Y0:Gb) (Y1:Int) (Yb:(List Gv)) (hp0:Y0.Me.Pq.length≤1073741824) (hp1:Y0.Me.Tr.length≤1073741824) (hp2:∀ t∈Y0.Me.Tr,t.length≤1073741824) (hp3:Y0.Sp.length≤1073741824) (hp4:Y0.We.length≤1073741824) (hp5:OkBd Y0) (Z4c:0≤Y1) (Z4d:Yb.length=Y0.Me.Pq.length) (Z2s:(decide (Y1 < (Y0.Me.Tr.length:Int)))=true):∀ (k:Nat) (Y8:Int) (YD:(List Gv)) (Z9v:0≤Y8) (Z9w:YD.length=Yb.length) (hk:((3:Int) - Y8).toNat < k),Lp prog 0 (sub (X0 f57) [1,1,1,1,1,0,1,0,0,1,1,0,0,1,1,1,1,1,0,0]) (ZeD Y0 Y1 Yb Y8 YD) (Z7B Y0 Y1 Yb (Z1q Y0 Y1 Yb k Y8 YD)).1 (Z7B Y0 Y1 Yb (Z1q Y0 Y1 Yb k Y8 YD)).2:=by
 intro k
 induction k with
 | zero => intro Y8 YD Z9v Z9w hk; exact absurd hk (Nat.not_lt_zero _)
 | succ k ih =>
  intro Y8 YD Z9v Z9w hk
  cases YW:(decide (Y8 < 3)) with
  | true =>
   have YU:=odt YW
   have Y1d:(-9223372036854775808:Int)≤(Y8 + 1):=(by omega)
   have Y1e:(Y8 + 1)≤(9223372036854775807:Int):=(by omega)
   have Y1b:(0:Int)≤(Int.tmod (Y8 + 1) 3):=(by have q:=Z2R hp5.e (by assumption) (odt Z2s) (by assumption) YU; omega)
   have Y18:(Int.tmod (Y8 + 1) 3) < ((Y0.Me.Tr.getD Y1.toNat default).length:Int):=(by have q:=Z2R hp5.e (by assumption) (odt Z2s) (by assumption) YU; omega)
   have Y1f:(-9223372036854775808:Int)≤(Y8 + 2):=(by omega)
   have Y1m:(Y8 + 2)≤(9223372036854775807:Int):=(by omega)
   have Y1i:(0:Int)≤(Int.tmod (Y8 + 2) 3):=(by have q:=Z2R hp5.e (by assumption) (odt Z2s) (by assumption) YU; omega)
   have Y1n:(Int.tmod (Y8 + 2) 3) < ((Y0.Me.Tr.getD Y1.toNat default).length:Int):=(by have q:=Z2R hp5.e (by assumption) (odt Z2s) (by assumption) YU; omega)
   have Y1A:(0:Int)≤Y8:=(by assumption)
   have Y1H:Y8 < ((Y0.Me.Tr.getD Y1.toNat default).length:Int):=(by have q:=Z2R hp5.e (by assumption) (odt Z2s) (by assumption) YU; omega)
   have Y1B:(0:Int)≤((Y0.Me.Tr.getD Y1.toNat default).getD (Int.tmod (Y8 + 2) 3).toNat default):=(by have q:=Z2R hp5.e (by assumption) (odt Z2s) (by assumption) YU; omega)
   have Y1C:((Y0.Me.Tr.getD Y1.toNat default).getD (Int.tmod (Y8 + 2) 3).toNat default) < (Y0.Me.Pq.length:Int):=(by have q:=Z2R hp5.e (by assumption) (odt Z2s) (by assumption) YU; omega)
   have Y1v:(0:Int)≤((Y0.Me.Tr.getD Y1.toNat default).getD (Int.tmod (Y8 + 1) 3).toNat default):=(by have q:=Z2R hp5.e (by assumption) (odt Z2s) (by assumption) YU; omega)
   have Y1w:((Y0.Me.Tr.getD Y1.toNat default).getD (Int.tmod (Y8 + 1) 3).toNat default) < (Y0.Me.Pq.length:Int):=(by have q:=Z2R hp5.e (by assumption) (odt Z2s) (by assumption) YU; omega)
   have Y1x:YD.length≤1073741824:=(by omega)
   have Y1y:0≤((Y0.Me.Tr.getD Y1.toNat default).getD Y8.toNat default):=(by have q:=Z2R hp5.e (by assumption) (odt Z2s) (by assumption) YU; omega)
   have Y1z:((Y0.Me.Tr.getD Y1.toNat default).getD Y8.toNat default) < (YD.length:Int):=(by have q:=Z2R hp5.e (by assumption) (odt Z2s) (by assumption) YU; omega)
   have e:Z1q Y0 Y1 Yb (k + 1) Y8 YD=(Z1q Y0 Y1 Yb k (Y8 + 1) (Z3S Y0 Y1 Y8 YD)):=by simp only [Z1q,YW,cond_true]
   rw [e]
   exact X9 E0Ok Z4 [] Z9u [0,1,2,3] (ih (Y8 + 1) (Z3S Y0 Y1 Y8 YD) (show 0≤(Y8 + 1) from (by omega)) (show (Z3S Y0 Y1 Y8 YD).length=Yb.length from (by simp_all <;> omega)) (by omega)) (sB YW <| sK [13,13] <| sI (Y8 + 1) Y1d Y1e <| sC (show (3:Int)≠0 from (by decide)) <| sQ (Int.tmod (Y8 + 1) 3) <| sG (cI .i64) (Y0.Me.Tr.getD Y1.toNat default) (Int.tmod (Y8 + 1) 3) Y1b Y18 <| sI (Y8 + 2) Y1f Y1m <| sC (show (3:Int)≠0 from (by decide)) <| sQ (Int.tmod (Y8 + 2) 3) <| sG (cI .i64) (Y0.Me.Tr.getD Y1.toNat default) (Int.tmod (Y8 + 2) 3) Y1i Y1n <| sK [17,17] <| sG (cI .i64) (Y0.Me.Tr.getD Y1.toNat default) Y8 Y1A Y1H <| sG Gv.c Y0.Me.Pq ((Y0.Me.Tr.getD Y1.toNat default).getD (Int.tmod (Y8 + 2) 3).toNat default) Y1B Y1C <| sG Gv.c Y0.Me.Pq ((Y0.Me.Tr.getD Y1.toNat default).getD (Int.tmod (Y8 + 1) 3).toNat default) Y1v Y1w <| sF (Z4y (Y0.Me.Pq.getD ((Y0.Me.Tr.getD Y1.toNat default).getD (Int.tmod (Y8 + 2) 3).toNat default).toNat default) (Y0.Me.Pq.getD ((Y0.Me.Tr.getD Y1.toNat default).getD (Int.tmod (Y8 + 1) 3).toNat default).toNat default)) <| sF (Zah (Zd Y0.Me (Y0.Me.Tr.getD Y1.toNat default)) (Z2v Y0 Y1 Y8)) <| sS (X3.frame (Z2h ((Y0.Me.Tr.getD Y1.toNat default).getD Y8.toNat default) (Z2T (Zd Y0.Me (Y0.Me.Tr.getD Y1.toNat default)) (Z2v Y0 Y1 Y8)) (fop .quo .f32 (fneg .f32 (fop .mul .f32 1056964608 Y0.Film)) (ZD (Zd Y0.Me (Y0.Me.Tr.getD Y1.toNat default)))) YD Y1x Y1y Y1z) [1,2] (R:=[.box 42 [.sl (Y0.Me.Pq.map Gv.c), .sl (Y0.Me.Tr.map (cL (cI .i64))), .sl (Y0.Sp.map Gs.c), .f .f32 Y0.Film, .f .f32 Y0.Bend, .sl (Y0.We.map (cF .f32)), .f .f32 Y0.Fall.X, .f .f32 Y0.Fall.Y, .f .f32 Y0.Fall.Z], .box 34 [.own 2], .vec 40 3 (YD.map Gv.c) false, .box 40 [.f .f32 ((Zd Y0.Me (Y0.Me.Tr.getD Y1.toNat default)).X), .f .f32 ((Zd Y0.Me (Y0.Me.Tr.getD Y1.toNat default)).Y), .f .f32 ((Zd Y0.Me (Y0.Me.Tr.getD Y1.toNat default)).Z)]]) (args':=[.i .i64 ((Y0.Me.Tr.getD Y1.toNat default).getD Y8.toNat default), .agg [.f .f32 ((Z2T (Zd Y0.Me (Y0.Me.Tr.getD Y1.toNat default)) (Z2v Y0 Y1 Y8)).X), .f .f32 ((Z2T (Zd Y0.Me (Y0.Me.Tr.getD Y1.toNat default)) (Z2v Y0 Y1 Y8)).Y), .f .f32 ((Z2T (Zd Y0.Me (Y0.Me.Tr.getD Y1.toNat default)) (Z2v Y0 Y1 Y8)).Z)], .f .f32 (fop .quo .f32 (fneg .f32 (fop .mul .f32 1056964608 Y0.Film)) (ZD (Zd Y0.Me (Y0.Me.Tr.getD Y1.toNat default)))), .ptr 1 0 0]) rfl rfl rfl rfl rfl rfl) <| sI (Y8 + 1) Y1d Y1e <| sN) (by kernel_rfl)
  | false =>
   have YU:=odf YW
   have e:Z1q Y0 Y1 Yb (k + 1) Y8 YD=YD:=by simp only [Z1q,YW,cond_false]
   rw [e]
   exact outR (e:=(.exit 4)) E0Ok Z4 [] Zdi [0,1,3,2] (sB YW <| sN) (by kernel_rfl) (by intro h; cases h)
theorem Zdj (Y0:Gb) (Y1:Int) (Yb:(List Gv)):∀ (k:Nat) (Y8:Int) (YD:(List Gv)) (hk:((3:Int) - Y8).toNat < k),(Z1q Y0 Y1 Yb k Y8 YD).length=YD.length:=by
  intro k
  induction k with
  | zero => intro Y8 YD hk; exact absurd hk (Nat.not_lt_zero _)
  | succ k ih =>
    intro Y8 YD hk
    cases YW:(decide (Y8 < 3)) with
    | true =>
      have e:Z1q Y0 Y1 Yb (k + 1) Y8 YD=(Z1q Y0 Y1 Yb k (Y8 + 1) (Z3S Y0 Y1 Y8 YD)):=by simp only [Z1q,YW,cond_true]
      rw [e,ih (Y8 + 1) (Z3S Y0 Y1 Y8 YD) (by simp_all <;> omega)]; simp
    | false =>
      have e:Z1q Y0 Y1 Yb (k + 1) Y8 YD=YD:=by simp only [Z1q,YW,cond_false]
      first | (rw [e]; done) | (rw [e]; rfl)
def Z31 (Y0:Gb) (Y1:Int) (Yb:(List Gv)):(List Gv):=(Z1q Y0 Y1 Yb (((3:Int) - 0).toNat + 1) 0 Yb)
@[simp] theorem Zh7 (Y0:Gb) (Y1:Int) (Yb:(List Gv)):(Z31 Y0 Y1 Yb).length=(Yb:(List Gv)).length:=Zdj Y0 Y1 Yb (((3:Int) - 0).toNat + 1) 0 Yb (by exact Nat.lt_succ_self _)
def Z3T (Y0:Gb) (Y1:Int) (Y8:Int) (YD:(List Gv)):(List Gv):=(ZF ((Y0.Me.Tr.getD Y1.toNat default).getD Y8.toNat default) (Z2T (Zd Y0.Me (Y0.Me.Tr.getD Y1.toNat default)) (Z2v Y0 Y1 Y8)) 0 YD)
@[simp] theorem ZhJ (Y0:Gb) (Y1:Int) (Y8:Int) (YD:(List Gv)):(Z3T Y0 Y1 Y8 YD).length=YD.length:=by unfold Z3T; simp
def Z1r (Y0:Gb) (Y1:Int) (Yb:(List Gv)):Nat→Int→(List Gv)→(List Gv)
  | 0,_,_ => default
  | k + 1,Y8,YD => (cond (decide (Y8 < 3))
    (Z1r Y0 Y1 Yb k (Y8 + 1) (Z3T Y0 Y1 Y8 YD))
    YD)
def Z7C (Y0:Gb) (Y1:Int) (Yb:(List Gv)) (r:(List Gv)):Ex × St:=((.exit 4),⟨.agg [.sl (Y0.Me.Pq.map Gv.c), .sl (Y0.Me.Tr.map (cL (cI .i64))), .sl (Y0.Sp.map Gs.c), .f .f32 Y0.Film, .f .f32 Y0.Bend, .sl (Y0.We.map (cF .f32)), .f .f32 Y0.Fall.X, .f .f32 Y0.Fall.Y, .f .f32 Y0.Fall.Z] :: .ptr 0 0 0 :: .nils :: .ptr 1 0 0 :: .fn 106 [.ptr 1 0 0] :: an 4 (.sl (Y0.Me.Pq.map Gv.c) :: .any :: .sl ((Y0.Me.Tr.getD Y1.toNat default).map (cI .i64)) :: .ptr 2 0 0 :: .f .f32 0 :: .f .f32 (ZD (Zd Y0.Me (Y0.Me.Tr.getD Y1.toNat default))) :: an 8 (.ptr 0 0 0 :: .ptr 0 0 0 :: .sl (Y0.Me.Pq.map Gv.c) :: .i .i64 (Y0.Me.Pq.length:Int) :: .own 3 :: .fn 106 [.ptr 1 0 0] :: .ptr 0 0 2 :: .sl (Y0.Sp.map Gs.c) :: an 25 (.ptr 0 0 0 :: .ptr 0 0 0 :: .sl (Y0.Me.Pq.map Gv.c) :: .ptr 0 0 0 :: .ptr 0 0 1 :: .sl (Y0.Me.Tr.map (cL (cI .i64))) :: .i .i64 (Y0.Me.Tr.length:Int) :: .i .i64 Y1 :: .b (decide (Y1 < (Y0.Me.Tr.length:Int))) :: .ref [.sl ((Y0.Me.Tr.getD Y1.toNat default).map (cI .i64))] 0 :: .sl ((Y0.Me.Tr.getD Y1.toNat default).map (cI .i64)) :: .ptr 0 0 0 :: .agg [.sl (Y0.Me.Pq.map Gv.c), .sl (Y0.Me.Tr.map (cL (cI .i64)))] :: .sl ((Y0.Me.Tr.getD Y1.toNat default).map (cI .i64)) :: .agg [.f .f32 ((Zd Y0.Me (Y0.Me.Tr.getD Y1.toNat default)).X), .f .f32 ((Zd Y0.Me (Y0.Me.Tr.getD Y1.toNat default)).Y), .f .f32 ((Zd Y0.Me (Y0.Me.Tr.getD Y1.toNat default)).Z)] :: .agg [.f .f32 ((Zd Y0.Me (Y0.Me.Tr.getD Y1.toNat default)).X), .f .f32 ((Zd Y0.Me (Y0.Me.Tr.getD Y1.toNat default)).Y), .f .f32 ((Zd Y0.Me (Y0.Me.Tr.getD Y1.toNat default)).Z)] :: .f .f32 (ZD (Zd Y0.Me (Y0.Me.Tr.getD Y1.toNat default))) :: .f .f32 (ZD (Zd Y0.Me (Y0.Me.Tr.getD Y1.toNat default))) :: .b (fcmp .gtr .f32 (ZD (Zd Y0.Me (Y0.Me.Tr.getD Y1.toNat default))) 0) :: an 104 []))),[.box 42 [.sl (Y0.Me.Pq.map Gv.c), .sl (Y0.Me.Tr.map (cL (cI .i64))), .sl (Y0.Sp.map Gs.c), .f .f32 Y0.Film, .f .f32 Y0.Bend, .sl (Y0.We.map (cF .f32)), .f .f32 Y0.Fall.X, .f .f32 Y0.Fall.Y, .f .f32 Y0.Fall.Z], .box 34 [.own 3], .box 40 [.f .f32 ((Zd Y0.Me (Y0.Me.Tr.getD Y1.toNat default)).X), .f .f32 ((Zd Y0.Me (Y0.Me.Tr.getD Y1.toNat default)).Y), .f .f32 ((Zd Y0.Me (Y0.Me.Tr.getD Y1.toNat default)).Z)], .vec 40 3 (r.map Gv.c) false]⟩)
def ZeF (Y0:Gb) (Y1:Int) (Yb:(List Gv)) (Y8:Int) (YD:(List Gv)):St:=⟨.agg [.sl (Y0.Me.Pq.map Gv.c), .sl (Y0.Me.Tr.map (cL (cI .i64))), .sl (Y0.Sp.map Gs.c), .f .f32 Y0.Film, .f .f32 Y0.Bend, .sl (Y0.We.map (cF .f32)), .f .f32 Y0.Fall.X, .f .f32 Y0.Fall.Y, .f .f32 Y0.Fall.Z] :: .ptr 0 0 0 :: .nils :: .ptr 1 0 0 :: .fn 106 [.ptr 1 0 0] :: an 4 (.sl (Y0.Me.Pq.map Gv.c) :: .any :: .sl ((Y0.Me.Tr.getD Y1.toNat default).map (cI .i64)) :: .ptr 3 0 0 :: .f .f32 0 :: .f .f32 (ZD (Zd Y0.Me (Y0.Me.Tr.getD Y1.toNat default))) :: an 8 (.ptr 0 0 0 :: .ptr 0 0 0 :: .sl (Y0.Me.Pq.map Gv.c) :: .i .i64 (Y0.Me.Pq.length:Int) :: .own 2 :: .fn 106 [.ptr 1 0 0] :: .ptr 0 0 2 :: .sl (Y0.Sp.map Gs.c) :: an 25 (.ptr 0 0 0 :: .ptr 0 0 0 :: .sl (Y0.Me.Pq.map Gv.c) :: .ptr 0 0 0 :: .ptr 0 0 1 :: .sl (Y0.Me.Tr.map (cL (cI .i64))) :: .i .i64 (Y0.Me.Tr.length:Int) :: .i .i64 Y1 :: .b (decide (Y1 < (Y0.Me.Tr.length:Int))) :: .ref [.sl ((Y0.Me.Tr.getD Y1.toNat default).map (cI .i64))] 0 :: .sl ((Y0.Me.Tr.getD Y1.toNat default).map (cI .i64)) :: .ptr 0 0 0 :: .agg [.sl (Y0.Me.Pq.map Gv.c), .sl (Y0.Me.Tr.map (cL (cI .i64)))] :: .sl ((Y0.Me.Tr.getD Y1.toNat default).map (cI .i64)) :: .agg [.f .f32 ((Zd Y0.Me (Y0.Me.Tr.getD Y1.toNat default)).X), .f .f32 ((Zd Y0.Me (Y0.Me.Tr.getD Y1.toNat default)).Y), .f .f32 ((Zd Y0.Me (Y0.Me.Tr.getD Y1.toNat default)).Z)] :: .agg [.f .f32 ((Zd Y0.Me (Y0.Me.Tr.getD Y1.toNat default)).X), .f .f32 ((Zd Y0.Me (Y0.Me.Tr.getD Y1.toNat default)).Y), .f .f32 ((Zd Y0.Me (Y0.Me.Tr.getD Y1.toNat default)).Z)] :: .f .f32 (ZD (Zd Y0.Me (Y0.Me.Tr.getD Y1.toNat default))) :: .f .f32 (ZD (Zd Y0.Me (Y0.Me.Tr.getD Y1.toNat default))) :: .b (fcmp .gtr .f32 (ZD (Zd Y0.Me (Y0.Me.Tr.getD Y1.toNat default))) 0) :: an 6 (.i .i64 Y8 :: an 97 [])))),[.box 42 [.sl (Y0.Me.Pq.map Gv.c), .sl (Y0.Me.Tr.map (cL (cI .i64))), .sl (Y0.Sp.map Gs.c), .f .f32 Y0.Film, .f .f32 Y0.Bend, .sl (Y0.We.map (cF .f32)), .f .f32 Y0.Fall.X, .f .f32 Y0.Fall.Y, .f .f32 Y0.Fall.Z], .box 34 [.own 2], .vec 40 3 (YD.map Gv.c) false, .box 40 [.f .f32 ((Zd Y0.Me (Y0.Me.Tr.getD Y1.toNat default)).X), .f .f32 ((Zd Y0.Me (Y0.Me.Tr.getD Y1.toNat default)).Y), .f .f32 ((Zd Y0.Me (Y0.Me.Tr.getD Y1.toNat default)).Z)]]⟩
def Z9x:List Bool:=(mR false [0,5,4,1,1,4,8,8,25,19,6,1,97])
def Zdk:List Bool:=(mR false [0,5,4,1,1,4,8,8,25,19,104])
theorem ZeG (Y0:Gb) (Y1:Int) (Yb:(List Gv)) (hp0:Y0.Me.Pq.length≤1073741824) (hp1:Y0.Me.Tr.length≤1073741824) (hp2:∀ t∈Y0.Me.Tr,t.length≤1073741824) (hp3:Y0.Sp.length≤1073741824) (hp4:Y0.We.length≤1073741824) (hp5:OkBd Y0) (Z4c:0≤Y1) (Z4d:Yb.length=Y0.Me.Pq.length) (Z2t:(decide (Y1 < (Y0.Me.Tr.length:Int)))=true):∀ (k:Nat) (Y8:Int) (YD:(List Gv)) (Z9y:0≤Y8) (Z9z:YD.length=Yb.length) (hk:((3:Int) - Y8).toNat < k),Lp prog 0 (sub (X0 f57) [1,1,1,1,1,0,1,0,0,1,1,0,0,1,1,1,1,1,0,0]) (ZeF Y0 Y1 Yb Y8 YD) (Z7C Y0 Y1 Yb (Z1r Y0 Y1 Yb k Y8 YD)).1 (Z7C Y0 Y1 Yb (Z1r Y0 Y1 Yb k Y8 YD)).2:=by
 intro k
 induction k with
 | zero => intro Y8 YD Z9y Z9z hk; exact absurd hk (Nat.not_lt_zero _)
 | succ k ih =>
  intro Y8 YD Z9y Z9z hk
  cases YW:(decide (Y8 < 3)) with
  | true =>
   have YU:=odt YW
   have Y1d:(-9223372036854775808:Int)≤(Y8 + 1):=(by omega)
   have Y1e:(Y8 + 1)≤(9223372036854775807:Int):=(by omega)
   have Y1b:(0:Int)≤(Int.tmod (Y8 + 1) 3):=(by have q:=Z2R hp5.e (by assumption) (odt Z2t) (by assumption) YU; omega)
   have Y18:(Int.tmod (Y8 + 1) 3) < ((Y0.Me.Tr.getD Y1.toNat default).length:Int):=(by have q:=Z2R hp5.e (by assumption) (odt Z2t) (by assumption) YU; omega)
   have Y1f:(-9223372036854775808:Int)≤(Y8 + 2):=(by omega)
   have Y1m:(Y8 + 2)≤(9223372036854775807:Int):=(by omega)
   have Y1i:(0:Int)≤(Int.tmod (Y8 + 2) 3):=(by have q:=Z2R hp5.e (by assumption) (odt Z2t) (by assumption) YU; omega)
   have Y1n:(Int.tmod (Y8 + 2) 3) < ((Y0.Me.Tr.getD Y1.toNat default).length:Int):=(by have q:=Z2R hp5.e (by assumption) (odt Z2t) (by assumption) YU; omega)
   have Y1A:(0:Int)≤Y8:=(by assumption)
   have Y1H:Y8 < ((Y0.Me.Tr.getD Y1.toNat default).length:Int):=(by have q:=Z2R hp5.e (by assumption) (odt Z2t) (by assumption) YU; omega)
   have Y1B:(0:Int)≤((Y0.Me.Tr.getD Y1.toNat default).getD (Int.tmod (Y8 + 2) 3).toNat default):=(by have q:=Z2R hp5.e (by assumption) (odt Z2t) (by assumption) YU; omega)
   have Y1C:((Y0.Me.Tr.getD Y1.toNat default).getD (Int.tmod (Y8 + 2) 3).toNat default) < (Y0.Me.Pq.length:Int):=(by have q:=Z2R hp5.e (by assumption) (odt Z2t) (by assumption) YU; omega)
   have Y1v:(0:Int)≤((Y0.Me.Tr.getD Y1.toNat default).getD (Int.tmod (Y8 + 1) 3).toNat default):=(by have q:=Z2R hp5.e (by assumption) (odt Z2t) (by assumption) YU; omega)
   have Y1w:((Y0.Me.Tr.getD Y1.toNat default).getD (Int.tmod (Y8 + 1) 3).toNat default) < (Y0.Me.Pq.length:Int):=(by have q:=Z2R hp5.e (by assumption) (odt Z2t) (by assumption) YU; omega)
   have Y1x:YD.length≤1073741824:=(by omega)
   have Y1y:0≤((Y0.Me.Tr.getD Y1.toNat default).getD Y8.toNat default):=(by have q:=Z2R hp5.e (by assumption) (odt Z2t) (by assumption) YU; omega)
   have Y1z:((Y0.Me.Tr.getD Y1.toNat default).getD Y8.toNat default) < (YD.length:Int):=(by have q:=Z2R hp5.e (by assumption) (odt Z2t) (by assumption) YU; omega)
   have e:Z1r Y0 Y1 Yb (k + 1) Y8 YD=(Z1r Y0 Y1 Yb k (Y8 + 1) (Z3T Y0 Y1 Y8 YD)):=by simp only [Z1r,YW,cond_true]
   rw [e]
   exact X9 E0Ok Z4 [] Z9x [0,1,2,3] (ih (Y8 + 1) (Z3T Y0 Y1 Y8 YD) (show 0≤(Y8 + 1) from (by omega)) (show (Z3T Y0 Y1 Y8 YD).length=Yb.length from (by simp_all <;> omega)) (by omega)) (sB YW <| sK [13,13] <| sI (Y8 + 1) Y1d Y1e <| sC (show (3:Int)≠0 from (by decide)) <| sQ (Int.tmod (Y8 + 1) 3) <| sG (cI .i64) (Y0.Me.Tr.getD Y1.toNat default) (Int.tmod (Y8 + 1) 3) Y1b Y18 <| sI (Y8 + 2) Y1f Y1m <| sC (show (3:Int)≠0 from (by decide)) <| sQ (Int.tmod (Y8 + 2) 3) <| sG (cI .i64) (Y0.Me.Tr.getD Y1.toNat default) (Int.tmod (Y8 + 2) 3) Y1i Y1n <| sK [17,17] <| sG (cI .i64) (Y0.Me.Tr.getD Y1.toNat default) Y8 Y1A Y1H <| sG Gv.c Y0.Me.Pq ((Y0.Me.Tr.getD Y1.toNat default).getD (Int.tmod (Y8 + 2) 3).toNat default) Y1B Y1C <| sG Gv.c Y0.Me.Pq ((Y0.Me.Tr.getD Y1.toNat default).getD (Int.tmod (Y8 + 1) 3).toNat default) Y1v Y1w <| sF (Z4y (Y0.Me.Pq.getD ((Y0.Me.Tr.getD Y1.toNat default).getD (Int.tmod (Y8 + 2) 3).toNat default).toNat default) (Y0.Me.Pq.getD ((Y0.Me.Tr.getD Y1.toNat default).getD (Int.tmod (Y8 + 1) 3).toNat default).toNat default)) <| sF (Zah (Zd Y0.Me (Y0.Me.Tr.getD Y1.toNat default)) (Z2v Y0 Y1 Y8)) <| sS (X3.frame (Z2h ((Y0.Me.Tr.getD Y1.toNat default).getD Y8.toNat default) (Z2T (Zd Y0.Me (Y0.Me.Tr.getD Y1.toNat default)) (Z2v Y0 Y1 Y8)) 0 YD Y1x Y1y Y1z) [1,2] (R:=[.box 42 [.sl (Y0.Me.Pq.map Gv.c), .sl (Y0.Me.Tr.map (cL (cI .i64))), .sl (Y0.Sp.map Gs.c), .f .f32 Y0.Film, .f .f32 Y0.Bend, .sl (Y0.We.map (cF .f32)), .f .f32 Y0.Fall.X, .f .f32 Y0.Fall.Y, .f .f32 Y0.Fall.Z], .box 34 [.own 2], .vec 40 3 (YD.map Gv.c) false, .box 40 [.f .f32 ((Zd Y0.Me (Y0.Me.Tr.getD Y1.toNat default)).X), .f .f32 ((Zd Y0.Me (Y0.Me.Tr.getD Y1.toNat default)).Y), .f .f32 ((Zd Y0.Me (Y0.Me.Tr.getD Y1.toNat default)).Z)]]) (args':=[.i .i64 ((Y0.Me.Tr.getD Y1.toNat default).getD Y8.toNat default), .agg [.f .f32 ((Z2T (Zd Y0.Me (Y0.Me.Tr.getD Y1.toNat default)) (Z2v Y0 Y1 Y8)).X), .f .f32 ((Z2T (Zd Y0.Me (Y0.Me.Tr.getD Y1.toNat default)) (Z2v Y0 Y1 Y8)).Y), .f .f32 ((Z2T (Zd Y0.Me (Y0.Me.Tr.getD Y1.toNat default)) (Z2v Y0 Y1 Y8)).Z)], .f .f32 0, .ptr 1 0 0]) rfl rfl rfl rfl rfl rfl) <| sI (Y8 + 1) Y1d Y1e <| sN) (by kernel_rfl)
  | false =>
   have YU:=odf YW
   have e:Z1r Y0 Y1 Yb (k + 1) Y8 YD=YD:=by simp only [Z1r,YW,cond_false]
   rw [e]
   exact outR (e:=(.exit 4)) E0Ok Z4 [] Zdk [0,1,3,2] (sB YW <| sN) (by kernel_rfl) (by intro h; cases h)
theorem Zdl (Y0:Gb) (Y1:Int) (Yb:(List Gv)):∀ (k:Nat) (Y8:Int) (YD:(List Gv)) (hk:((3:Int) - Y8).toNat < k),(Z1r Y0 Y1 Yb k Y8 YD).length=YD.length:=by
  intro k
  induction k with
  | zero => intro Y8 YD hk; exact absurd hk (Nat.not_lt_zero _)
  | succ k ih =>
    intro Y8 YD hk
    cases YW:(decide (Y8 < 3)) with
    | true =>
      have e:Z1r Y0 Y1 Yb (k + 1) Y8 YD=(Z1r Y0 Y1 Yb k (Y8 + 1) (Z3T Y0 Y1 Y8 YD)):=by simp only [Z1r,YW,cond_true]
      rw [e,ih (Y8 + 1) (Z3T Y0 Y1 Y8 YD) (by simp_all <;> omega)]; simp
    | false =>
      have e:Z1r Y0 Y1 Yb (k + 1) Y8 YD=YD:=by simp only [Z1r,YW,cond_false]
      first | (rw [e]; done) | (rw [e]; rfl)
def Z32 (Y0:Gb) (Y1:Int) (Yb:(List Gv)):(List Gv):=(Z1r Y0 Y1 Yb (((3:Int) - 0).toNat + 1) 0 Yb)
@[simp] theorem Zh8 (Y0:Gb) (Y1:Int) (Yb:(List Gv)):(Z32 Y0 Y1 Yb).length=(Yb:(List Gv)).length:=Zdl Y0 Y1 Yb (((3:Int) - 0).toNat + 1) 0 Yb (by exact Nat.lt_succ_self _)
def ZG (Y0:Gb):Nat→Int→(List Gv)→(List Gv)
  | 0,_,_ => default
  | k + 1,Y1,Yb => (cond (decide (Y1 < (Y0.Me.Tr.length:Int)))
    (cond (fcmp .gtr .f32 (ZD (Zd Y0.Me (Y0.Me.Tr.getD Y1.toNat default))) 0)
      (ZG Y0 k (Y1 + 1) (Z31 Y0 Y1 Yb))
      (ZG Y0 k (Y1 + 1) (Z32 Y0 Y1 Yb)))
    Yb)
def Z7D (Y0:Gb) (r:(List Gv)):Ex × St:=((.exit 2),⟨.agg [.sl (Y0.Me.Pq.map Gv.c), .sl (Y0.Me.Tr.map (cL (cI .i64))), .sl (Y0.Sp.map Gs.c), .f .f32 Y0.Film, .f .f32 Y0.Bend, .sl (Y0.We.map (cF .f32)), .f .f32 Y0.Fall.X, .f .f32 Y0.Fall.Y, .f .f32 Y0.Fall.Z] :: .ptr 0 0 0 :: .nils :: .ptr 1 0 0 :: .fn 106 [.ptr 1 0 0] :: an 18 (.ptr 0 0 0 :: .ptr 0 0 0 :: .sl (Y0.Me.Pq.map Gv.c) :: .i .i64 (Y0.Me.Pq.length:Int) :: .own 2 :: .fn 106 [.ptr 1 0 0] :: .ptr 0 0 2 :: .sl (Y0.Sp.map Gs.c) :: an 25 (.ptr 0 0 0 :: .ptr 0 0 0 :: .sl (Y0.Me.Pq.map Gv.c) :: .ptr 0 0 0 :: .ptr 0 0 1 :: .sl (Y0.Me.Tr.map (cL (cI .i64))) :: an 117 [])),[.box 42 [.sl (Y0.Me.Pq.map Gv.c), .sl (Y0.Me.Tr.map (cL (cI .i64))), .sl (Y0.Sp.map Gs.c), .f .f32 Y0.Film, .f .f32 Y0.Bend, .sl (Y0.We.map (cF .f32)), .f .f32 Y0.Fall.X, .f .f32 Y0.Fall.Y, .f .f32 Y0.Fall.Z], .box 34 [.own 2], .vec 40 3 (r.map Gv.c) false]⟩)
def ZeH (Y0:Gb) (Y1:Int) (Yb:(List Gv)):St:=⟨.agg [.sl (Y0.Me.Pq.map Gv.c), .sl (Y0.Me.Tr.map (cL (cI .i64))), .sl (Y0.Sp.map Gs.c), .f .f32 Y0.Film, .f .f32 Y0.Bend, .sl (Y0.We.map (cF .f32)), .f .f32 Y0.Fall.X, .f .f32 Y0.Fall.Y, .f .f32 Y0.Fall.Z] :: .ptr 0 0 0 :: .nils :: .ptr 1 0 0 :: .fn 106 [.ptr 1 0 0] :: an 4 (.sl (Y0.Me.Pq.map Gv.c) :: an 13 (.ptr 0 0 0 :: .ptr 0 0 0 :: .sl (Y0.Me.Pq.map Gv.c) :: .i .i64 (Y0.Me.Pq.length:Int) :: .own 2 :: .fn 106 [.ptr 1 0 0] :: .ptr 0 0 2 :: .sl (Y0.Sp.map Gs.c) :: an 25 (.ptr 0 0 0 :: .ptr 0 0 0 :: .sl (Y0.Me.Pq.map Gv.c) :: .ptr 0 0 0 :: .ptr 0 0 1 :: .sl (Y0.Me.Tr.map (cL (cI .i64))) :: .i .i64 (Y0.Me.Tr.length:Int) :: .i .i64 Y1 :: an 115 []))),[.box 42 [.sl (Y0.Me.Pq.map Gv.c), .sl (Y0.Me.Tr.map (cL (cI .i64))), .sl (Y0.Sp.map Gs.c), .f .f32 Y0.Film, .f .f32 Y0.Bend, .sl (Y0.We.map (cF .f32)), .f .f32 Y0.Fall.X, .f .f32 Y0.Fall.Y, .f .f32 Y0.Fall.Z], .box 34 [.own 2], .vec 40 3 (Yb.map Gv.c) false]⟩
def Z6s:List Bool:=(mR false [0,5,4,1,13,8,25,8,115])
theorem ZeI (Y0:Gb) (hp0:Y0.Me.Pq.length≤1073741824) (hp1:Y0.Me.Tr.length≤1073741824) (hp2:∀ t∈Y0.Me.Tr,t.length≤1073741824) (hp3:Y0.Sp.length≤1073741824) (hp4:Y0.We.length≤1073741824) (hp5:OkBd Y0):∀ (k:Nat) (Y1:Int) (Yb:(List Gv)) (Z4c:0≤Y1) (Z4d:Yb.length=Y0.Me.Pq.length) (hk:((Y0.Me.Tr.length:Int) - Y1).toNat < k),Lp prog 0 (sub (X0 f57) [1,1,1,1,1,0,1,0,0]) (ZeH Y0 Y1 Yb) (Z7D Y0 (ZG Y0 k Y1 Yb)).1 (Z7D Y0 (ZG Y0 k Y1 Yb)).2:=by
 intro k
 induction k with
 | zero => intro Y1 Yb Z4c Z4d hk; exact absurd hk (Nat.not_lt_zero _)
 | succ k ih =>
  intro Y1 Yb Z4c Z4d hk
  cases Yn:(decide (Y1 < (Y0.Me.Tr.length:Int))) with
  | true =>
   have YM:=odt Yn
   have YS:(0:Int)≤Y1:=(by assumption)
   have YT:Y1 < (Y0.Me.Tr.length:Int):=(by assumption)
   have YY:(Y0.Me.Tr.getD Y1.toNat default).length≤1073741824:=(by exact X4S hp5.e (by assumption) Yn)
   have YZ:(Y0.Me.Tr.getD Y1.toNat default).length=3∧∀ x∈(Y0.Me.Tr.getD Y1.toNat default),0≤x∧x < (Y0.Me.Pq.length:Int):=(by exact tri3 hp5.e (by assumption) Yn)
   have p {a C} (s:Scr a C):=sB Yn <| sG (cL (cI .i64)) Y0.Me.Tr Y1 YS YT <| sF (Zca Y0.Me (Y0.Me.Tr.getD Y1.toNat default) hp0 hp1 hp2 YY YZ) <| sF (Z8j (Zd Y0.Me (Y0.Me.Tr.getD Y1.toNat default))) <| s
   cases YL:(fcmp .gtr .f32 (ZD (Zd Y0.Me (Y0.Me.Tr.getD Y1.toNat default))) 0) with
   | true =>
    have y_4:(-9223372036854775808:Int)≤(Y1 + 1):=by clear p; exact (by omega)
    have y_5:(Y1 + 1)≤(9223372036854775807:Int):=by clear p; exact (by omega)
    have e:ZG Y0 (k + 1) Y1 Yb=(ZG Y0 k (Y1 + 1) (Z31 Y0 Y1 Yb)):=by simp only [ZG,Yn,YL,cond_true]
    rw [e]
    exact X9 E0Ok Z4 [] Z6s [0,1,3] (ih (Y1 + 1) (Z31 Y0 Y1 Yb) (show 0≤(Y1 + 1) from (by omega)) (show (Z31 Y0 Y1 Yb).length=Y0.Me.Pq.length from (by simp_all <;> omega)) (by omega)) (p (sB YL <| sL Z9u 4 (X1 (Z7B Y0 Y1 Yb) (x:=(Z31 Y0 Y1 Yb)) (ZeE Y0 Y1 Yb hp0 hp1 hp2 hp3 hp4 hp5 Z4c Z4d Yn (((3:Int) - 0).toNat + 1) 0 Yb (show 0≤0 from (by omega)) (show Yb.length=Yb.length from (by omega)) (Nat.lt_succ_self _)) rfl) <| sI (Y1 + 1) y_4 y_5 <| sN)) (by kernel_rfl)
   | false =>
    have y_4:(-9223372036854775808:Int)≤(Y1 + 1):=by clear p; exact (by omega)
    have y_5:(Y1 + 1)≤(9223372036854775807:Int):=by clear p; exact (by omega)
    have e:ZG Y0 (k + 1) Y1 Yb=(ZG Y0 k (Y1 + 1) (Z32 Y0 Y1 Yb)):=by simp only [ZG,Yn,YL,cond_true,cond_false]
    rw [e]
    exact X9 E0Ok Z4 [] Z6s [0,1,3] (ih (Y1 + 1) (Z32 Y0 Y1 Yb) (show 0≤(Y1 + 1) from (by omega)) (show (Z32 Y0 Y1 Yb).length=Y0.Me.Pq.length from (by simp_all <;> omega)) (by omega)) (p (sB YL <| sL Z9x 4 (X1 (Z7C Y0 Y1 Yb) (x:=(Z32 Y0 Y1 Yb)) (ZeG Y0 Y1 Yb hp0 hp1 hp2 hp3 hp4 hp5 Z4c Z4d Yn (((3:Int) - 0).toNat + 1) 0 Yb (show 0≤0 from (by omega)) (show Yb.length=Yb.length from (by omega)) (Nat.lt_succ_self _)) rfl) <| sI (Y1 + 1) y_4 y_5 <| sN)) (by kernel_rfl)
  | false =>
   have YM:=odf Yn
   have e:ZG Y0 (k + 1) Y1 Yb=Yb:=by simp only [ZG,Yn,cond_false]
   rw [e]
   exact outR (e:=(.exit 2)) E0Ok Z4 [] (mR false [0,5,18,8,25,6,117]) [0,1,2] (sB Yn <| sN) (by kernel_rfl) (by intro h; cases h)
theorem Zdm (Y0:Gb):∀ (k:Nat) (Y1:Int) (Yb:(List Gv)) (hk:((Y0.Me.Tr.length:Int) - Y1).toNat < k),(ZG Y0 k Y1 Yb).length=Yb.length:=by
  intro k
  induction k with
  | zero => intro Y1 Yb hk; exact absurd hk (Nat.not_lt_zero _)
  | succ k ih =>
    intro Y1 Yb hk
    cases Yn:(decide (Y1 < (Y0.Me.Tr.length:Int))) with
    | true =>
      cases YL:(fcmp .gtr .f32 (ZD (Zd Y0.Me (Y0.Me.Tr.getD Y1.toNat default))) 0) with
      | true =>
        have e:ZG Y0 (k + 1) Y1 Yb=(ZG Y0 k (Y1 + 1) (Z31 Y0 Y1 Yb)):=by simp only [ZG,Yn,YL,cond_true]
        rw [e,ih (Y1 + 1) (Z31 Y0 Y1 Yb) (by simp_all <;> omega)]; simp
      | false =>
        have e:ZG Y0 (k + 1) Y1 Yb=(ZG Y0 k (Y1 + 1) (Z32 Y0 Y1 Yb)):=by simp only [ZG,Yn,YL,cond_true,cond_false]
        rw [e,ih (Y1 + 1) (Z32 Y0 Y1 Yb) (by simp_all <;> omega)]; simp
    | false =>
      have e:ZG Y0 (k + 1) Y1 Yb=Yb:=by simp only [ZG,Yn,cond_false]
      first | (rw [e]; done) | (rw [e]; rfl)
def Z3r (Y0:Gb):(List Gv):=(ZG Y0 (((Y0.Me.Tr.length:Int) - 0).toNat + 1) 0 (Z3q Y0))
@[simp] theorem Zh9 (Y0:Gb):(Z3r Y0).length=((Z3q Y0):(List Gv)).length:=Zdm Y0 (((Y0.Me.Tr.length:Int) - 0).toNat + 1) 0 (Z3q Y0) (by exact Nat.lt_succ_self _)
def Z3s (Y0:Gb) (Y1:Int) (Yb:(List Gv)):(List Gv):=(ZF (((Z6 Y0.Me).getD Y1.toNat default).getD 0 default) (Zy Y0.Me ((Z6 Y0.Me).getD Y1.toNat default)) Y0.Bend Yb)
@[simp] theorem Z3Z (Y0:Gb) (Y1:Int) (Yb:(List Gv)):(Z3s Y0 Y1 Yb).length=Yb.length:=by unfold Z3s; simp
def Z3g (Y0:Gb) (Y1:Int) (Yb:(List Gv)):(List Gv):=(ZF (((Z6 Y0.Me).getD Y1.toNat default).getD 1 default) (Zy Y0.Me ((Z6 Y0.Me).getD Y1.toNat default)) Y0.Bend (Z3s Y0 Y1 Yb))
@[simp] theorem Z3V (Y0:Gb) (Y1:Int) (Yb:(List Gv)):(Z3g Y0 Y1 Yb).length=(Z3s Y0 Y1 Yb).length:=by unfold Z3g; simp
def Z3h (Y0:Gb) (Y1:Int) (Yb:(List Gv)):(List Gv):=(ZF (((Z6 Y0.Me).getD Y1.toNat default).getD 2 default) (Zy Y0.Me ((Z6 Y0.Me).getD Y1.toNat default)) (fneg .f32 Y0.Bend) (Z3g Y0 Y1 Yb))
@[simp] theorem Z3W (Y0:Gb) (Y1:Int) (Yb:(List Gv)):(Z3h Y0 Y1 Yb).length=(Z3g Y0 Y1 Yb).length:=by unfold Z3h; simp
def Z3i (Y0:Gb) (Y1:Int) (Yb:(List Gv)):(List Gv):=(ZF (((Z6 Y0.Me).getD Y1.toNat default).getD 3 default) (Zy Y0.Me ((Z6 Y0.Me).getD Y1.toNat default)) (fneg .f32 Y0.Bend) (Z3h Y0 Y1 Yb))
@[simp] theorem ZhA (Y0:Gb) (Y1:Int) (Yb:(List Gv)):(Z3i Y0 Y1 Yb).length=(Z3h Y0 Y1 Yb).length:=by unfold Z3i; simp
def Z1f (Y0:Gb):Nat→Int→(List Gv)→(List Gv)
  | 0,_,_ => default
  | k + 1,Y1,Yb => (cond (decide (Y1 < ((Z6 Y0.Me).length:Int)))
    (Z1f Y0 k (Y1 + 1) (Z3i Y0 Y1 Yb))
    Yb)
def Z7E (Y0:Gb) (r:(List Gv)):Ex × St:=((.exit 6),⟨.agg [.sl (Y0.Me.Pq.map Gv.c), .sl (Y0.Me.Tr.map (cL (cI .i64))), .sl (Y0.Sp.map Gs.c), .f .f32 Y0.Film, .f .f32 Y0.Bend, .sl (Y0.We.map (cF .f32)), .f .f32 Y0.Fall.X, .f .f32 Y0.Fall.Y, .f .f32 Y0.Fall.Z] :: .ptr 0 0 0 :: .nils :: .ptr 1 0 0 :: .fn 106 [.ptr 1 0 0] :: an 18 (.ptr 0 0 0 :: .ptr 0 0 0 :: .sl (Y0.Me.Pq.map Gv.c) :: .i .i64 (Y0.Me.Pq.length:Int) :: .own 2 :: .fn 106 [.ptr 1 0 0] :: .ptr 0 0 2 :: .sl (Y0.Sp.map Gs.c) :: an 25 (.ptr 0 0 0 :: .ptr 0 0 0 :: .sl (Y0.Me.Pq.map Gv.c) :: .ptr 0 0 0 :: .ptr 0 0 1 :: .sl (Y0.Me.Tr.map (cL (cI .i64))) :: an 54 (.ptr 0 0 0 :: .agg [.sl (Y0.Me.Pq.map Gv.c), .sl (Y0.Me.Tr.map (cL (cI .i64)))] :: .own 3 :: an 60 []))),[.box 42 [.sl (Y0.Me.Pq.map Gv.c), .sl (Y0.Me.Tr.map (cL (cI .i64))), .sl (Y0.Sp.map Gs.c), .f .f32 Y0.Film, .f .f32 Y0.Bend, .sl (Y0.We.map (cF .f32)), .f .f32 Y0.Fall.X, .f .f32 Y0.Fall.Y, .f .f32 Y0.Fall.Z], .box 34 [.own 2], .vec 40 3 (r.map Gv.c) false, .nest 49 ((Z6 Y0.Me).map fun l => l.map (cI .i64)) false]⟩)
def ZeJ (Y0:Gb) (Y1:Int) (Yb:(List Gv)):St:=⟨.agg [.sl (Y0.Me.Pq.map Gv.c), .sl (Y0.Me.Tr.map (cL (cI .i64))), .sl (Y0.Sp.map Gs.c), .f .f32 Y0.Film, .f .f32 Y0.Bend, .sl (Y0.We.map (cF .f32)), .f .f32 Y0.Fall.X, .f .f32 Y0.Fall.Y, .f .f32 Y0.Fall.Z] :: .ptr 0 0 0 :: .nils :: .ptr 1 0 0 :: .fn 106 [.ptr 1 0 0] :: an 18 (.ptr 0 0 0 :: .ptr 0 0 0 :: .sl (Y0.Me.Pq.map Gv.c) :: .i .i64 (Y0.Me.Pq.length:Int) :: .own 2 :: .fn 106 [.ptr 1 0 0] :: .ptr 0 0 2 :: .sl (Y0.Sp.map Gs.c) :: an 25 (.ptr 0 0 0 :: .ptr 0 0 0 :: .sl (Y0.Me.Pq.map Gv.c) :: .ptr 0 0 0 :: .ptr 0 0 1 :: .sl (Y0.Me.Tr.map (cL (cI .i64))) :: an 54 (.ptr 0 0 0 :: .agg [.sl (Y0.Me.Pq.map Gv.c), .sl (Y0.Me.Tr.map (cL (cI .i64)))] :: .own 3 :: .i .i64 ((Z6 Y0.Me).length:Int) :: .i .i64 Y1 :: an 58 []))),[.box 42 [.sl (Y0.Me.Pq.map Gv.c), .sl (Y0.Me.Tr.map (cL (cI .i64))), .sl (Y0.Sp.map Gs.c), .f .f32 Y0.Film, .f .f32 Y0.Bend, .sl (Y0.We.map (cF .f32)), .f .f32 Y0.Fall.X, .f .f32 Y0.Fall.Y, .f .f32 Y0.Fall.Z], .box 34 [.own 2], .vec 40 3 (Yb.map Gv.c) false, .nest 49 ((Z6 Y0.Me).map fun l => l.map (cI .i64)) false]⟩
def Z9A:List Bool:=(mR false [0,5,18,8,25,6,54,5,58])
def Zdn:List Bool:=(mR false [0,5,18,8,25,6,54,3,60])
set_option maxHeartbeats 1000000 in
theorem ZeK (Y0:Gb) (hp0:Y0.Me.Pq.length≤1073741824) (hp1:Y0.Me.Tr.length≤1073741824) (hp2:∀ t∈Y0.Me.Tr,t.length≤1073741824) (hp3:Y0.Sp.length≤1073741824) (hp4:Y0.We.length≤1073741824) (hp5:OkBd Y0):∀ (k:Nat) (Y1:Int) (Yb:(List Gv)) (Z9B:0≤Y1) (Z9C:Yb.length=Y0.Me.Pq.length) (hk:(((Z6 Y0.Me).length:Int) - Y1).toNat < k),Lp prog 0 (sub (X0 f57) [1,1,1,1,1,1,0,1,0,0]) (ZeJ Y0 Y1 Yb) (Z7E Y0 (Z1f Y0 k Y1 Yb)).1 (Z7E Y0 (Z1f Y0 k Y1 Yb)).2:=by
 intro k
 induction k with
 | zero => intro Y1 Yb Z9B Z9C hk; exact absurd hk (Nat.not_lt_zero _)
 | succ k ih =>
  intro Y1 Yb Z9B Z9C hk
  cases Yn:(decide (Y1 < ((Z6 Y0.Me).length:Int))) with
  | true =>
   have YM:=odt Yn
   have YS:(0:Int)≤Y1:=(by assumption)
   have YT:Int.toNat Y1 < (Z6 Y0.Me).length:=(by omega)
   have YY:Y1.toNat < (Z6 Y0.Me).length:=(by assumption)
   have YZ:((Z6 Y0.Me).getD Y1.toNat default).length≤1073741824:=(by exact Ziu hp5.e (by assumption) Yn)
   have y_4:((Z6 Y0.Me).getD Y1.toNat default).length=4∧∀ x∈((Z6 Y0.Me).getD Y1.toNat default),0≤x∧x < (Y0.Me.Pq.length:Int):=(by exact Z7d hp5.e (by assumption) Yn)
   have y_5:(0:Int)≤0:=(by omega)
   have y_6:0 < (((Z6 Y0.Me).getD Y1.toNat default).length:Int):=(by omega)
   have y_7:0 < ((Z6 Y0.Me).getD Y1.toNat default).length:=(by omega)
   have y_8:Yb.length≤1073741824:=(by omega)
   have y_9:0≤(((Z6 Y0.Me).getD Y1.toNat default).getD 0 default):=(by (have q:=Okh.at (Z7d hp5.e (by assumption) Yn); omega))
   have Y19:(((Z6 Y0.Me).getD Y1.toNat default).getD 0 default) < (Yb.length:Int):=(by (have q:=Okh.at (Z7d hp5.e (by assumption) Yn); omega))
   have Y1g:(0:Int)≤1:=(by omega)
   have Y1j:1 < (((Z6 Y0.Me).getD Y1.toNat default).length:Int):=(by omega)
   have Y1k:1 < ((Z6 Y0.Me).getD Y1.toNat default).length:=(by omega)
   have Y1r:(Z3s Y0 Y1 Yb).length≤1073741824:=(by (have q:=Okh.at (Z7d hp5.e (by assumption) Yn); (simp only [Z3Z,Z3V,Z3W]; omega)))
   have Y1s:0≤(((Z6 Y0.Me).getD Y1.toNat default).getD 1 default):=(by (have q:=Okh.at (Z7d hp5.e (by assumption) Yn); omega))
   have Y1t:(((Z6 Y0.Me).getD Y1.toNat default).getD 1 default) < ((Z3s Y0 Y1 Yb).length:Int):=(by (have q:=Okh.at (Z7d hp5.e (by assumption) Yn); (simp only [Z3Z,Z3V,Z3W]; omega)))
   have Y1u:(0:Int)≤2:=(by omega)
   have Y1D:2 < (((Z6 Y0.Me).getD Y1.toNat default).length:Int):=(by omega)
   have Y1E:2 < ((Z6 Y0.Me).getD Y1.toNat default).length:=(by omega)
   have Y1I:(Z3g Y0 Y1 Yb).length≤1073741824:=(by (have q:=Okh.at (Z7d hp5.e (by assumption) Yn); (simp only [Z3Z,Z3V,Z3W]; omega)))
   have Y1J:0≤(((Z6 Y0.Me).getD Y1.toNat default).getD 2 default):=(by (have q:=Okh.at (Z7d hp5.e (by assumption) Yn); omega))
   have Y1K:(((Z6 Y0.Me).getD Y1.toNat default).getD 2 default) < ((Z3g Y0 Y1 Yb).length:Int):=(by (have q:=Okh.at (Z7d hp5.e (by assumption) Yn); (simp only [Z3Z,Z3V,Z3W]; omega)))
   have Y1L:(0:Int)≤3:=(by omega)
   have Y1M:3 < (((Z6 Y0.Me).getD Y1.toNat default).length:Int):=(by omega)
   have Y1N:3 < ((Z6 Y0.Me).getD Y1.toNat default).length:=(by omega)
   have Y1O:(Z3h Y0 Y1 Yb).length≤1073741824:=(by (have q:=Okh.at (Z7d hp5.e (by assumption) Yn); (simp only [Z3Z,Z3V,Z3W]; omega)))
   have Y1P:0≤(((Z6 Y0.Me).getD Y1.toNat default).getD 3 default):=(by (have q:=Okh.at (Z7d hp5.e (by assumption) Yn); omega))
   have Y1Q:(((Z6 Y0.Me).getD Y1.toNat default).getD 3 default) < ((Z3h Y0 Y1 Yb).length:Int):=(by (have q:=Okh.at (Z7d hp5.e (by assumption) Yn); (simp only [Z3Z,Z3V,Z3W]; omega)))
   have Y1T:(-9223372036854775808:Int)≤(Y1 + 1):=(by omega)
   have Y1U:(Y1 + 1)≤(9223372036854775807:Int):=(by have q:=Zbj _ hp5.e; omega)
   have e:Z1f Y0 (k + 1) Y1 Yb=(Z1f Y0 k (Y1 + 1) (Z3i Y0 Y1 Yb)):=by simp only [Z1f,Yn,cond_true]
   rw [e]
   exact X9 E0Ok Z4 [] Z9A [0,1,2,3] (ih (Y1 + 1) (Z3i Y0 Y1 Yb) (show 0≤(Y1 + 1) from (by omega)) (show (Z3i Y0 Y1 Yb).length=Y0.Me.Pq.length from (by simp_all <;> omega)) (by omega)) (sB Yn <| sC (X1Y (c:=(cI .i64)) (l:=(Z6 Y0.Me)) (i:=Y1) YS YT) <| sC (X2j (c:=(cI .i64)) (l:=(Z6 Y0.Me)) YY) <| sF (Fn.castA (args':=[.agg [.sl (Y0.Me.Pq.map Gv.c), .sl (Y0.Me.Tr.map (cL (cI .i64)))], .sl (((Z6 Y0.Me).map fun l => l.map (cI .i64)).getD Y1.toNat [])]) (ZdA Y0.Me ((Z6 Y0.Me).getD Y1.toNat default) hp0 hp1 hp2 YZ y_4) (by simp [cI]; done)) <| sK [7,7] <| sC (Xz (c:=(cI .i64)) (l:=(Z6 Y0.Me)) (j:=Y1.toNat) (i:=0) y_5 y_6) <| sE (Xy (c:=(cI .i64)) (l:=(Z6 Y0.Me)) (j:=Y1.toNat) (k:=0) y_7) <| sS (X3.frame (Z2h (((Z6 Y0.Me).getD Y1.toNat default).getD 0 default) (Zy Y0.Me ((Z6 Y0.Me).getD Y1.toNat default)) Y0.Bend Yb y_8 y_9 Y19) [1,2] (R:=[.box 42 [.sl (Y0.Me.Pq.map Gv.c), .sl (Y0.Me.Tr.map (cL (cI .i64))), .sl (Y0.Sp.map Gs.c), .f .f32 Y0.Film, .f .f32 Y0.Bend, .sl (Y0.We.map (cF .f32)), .f .f32 Y0.Fall.X, .f .f32 Y0.Fall.Y, .f .f32 Y0.Fall.Z], .box 34 [.own 2], .vec 40 3 (Yb.map Gv.c) false, .nest 49 ((Z6 Y0.Me).map fun l => l.map (cI .i64)) false, .box 40 [.f .f32 ((Zy Y0.Me ((Z6 Y0.Me).getD Y1.toNat default)).X), .f .f32 ((Zy Y0.Me ((Z6 Y0.Me).getD Y1.toNat default)).Y), .f .f32 ((Zy Y0.Me ((Z6 Y0.Me).getD Y1.toNat default)).Z)]]) (args':=[.i .i64 (((Z6 Y0.Me).getD Y1.toNat default).getD 0 default), .agg [.f .f32 ((Zy Y0.Me ((Z6 Y0.Me).getD Y1.toNat default)).X), .f .f32 ((Zy Y0.Me ((Z6 Y0.Me).getD Y1.toNat default)).Y), .f .f32 ((Zy Y0.Me ((Z6 Y0.Me).getD Y1.toNat default)).Z)], .f .f32 Y0.Bend, .ptr 1 0 0]) rfl rfl rfl rfl rfl rfl) <| sK [7,7] <| sC (Xz (c:=(cI .i64)) (l:=(Z6 Y0.Me)) (j:=Y1.toNat) (i:=1) Y1g Y1j) <| sE (Xy (c:=(cI .i64)) (l:=(Z6 Y0.Me)) (j:=Y1.toNat) (k:=1) Y1k) <| sS (X3.frame (Z2h (((Z6 Y0.Me).getD Y1.toNat default).getD 1 default) (Zy Y0.Me ((Z6 Y0.Me).getD Y1.toNat default)) Y0.Bend (Z3s Y0 Y1 Yb) Y1r Y1s Y1t) [1,2] (R:=[.box 42 [.sl (Y0.Me.Pq.map Gv.c), .sl (Y0.Me.Tr.map (cL (cI .i64))), .sl (Y0.Sp.map Gs.c), .f .f32 Y0.Film, .f .f32 Y0.Bend, .sl (Y0.We.map (cF .f32)), .f .f32 Y0.Fall.X, .f .f32 Y0.Fall.Y, .f .f32 Y0.Fall.Z], .box 34 [.own 2], .vec 40 3 ((Z3s Y0 Y1 Yb).map Gv.c) false, .nest 49 ((Z6 Y0.Me).map fun l => l.map (cI .i64)) false, .box 40 [.f .f32 ((Zy Y0.Me ((Z6 Y0.Me).getD Y1.toNat default)).X), .f .f32 ((Zy Y0.Me ((Z6 Y0.Me).getD Y1.toNat default)).Y), .f .f32 ((Zy Y0.Me ((Z6 Y0.Me).getD Y1.toNat default)).Z)]]) (args':=[.i .i64 (((Z6 Y0.Me).getD Y1.toNat default).getD 1 default), .agg [.f .f32 ((Zy Y0.Me ((Z6 Y0.Me).getD Y1.toNat default)).X), .f .f32 ((Zy Y0.Me ((Z6 Y0.Me).getD Y1.toNat default)).Y), .f .f32 ((Zy Y0.Me ((Z6 Y0.Me).getD Y1.toNat default)).Z)], .f .f32 Y0.Bend, .ptr 1 0 0]) rfl rfl rfl rfl rfl rfl) <| sK [8,8] <| sC (Xz (c:=(cI .i64)) (l:=(Z6 Y0.Me)) (j:=Y1.toNat) (i:=2) Y1u Y1D) <| sE (Xy (c:=(cI .i64)) (l:=(Z6 Y0.Me)) (j:=Y1.toNat) (k:=2) Y1E) <| sS (X3.frame (Z2h (((Z6 Y0.Me).getD Y1.toNat default).getD 2 default) (Zy Y0.Me ((Z6 Y0.Me).getD Y1.toNat default)) (fneg .f32 Y0.Bend) (Z3g Y0 Y1 Yb) Y1I Y1J Y1K) [1,2] (R:=[.box 42 [.sl (Y0.Me.Pq.map Gv.c), .sl (Y0.Me.Tr.map (cL (cI .i64))), .sl (Y0.Sp.map Gs.c), .f .f32 Y0.Film, .f .f32 Y0.Bend, .sl (Y0.We.map (cF .f32)), .f .f32 Y0.Fall.X, .f .f32 Y0.Fall.Y, .f .f32 Y0.Fall.Z], .box 34 [.own 2], .vec 40 3 ((Z3g Y0 Y1 Yb).map Gv.c) false, .nest 49 ((Z6 Y0.Me).map fun l => l.map (cI .i64)) false, .box 40 [.f .f32 ((Zy Y0.Me ((Z6 Y0.Me).getD Y1.toNat default)).X), .f .f32 ((Zy Y0.Me ((Z6 Y0.Me).getD Y1.toNat default)).Y), .f .f32 ((Zy Y0.Me ((Z6 Y0.Me).getD Y1.toNat default)).Z)]]) (args':=[.i .i64 (((Z6 Y0.Me).getD Y1.toNat default).getD 2 default), .agg [.f .f32 ((Zy Y0.Me ((Z6 Y0.Me).getD Y1.toNat default)).X), .f .f32 ((Zy Y0.Me ((Z6 Y0.Me).getD Y1.toNat default)).Y), .f .f32 ((Zy Y0.Me ((Z6 Y0.Me).getD Y1.toNat default)).Z)], .f .f32 (fneg .f32 Y0.Bend), .ptr 1 0 0]) rfl rfl rfl rfl rfl rfl) <| sK [8,8] <| sC (Xz (c:=(cI .i64)) (l:=(Z6 Y0.Me)) (j:=Y1.toNat) (i:=3) Y1L Y1M) <| sE (Xy (c:=(cI .i64)) (l:=(Z6 Y0.Me)) (j:=Y1.toNat) (k:=3) Y1N) <| sS (X3.frame (Z2h (((Z6 Y0.Me).getD Y1.toNat default).getD 3 default) (Zy Y0.Me ((Z6 Y0.Me).getD Y1.toNat default)) (fneg .f32 Y0.Bend) (Z3h Y0 Y1 Yb) Y1O Y1P Y1Q) [1,2] (R:=[.box 42 [.sl (Y0.Me.Pq.map Gv.c), .sl (Y0.Me.Tr.map (cL (cI .i64))), .sl (Y0.Sp.map Gs.c), .f .f32 Y0.Film, .f .f32 Y0.Bend, .sl (Y0.We.map (cF .f32)), .f .f32 Y0.Fall.X, .f .f32 Y0.Fall.Y, .f .f32 Y0.Fall.Z], .box 34 [.own 2], .vec 40 3 ((Z3h Y0 Y1 Yb).map Gv.c) false, .nest 49 ((Z6 Y0.Me).map fun l => l.map (cI .i64)) false, .box 40 [.f .f32 ((Zy Y0.Me ((Z6 Y0.Me).getD Y1.toNat default)).X), .f .f32 ((Zy Y0.Me ((Z6 Y0.Me).getD Y1.toNat default)).Y), .f .f32 ((Zy Y0.Me ((Z6 Y0.Me).getD Y1.toNat default)).Z)]]) (args':=[.i .i64 (((Z6 Y0.Me).getD Y1.toNat default).getD 3 default), .agg [.f .f32 ((Zy Y0.Me ((Z6 Y0.Me).getD Y1.toNat default)).X), .f .f32 ((Zy Y0.Me ((Z6 Y0.Me).getD Y1.toNat default)).Y), .f .f32 ((Zy Y0.Me ((Z6 Y0.Me).getD Y1.toNat default)).Z)], .f .f32 (fneg .f32 Y0.Bend), .ptr 1 0 0]) rfl rfl rfl rfl rfl rfl) <| sI (Y1 + 1) Y1T Y1U <| sN) (by kernel_rfl)
  | false =>
   have YM:=odf Yn
   have e:Z1f Y0 (k + 1) Y1 Yb=Yb:=by simp only [Z1f,Yn,cond_false]
   rw [e]
   exact outR (e:=(.exit 6)) E0Ok Z4 [] Zdn [0,1,2,3] (sB Yn <| sN) (by kernel_rfl) (by intro h; cases h)
theorem Zdo (Y0:Gb):∀ (k:Nat) (Y1:Int) (Yb:(List Gv)) (hk:(((Z6 Y0.Me).length:Int) - Y1).toNat < k),(Z1f Y0 k Y1 Yb).length=Yb.length:=by
  intro k
  induction k with
  | zero => intro Y1 Yb hk; exact absurd hk (Nat.not_lt_zero _)
  | succ k ih =>
    intro Y1 Yb hk
    cases Yn:(decide (Y1 < ((Z6 Y0.Me).length:Int))) with
    | true =>
      have e:Z1f Y0 (k + 1) Y1 Yb=(Z1f Y0 k (Y1 + 1) (Z3i Y0 Y1 Yb)):=by simp only [Z1f,Yn,cond_true]
      rw [e,ih (Y1 + 1) (Z3i Y0 Y1 Yb) (by simp_all <;> omega)]; simp
    | false =>
      have e:Z1f Y0 (k + 1) Y1 Yb=Yb:=by simp only [Z1f,Yn,cond_false]
      first | (rw [e]; done) | (rw [e]; rfl)
def Z3t (Y0:Gb):(List Gv):=(Z1f Y0 ((((Z6 Y0.Me).length:Int) - 0).toNat + 1) 0 (Z3r Y0))
@[simp] theorem Zha (Y0:Gb):(Z3t Y0).length=((Z3r Y0):(List Gv)).length:=Zdo Y0 ((((Z6 Y0.Me).length:Int) - 0).toNat + 1) 0 (Z3r Y0) (by exact Nat.lt_succ_self _)
def Z1g (Y0:Gb):Nat→Int→(List Gv)→(List Gv)
  | 0,_,_ => default
  | k + 1,Y1,Yb => (cond (decide (Y1 < (Y0.We.length:Int)))
    (Z1g Y0 k (Y1 + 1) (ZF Y1 Y0.Fall (Y0.We.getD Y1.toNat default) Yb))
    Yb)
def Z7F (Y0:Gb) (r:(List Gv)):Ex × St:=((.exit 8),⟨.agg [.sl (Y0.Me.Pq.map Gv.c), .sl (Y0.Me.Tr.map (cL (cI .i64))), .sl (Y0.Sp.map Gs.c), .f .f32 Y0.Film, .f .f32 Y0.Bend, .sl (Y0.We.map (cF .f32)), .f .f32 Y0.Fall.X, .f .f32 Y0.Fall.Y, .f .f32 Y0.Fall.Z] :: .ptr 0 0 0 :: .nils :: .ptr 1 0 0 :: .fn 106 [.ptr 1 0 0] :: an 18 (.ptr 0 0 0 :: .ptr 0 0 0 :: .sl (Y0.Me.Pq.map Gv.c) :: .i .i64 (Y0.Me.Pq.length:Int) :: .own 2 :: .fn 106 [.ptr 1 0 0] :: .ptr 0 0 2 :: .sl (Y0.Sp.map Gs.c) :: an 25 (.ptr 0 0 0 :: .ptr 0 0 0 :: .sl (Y0.Me.Pq.map Gv.c) :: .ptr 0 0 0 :: .ptr 0 0 1 :: .sl (Y0.Me.Tr.map (cL (cI .i64))) :: an 54 (.ptr 0 0 0 :: .agg [.sl (Y0.Me.Pq.map Gv.c), .sl (Y0.Me.Tr.map (cL (cI .i64)))] :: .own 3 :: an 44 (.ptr 0 0 5 :: .sl (Y0.We.map (cF .f32)) :: an 14 [])))),[.box 42 [.sl (Y0.Me.Pq.map Gv.c), .sl (Y0.Me.Tr.map (cL (cI .i64))), .sl (Y0.Sp.map Gs.c), .f .f32 Y0.Film, .f .f32 Y0.Bend, .sl (Y0.We.map (cF .f32)), .f .f32 Y0.Fall.X, .f .f32 Y0.Fall.Y, .f .f32 Y0.Fall.Z], .box 34 [.own 2], .vec 40 3 (r.map Gv.c) false, .nest 49 ((Z6 Y0.Me).map fun l => l.map (cI .i64)) false]⟩)
def ZeL (Y0:Gb) (Y1:Int) (Yb:(List Gv)):St:=⟨.agg [.sl (Y0.Me.Pq.map Gv.c), .sl (Y0.Me.Tr.map (cL (cI .i64))), .sl (Y0.Sp.map Gs.c), .f .f32 Y0.Film, .f .f32 Y0.Bend, .sl (Y0.We.map (cF .f32)), .f .f32 Y0.Fall.X, .f .f32 Y0.Fall.Y, .f .f32 Y0.Fall.Z] :: .ptr 0 0 0 :: .nils :: .ptr 1 0 0 :: .fn 106 [.ptr 1 0 0] :: an 18 (.ptr 0 0 0 :: .ptr 0 0 0 :: .sl (Y0.Me.Pq.map Gv.c) :: .i .i64 (Y0.Me.Pq.length:Int) :: .own 2 :: .fn 106 [.ptr 1 0 0] :: .ptr 0 0 2 :: .sl (Y0.Sp.map Gs.c) :: an 25 (.ptr 0 0 0 :: .ptr 0 0 0 :: .sl (Y0.Me.Pq.map Gv.c) :: .ptr 0 0 0 :: .ptr 0 0 1 :: .sl (Y0.Me.Tr.map (cL (cI .i64))) :: an 54 (.ptr 0 0 0 :: .agg [.sl (Y0.Me.Pq.map Gv.c), .sl (Y0.Me.Tr.map (cL (cI .i64)))] :: .own 3 :: an 44 (.ptr 0 0 5 :: .sl (Y0.We.map (cF .f32)) :: .i .i64 (Y0.We.length:Int) :: .i .i64 Y1 :: an 12 [])))),[.box 42 [.sl (Y0.Me.Pq.map Gv.c), .sl (Y0.Me.Tr.map (cL (cI .i64))), .sl (Y0.Sp.map Gs.c), .f .f32 Y0.Film, .f .f32 Y0.Bend, .sl (Y0.We.map (cF .f32)), .f .f32 Y0.Fall.X, .f .f32 Y0.Fall.Y, .f .f32 Y0.Fall.Z], .box 34 [.own 2], .vec 40 3 (Yb.map Gv.c) false, .nest 49 ((Z6 Y0.Me).map fun l => l.map (cI .i64)) false]⟩
def Z9D:List Bool:=(mR false [0,5,18,8,25,6,54,3,44,4,12])
def Zdp:List Bool:=(mR false [0,5,18,8,25,6,54,3,44,2,14])
theorem ZeM (Y0:Gb) (hp0:Y0.Me.Pq.length≤1073741824) (hp1:Y0.Me.Tr.length≤1073741824) (hp2:∀ t∈Y0.Me.Tr,t.length≤1073741824) (hp3:Y0.Sp.length≤1073741824) (hp4:Y0.We.length≤1073741824) (hp5:OkBd Y0):∀ (k:Nat) (Y1:Int) (Yb:(List Gv)) (Z6t:0≤Y1) (Z9E:Yb.length=Y0.Me.Pq.length) (hk:((Y0.We.length:Int) - Y1).toNat < k),Lp prog 0 (sub (X0 f57) [1,1,1,1,1,1,1,0,1,0,0]) (ZeL Y0 Y1 Yb) (Z7F Y0 (Z1g Y0 k Y1 Yb)).1 (Z7F Y0 (Z1g Y0 k Y1 Yb)).2:=by
 intro k
 induction k with
 | zero => intro Y1 Yb Z6t Z9E hk; exact absurd hk (Nat.not_lt_zero _)
 | succ k ih =>
  intro Y1 Yb Z6t Z9E hk
  cases Yn:(decide (Y1 < (Y0.We.length:Int))) with
  | true =>
   have YM:=odt Yn
   have YS:(0:Int)≤Y1:=(by assumption)
   have YT:Y1 < (Y0.We.length:Int):=(by assumption)
   have YY:Yb.length≤1073741824:=(by omega)
   have YZ:Y1 < (Yb.length:Int):=(by have q:=hp5.w; omega)
   have y_4:(-9223372036854775808:Int)≤(Y1 + 1):=(by omega)
   have y_5:(Y1 + 1)≤(9223372036854775807:Int):=(by omega)
   have e:Z1g Y0 (k + 1) Y1 Yb=(Z1g Y0 k (Y1 + 1) (ZF Y1 Y0.Fall (Y0.We.getD Y1.toNat default) Yb)):=by simp only [Z1g,Yn,cond_true]
   rw [e]
   exact X9 E0Ok Z4 [] Z9D [0,1,2,3] (ih (Y1 + 1) (ZF Y1 Y0.Fall (Y0.We.getD Y1.toNat default) Yb) (show 0≤(Y1 + 1) from (by omega)) (show (ZF Y1 Y0.Fall (Y0.We.getD Y1.toNat default) Yb).length=Y0.Me.Pq.length from (by simp_all <;> omega)) (by omega)) (sB Yn <| sG (cF .f32) Y0.We Y1 YS YT <| sS (X3.frame (Z2h Y1 Y0.Fall (Y0.We.getD Y1.toNat default) Yb YY Z6t YZ) [1,2] (R:=[.box 42 [.sl (Y0.Me.Pq.map Gv.c), .sl (Y0.Me.Tr.map (cL (cI .i64))), .sl (Y0.Sp.map Gs.c), .f .f32 Y0.Film, .f .f32 Y0.Bend, .sl (Y0.We.map (cF .f32)), .f .f32 Y0.Fall.X, .f .f32 Y0.Fall.Y, .f .f32 Y0.Fall.Z], .box 34 [.own 2], .vec 40 3 (Yb.map Gv.c) false, .nest 49 ((Z6 Y0.Me).map fun l => l.map (cI .i64)) false]) (args':=[.i .i64 Y1, .agg [.f .f32 Y0.Fall.X, .f .f32 Y0.Fall.Y, .f .f32 Y0.Fall.Z], .f .f32 (Y0.We.getD Y1.toNat default), .ptr 1 0 0]) rfl rfl rfl rfl rfl rfl) <| sI (Y1 + 1) y_4 y_5 <| sN) (by kernel_rfl)
  | false =>
   have YM:=odf Yn
   have e:Z1g Y0 (k + 1) Y1 Yb=Yb:=by simp only [Z1g,Yn,cond_false]
   rw [e]
   exact outR (e:=(.exit 8)) E0Ok Z4 [] Zdp [0,1,2,3] (sB Yn <| sN) (by kernel_rfl) (by intro h; cases h)
theorem Zdq (Y0:Gb):∀ (k:Nat) (Y1:Int) (Yb:(List Gv)) (hk:((Y0.We.length:Int) - Y1).toNat < k),(Z1g Y0 k Y1 Yb).length=Yb.length:=by
  intro k
  induction k with
  | zero => intro Y1 Yb hk; exact absurd hk (Nat.not_lt_zero _)
  | succ k ih =>
    intro Y1 Yb hk
    cases Yn:(decide (Y1 < (Y0.We.length:Int))) with
    | true =>
      have e:Z1g Y0 (k + 1) Y1 Yb=(Z1g Y0 k (Y1 + 1) (ZF Y1 Y0.Fall (Y0.We.getD Y1.toNat default) Yb)):=by simp only [Z1g,Yn,cond_true]
      rw [e,ih (Y1 + 1) (ZF Y1 Y0.Fall (Y0.We.getD Y1.toNat default) Yb) (by simp_all <;> omega)]; simp
    | false =>
      have e:Z1g Y0 (k + 1) Y1 Yb=Yb:=by simp only [Z1g,Yn,cond_false]
      first | (rw [e]; done) | (rw [e]; rfl)
def Z4G (Y0:Gb):(List Gv):=(Z1g Y0 (((Y0.We.length:Int) - 0).toNat + 1) 0 (Z3t Y0))
@[simp] theorem Zhb (Y0:Gb):(Z4G Y0).length=((Z3t Y0):(List Gv)).length:=Zdq Y0 (((Y0.We.length:Int) - 0).toNat + 1) 0 (Z3t Y0) (by exact Nat.lt_succ_self _)
def Z3u (Y0:Gb):(List Gv):=(Z4G Y0)
@[simp] theorem Zi2 (Y0:Gb):(Z3u Y0).length=Y0.Me.Pq.length:=by
  first | (simp [Z3u]; done)
theorem Zi8 (b:Gb):Z1F b=Z1u b:=by kernel_rfl
theorem Zi9 (b:Gb) (x:Int) (r:List Gv) (h:fcmp .gtr .f32 (Z2u (Zg b.Me (b.Me.Tr.getD x.toNat default))) 0=true):∀ (k:Nat) (y:Int) (s:List Gv),Z1q b x r k y s=ZW b x r k y s:=by
  intro k
  induction k with
  | zero => intro y s; rfl
  | succ k ih =>
    intro y s
    rw [Z1q,ZW,ih]
    unfold Z2w Z5C Z2X Z4M
    rw [h]
    kernel_rfl
theorem Zia (b:Gb) (x:Int) (r:List Gv) (h:fcmp .gtr .f32 (Z2u (Zg b.Me (b.Me.Tr.getD x.toNat default))) 0=false):∀ (k:Nat) (y:Int) (s:List Gv),Z1r b x r k y s=ZW b x r k y s:=by
  intro k
  induction k with
  | zero => intro y s; rfl
  | succ k ih =>
    intro y s
    rw [Z1r,ZW,ih]
    unfold Z2w Z5C Z2X Z4M
    rw [h]
    kernel_rfl
theorem Zib (b:Gb):∀ (k:Nat) (x:Int) (r:List Gv),ZG b k x r=Z1b b k x r:=by
  intro k
  induction k with
  | zero => intro x r; rfl
  | succ k ih =>
    intro x r
    rw [ZG,Z1b]
    rw [show fcmp .gtr .f32 (ZD (Zd b.Me (b.Me.Tr.getD x.toNat default))) 0=fcmp .gtr .f32 (Z2u (Zg b.Me (b.Me.Tr.getD x.toNat default))) 0 from by kernel_rfl]
    unfold Z31 Z32 Z2S
    cases h:fcmp .gtr .f32 (Z2u (Zg b.Me (b.Me.Tr.getD x.toNat default))) 0 with
    | true => rw [cond_true,ih,Zi9 b x r h]
    | false => rw [cond_false,ih,Zia b x r h]
theorem Zic (b:Gb) (h:Z6 b.Me=Z2 b.Me):∀ (k:Nat) (x:Int) (r:List Gv),Z1f b k x r=Z1c b k x r:=by
  intro k
  induction k with
  | zero => intro x r; rfl
  | succ k ih =>
    intro x r
    rw [Z1f,Z1c,ih]
    unfold Z3i Z3h Z3g Z3s
    rw [h]
    kernel_rfl
theorem Zid (b:Gb) (h:b.We.length=b.Me.Pq.length):∀ (k:Nat) (x:Int) (r:List Gv),Z1g b k x r=Z1d b k x r:=by
  intro k
  induction k with
  | zero => intro x r; rfl
  | succ k ih =>
    intro x r
    rw [Z1g,Z1d,ih,h]
    kernel_rfl
theorem ZhK (b:Gb) (ok:OkBd b):Z3u b=Z3d b:=by
  have h:Z6 b.Me=Z2 b.Me:=by rw [Z6q _ ok.e,Z9a _ ok.e]
  unfold Z3u Z3d Z4G Z4s Z3t Z3l Z3r Z3k Z3q Z3j
  have e2:ZG b=Z1b b:=by funext k x r; exact Zib b k x r
  have e5:Z1f b=Z1c b:=by funext k x r; exact Zic b h k x r
  have e6:Z1g b=Z1d b:=by funext k x r; exact Zid b ok.w k x r
  rw [Zi8,e2,e5,e6,h,ok.w]
theorem Zgc (Y0:Gb) (hp0:Y0.Me.Pq.length≤1073741824) (hp1:Y0.Me.Tr.length≤1073741824) (hp2:∀ t∈Y0.Me.Tr,t.length≤1073741824) (hp3:Y0.Sp.length≤1073741824) (hp4:Y0.We.length≤1073741824) (hp5:OkBd Y0)  : Fn prog 57 [.agg [.sl (Y0.Me.Pq.map Gv.c), .sl (Y0.Me.Tr.map (cL (cI .i64))), .sl (Y0.Sp.map Gs.c), .f .f32 Y0.Film, .f .f32 Y0.Bend, .sl (Y0.We.map (cF .f32)), .f .f32 Y0.Fall.X, .f .f32 Y0.Fall.Y, .f .f32 Y0.Fall.Z]] (.own 0) [.vec 40 3 ((Z3u Y0).map Gv.c) false]:=by
 have y0:(0:Int)≤(Y0.Me.Pq.length:Int):=(by omega)
 have y1:((Y0.Me.Pq.length:Int):Int)≤2147483648:=(by omega)
 have y2:OkE Y0.Me.Pq.length Y0.Me.Tr:=(by exact hp5.e)
 refine fnS E0Ok Z4 (c:=X0 f57) [] (.own 0) [.vec 40 3 ((Z4G Y0).map Gv.c) false] func57 (sZ Gv.c Y0.Me.Pq <| sC (show (Y0.Me.Pq.length:Int)=(Y0.Me.Pq.length:Int) from rfl) <| sC y0 <| sC y1 <| sZ Gs.c Y0.Sp <| sL (mR false [0,5,18,10,146]) 3 (Xj (st2:=⟨.agg [.sl (Y0.Me.Pq.map Gv.c), .sl (Y0.Me.Tr.map (cL (cI .i64))), .sl (Y0.Sp.map Gs.c), .f .f32 Y0.Film, .f .f32 Y0.Bend, .sl (Y0.We.map (cF .f32)), .f .f32 Y0.Fall.X, .f .f32 Y0.Fall.Y, .f .f32 Y0.Fall.Z] :: .ptr 0 0 0 :: .nils :: .ptr 2 0 0 :: .fn 106 [.ptr 2 0 0] :: an 18 (.ptr 0 0 0 :: .ptr 0 0 0 :: .sl (Y0.Me.Pq.map Gv.c) :: .i .i64 (Y0.Me.Pq.length:Int) :: .own 1 :: .fn 106 [.ptr 2 0 0] :: .ptr 0 0 2 :: .sl (Y0.Sp.map Gs.c) :: .i .i64 (Y0.Sp.length:Int) :: .i .i64 0 :: an 146 []),[.box 42 [.sl (Y0.Me.Pq.map Gv.c), .sl (Y0.Me.Tr.map (cL (cI .i64))), .sl (Y0.Sp.map Gs.c), .f .f32 Y0.Film, .f .f32 Y0.Bend, .sl (Y0.We.map (cF .f32)), .f .f32 Y0.Fall.X, .f .f32 Y0.Fall.Y, .f .f32 Y0.Fall.Z], .vec 40 3 (List.replicate (Int.toNat (Y0.Me.Pq.length:Int)) [.f .f32 0, .f .f32 0, .f .f32 0]) false, .box 34 [.own 1]]⟩) (X1 (Z7A Y0) (x:=(Z3q Y0)) (ZeC Y0 hp0 hp1 hp2 hp3 hp4 hp5 (((Y0.Sp.length:Int) - 0).toNat + 1) 0 (List.replicate (Y0.Me.Pq.length:Int).toNat (⟨0,0,0⟩:Gv)) (show 0≤0 from (by omega)) (show (List.replicate (Y0.Me.Pq.length:Int).toNat (⟨0,0,0⟩:Gv)).length=Y0.Me.Pq.length from (by simp; done)) (Nat.lt_succ_self _)) rfl) (by simp [ZaI,Gv.c])) <| sZ (cL (cI .i64)) Y0.Me.Tr <| sL Z6s 3 (X1 (Z7D Y0) (x:=(Z3r Y0)) (ZeI Y0 hp0 hp1 hp2 hp3 hp4 hp5 (((Y0.Me.Tr.length:Int) - 0).toNat + 1) 0 (Z3q Y0) (show 0≤0 from (by omega)) (show (Z3q Y0).length=Y0.Me.Pq.length from (by simp; done)) (Nat.lt_succ_self _)) rfl) <| sF (Zcc Y0.Me hp0 hp1 hp2 y2) <| sM (X28 (l:=(Z6 Y0.Me)) (f:=fun l => l.map (cI .i64))) <| sL Z9A 4 (X1 (Z7E Y0) (x:=(Z3t Y0)) (ZeK Y0 hp0 hp1 hp2 hp3 hp4 hp5 ((((Z6 Y0.Me).length:Int) - 0).toNat + 1) 0 (Z3r Y0) (show 0≤0 from (by omega)) (show (Z3r Y0).length=Y0.Me.Pq.length from (by simp; done)) (Nat.lt_succ_self _)) rfl) <| sZ (cF .f32) Y0.We <| sL Z9D 4 (X1 (Z7F Y0) (x:=(Z4G Y0)) (ZeM Y0 hp0 hp1 hp2 hp3 hp4 hp5 (((Y0.We.length:Int) - 0).toNat + 1) 0 (Z3t Y0) (show 0≤0 from (by omega)) (show (Z3t Y0).length=Y0.Me.Pq.length from (by simp; done)) (Nat.lt_succ_self _)) rfl) <| sK [2] sN) rfl (by kernel_rfl) (by kernel_rfl) rfl ?_ ?_
 · rfl
 · simp [Z3u]
end Go.Ab
