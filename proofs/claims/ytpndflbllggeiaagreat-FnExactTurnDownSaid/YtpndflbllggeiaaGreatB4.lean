/- The functions of this seat as plain Lean, and that the program's are these. Printed by a program of the prover's own. -/
import Derived.Test.YtpndflbllggeiaaGreatB3
set_option linter.unusedVariables false
set_option linter.unusedSimpArgs false
set_option maxRecDepth 100000
namespace Go.Ab
open Go.RowKit Go.Proofs.Tryz
theorem ZcZ (Y0:Gb) (Y1:Int) (Ye:(List Gv)):∀ (k:Nat) (Yh:Int) (YD:(List Gv)) (hk:((3:Int) - Yh).toNat < k),(Z13 Y0 Y1 Ye k Yh YD).length=YD.length:=by
  intro k
  induction k with
  | zero=>intro Yh YD hk;exact absurd hk (Nat.not_lt_zero _)
  | succ k ih =>
    intro Yh YD hk
    cases YS:(decide (Yh < 3)) with
    | true =>
      have e:Z13 Y0 Y1 Ye (k + 1) Yh YD=(Z13 Y0 Y1 Ye k (Yh + 1) (YD.set (((Y0.Me.Tr.getD Y1.toNat default).getD Yh.toNat default).toNat) (Z2z Y0 Y1 Yh YD))):=by simp only [Z13,YS,cond_true]
      rw [e,ih (Yh + 1) (YD.set (((Y0.Me.Tr.getD Y1.toNat default).getD Yh.toNat default).toNat) (Z2z Y0 Y1 Yh YD)) (by simp_all<;>omega)];simp
    | false =>
      have e:Z13 Y0 Y1 Ye (k + 1) Yh YD=YD:=by simp only [Z13,YS,cond_false]
      first | (rw [e];done) | (rw [e];rfl)
def Z2T (Y0:Gb) (Y1:Int) (Ye:(List Gv)):(List Gv):=(Z13 Y0 Y1 Ye (((3:Int) - 0).toNat + 1) 0 Ye)
@[simp] theorem ZgX (Y0:Gb) (Y1:Int) (Ye:(List Gv)):(Z2T Y0 Y1 Ye).length=(Ye:(List Gv)).length:=ZcZ Y0 Y1 Ye (((3:Int) - 0).toNat + 1) 0 Ye (by exact Nat.lt_succ_self _)
def Z1e (Y0:Gb):Nat→Int→(List Gv)→(List Gv)
  | 0,_,_=>default
  | k + 1,Y1,Ye=>(cond (decide (Y1 < (Y0.Me.Tr.length:Int)))
    (Z1e Y0 k (Y1 + 1) (Z2T Y0 Y1 Ye))
    Ye)
def Z7a (Y0:Gb) (r:(List Gv)):Ex × St:=((.exit 2),⟨.ref (Gb.c Y0) 0 :: .any :: .nils :: .ref (Gb.c Y0) 0 :: .own 0 :: an 15 (.ref (Gb.c Y0) 0 :: .ref (Gb.c Y0) 0 :: .ref (Gb.c Y0) 0 :: .ref (Gb.c Y0) 0 :: .ref (Gb.c Y0) 0 :: .ref (Gb.c Y0) 0 :: .sl (Y0.Me.Pq.map Gv.c) :: .i .i64 (Y0.Me.Pq.length:Int) :: .own 0 :: .ref (Gb.c Y0) 0 :: .ref (Gb.c Y0) 0 :: .ref (Gb.c Y0) 2 :: .sl (Y0.Sp.map Gs.c) :: an 52 (.ref (Gb.c Y0) 0 :: .ref (Gb.c Y0) 0 :: .ref (Gb.c Y0) 1 :: .sl (Y0.Me.Tr.map (cL (cI .i64))) :: an 191 [])),[.vec 40 3 (r.map Gv.c) false]⟩)
def Ze0 (Y0:Gb) (Y1:Int) (Ye:(List Gv)):St:=⟨.ref (Gb.c Y0) 0 :: .any :: .nils :: .ref (Gb.c Y0) 0 :: .own 0 :: an 15 (.ref (Gb.c Y0) 0 :: .ref (Gb.c Y0) 0 :: .ref (Gb.c Y0) 0 :: .ref (Gb.c Y0) 0 :: .ref (Gb.c Y0) 0 :: .ref (Gb.c Y0) 0 :: .sl (Y0.Me.Pq.map Gv.c) :: .i .i64 (Y0.Me.Pq.length:Int) :: .own 0 :: .ref (Gb.c Y0) 0 :: .ref (Gb.c Y0) 0 :: .ref (Gb.c Y0) 2 :: .sl (Y0.Sp.map Gs.c) :: an 52 (.ref (Gb.c Y0) 0 :: .ref (Gb.c Y0) 0 :: .ref (Gb.c Y0) 1 :: .sl (Y0.Me.Tr.map (cL (cI .i64))) :: .i .i64 (Y0.Me.Tr.length:Int) :: .i .i64 Y1 :: an 189 [])),[.vec 40 3 (Ye.map Gv.c) false]⟩
def Z8U:List Bool:=(mR false [0,1,1,3,15,13,52,6,189])
def Zd0:List Bool:=(mR false [0,1,1,3,15,13,52,4,191])
theorem Ze1 (Y0:Gb) (hp0:Y0.Me.Pq.length≤1073741824) (hp1:Y0.Me.Tr.length≤1073741824) (hp2:∀ t∈Y0.Me.Tr,t.length≤1073741824) (hp3:Y0.Sp.length≤1073741824) (hp4:Y0.We.length≤1073741824) (hp5:OkBd Y0):∀ (k:Nat) (Y1:Int) (Ye:(List Gv)) (Z5c:0≤Y1) (Z5d:Ye.length=Y0.Me.Pq.length) (hk:((Y0.Me.Tr.length:Int) - Y1).toNat < k),Lp prog 0 (sub (X0 f51) [1,1,1,1,0,1,0,0]) (Ze0 Y0 Y1 Ye) (Z7a Y0 (Z1e Y0 k Y1 Ye)).1 (Z7a Y0 (Z1e Y0 k Y1 Ye)).2:=by
 intro k
 induction k with
 | zero=>intro Y1 Ye Z5c Z5d hk;exact absurd hk (Nat.not_lt_zero _)
 | succ k ih =>
  intro Y1 Ye Z5c Z5d hk
  cases Yv:(decide (Y1 < (Y0.Me.Tr.length:Int))) with
  | true =>
   have YI:=odt Yv
   have YT:(0:Int)≤Y1:=(by assumption)
   have YV:Y1 < (Y0.Me.Tr.length:Int):=(by assumption)
   have YX:(Y0.Me.Tr.getD Y1.toNat default).length≤1073741824:=(by exact X4Q hp5.e (by assumption) Yv)
   have YZ:(Y0.Me.Tr.getD Y1.toNat default).length=3∧∀ x∈(Y0.Me.Tr.getD Y1.toNat default),0≤x∧x < (Y0.Me.Pq.length:Int):=(by exact tri3 hp5.e (by assumption) Yv)
   have y_4:(-9223372036854775808:Int)≤(Y1 + 1):=(by omega)
   have y_5:(Y1 + 1)≤(9223372036854775807:Int):=(by omega)
   have e:Z1e Y0 (k + 1) Y1 Ye=(Z1e Y0 k (Y1 + 1) (Z2T Y0 Y1 Ye)):=by simp only [Z1e,Yv,cond_true]
   rw [e]
   exact X8 E0Ok Z7 [] Z8U [0] (ih (Y1 + 1) (Z2T Y0 Y1 Ye) (show 0≤(Y1 + 1) from (by omega)) (show (Z2T Y0 Y1 Ye).length=Y0.Me.Pq.length from (by simp_all<;>omega)) (by omega)) (sB Yv<|sG (cL (cI .i64)) Y0.Me.Tr Y1 YT YV<|sF (Fn.sub (args:=[.ref (Gb.c Y0) 0, .sl ((Y0.Me.Tr.getD Y1.toNat default).map (cI .i64))]) (r := .agg [.f .f32 ((Zr Y0.Me (Y0.Me.Tr.getD Y1.toNat default)).X), .f .f32 ((Zr Y0.Me (Y0.Me.Tr.getD Y1.toNat default)).Y), .f .f32 ((Zr Y0.Me (Y0.Me.Tr.getD Y1.toNat default)).Z)]) (new:=[]) [some 2,none] (Zc4 Y0.Me (Y0.Me.Tr.getD Y1.toNat default) hp0 hp1 hp2 YX YZ))<|sK [8,8]<|sF (Z80 (Zr Y0.Me (Y0.Me.Tr.getD Y1.toNat default)))<|sF (Z81 (fneg .f32 (fop .mul .f32 1056964608 Y0.Film)) (Z2w (Zr Y0.Me (Y0.Me.Tr.getD Y1.toNat default))))<|sL Z8R 2 (X1 (Z79 Y0 Y1 Ye) (x:=(Z2T Y0 Y1 Ye)) (ZdZ Y0 Y1 Ye hp0 hp1 hp2 hp3 hp4 hp5 Z5c Z5d Yv (((3:Int) - 0).toNat + 1) 0 Ye (show 0≤0 from (by omega)) (show Ye.length=Ye.length from (by omega)) (Nat.lt_succ_self _)) rfl)<|sI (Y1 + 1) y_4 y_5<|sN) (by kernel_rfl)
  | false =>
   have YI:=odf Yv
   have e:Z1e Y0 (k + 1) Y1 Ye=Ye:=by simp only [Z1e,Yv,cond_false]
   rw [e]
   exact outR (e:=(.exit 2)) E0Ok Z7 [] Zd0 [0] (sB Yv<|sN) (by kernel_rfl) (by intro h;cases h)
theorem Zd1 (Y0:Gb):∀ (k:Nat) (Y1:Int) (Ye:(List Gv)) (hk:((Y0.Me.Tr.length:Int) - Y1).toNat < k),(Z1e Y0 k Y1 Ye).length=Ye.length:=by
  intro k
  induction k with
  | zero=>intro Y1 Ye hk;exact absurd hk (Nat.not_lt_zero _)
  | succ k ih =>
    intro Y1 Ye hk
    cases Yv:(decide (Y1 < (Y0.Me.Tr.length:Int))) with
    | true =>
      have e:Z1e Y0 (k + 1) Y1 Ye=(Z1e Y0 k (Y1 + 1) (Z2T Y0 Y1 Ye)):=by simp only [Z1e,Yv,cond_true]
      rw [e,ih (Y1 + 1) (Z2T Y0 Y1 Ye) (by simp_all<;>omega)];simp
    | false =>
      have e:Z1e Y0 (k + 1) Y1 Ye=Ye:=by simp only [Z1e,Yv,cond_false]
      first | (rw [e];done) | (rw [e];rfl)
def Z3s (Y0:Gb):(List Gv):=(Z1e Y0 (((Y0.Me.Tr.length:Int) - 0).toNat + 1) 0 (Z3r Y0))
@[simp] theorem ZgY (Y0:Gb):(Z3s Y0).length=((Z3r Y0):(List Gv)).length:=Zd1 Y0 (((Y0.Me.Tr.length:Int) - 0).toNat + 1) 0 (Z3r Y0) (by exact Nat.lt_succ_self _)
def Zd (Y0:Gb) (Y1:Int) (Ye:(List Gv)):Gv:=(Zv (Ye.getD ((((Z2 Y0.Me).getD Y1.toNat default).getD 0 default).toNat) default) (Zo (Z15 Y0.Me ((Z2 Y0.Me).getD Y1.toNat default)) Y0.Bend))
def Zg (Y0:Gb) (Y1:Int) (Ye:(List Gv)):Gv:=(Zv ((Ye.set ((((Z2 Y0.Me).getD Y1.toNat default).getD 0 default).toNat) (Zd Y0 Y1 Ye)).getD ((((Z2 Y0.Me).getD Y1.toNat default).getD 1 default).toNat) default) (Zo (Z15 Y0.Me ((Z2 Y0.Me).getD Y1.toNat default)) Y0.Bend))
def Zz (Y0:Gb) (Y1:Int) (Ye:(List Gv)):Gv:=(Zv (((Ye.set ((((Z2 Y0.Me).getD Y1.toNat default).getD 0 default).toNat) (Zd Y0 Y1 Ye)).set ((((Z2 Y0.Me).getD Y1.toNat default).getD 1 default).toNat) (Zg Y0 Y1 Ye)).getD ((((Z2 Y0.Me).getD Y1.toNat default).getD 2 default).toNat) default) (Zo (Z15 Y0.Me ((Z2 Y0.Me).getD Y1.toNat default)) (fneg .f32 Y0.Bend)))
def Z34 (Y0:Gb) (Y1:Int) (Ye:(List Gv)):Gv:=(Zv ((((Ye.set ((((Z2 Y0.Me).getD Y1.toNat default).getD 0 default).toNat) (Zd Y0 Y1 Ye)).set ((((Z2 Y0.Me).getD Y1.toNat default).getD 1 default).toNat) (Zg Y0 Y1 Ye)).set ((((Z2 Y0.Me).getD Y1.toNat default).getD 2 default).toNat) (Zz Y0 Y1 Ye)).getD ((((Z2 Y0.Me).getD Y1.toNat default).getD 3 default).toNat) default) (Zo (Z15 Y0.Me ((Z2 Y0.Me).getD Y1.toNat default)) (fneg .f32 Y0.Bend)))
def Z1f (Y0:Gb):Nat→Int→(List Gv)→(List Gv)
  | 0,_,_=>default
  | k + 1,Y1,Ye=>(cond (decide (Y1 < ((Z2 Y0.Me).length:Int)))
    (Z1f Y0 k (Y1 + 1) ((((Ye.set ((((Z2 Y0.Me).getD Y1.toNat default).getD 0 default).toNat) (Zd Y0 Y1 Ye)).set ((((Z2 Y0.Me).getD Y1.toNat default).getD 1 default).toNat) (Zg Y0 Y1 Ye)).set ((((Z2 Y0.Me).getD Y1.toNat default).getD 2 default).toNat) (Zz Y0 Y1 Ye)).set ((((Z2 Y0.Me).getD Y1.toNat default).getD 3 default).toNat) (Z34 Y0 Y1 Ye)))
    Ye)
def Z7b (Y0:Gb) (r:(List Gv)):Ex × St:=((.exit 6),⟨.ref (Gb.c Y0) 0 :: .any :: .nils :: .ref (Gb.c Y0) 0 :: .own 0 :: an 10 (.own 1 :: an 4 (.ref (Gb.c Y0) 0 :: .ref (Gb.c Y0) 0 :: .ref (Gb.c Y0) 0 :: .ref (Gb.c Y0) 0 :: .ref (Gb.c Y0) 0 :: .ref (Gb.c Y0) 0 :: .sl (Y0.Me.Pq.map Gv.c) :: .i .i64 (Y0.Me.Pq.length:Int) :: .own 0 :: .ref (Gb.c Y0) 0 :: .ref (Gb.c Y0) 0 :: .ref (Gb.c Y0) 2 :: .sl (Y0.Sp.map Gs.c) :: an 52 (.ref (Gb.c Y0) 0 :: .ref (Gb.c Y0) 0 :: .ref (Gb.c Y0) 1 :: .sl (Y0.Me.Tr.map (cL (cI .i64))) :: an 72 (.ref (Gb.c Y0) 0 :: .own 1 :: .own 1 :: an 116 [])))),[.vec 40 3 (r.map Gv.c) false, .nest 49 ((Z2 Y0.Me).map fun l=>l.map (cI .i64)) false]⟩)
def Zaf (Y0:Gb) (Y1:Int) (Ye:(List Gv)):St:=⟨.ref (Gb.c Y0) 0 :: .any :: .nils :: .ref (Gb.c Y0) 0 :: .own 0 :: an 10 (.own 1 :: an 4 (.ref (Gb.c Y0) 0 :: .ref (Gb.c Y0) 0 :: .ref (Gb.c Y0) 0 :: .ref (Gb.c Y0) 0 :: .ref (Gb.c Y0) 0 :: .ref (Gb.c Y0) 0 :: .sl (Y0.Me.Pq.map Gv.c) :: .i .i64 (Y0.Me.Pq.length:Int) :: .own 0 :: .ref (Gb.c Y0) 0 :: .ref (Gb.c Y0) 0 :: .ref (Gb.c Y0) 2 :: .sl (Y0.Sp.map Gs.c) :: an 52 (.ref (Gb.c Y0) 0 :: .ref (Gb.c Y0) 0 :: .ref (Gb.c Y0) 1 :: .sl (Y0.Me.Tr.map (cL (cI .i64))) :: an 72 (.ref (Gb.c Y0) 0 :: .own 1 :: .own 1 :: .i .i64 ((Z2 Y0.Me).length:Int) :: .i .i64 Y1 :: an 114 [])))),[.vec 40 3 (Ye.map Gv.c) false, .nest 49 ((Z2 Y0.Me).map fun l=>l.map (cI .i64)) false]⟩
def Z8V:List Bool:=(mR false [0,1,1,3,10,1,4,13,52,4,72,5,114])
def Zd2:List Bool:=(mR false [0,1,1,3,10,1,4,13,52,4,72,3,116])
set_option maxHeartbeats 1000000 in
theorem Ze2 (Y0:Gb) (hp0:Y0.Me.Pq.length≤1073741824) (hp1:Y0.Me.Tr.length≤1073741824) (hp2:∀ t∈Y0.Me.Tr,t.length≤1073741824) (hp3:Y0.Sp.length≤1073741824) (hp4:Y0.We.length≤1073741824) (hp5:OkBd Y0):∀ (k:Nat) (Y1:Int) (Ye:(List Gv)) (Z8W:0≤Y1) (Z8X:Ye.length=Y0.Me.Pq.length) (hk:(((Z2 Y0.Me).length:Int) - Y1).toNat < k),Lp prog 0 (sub (X0 f51) [1,1,1,1,1,1,0,1,0,0]) (Zaf Y0 Y1 Ye) (Z7b Y0 (Z1f Y0 k Y1 Ye)).1 (Z7b Y0 (Z1f Y0 k Y1 Ye)).2:=by
 intro k
 induction k with
 | zero=>intro Y1 Ye Z8W Z8X hk;exact absurd hk (Nat.not_lt_zero _)
 | succ k ih =>
  intro Y1 Ye Z8W Z8X hk
  cases Yv:(decide (Y1 < ((Z2 Y0.Me).length:Int))) with
  | true =>
   have YI:=odt Yv
   have YT:(0:Int)≤Y1:=(by assumption)
   have YV:Int.toNat Y1 < (Z2 Y0.Me).length:=(by omega)
   have YX:Y1.toNat < (Z2 Y0.Me).length:=(by assumption)
   have YZ:((Z2 Y0.Me).getD Y1.toNat default).length≤1073741824:=(by exact ZiX hp5.e (by assumption) Yv)
   have y_4:((Z2 Y0.Me).getD Y1.toNat default).length=4∧∀ x∈((Z2 Y0.Me).getD Y1.toNat default),0≤x∧x < (Y0.Me.Pq.length:Int):=(by exact hin4 hp5.e (by assumption) Yv)
   have y_5:(0:Int)≤0:=(by omega)
   have y_6:0 < (((Z2 Y0.Me).getD Y1.toNat default).length:Int):=(by omega)
   have y_7:0 < ((Z2 Y0.Me).getD Y1.toNat default).length:=(by omega)
   have y_8:(0:Int)≤(((Z2 Y0.Me).getD Y1.toNat default).getD 0 default):=(by (have q:=Z45 _ hp5.e;(have q:=Okh.at (hin4 hp5.e (by assumption) Yv);omega)))
   have y_9:(((Z2 Y0.Me).getD Y1.toNat default).getD 0 default) < (Ye.length:Int):=(by (have q:=Z45 _ hp5.e;(have q:=Okh.at (hin4 hp5.e (by assumption) Yv);omega)))
   have Y1b:(((Z2 Y0.Me).getD Y1.toNat default).getD 0 default).toNat < Ye.length:=(by omega)
   have Y1h:(0:Int)≤1:=(by omega)
   have Y1l:1 < (((Z2 Y0.Me).getD Y1.toNat default).length:Int):=(by omega)
   have Y1m:1 < ((Z2 Y0.Me).getD Y1.toNat default).length:=(by omega)
   have Y1q:(0:Int)≤(((Z2 Y0.Me).getD Y1.toNat default).getD 1 default):=(by (have q:=Z45 _ hp5.e;(have q:=Okh.at (hin4 hp5.e (by assumption) Yv);omega)))
   have Y1r:(((Z2 Y0.Me).getD Y1.toNat default).getD 1 default) < ((Ye.set ((((Z2 Y0.Me).getD Y1.toNat default).getD 0 default).toNat) (Zd Y0 Y1 Ye)).length:Int):=(by (have q:=Z45 _ hp5.e;(have q:=Okh.at (hin4 hp5.e (by assumption) Yv);(simp only [List.length_set];omega))))
   have Y1s:(((Z2 Y0.Me).getD Y1.toNat default).getD 1 default).toNat < (Ye.set ((((Z2 Y0.Me).getD Y1.toNat default).getD 0 default).toNat) (Zd Y0 Y1 Ye)).length:=(by omega)
   have Y1t:(0:Int)≤2:=(by omega)
   have Y1p:2 < (((Z2 Y0.Me).getD Y1.toNat default).length:Int):=(by omega)
   have Y1u:2 < ((Z2 Y0.Me).getD Y1.toNat default).length:=(by omega)
   have Y1v:(0:Int)≤(((Z2 Y0.Me).getD Y1.toNat default).getD 2 default):=(by (have q:=Z45 _ hp5.e;(have q:=Okh.at (hin4 hp5.e (by assumption) Yv);omega)))
   have Y1y:(((Z2 Y0.Me).getD Y1.toNat default).getD 2 default) < (((Ye.set ((((Z2 Y0.Me).getD Y1.toNat default).getD 0 default).toNat) (Zd Y0 Y1 Ye)).set ((((Z2 Y0.Me).getD Y1.toNat default).getD 1 default).toNat) (Zg Y0 Y1 Ye)).length:Int):=(by (have q:=Z45 _ hp5.e;(have q:=Okh.at (hin4 hp5.e (by assumption) Yv);(simp only [List.length_set];omega))))
   have Y1z:(((Z2 Y0.Me).getD Y1.toNat default).getD 2 default).toNat < ((Ye.set ((((Z2 Y0.Me).getD Y1.toNat default).getD 0 default).toNat) (Zd Y0 Y1 Ye)).set ((((Z2 Y0.Me).getD Y1.toNat default).getD 1 default).toNat) (Zg Y0 Y1 Ye)).length:=(by omega)
   have Y1C:(0:Int)≤3:=(by omega)
   have Y1L:3 < (((Z2 Y0.Me).getD Y1.toNat default).length:Int):=(by omega)
   have Y1P:3 < ((Z2 Y0.Me).getD Y1.toNat default).length:=(by omega)
   have Y1Q:(0:Int)≤(((Z2 Y0.Me).getD Y1.toNat default).getD 3 default):=(by (have q:=Z45 _ hp5.e;(have q:=Okh.at (hin4 hp5.e (by assumption) Yv);omega)))
   have Y1R:(((Z2 Y0.Me).getD Y1.toNat default).getD 3 default) < ((((Ye.set ((((Z2 Y0.Me).getD Y1.toNat default).getD 0 default).toNat) (Zd Y0 Y1 Ye)).set ((((Z2 Y0.Me).getD Y1.toNat default).getD 1 default).toNat) (Zg Y0 Y1 Ye)).set ((((Z2 Y0.Me).getD Y1.toNat default).getD 2 default).toNat) (Zz Y0 Y1 Ye)).length:Int):=(by (have q:=Z45 _ hp5.e;(have q:=Okh.at (hin4 hp5.e (by assumption) Yv);(simp only [List.length_set];omega))))
   have Y1S:(((Z2 Y0.Me).getD Y1.toNat default).getD 3 default).toNat < (((Ye.set ((((Z2 Y0.Me).getD Y1.toNat default).getD 0 default).toNat) (Zd Y0 Y1 Ye)).set ((((Z2 Y0.Me).getD Y1.toNat default).getD 1 default).toNat) (Zg Y0 Y1 Ye)).set ((((Z2 Y0.Me).getD Y1.toNat default).getD 2 default).toNat) (Zz Y0 Y1 Ye)).length:=(by omega)
   have Y1U:(-9223372036854775808:Int)≤(Y1 + 1):=(by omega)
   have Y1V:(Y1 + 1)≤(9223372036854775807:Int):=(by have q:=Z45 _ hp5.e;omega)
   have e:Z1f Y0 (k + 1) Y1 Ye=(Z1f Y0 k (Y1 + 1) ((((Ye.set ((((Z2 Y0.Me).getD Y1.toNat default).getD 0 default).toNat) (Zd Y0 Y1 Ye)).set ((((Z2 Y0.Me).getD Y1.toNat default).getD 1 default).toNat) (Zg Y0 Y1 Ye)).set ((((Z2 Y0.Me).getD Y1.toNat default).getD 2 default).toNat) (Zz Y0 Y1 Ye)).set ((((Z2 Y0.Me).getD Y1.toNat default).getD 3 default).toNat) (Z34 Y0 Y1 Ye))):=by simp only [Z1f,Yv,cond_true]
   rw [e]
   exact X9 E0Ok Z7 [] Z8V [0,1] (⟨.ref (Gb.c Y0) 0 :: .any :: .nils :: .ref (Gb.c Y0) 0 :: .own 0 :: an 10 (.own 1 :: an 4 (.ref (Gb.c Y0) 0 :: .ref (Gb.c Y0) 0 :: .ref (Gb.c Y0) 0 :: .ref (Gb.c Y0) 0 :: .ref (Gb.c Y0) 0 :: .ref (Gb.c Y0) 0 :: .sl (Y0.Me.Pq.map Gv.c) :: .i .i64 (Y0.Me.Pq.length:Int) :: .own 0 :: .ref (Gb.c Y0) 0 :: .ref (Gb.c Y0) 0 :: .ref (Gb.c Y0) 2 :: .sl (Y0.Sp.map Gs.c) :: an 52 (.ref (Gb.c Y0) 0 :: .ref (Gb.c Y0) 0 :: .ref (Gb.c Y0) 1 :: .sl (Y0.Me.Tr.map (cL (cI .i64))) :: an 72 (.ref (Gb.c Y0) 0 :: .own 1 :: .own 1 :: .i .i64 ((Z2 Y0.Me).length:Int) :: .i .i64 (Y1 + 1) :: an 114 [])))),[.vec 40 3 (((((Ye.map Gv.c).set ((((Z2 Y0.Me).getD Y1.toNat default).getD 0 default).toNat) [.f .f32 ((Zd Y0 Y1 Ye).X), .f .f32 ((Zd Y0 Y1 Ye).Y), .f .f32 ((Zd Y0 Y1 Ye).Z)]).set ((((Z2 Y0.Me).getD Y1.toNat default).getD 1 default).toNat) [.f .f32 ((Zg Y0 Y1 Ye).X), .f .f32 ((Zg Y0 Y1 Ye).Y), .f .f32 ((Zg Y0 Y1 Ye).Z)]).set ((((Z2 Y0.Me).getD Y1.toNat default).getD 2 default).toNat) [.f .f32 ((Zz Y0 Y1 Ye).X), .f .f32 ((Zz Y0 Y1 Ye).Y), .f .f32 ((Zz Y0 Y1 Ye).Z)]).set ((((Z2 Y0.Me).getD Y1.toNat default).getD 3 default).toNat) [.f .f32 ((Z34 Y0 Y1 Ye).X), .f .f32 ((Z34 Y0 Y1 Ye).Y), .f .f32 ((Z34 Y0 Y1 Ye).Z)]) false, .nest 49 ((Z2 Y0.Me).map fun l=>l.map (cI .i64)) false]⟩) (sB Yv<|sC (X1V (c:=(cI .i64)) (l:=(Z2 Y0.Me)) (i:=Y1) YT YV)<|sC (X2g (c:=(cI .i64)) (l:=(Z2 Y0.Me)) YX)<|sF (Fn.sub (args:=[.ref (Gb.c Y0) 0, .sl (((Z2 Y0.Me).map fun l=>l.map (cI .i64)).getD Y1.toNat [])]) (r := .agg [.f .f32 ((Z15 Y0.Me ((Z2 Y0.Me).getD Y1.toNat default)).X), .f .f32 ((Z15 Y0.Me ((Z2 Y0.Me).getD Y1.toNat default)).Y), .f .f32 ((Z15 Y0.Me ((Z2 Y0.Me).getD Y1.toNat default)).Z)]) (new:=[]) [some 2,none] (Fn.castA (args':=[.ref [.sl (Y0.Me.Pq.map Gv.c), .sl (Y0.Me.Tr.map (cL (cI .i64)))] 0, .sl (((Z2 Y0.Me).map fun l=>l.map (cI .i64)).getD Y1.toNat [])]) (ZcW Y0.Me ((Z2 Y0.Me).getD Y1.toNat default) hp0 hp1 hp2 YZ y_4) (by simp [cI];rfl)))<|sK [17,17]<|sC (Xz (c:=(cI .i64)) (l:=(Z2 Y0.Me)) (j:=Y1.toNat) (i:=0) y_5 y_6)<|sE (Xy (c:=(cI .i64)) (l:=(Z2 Y0.Me)) (j:=Y1.toNat) (k:=0) y_7)<|sC (Xz (c:=(cI .i64)) (l:=(Z2 Y0.Me)) (j:=Y1.toNat) (i:=0) y_5 y_6)<|sE (Xy (c:=(cI .i64)) (l:=(Z2 Y0.Me)) (j:=Y1.toNat) (k:=0) y_7)<|sX Gv.c Ye (((Z2 Y0.Me).getD Y1.toNat default).getD 0 default) y_8 y_9<|sV Gv.c Ye ((((Z2 Y0.Me).getD Y1.toNat default).getD 0 default).toNat) Y1b<|sF (Z3y (Z15 Y0.Me ((Z2 Y0.Me).getD Y1.toNat default)) Y0.Bend)<|sF (Z3w (Ye.getD ((((Z2 Y0.Me).getD Y1.toNat default).getD 0 default).toNat) default) (Zo (Z15 Y0.Me ((Z2 Y0.Me).getD Y1.toNat default)) Y0.Bend))<|sX Gv.c Ye (((Z2 Y0.Me).getD Y1.toNat default).getD 0 default) y_8 y_9<|sC (Xl (c:=Gv.c) (l:=Ye) Y1b)<|sK [17,17]<|sC (Xz (c:=(cI .i64)) (l:=(Z2 Y0.Me)) (j:=Y1.toNat) (i:=1) Y1h Y1l)<|sE (Xy (c:=(cI .i64)) (l:=(Z2 Y0.Me)) (j:=Y1.toNat) (k:=1) Y1m)<|sC (Xz (c:=(cI .i64)) (l:=(Z2 Y0.Me)) (j:=Y1.toNat) (i:=1) Y1h Y1l)<|sE (Xy (c:=(cI .i64)) (l:=(Z2 Y0.Me)) (j:=Y1.toNat) (k:=1) Y1m)<|sC (show 0≤(((Z2 Y0.Me).getD Y1.toNat default).getD 1 default)∧Int.toNat (((Z2 Y0.Me).getD Y1.toNat default).getD 1 default) < ((Ye.map Gv.c).set ((((Z2 Y0.Me).getD Y1.toNat default).getD 0 default).toNat) [.f .f32 ((Zd Y0 Y1 Ye).X), .f .f32 ((Zd Y0 Y1 Ye).Y), .f .f32 ((Zd Y0 Y1 Ye).Z)]).length from (by simpa using XC (c:=Gv.c) (l:=(Ye.set ((((Z2 Y0.Me).getD Y1.toNat default).getD 0 default).toNat) (Zd Y0 Y1 Ye))) (i:=(((Z2 Y0.Me).getD Y1.toNat default).getD 1 default)) Y1q Y1r))<|sE (show ((Ye.map Gv.c).set ((((Z2 Y0.Me).getD Y1.toNat default).getD 0 default).toNat) [.f .f32 ((Zd Y0 Y1 Ye).X), .f .f32 ((Zd Y0 Y1 Ye).Y), .f .f32 ((Zd Y0 Y1 Ye).Z)])[(((Z2 Y0.Me).getD Y1.toNat default).getD 1 default).toNat]? = some [.f .f32 (((Ye.set ((((Z2 Y0.Me).getD Y1.toNat default).getD 0 default).toNat) (Zd Y0 Y1 Ye)).getD ((((Z2 Y0.Me).getD Y1.toNat default).getD 1 default).toNat) default).X), .f .f32 (((Ye.set ((((Z2 Y0.Me).getD Y1.toNat default).getD 0 default).toNat) (Zd Y0 Y1 Ye)).getD ((((Z2 Y0.Me).getD Y1.toNat default).getD 1 default).toNat) default).Y), .f .f32 (((Ye.set ((((Z2 Y0.Me).getD Y1.toNat default).getD 0 default).toNat) (Zd Y0 Y1 Ye)).getD ((((Z2 Y0.Me).getD Y1.toNat default).getD 1 default).toNat) default).Z)] from (by have q:=X1q (c:=Gv.c) (l:=(Ye.set ((((Z2 Y0.Me).getD Y1.toNat default).getD 0 default).toNat) (Zd Y0 Y1 Ye))) (k:=(((Z2 Y0.Me).getD Y1.toNat default).getD 1 default).toNat) Y1s;(simp only [List.map_set,List.map_append,List.map_cons,List.map_nil,List.map_replicate] at q;exact q)))<|sF (Z3y (Z15 Y0.Me ((Z2 Y0.Me).getD Y1.toNat default)) Y0.Bend)<|sF (Z3w ((Ye.set ((((Z2 Y0.Me).getD Y1.toNat default).getD 0 default).toNat) (Zd Y0 Y1 Ye)).getD ((((Z2 Y0.Me).getD Y1.toNat default).getD 1 default).toNat) default) (Zo (Z15 Y0.Me ((Z2 Y0.Me).getD Y1.toNat default)) Y0.Bend))<|sC (show 0≤(((Z2 Y0.Me).getD Y1.toNat default).getD 1 default)∧Int.toNat (((Z2 Y0.Me).getD Y1.toNat default).getD 1 default) < ((Ye.map Gv.c).set ((((Z2 Y0.Me).getD Y1.toNat default).getD 0 default).toNat) [.f .f32 ((Zd Y0 Y1 Ye).X), .f .f32 ((Zd Y0 Y1 Ye).Y), .f .f32 ((Zd Y0 Y1 Ye).Z)]).length from (by simpa using XC (c:=Gv.c) (l:=(Ye.set ((((Z2 Y0.Me).getD Y1.toNat default).getD 0 default).toNat) (Zd Y0 Y1 Ye))) (i:=(((Z2 Y0.Me).getD Y1.toNat default).getD 1 default)) Y1q Y1r))<|sC (show (((Z2 Y0.Me).getD Y1.toNat default).getD 1 default).toNat < ((Ye.map Gv.c).set ((((Z2 Y0.Me).getD Y1.toNat default).getD 0 default).toNat) [.f .f32 ((Zd Y0 Y1 Ye).X), .f .f32 ((Zd Y0 Y1 Ye).Y), .f .f32 ((Zd Y0 Y1 Ye).Z)]).length from (by simpa using Y1s))<|sK [18,18]<|sC (Xz (c:=(cI .i64)) (l:=(Z2 Y0.Me)) (j:=Y1.toNat) (i:=2) Y1t Y1p)<|sE (Xy (c:=(cI .i64)) (l:=(Z2 Y0.Me)) (j:=Y1.toNat) (k:=2) Y1u)<|sC (Xz (c:=(cI .i64)) (l:=(Z2 Y0.Me)) (j:=Y1.toNat) (i:=2) Y1t Y1p)<|sE (Xy (c:=(cI .i64)) (l:=(Z2 Y0.Me)) (j:=Y1.toNat) (k:=2) Y1u)<|sC (show 0≤(((Z2 Y0.Me).getD Y1.toNat default).getD 2 default)∧Int.toNat (((Z2 Y0.Me).getD Y1.toNat default).getD 2 default) < (((Ye.map Gv.c).set ((((Z2 Y0.Me).getD Y1.toNat default).getD 0 default).toNat) [.f .f32 ((Zd Y0 Y1 Ye).X), .f .f32 ((Zd Y0 Y1 Ye).Y), .f .f32 ((Zd Y0 Y1 Ye).Z)]).set ((((Z2 Y0.Me).getD Y1.toNat default).getD 1 default).toNat) [.f .f32 ((Zg Y0 Y1 Ye).X), .f .f32 ((Zg Y0 Y1 Ye).Y), .f .f32 ((Zg Y0 Y1 Ye).Z)]).length from (by simpa using XC (c:=Gv.c) (l:=((Ye.set ((((Z2 Y0.Me).getD Y1.toNat default).getD 0 default).toNat) (Zd Y0 Y1 Ye)).set ((((Z2 Y0.Me).getD Y1.toNat default).getD 1 default).toNat) (Zg Y0 Y1 Ye))) (i:=(((Z2 Y0.Me).getD Y1.toNat default).getD 2 default)) Y1v Y1y))<|sE (show (((Ye.map Gv.c).set ((((Z2 Y0.Me).getD Y1.toNat default).getD 0 default).toNat) [.f .f32 ((Zd Y0 Y1 Ye).X), .f .f32 ((Zd Y0 Y1 Ye).Y), .f .f32 ((Zd Y0 Y1 Ye).Z)]).set ((((Z2 Y0.Me).getD Y1.toNat default).getD 1 default).toNat) [.f .f32 ((Zg Y0 Y1 Ye).X), .f .f32 ((Zg Y0 Y1 Ye).Y), .f .f32 ((Zg Y0 Y1 Ye).Z)])[(((Z2 Y0.Me).getD Y1.toNat default).getD 2 default).toNat]? = some [.f .f32 ((((Ye.set ((((Z2 Y0.Me).getD Y1.toNat default).getD 0 default).toNat) (Zd Y0 Y1 Ye)).set ((((Z2 Y0.Me).getD Y1.toNat default).getD 1 default).toNat) (Zg Y0 Y1 Ye)).getD ((((Z2 Y0.Me).getD Y1.toNat default).getD 2 default).toNat) default).X), .f .f32 ((((Ye.set ((((Z2 Y0.Me).getD Y1.toNat default).getD 0 default).toNat) (Zd Y0 Y1 Ye)).set ((((Z2 Y0.Me).getD Y1.toNat default).getD 1 default).toNat) (Zg Y0 Y1 Ye)).getD ((((Z2 Y0.Me).getD Y1.toNat default).getD 2 default).toNat) default).Y), .f .f32 ((((Ye.set ((((Z2 Y0.Me).getD Y1.toNat default).getD 0 default).toNat) (Zd Y0 Y1 Ye)).set ((((Z2 Y0.Me).getD Y1.toNat default).getD 1 default).toNat) (Zg Y0 Y1 Ye)).getD ((((Z2 Y0.Me).getD Y1.toNat default).getD 2 default).toNat) default).Z)] from (by have q:=X1q (c:=Gv.c) (l:=((Ye.set ((((Z2 Y0.Me).getD Y1.toNat default).getD 0 default).toNat) (Zd Y0 Y1 Ye)).set ((((Z2 Y0.Me).getD Y1.toNat default).getD 1 default).toNat) (Zg Y0 Y1 Ye))) (k:=(((Z2 Y0.Me).getD Y1.toNat default).getD 2 default).toNat) Y1z;(simp only [List.map_set,List.map_append,List.map_cons,List.map_nil,List.map_replicate] at q;exact q)))<|sF (Z3y (Z15 Y0.Me ((Z2 Y0.Me).getD Y1.toNat default)) (fneg .f32 Y0.Bend))<|sF (Z3w (((Ye.set ((((Z2 Y0.Me).getD Y1.toNat default).getD 0 default).toNat) (Zd Y0 Y1 Ye)).set ((((Z2 Y0.Me).getD Y1.toNat default).getD 1 default).toNat) (Zg Y0 Y1 Ye)).getD ((((Z2 Y0.Me).getD Y1.toNat default).getD 2 default).toNat) default) (Zo (Z15 Y0.Me ((Z2 Y0.Me).getD Y1.toNat default)) (fneg .f32 Y0.Bend)))<|sC (show 0≤(((Z2 Y0.Me).getD Y1.toNat default).getD 2 default)∧Int.toNat (((Z2 Y0.Me).getD Y1.toNat default).getD 2 default) < (((Ye.map Gv.c).set ((((Z2 Y0.Me).getD Y1.toNat default).getD 0 default).toNat) [.f .f32 ((Zd Y0 Y1 Ye).X), .f .f32 ((Zd Y0 Y1 Ye).Y), .f .f32 ((Zd Y0 Y1 Ye).Z)]).set ((((Z2 Y0.Me).getD Y1.toNat default).getD 1 default).toNat) [.f .f32 ((Zg Y0 Y1 Ye).X), .f .f32 ((Zg Y0 Y1 Ye).Y), .f .f32 ((Zg Y0 Y1 Ye).Z)]).length from (by simpa using XC (c:=Gv.c) (l:=((Ye.set ((((Z2 Y0.Me).getD Y1.toNat default).getD 0 default).toNat) (Zd Y0 Y1 Ye)).set ((((Z2 Y0.Me).getD Y1.toNat default).getD 1 default).toNat) (Zg Y0 Y1 Ye))) (i:=(((Z2 Y0.Me).getD Y1.toNat default).getD 2 default)) Y1v Y1y))<|sC (show (((Z2 Y0.Me).getD Y1.toNat default).getD 2 default).toNat < (((Ye.map Gv.c).set ((((Z2 Y0.Me).getD Y1.toNat default).getD 0 default).toNat) [.f .f32 ((Zd Y0 Y1 Ye).X), .f .f32 ((Zd Y0 Y1 Ye).Y), .f .f32 ((Zd Y0 Y1 Ye).Z)]).set ((((Z2 Y0.Me).getD Y1.toNat default).getD 1 default).toNat) [.f .f32 ((Zg Y0 Y1 Ye).X), .f .f32 ((Zg Y0 Y1 Ye).Y), .f .f32 ((Zg Y0 Y1 Ye).Z)]).length from (by simpa using Y1z))<|sK [18,18]<|sC (Xz (c:=(cI .i64)) (l:=(Z2 Y0.Me)) (j:=Y1.toNat) (i:=3) Y1C Y1L)<|sE (Xy (c:=(cI .i64)) (l:=(Z2 Y0.Me)) (j:=Y1.toNat) (k:=3) Y1P)<|sC (Xz (c:=(cI .i64)) (l:=(Z2 Y0.Me)) (j:=Y1.toNat) (i:=3) Y1C Y1L)<|sE (Xy (c:=(cI .i64)) (l:=(Z2 Y0.Me)) (j:=Y1.toNat) (k:=3) Y1P)<|sC (show 0≤(((Z2 Y0.Me).getD Y1.toNat default).getD 3 default)∧Int.toNat (((Z2 Y0.Me).getD Y1.toNat default).getD 3 default) < ((((Ye.map Gv.c).set ((((Z2 Y0.Me).getD Y1.toNat default).getD 0 default).toNat) [.f .f32 ((Zd Y0 Y1 Ye).X), .f .f32 ((Zd Y0 Y1 Ye).Y), .f .f32 ((Zd Y0 Y1 Ye).Z)]).set ((((Z2 Y0.Me).getD Y1.toNat default).getD 1 default).toNat) [.f .f32 ((Zg Y0 Y1 Ye).X), .f .f32 ((Zg Y0 Y1 Ye).Y), .f .f32 ((Zg Y0 Y1 Ye).Z)]).set ((((Z2 Y0.Me).getD Y1.toNat default).getD 2 default).toNat) [.f .f32 ((Zz Y0 Y1 Ye).X), .f .f32 ((Zz Y0 Y1 Ye).Y), .f .f32 ((Zz Y0 Y1 Ye).Z)]).length from (by simpa using XC (c:=Gv.c) (l:=(((Ye.set ((((Z2 Y0.Me).getD Y1.toNat default).getD 0 default).toNat) (Zd Y0 Y1 Ye)).set ((((Z2 Y0.Me).getD Y1.toNat default).getD 1 default).toNat) (Zg Y0 Y1 Ye)).set ((((Z2 Y0.Me).getD Y1.toNat default).getD 2 default).toNat) (Zz Y0 Y1 Ye))) (i:=(((Z2 Y0.Me).getD Y1.toNat default).getD 3 default)) Y1Q Y1R))<|sE (show ((((Ye.map Gv.c).set ((((Z2 Y0.Me).getD Y1.toNat default).getD 0 default).toNat) [.f .f32 ((Zd Y0 Y1 Ye).X), .f .f32 ((Zd Y0 Y1 Ye).Y), .f .f32 ((Zd Y0 Y1 Ye).Z)]).set ((((Z2 Y0.Me).getD Y1.toNat default).getD 1 default).toNat) [.f .f32 ((Zg Y0 Y1 Ye).X), .f .f32 ((Zg Y0 Y1 Ye).Y), .f .f32 ((Zg Y0 Y1 Ye).Z)]).set ((((Z2 Y0.Me).getD Y1.toNat default).getD 2 default).toNat) [.f .f32 ((Zz Y0 Y1 Ye).X), .f .f32 ((Zz Y0 Y1 Ye).Y), .f .f32 ((Zz Y0 Y1 Ye).Z)])[(((Z2 Y0.Me).getD Y1.toNat default).getD 3 default).toNat]? = some [.f .f32 (((((Ye.set ((((Z2 Y0.Me).getD Y1.toNat default).getD 0 default).toNat) (Zd Y0 Y1 Ye)).set ((((Z2 Y0.Me).getD Y1.toNat default).getD 1 default).toNat) (Zg Y0 Y1 Ye)).set ((((Z2 Y0.Me).getD Y1.toNat default).getD 2 default).toNat) (Zz Y0 Y1 Ye)).getD ((((Z2 Y0.Me).getD Y1.toNat default).getD 3 default).toNat) default).X), .f .f32 (((((Ye.set ((((Z2 Y0.Me).getD Y1.toNat default).getD 0 default).toNat) (Zd Y0 Y1 Ye)).set ((((Z2 Y0.Me).getD Y1.toNat default).getD 1 default).toNat) (Zg Y0 Y1 Ye)).set ((((Z2 Y0.Me).getD Y1.toNat default).getD 2 default).toNat) (Zz Y0 Y1 Ye)).getD ((((Z2 Y0.Me).getD Y1.toNat default).getD 3 default).toNat) default).Y), .f .f32 (((((Ye.set ((((Z2 Y0.Me).getD Y1.toNat default).getD 0 default).toNat) (Zd Y0 Y1 Ye)).set ((((Z2 Y0.Me).getD Y1.toNat default).getD 1 default).toNat) (Zg Y0 Y1 Ye)).set ((((Z2 Y0.Me).getD Y1.toNat default).getD 2 default).toNat) (Zz Y0 Y1 Ye)).getD ((((Z2 Y0.Me).getD Y1.toNat default).getD 3 default).toNat) default).Z)] from (by have q:=X1q (c:=Gv.c) (l:=(((Ye.set ((((Z2 Y0.Me).getD Y1.toNat default).getD 0 default).toNat) (Zd Y0 Y1 Ye)).set ((((Z2 Y0.Me).getD Y1.toNat default).getD 1 default).toNat) (Zg Y0 Y1 Ye)).set ((((Z2 Y0.Me).getD Y1.toNat default).getD 2 default).toNat) (Zz Y0 Y1 Ye))) (k:=(((Z2 Y0.Me).getD Y1.toNat default).getD 3 default).toNat) Y1S;(simp only [List.map_set,List.map_append,List.map_cons,List.map_nil,List.map_replicate] at q;exact q)))<|sF (Z3y (Z15 Y0.Me ((Z2 Y0.Me).getD Y1.toNat default)) (fneg .f32 Y0.Bend))<|sF (Z3w ((((Ye.set ((((Z2 Y0.Me).getD Y1.toNat default).getD 0 default).toNat) (Zd Y0 Y1 Ye)).set ((((Z2 Y0.Me).getD Y1.toNat default).getD 1 default).toNat) (Zg Y0 Y1 Ye)).set ((((Z2 Y0.Me).getD Y1.toNat default).getD 2 default).toNat) (Zz Y0 Y1 Ye)).getD ((((Z2 Y0.Me).getD Y1.toNat default).getD 3 default).toNat) default) (Zo (Z15 Y0.Me ((Z2 Y0.Me).getD Y1.toNat default)) (fneg .f32 Y0.Bend)))<|sC (show 0≤(((Z2 Y0.Me).getD Y1.toNat default).getD 3 default)∧Int.toNat (((Z2 Y0.Me).getD Y1.toNat default).getD 3 default) < ((((Ye.map Gv.c).set ((((Z2 Y0.Me).getD Y1.toNat default).getD 0 default).toNat) [.f .f32 ((Zd Y0 Y1 Ye).X), .f .f32 ((Zd Y0 Y1 Ye).Y), .f .f32 ((Zd Y0 Y1 Ye).Z)]).set ((((Z2 Y0.Me).getD Y1.toNat default).getD 1 default).toNat) [.f .f32 ((Zg Y0 Y1 Ye).X), .f .f32 ((Zg Y0 Y1 Ye).Y), .f .f32 ((Zg Y0 Y1 Ye).Z)]).set ((((Z2 Y0.Me).getD Y1.toNat default).getD 2 default).toNat) [.f .f32 ((Zz Y0 Y1 Ye).X), .f .f32 ((Zz Y0 Y1 Ye).Y), .f .f32 ((Zz Y0 Y1 Ye).Z)]).length from (by simpa using XC (c:=Gv.c) (l:=(((Ye.set ((((Z2 Y0.Me).getD Y1.toNat default).getD 0 default).toNat) (Zd Y0 Y1 Ye)).set ((((Z2 Y0.Me).getD Y1.toNat default).getD 1 default).toNat) (Zg Y0 Y1 Ye)).set ((((Z2 Y0.Me).getD Y1.toNat default).getD 2 default).toNat) (Zz Y0 Y1 Ye))) (i:=(((Z2 Y0.Me).getD Y1.toNat default).getD 3 default)) Y1Q Y1R))<|sC (show (((Z2 Y0.Me).getD Y1.toNat default).getD 3 default).toNat < ((((Ye.map Gv.c).set ((((Z2 Y0.Me).getD Y1.toNat default).getD 0 default).toNat) [.f .f32 ((Zd Y0 Y1 Ye).X), .f .f32 ((Zd Y0 Y1 Ye).Y), .f .f32 ((Zd Y0 Y1 Ye).Z)]).set ((((Z2 Y0.Me).getD Y1.toNat default).getD 1 default).toNat) [.f .f32 ((Zg Y0 Y1 Ye).X), .f .f32 ((Zg Y0 Y1 Ye).Y), .f .f32 ((Zg Y0 Y1 Ye).Z)]).set ((((Z2 Y0.Me).getD Y1.toNat default).getD 2 default).toNat) [.f .f32 ((Zz Y0 Y1 Ye).X), .f .f32 ((Zz Y0 Y1 Ye).Y), .f .f32 ((Zz Y0 Y1 Ye).Z)]).length from (by simpa using Y1S))<|sI (Y1 + 1) Y1U Y1V<|sN) (by kernel_rfl) (by simp [Zaf,List.map_set,Gv.c]) (ih (Y1 + 1) ((((Ye.set ((((Z2 Y0.Me).getD Y1.toNat default).getD 0 default).toNat) (Zd Y0 Y1 Ye)).set ((((Z2 Y0.Me).getD Y1.toNat default).getD 1 default).toNat) (Zg Y0 Y1 Ye)).set ((((Z2 Y0.Me).getD Y1.toNat default).getD 2 default).toNat) (Zz Y0 Y1 Ye)).set ((((Z2 Y0.Me).getD Y1.toNat default).getD 3 default).toNat) (Z34 Y0 Y1 Ye)) (show 0≤(Y1 + 1) from (by omega)) (show ((((Ye.set ((((Z2 Y0.Me).getD Y1.toNat default).getD 0 default).toNat) (Zd Y0 Y1 Ye)).set ((((Z2 Y0.Me).getD Y1.toNat default).getD 1 default).toNat) (Zg Y0 Y1 Ye)).set ((((Z2 Y0.Me).getD Y1.toNat default).getD 2 default).toNat) (Zz Y0 Y1 Ye)).set ((((Z2 Y0.Me).getD Y1.toNat default).getD 3 default).toNat) (Z34 Y0 Y1 Ye)).length=Y0.Me.Pq.length from (by (have q:=Z45 _ hp5.e;(have q:=Okh.at (hin4 hp5.e (by assumption) Yv);(simp only [List.length_set];omega))))) (by omega))
  | false =>
   have YI:=odf Yv
   have e:Z1f Y0 (k + 1) Y1 Ye=Ye:=by simp only [Z1f,Yv,cond_false]
   rw [e]
   exact outR (e:=(.exit 6)) E0Ok Z7 [] Zd2 [0,1] (sB Yv<|sN) (by kernel_rfl) (by intro h;cases h)
theorem Zd3 (Y0:Gb):∀ (k:Nat) (Y1:Int) (Ye:(List Gv)) (hk:(((Z2 Y0.Me).length:Int) - Y1).toNat < k),(Z1f Y0 k Y1 Ye).length=Ye.length:=by
  intro k
  induction k with
  | zero=>intro Y1 Ye hk;exact absurd hk (Nat.not_lt_zero _)
  | succ k ih =>
    intro Y1 Ye hk
    cases Yv:(decide (Y1 < ((Z2 Y0.Me).length:Int))) with
    | true =>
      have e:Z1f Y0 (k + 1) Y1 Ye=(Z1f Y0 k (Y1 + 1) ((((Ye.set ((((Z2 Y0.Me).getD Y1.toNat default).getD 0 default).toNat) (Zd Y0 Y1 Ye)).set ((((Z2 Y0.Me).getD Y1.toNat default).getD 1 default).toNat) (Zg Y0 Y1 Ye)).set ((((Z2 Y0.Me).getD Y1.toNat default).getD 2 default).toNat) (Zz Y0 Y1 Ye)).set ((((Z2 Y0.Me).getD Y1.toNat default).getD 3 default).toNat) (Z34 Y0 Y1 Ye))):=by simp only [Z1f,Yv,cond_true]
      rw [e,ih (Y1 + 1) ((((Ye.set ((((Z2 Y0.Me).getD Y1.toNat default).getD 0 default).toNat) (Zd Y0 Y1 Ye)).set ((((Z2 Y0.Me).getD Y1.toNat default).getD 1 default).toNat) (Zg Y0 Y1 Ye)).set ((((Z2 Y0.Me).getD Y1.toNat default).getD 2 default).toNat) (Zz Y0 Y1 Ye)).set ((((Z2 Y0.Me).getD Y1.toNat default).getD 3 default).toNat) (Z34 Y0 Y1 Ye)) (by simp_all<;>omega)];simp
    | false =>
      have e:Z1f Y0 (k + 1) Y1 Ye=Ye:=by simp only [Z1f,Yv,cond_false]
      first | (rw [e];done) | (rw [e];rfl)
def Z3t (Y0:Gb):(List Gv):=(Z1f Y0 ((((Z2 Y0.Me).length:Int) - 0).toNat + 1) 0 (Z3s Y0))
@[simp] theorem ZgZ (Y0:Gb):(Z3t Y0).length=((Z3s Y0):(List Gv)).length:=Zd3 Y0 ((((Z2 Y0.Me).length:Int) - 0).toNat + 1) 0 (Z3s Y0) (by exact Nat.lt_succ_self _)
def Z1g (Y0:Gb):Nat→Int→(List Gv)→(List Gv)
  | 0,_,_=>default
  | k + 1,Y1,Ye=>(cond (decide (Y1 < (Y0.Me.Pq.length:Int)))
    (Z1g Y0 k (Y1 + 1) (Ye.set Y1.toNat (Zv (Ye.getD Y1.toNat default) (Zo Y0.Fall (Y0.We.getD Y1.toNat default)))))
    Ye)
def Z7c (Y0:Gb) (r:(List Gv)):Ex × St:=((.exit 8),⟨.ref (Gb.c Y0) 0 :: .any :: .nils :: .ref (Gb.c Y0) 0 :: .own 0 :: an 10 (.own 1 :: an 4 (.ref (Gb.c Y0) 0 :: .ref (Gb.c Y0) 0 :: .ref (Gb.c Y0) 0 :: .ref (Gb.c Y0) 0 :: .ref (Gb.c Y0) 0 :: .ref (Gb.c Y0) 0 :: .sl (Y0.Me.Pq.map Gv.c) :: .i .i64 (Y0.Me.Pq.length:Int) :: .own 0 :: .ref (Gb.c Y0) 0 :: .ref (Gb.c Y0) 0 :: .ref (Gb.c Y0) 2 :: .sl (Y0.Sp.map Gs.c) :: an 52 (.ref (Gb.c Y0) 0 :: .ref (Gb.c Y0) 0 :: .ref (Gb.c Y0) 1 :: .sl (Y0.Me.Tr.map (cL (cI .i64))) :: an 72 (.ref (Gb.c Y0) 0 :: .own 1 :: .own 1 :: an 86 (.ref (Gb.c Y0) 0 :: .ref (Gb.c Y0) 0 :: .ref (Gb.c Y0) 0 :: .sl (Y0.Me.Pq.map Gv.c) :: an 26 []))))),[.vec 40 3 (r.map Gv.c) false, .nest 49 ((Z2 Y0.Me).map fun l=>l.map (cI .i64)) false]⟩)
def Zag (Y0:Gb) (Y1:Int) (Ye:(List Gv)):St:=⟨.ref (Gb.c Y0) 0 :: .any :: .nils :: .ref (Gb.c Y0) 0 :: .own 0 :: an 10 (.own 1 :: an 4 (.ref (Gb.c Y0) 0 :: .ref (Gb.c Y0) 0 :: .ref (Gb.c Y0) 0 :: .ref (Gb.c Y0) 0 :: .ref (Gb.c Y0) 0 :: .ref (Gb.c Y0) 0 :: .sl (Y0.Me.Pq.map Gv.c) :: .i .i64 (Y0.Me.Pq.length:Int) :: .own 0 :: .ref (Gb.c Y0) 0 :: .ref (Gb.c Y0) 0 :: .ref (Gb.c Y0) 2 :: .sl (Y0.Sp.map Gs.c) :: an 52 (.ref (Gb.c Y0) 0 :: .ref (Gb.c Y0) 0 :: .ref (Gb.c Y0) 1 :: .sl (Y0.Me.Tr.map (cL (cI .i64))) :: an 72 (.ref (Gb.c Y0) 0 :: .own 1 :: .own 1 :: an 86 (.ref (Gb.c Y0) 0 :: .ref (Gb.c Y0) 0 :: .ref (Gb.c Y0) 0 :: .sl (Y0.Me.Pq.map Gv.c) :: .i .i64 (Y0.Me.Pq.length:Int) :: .i .i64 Y1 :: an 24 []))))),[.vec 40 3 (Ye.map Gv.c) false, .nest 49 ((Z2 Y0.Me).map fun l=>l.map (cI .i64)) false]⟩
def Z8Y:List Bool:=(mR false [0,1,1,3,10,1,4,13,52,4,72,3,86,6,24])
def Zd4:List Bool:=(mR false [0,1,1,3,10,1,4,13,52,4,72,3,86,4,26])
theorem Ze3 (Y0:Gb) (hp0:Y0.Me.Pq.length≤1073741824) (hp1:Y0.Me.Tr.length≤1073741824) (hp2:∀ t∈Y0.Me.Tr,t.length≤1073741824) (hp3:Y0.Sp.length≤1073741824) (hp4:Y0.We.length≤1073741824) (hp5:OkBd Y0):∀ (k:Nat) (Y1:Int) (Ye:(List Gv)) (Z8Z:0≤Y1) (Z90:Ye.length=Y0.Me.Pq.length) (hk:((Y0.Me.Pq.length:Int) - Y1).toNat < k),Lp prog 0 (sub (X0 f51) [1,1,1,1,1,1,1,0,1,0,0]) (Zag Y0 Y1 Ye) (Z7c Y0 (Z1g Y0 k Y1 Ye)).1 (Z7c Y0 (Z1g Y0 k Y1 Ye)).2:=by
 intro k
 induction k with
 | zero=>intro Y1 Ye Z8Z Z90 hk;exact absurd hk (Nat.not_lt_zero _)
 | succ k ih =>
  intro Y1 Ye Z8Z Z90 hk
  cases Yv:(decide (Y1 < (Y0.Me.Pq.length:Int))) with
  | true =>
   have YI:=odt Yv
   have YT:(0:Int)≤Y1:=(by assumption)
   have YV:Y1 < (Ye.length:Int):=(by omega)
   have YX:Y1.toNat < Ye.length:=(by omega)
   have YZ:Y1 < (Y0.We.length:Int):=(by have q:=hp5.w;omega)
   have y_4:(-9223372036854775808:Int)≤(Y1 + 1):=(by omega)
   have y_5:(Y1 + 1)≤(9223372036854775807:Int):=(by omega)
   have e:Z1g Y0 (k + 1) Y1 Ye=(Z1g Y0 k (Y1 + 1) (Ye.set Y1.toNat (Zv (Ye.getD Y1.toNat default) (Zo Y0.Fall (Y0.We.getD Y1.toNat default))))):=by simp only [Z1g,Yv,cond_true]
   rw [e]
   exact X9 E0Ok Z7 [] Z8Y [0,1] (⟨.ref (Gb.c Y0) 0 :: .any :: .nils :: .ref (Gb.c Y0) 0 :: .own 0 :: an 10 (.own 1 :: an 4 (.ref (Gb.c Y0) 0 :: .ref (Gb.c Y0) 0 :: .ref (Gb.c Y0) 0 :: .ref (Gb.c Y0) 0 :: .ref (Gb.c Y0) 0 :: .ref (Gb.c Y0) 0 :: .sl (Y0.Me.Pq.map Gv.c) :: .i .i64 (Y0.Me.Pq.length:Int) :: .own 0 :: .ref (Gb.c Y0) 0 :: .ref (Gb.c Y0) 0 :: .ref (Gb.c Y0) 2 :: .sl (Y0.Sp.map Gs.c) :: an 52 (.ref (Gb.c Y0) 0 :: .ref (Gb.c Y0) 0 :: .ref (Gb.c Y0) 1 :: .sl (Y0.Me.Tr.map (cL (cI .i64))) :: an 72 (.ref (Gb.c Y0) 0 :: .own 1 :: .own 1 :: an 86 (.ref (Gb.c Y0) 0 :: .ref (Gb.c Y0) 0 :: .ref (Gb.c Y0) 0 :: .sl (Y0.Me.Pq.map Gv.c) :: .i .i64 (Y0.Me.Pq.length:Int) :: .i .i64 (Y1 + 1) :: an 24 []))))),[.vec 40 3 ((Ye.map Gv.c).set Y1.toNat [.f .f32 ((Zv (Ye.getD Y1.toNat default) (Zo Y0.Fall (Y0.We.getD Y1.toNat default))).X), .f .f32 ((Zv (Ye.getD Y1.toNat default) (Zo Y0.Fall (Y0.We.getD Y1.toNat default))).Y), .f .f32 ((Zv (Ye.getD Y1.toNat default) (Zo Y0.Fall (Y0.We.getD Y1.toNat default))).Z)]) false, .nest 49 ((Z2 Y0.Me).map fun l=>l.map (cI .i64)) false]⟩) (sB Yv<|sK [19,19]<|sX Gv.c Ye Y1 YT YV<|sV Gv.c Ye Y1.toNat YX<|sG (cF .f32) Y0.We Y1 YT YZ<|sF (Z3y Y0.Fall (Y0.We.getD Y1.toNat default))<|sF (Z3w (Ye.getD Y1.toNat default) (Zo Y0.Fall (Y0.We.getD Y1.toNat default)))<|sX Gv.c Ye Y1 YT YV<|sC (Xl (c:=Gv.c) (l:=Ye) YX)<|sI (Y1 + 1) y_4 y_5<|sN) (by kernel_rfl) (by simp [Zag,List.map_set,Gv.c]) (ih (Y1 + 1) (Ye.set Y1.toNat (Zv (Ye.getD Y1.toNat default) (Zo Y0.Fall (Y0.We.getD Y1.toNat default)))) (show 0≤(Y1 + 1) from (by omega)) (show (Ye.set Y1.toNat (Zv (Ye.getD Y1.toNat default) (Zo Y0.Fall (Y0.We.getD Y1.toNat default)))).length=Y0.Me.Pq.length from (by simp_all<;>omega)) (by omega))
  | false =>
   have YI:=odf Yv
   have e:Z1g Y0 (k + 1) Y1 Ye=Ye:=by simp only [Z1g,Yv,cond_false]
   rw [e]
   exact outR (e:=(.exit 8)) E0Ok Z7 [] Zd4 [0,1] (sB Yv<|sN) (by kernel_rfl) (by intro h;cases h)
theorem Zd5 (Y0:Gb):∀ (k:Nat) (Y1:Int) (Ye:(List Gv)) (hk:((Y0.Me.Pq.length:Int) - Y1).toNat < k),(Z1g Y0 k Y1 Ye).length=Ye.length:=by
  intro k
  induction k with
  | zero=>intro Y1 Ye hk;exact absurd hk (Nat.not_lt_zero _)
  | succ k ih =>
    intro Y1 Ye hk
    cases Yv:(decide (Y1 < (Y0.Me.Pq.length:Int))) with
    | true =>
      have e:Z1g Y0 (k + 1) Y1 Ye=(Z1g Y0 k (Y1 + 1) (Ye.set Y1.toNat (Zv (Ye.getD Y1.toNat default) (Zo Y0.Fall (Y0.We.getD Y1.toNat default))))):=by simp only [Z1g,Yv,cond_true]
      rw [e,ih (Y1 + 1) (Ye.set Y1.toNat (Zv (Ye.getD Y1.toNat default) (Zo Y0.Fall (Y0.We.getD Y1.toNat default)))) (by simp_all<;>omega)];simp
    | false =>
      have e:Z1g Y0 (k + 1) Y1 Ye=Ye:=by simp only [Z1g,Yv,cond_false]
      first | (rw [e];done) | (rw [e];rfl)
def Z4G (Y0:Gb):(List Gv):=(Z1g Y0 (((Y0.Me.Pq.length:Int) - 0).toNat + 1) 0 (Z3t Y0))
@[simp] theorem Zh0 (Y0:Gb):(Z4G Y0).length=((Z3t Y0):(List Gv)).length:=Zd5 Y0 (((Y0.Me.Pq.length:Int) - 0).toNat + 1) 0 (Z3t Y0) (by exact Nat.lt_succ_self _)
def Z3m (Y0:Gb):(List Gv):=(Z4G Y0)
@[simp] theorem ZhK (Y0:Gb):(Z3m Y0).length=Y0.Me.Pq.length:=by
  first | (simp [Z3m];done)
theorem ZfS (Y0:Gb) (hp0:Y0.Me.Pq.length≤1073741824) (hp1:Y0.Me.Tr.length≤1073741824) (hp2:∀ t∈Y0.Me.Tr,t.length≤1073741824) (hp3:Y0.Sp.length≤1073741824) (hp4:Y0.We.length≤1073741824) (hp5:OkBd Y0)  : Fn prog 51 [.ref (Gb.c Y0) 0] (.own 0) [.vec 40 3 ((Z3m Y0).map Gv.c) false]:=by
 have y0:(0:Int)≤(Y0.Me.Pq.length:Int):=(by omega)
 have y1:((Y0.Me.Pq.length:Int):Int)≤2147483648:=(by omega)
 have y2:OkE Y0.Me.Pq.length Y0.Me.Tr:=(by exact hp5.e)
 refine fnS E0Ok Z7 (c:=X0 f51) [] (.own 0) [.vec 40 3 ((Z4G Y0).map Gv.c) false] func51 (sZ Gv.c Y0.Me.Pq<|sC (show (Y0.Me.Pq.length:Int)=(Y0.Me.Pq.length:Int) from rfl)<|sC y0<|sC y1<|sZ Gs.c Y0.Sp<|sL (mR false [0,1,1,3,15,15,245]) 1 (Xk (st2:=⟨.ref (Gb.c Y0) 0 :: .any :: .nils :: .ref (Gb.c Y0) 0 :: .own 0 :: an 15 (.ref (Gb.c Y0) 0 :: .ref (Gb.c Y0) 0 :: .ref (Gb.c Y0) 0 :: .ref (Gb.c Y0) 0 :: .ref (Gb.c Y0) 0 :: .ref (Gb.c Y0) 0 :: .sl (Y0.Me.Pq.map Gv.c) :: .i .i64 (Y0.Me.Pq.length:Int) :: .own 0 :: .ref (Gb.c Y0) 0 :: .ref (Gb.c Y0) 0 :: .ref (Gb.c Y0) 2 :: .sl (Y0.Sp.map Gs.c) :: .i .i64 (Y0.Sp.length:Int) :: .i .i64 0 :: an 245 []),[.vec 40 3 (List.replicate (Int.toNat (Y0.Me.Pq.length:Int)) [.f .f32 0, .f .f32 0, .f .f32 0]) false]⟩) (X1 (Z76 Y0) (x:=(Z3r Y0)) (ZdY Y0 hp0 hp1 hp2 hp3 hp4 hp5 (((Y0.Sp.length:Int) - 0).toNat + 1) 0 (List.replicate (Y0.Me.Pq.length:Int).toNat (⟨0,0,0⟩:Gv)) (show 0≤0 from (by omega)) (show (List.replicate (Y0.Me.Pq.length:Int).toNat (⟨0,0,0⟩:Gv)).length=Y0.Me.Pq.length from (by simp;done)) (Nat.lt_succ_self _)) rfl) (by simp [Z77,Gv.c]))<|sZ (cL (cI .i64)) Y0.Me.Tr<|sL Z8U 1 (X1 (Z7a Y0) (x:=(Z3s Y0)) (Ze1 Y0 hp0 hp1 hp2 hp3 hp4 hp5 (((Y0.Me.Tr.length:Int) - 0).toNat + 1) 0 (Z3r Y0) (show 0≤0 from (by omega)) (show (Z3r Y0).length=Y0.Me.Pq.length from (by simp;done)) (Nat.lt_succ_self _)) rfl)<|sF (Fn.sub (args:=[.ref (Gb.c Y0) 0]) (r := .own 0) (new:=[.nest 49 ((Z2 Y0.Me).map fun l=>l.map (cI .i64)) false]) [some 2] (Zc8 Y0.Me hp0 hp1 hp2 y2))<|sM (X26 (l:=(Z2 Y0.Me)) (f:=fun l=>l.map (cI .i64)))<|sL Z8V 2 (X1 (Z7b Y0) (x:=(Z3t Y0)) (Ze2 Y0 hp0 hp1 hp2 hp3 hp4 hp5 ((((Z2 Y0.Me).length:Int) - 0).toNat + 1) 0 (Z3s Y0) (show 0≤0 from (by omega)) (show (Z3s Y0).length=Y0.Me.Pq.length from (by simp;done)) (Nat.lt_succ_self _)) rfl)<|sZ Gv.c Y0.Me.Pq<|sL Z8Y 2 (X1 (Z7c Y0) (x:=(Z4G Y0)) (Ze3 Y0 hp0 hp1 hp2 hp3 hp4 hp5 (((Y0.Me.Pq.length:Int) - 0).toNat + 1) 0 (Z3t Y0) (show 0≤0 from (by omega)) (show (Z3t Y0).length=Y0.Me.Pq.length from (by simp;done)) (Nat.lt_succ_self _)) rfl)<|sK [0] sN) rfl (by kernel_rfl) (by kernel_rfl) rfl ?_ ?_
 · rfl
 · simp [Z3m]
def Z1R (Yd:Gb) (Y3:(List Int)):Nat→Int→(List Gv)→(List Gv)
  | 0,_,_=>default
  | k + 1,Y1,Ye=>(cond (decide (Y1 < (Y3.length:Int)))
    (Z1R Yd Y3 k (Y1 + 1) (Ye.set ((Y3.getD Y1.toNat default).toNat) (⟨0,0,0⟩:Gv)))
    Ye)
def Z87 (Yd:Gb) (Y3:(List Int)) (r:(List Gv)):Ex × St:=((.exit 0),⟨.ref (Gb.c Yd) 0 :: .sl (Y3.map (cI .i64)) :: .any :: .any :: .nils :: .own 0 :: .any :: .ref (Gb.c Yd) 0 :: .own 0 :: .sl (Y3.map (cI .i64)) :: an 13 [],[.vec 40 3 (r.map Gv.c) false]⟩)
def Zby (Yd:Gb) (Y3:(List Int)) (Y1:Int) (Ye:(List Gv)):St:=⟨.ref (Gb.c Yd) 0 :: .sl (Y3.map (cI .i64)) :: .any :: .any :: .nils :: .own 0 :: .any :: .ref (Gb.c Yd) 0 :: .own 0 :: .sl (Y3.map (cI .i64)) :: .i .i64 (Y3.length:Int) :: .i .i64 Y1 :: an 11 [],[.vec 40 3 (Ye.map Gv.c) false]⟩
theorem Zfi (Yd:Gb) (Y3:(List Int)) (hp0:Yd.Me.Pq.length≤1073741824) (hp1:Yd.Me.Tr.length≤1073741824) (hp2:∀ t∈Yd.Me.Tr,t.length≤1073741824) (hp3:Yd.Sp.length≤1073741824) (hp4:Yd.We.length≤1073741824) (hp5:Y3.length≤1073741824) (hp6:OkBd Yd) (hp7:OkIx Yd.Me.Pq.length (fun x=>x) Y3):∀ (k:Nat) (Y1:Int) (Ye:(List Gv)) (Zah:0≤Y1) (Zai:Ye.length=Yd.Me.Pq.length) (hk:((Y3.length:Int) - Y1).toNat < k),Lp prog 0 (sub (X0 f65) [1,1,0,1,0,0]) (Zby Yd Y3 Y1 Ye) (Z87 Yd Y3 (Z1R Yd Y3 k Y1 Ye)).1 (Z87 Yd Y3 (Z1R Yd Y3 k Y1 Ye)).2:=by
 intro k
 induction k with
 | zero=>intro Y1 Ye Zah Zai hk;exact absurd hk (Nat.not_lt_zero _)
 | succ k ih =>
  intro Y1 Ye Zah Zai hk
  cases Yv:(decide (Y1 < (Y3.length:Int))) with
  | true =>
   have YI:=odt Yv
   have YT:(0:Int)≤Y1:=(by assumption)
   have YV:Y1 < (Y3.length:Int):=(by assumption)
   have YX:(0:Int)≤(Y3.getD Y1.toNat default):=(by have q:=OkIx.at hp7 (by assumption) YI;omega)
   have YZ:(Y3.getD Y1.toNat default) < (Ye.length:Int):=(by have q:=OkIx.at hp7 (by assumption) YI;omega)
   have y_4:(Y3.getD Y1.toNat default).toNat < Ye.length:=(by omega)
   have y_5:(-9223372036854775808:Int)≤(Y1 + 1):=(by omega)
   have y_6:(Y1 + 1)≤(9223372036854775807:Int):=(by omega)
   have e:Z1R Yd Y3 (k + 1) Y1 Ye=(Z1R Yd Y3 k (Y1 + 1) (Ye.set ((Y3.getD Y1.toNat default).toNat) (⟨0,0,0⟩:Gv))):=by simp only [Z1R,Yv,cond_true]
   rw [e]
   exact X9 E0Ok Z7 [] (mR false [0,2,2,2,1,5,11]) [0] (⟨.ref (Gb.c Yd) 0 :: .sl (Y3.map (cI .i64)) :: .any :: .any :: .nils :: .own 0 :: .any :: .ref (Gb.c Yd) 0 :: .own 0 :: .sl (Y3.map (cI .i64)) :: .i .i64 (Y3.length:Int) :: .i .i64 (Y1 + 1) :: an 11 [],[.vec 40 3 ((Ye.map Gv.c).set ((Y3.getD Y1.toNat default).toNat) [.f .f32 0, .f .f32 0, .f .f32 0]) false]⟩) (sB Yv<|sG (cI .i64) Y3 Y1 YT YV<|sX Gv.c Ye (Y3.getD Y1.toNat default) YX YZ<|sC (Xl (c:=Gv.c) (l:=Ye) y_4)<|sI (Y1 + 1) y_5 y_6<|sN) (by kernel_rfl) (by simp [Zby,List.map_set,Gv.c]) (ih (Y1 + 1) (Ye.set ((Y3.getD Y1.toNat default).toNat) (⟨0,0,0⟩:Gv)) (show 0≤(Y1 + 1) from (by omega)) (show (Ye.set ((Y3.getD Y1.toNat default).toNat) (⟨0,0,0⟩:Gv)).length=Yd.Me.Pq.length from (by have q:=OkIx.at hp7 (by assumption) YI;(simp only [List.length_set];omega))) (by omega))
  | false =>
   have YI:=odf Yv
   have e:Z1R Yd Y3 (k + 1) Y1 Ye=Ye:=by simp only [Z1R,Yv,cond_false]
   rw [e]
   exact outR (e:=(.exit 0)) E0Ok Z7 [] (mR false [0,2,2,2,1,3,13]) [0] (sB Yv<|sN) (by kernel_rfl) (by intro h;cases h)
theorem Ze4 (Yd:Gb) (Y3:(List Int)):∀ (k:Nat) (Y1:Int) (Ye:(List Gv)) (hk:((Y3.length:Int) - Y1).toNat < k),(Z1R Yd Y3 k Y1 Ye).length=Ye.length:=by
  intro k
  induction k with
  | zero=>intro Y1 Ye hk;exact absurd hk (Nat.not_lt_zero _)
  | succ k ih =>
    intro Y1 Ye hk
    cases Yv:(decide (Y1 < (Y3.length:Int))) with
    | true =>
      have e:Z1R Yd Y3 (k + 1) Y1 Ye=(Z1R Yd Y3 k (Y1 + 1) (Ye.set ((Y3.getD Y1.toNat default).toNat) (⟨0,0,0⟩:Gv))):=by simp only [Z1R,Yv,cond_true]
      rw [e,ih (Y1 + 1) (Ye.set ((Y3.getD Y1.toNat default).toNat) (⟨0,0,0⟩:Gv)) (by simp_all<;>omega)];simp
    | false =>
      have e:Z1R Yd Y3 (k + 1) Y1 Ye=Ye:=by simp only [Z1R,Yv,cond_false]
      first | (rw [e];done) | (rw [e];rfl)
def Z4Z (Yd:Gb) (Y3:(List Int)):(List Gv):=(Z1R Yd Y3 (((Y3.length:Int) - 0).toNat + 1) 0 (Z3m Yd))
@[simp] theorem Zhs (Yd:Gb) (Y3:(List Int)):(Z4Z Yd Y3).length=((Z3m Yd):(List Gv)).length:=Ze4 Yd Y3 (((Y3.length:Int) - 0).toNat + 1) 0 (Z3m Yd) (by exact Nat.lt_succ_self _)
def Z1 (Yd:Gb) (Y3:(List Int)):(List Gv):=(Z4Z Yd Y3)
@[simp] theorem Zm (Yd:Gb) (Y3:(List Int)):(Z1 Yd Y3).length=Yd.Me.Pq.length:=by
  first | (simp [Z1];done)
theorem Z82 (Yd:Gb) (Y3:(List Int)) (hp0:Yd.Me.Pq.length≤1073741824) (hp1:Yd.Me.Tr.length≤1073741824) (hp2:∀ t∈Yd.Me.Tr,t.length≤1073741824) (hp3:Yd.Sp.length≤1073741824) (hp4:Yd.We.length≤1073741824) (hp5:Y3.length≤1073741824) (hp6:OkBd Yd) (hp7:OkIx Yd.Me.Pq.length (fun x=>x) Y3)  : Fn prog 65 [.ref (Gb.c Yd) 0, .sl (Y3.map (cI .i64))] (.own 0) [.vec 40 3 ((Z1 Yd Y3).map Gv.c) false]:=by
 refine fnS E0Ok Z7 (c:=X0 f65) [] (.own 0) [.vec 40 3 ((Z4Z Yd Y3).map Gv.c) false] func65 (sF (ZfS Yd hp0 hp1 hp2 hp3 hp4 hp6)<|sZ (cI .i64) Y3<|sL (mR false [0,2,2,2,1,5,11]) 1 (X1 (Z87 Yd Y3) (x:=(Z4Z Yd Y3)) (Zfi Yd Y3 hp0 hp1 hp2 hp3 hp4 hp5 hp6 hp7 (((Y3.length:Int) - 0).toNat + 1) 0 (Z3m Yd) (show 0≤0 from (by omega)) (show (Z3m Yd).length=Yd.Me.Pq.length from (by simp;done)) (Nat.lt_succ_self _)) rfl)<|sK [0] sN) rfl (by kernel_rfl) (by kernel_rfl) rfl ?_ ?_
 · rfl
 · simp [Z1]
def Z7x (Y0:Gb) (Y1:Int):Gv:=(Z29 (Y0.Me.Pq.getD ((Y0.Sp.getD Y1.toNat default).B).toNat default) (Y0.Me.Pq.getD ((Y0.Sp.getD Y1.toNat default).A).toNat default))
def Zew (Y0:Gb) (Y1:Int):Nat:=(fop .mul .f32 (fop .sub .f32 (Z2w (Z7x Y0 Y1)) ((Y0.Sp.getD Y1.toNat default).Long)) (fop .sub .f32 (Z2w (Z7x Y0 Y1)) ((Y0.Sp.getD Y1.toNat default).Long)))
def Z4c (Y0:Gb) (Y1:Int) (Ye:(List Nat)):Nat:=(fop .add .f32 (Ye.getD 0 default) (fop .mul .f32 (fop .mul .f32 1056964608 ((Y0.Sp.getD Y1.toNat default).Stiff)) (Zew Y0 Y1)))
def Z1G (Y0:Gb):Nat→Int→(List Nat)→(List Nat)
  | 0,_,_=>default
  | k + 1,Y1,Ye=>(cond (decide (Y1 < (Y0.Sp.length:Int)))
    (Z1G Y0 k (Y1 + 1) (Ye.set 0 (Z4c Y0 Y1 Ye)))
    Ye)
def Z7y (Y0:Gb) (r:(List Nat)):Ex × St:=((.exit 0),⟨.ref (Gb.c Y0) 0 :: .any :: .nils :: .own 0 :: .ref (Gb.c Y0) 0 :: an 8 (.own 0 :: .ref (Gb.c Y0) 0 :: .ref (Gb.c Y0) 0 :: .ref (Gb.c Y0) 0 :: .ref (Gb.c Y0) 0 :: .ref (Gb.c Y0) 0 :: .ref (Gb.c Y0) 2 :: .sl (Y0.Sp.map Gs.c) :: an 139 []),[.vec 27 1 (r.map (cF .f32)) false]⟩)
def Z7z (Y0:Gb) (Y1:Int) (Ye:(List Nat)):St:=⟨.ref (Gb.c Y0) 0 :: .any :: .nils :: .own 0 :: .ref (Gb.c Y0) 0 :: an 8 (.own 0 :: .ref (Gb.c Y0) 0 :: .ref (Gb.c Y0) 0 :: .ref (Gb.c Y0) 0 :: .ref (Gb.c Y0) 0 :: .ref (Gb.c Y0) 0 :: .ref (Gb.c Y0) 2 :: .sl (Y0.Sp.map Gs.c) :: .i .i64 (Y0.Sp.length:Int) :: .i .i64 Y1 :: an 137 []),[.vec 27 1 (Ye.map (cF .f32)) false]⟩
theorem Zex (Y0:Gb) (hp0:Y0.Me.Pq.length≤1073741824) (hp1:Y0.Me.Tr.length≤1073741824) (hp2:∀ t∈Y0.Me.Tr,t.length≤1073741824) (hp3:Y0.Sp.length≤1073741824) (hp4:Y0.We.length≤1073741824) (hp5:OkBd Y0):∀ (k:Nat) (Y1:Int) (Ye:(List Nat)) (Z9n:0≤Y1) (Z9o:Ye.length=4) (hk:((Y0.Sp.length:Int) - Y1).toNat < k),Lp prog 0 (sub (X0 f133) [1,1,1,0,1,0,0]) (Z7z Y0 Y1 Ye) (Z7y Y0 (Z1G Y0 k Y1 Ye)).1 (Z7y Y0 (Z1G Y0 k Y1 Ye)).2:=by
 intro k
 induction k with
 | zero=>intro Y1 Ye Z9n Z9o hk;exact absurd hk (Nat.not_lt_zero _)
 | succ k ih =>
  intro Y1 Ye Z9n Z9o hk
  cases Yv:(decide (Y1 < (Y0.Sp.length:Int))) with
  | true =>
   have YI:=odt Yv
   have YT:(0:Int)≤Y1:=(by assumption)
   have YV:Y1 < (Y0.Sp.length:Int):=(by assumption)
   have YX:(0:Int)≤((Y0.Sp.getD Y1.toNat default).B):=(by (have q:=hp5.w;(have q:=Z3O hp5 (by assumption) Yv;omega)))
   have YZ:((Y0.Sp.getD Y1.toNat default).B) < (Y0.Me.Pq.length:Int):=(by (have q:=hp5.w;(have q:=Z3O hp5 (by assumption) Yv;omega)))
   have y_4:(0:Int)≤((Y0.Sp.getD Y1.toNat default).A):=(by (have q:=hp5.w;(have q:=Z3O hp5 (by assumption) Yv;omega)))
   have y_5:((Y0.Sp.getD Y1.toNat default).A) < (Y0.Me.Pq.length:Int):=(by (have q:=hp5.w;(have q:=Z3O hp5 (by assumption) Yv;omega)))
   have y_6:(0:Int)≤0:=(by omega)
   have y_7:0 < (Ye.length:Int):=(by omega)
   have y_8:0 < Ye.length:=(by omega)
   have y_9:(-9223372036854775808:Int)≤(Y1 + 1):=(by omega)
   have Y1b:(Y1 + 1)≤(9223372036854775807:Int):=(by omega)
   have e:Z1G Y0 (k + 1) Y1 Ye=(Z1G Y0 k (Y1 + 1) (Ye.set 0 (Z4c Y0 Y1 Ye))):=by simp only [Z1G,Yv,cond_true]
   rw [e]
   exact X9 E0Ok Z7 [] (mR false [0,1,1,3,8,10,137]) [0] (⟨.ref (Gb.c Y0) 0 :: .any :: .nils :: .own 0 :: .ref (Gb.c Y0) 0 :: an 8 (.own 0 :: .ref (Gb.c Y0) 0 :: .ref (Gb.c Y0) 0 :: .ref (Gb.c Y0) 0 :: .ref (Gb.c Y0) 0 :: .ref (Gb.c Y0) 0 :: .ref (Gb.c Y0) 2 :: .sl (Y0.Sp.map Gs.c) :: .i .i64 (Y0.Sp.length:Int) :: .i .i64 (Y1 + 1) :: an 137 []),[.vec 27 1 ((Ye.map (cF .f32)).set 0 [.f .f32 (Z4c Y0 Y1 Ye)]) false]⟩) (sB Yv<|sG Gs.c Y0.Sp Y1 YT YV<|sK [20,20]<|sG Gv.c Y0.Me.Pq ((Y0.Sp.getD Y1.toNat default).B) YX YZ<|sG Gv.c Y0.Me.Pq ((Y0.Sp.getD Y1.toNat default).A) y_4 y_5<|sF (Z5D (Y0.Me.Pq.getD ((Y0.Sp.getD Y1.toNat default).B).toNat default) (Y0.Me.Pq.getD ((Y0.Sp.getD Y1.toNat default).A).toNat default))<|sF (Z80 (Z7x Y0 Y1))<|sK [10,10]<|sX (cF .f32) Ye 0 y_6 y_7<|sV (cF .f32) Ye 0 y_8<|sX (cF .f32) Ye 0 y_6 y_7<|sC (Xl (c:=(cF .f32)) (l:=Ye) y_8)<|sI (Y1 + 1) y_9 Y1b<|sN) (by kernel_rfl) (by simp [Z7z,List.map_set,cF]) (ih (Y1 + 1) (Ye.set 0 (Z4c Y0 Y1 Ye)) (show 0≤(Y1 + 1) from (by omega)) (show (Ye.set 0 (Z4c Y0 Y1 Ye)).length=4 from (by simp_all<;>omega)) (by omega))
  | false =>
   have YI:=odf Yv
   have e:Z1G Y0 (k + 1) Y1 Ye=Ye:=by simp only [Z1G,Yv,cond_false]
   rw [e]
   exact outR (e:=(.exit 0)) E0Ok Z7 [] (mR false [0,1,1,3,8,8,139]) [0] (sB Yv<|sN) (by kernel_rfl) (by intro h;cases h)
theorem Zdl (Y0:Gb):∀ (k:Nat) (Y1:Int) (Ye:(List Nat)) (hk:((Y0.Sp.length:Int) - Y1).toNat < k),(Z1G Y0 k Y1 Ye).length=Ye.length:=by
  intro k
  induction k with
  | zero=>intro Y1 Ye hk;exact absurd hk (Nat.not_lt_zero _)
  | succ k ih =>
    intro Y1 Ye hk
    cases Yv:(decide (Y1 < (Y0.Sp.length:Int))) with
    | true =>
      have e:Z1G Y0 (k + 1) Y1 Ye=(Z1G Y0 k (Y1 + 1) (Ye.set 0 (Z4c Y0 Y1 Ye))):=by simp only [Z1G,Yv,cond_true]
      rw [e,ih (Y1 + 1) (Ye.set 0 (Z4c Y0 Y1 Ye)) (by simp_all<;>omega)];simp
    | false =>
      have e:Z1G Y0 (k + 1) Y1 Ye=Ye:=by simp only [Z1G,Yv,cond_false]
      first | (rw [e];done) | (rw [e];rfl)
def Z2r (Y0:Gb):(List Nat):=(Z1G Y0 (((Y0.Sp.length:Int) - 0).toNat + 1) 0 (List.replicate 4 0))
@[simp] theorem Zbo (Y0:Gb):(Z2r Y0).length=((List.replicate 4 0):(List Nat)).length:=Zdl Y0 (((Y0.Sp.length:Int) - 0).toNat + 1) 0 (List.replicate 4 0) (by exact Nat.lt_succ_self _)
def Z4d (Y0:Gb) (Y1:Int) (Ye:(List Nat)):Nat:=(fop .add .f32 (Ye.getD 1 default) (fop .mul .f32 Y0.Film (fop .mul .f32 1056964608 (Z2w (Zr Y0.Me (Y0.Me.Tr.getD Y1.toNat default))))))
def Z1H (Y0:Gb):Nat→Int→(List Nat)→(List Nat)
  | 0,_,_=>default
  | k + 1,Y1,Ye=>(cond (decide (Y1 < (Y0.Me.Tr.length:Int)))
    (Z1H Y0 k (Y1 + 1) (Ye.set 1 (Z4d Y0 Y1 Ye)))
    Ye)
def Z7A (Y0:Gb) (r:(List Nat)):Ex × St:=((.exit 2),⟨.ref (Gb.c Y0) 0 :: .any :: .nils :: .own 0 :: .ref (Gb.c Y0) 0 :: an 8 (.own 0 :: .ref (Gb.c Y0) 0 :: .ref (Gb.c Y0) 0 :: .ref (Gb.c Y0) 0 :: .ref (Gb.c Y0) 0 :: .ref (Gb.c Y0) 0 :: .ref (Gb.c Y0) 2 :: .sl (Y0.Sp.map Gs.c) :: an 45 (.ref (Gb.c Y0) 0 :: .ref (Gb.c Y0) 0 :: .ref (Gb.c Y0) 1 :: .sl (Y0.Me.Tr.map (cL (cI .i64))) :: an 90 [])),[.vec 27 1 (r.map (cF .f32)) false]⟩)
def ZaV (Y0:Gb) (Y1:Int) (Ye:(List Nat)):St:=⟨.ref (Gb.c Y0) 0 :: .any :: .nils :: .own 0 :: .ref (Gb.c Y0) 0 :: an 8 (.own 0 :: .ref (Gb.c Y0) 0 :: .ref (Gb.c Y0) 0 :: .ref (Gb.c Y0) 0 :: .ref (Gb.c Y0) 0 :: .ref (Gb.c Y0) 0 :: .ref (Gb.c Y0) 2 :: .sl (Y0.Sp.map Gs.c) :: an 45 (.ref (Gb.c Y0) 0 :: .ref (Gb.c Y0) 0 :: .ref (Gb.c Y0) 1 :: .sl (Y0.Me.Tr.map (cL (cI .i64))) :: .i .i64 (Y0.Me.Tr.length:Int) :: .i .i64 Y1 :: an 88 [])),[.vec 27 1 (Ye.map (cF .f32)) false]⟩
def Z9p:List Bool:=(mR false [0,1,1,3,8,8,45,6,88])
def Zdm:List Bool:=(mR false [0,1,1,3,8,8,45,4,90])
theorem Zey (Y0:Gb) (hp0:Y0.Me.Pq.length≤1073741824) (hp1:Y0.Me.Tr.length≤1073741824) (hp2:∀ t∈Y0.Me.Tr,t.length≤1073741824) (hp3:Y0.Sp.length≤1073741824) (hp4:Y0.We.length≤1073741824) (hp5:OkBd Y0):∀ (k:Nat) (Y1:Int) (Ye:(List Nat)) (Z9q:0≤Y1) (Z9r:Ye.length=(Z2r Y0).length) (hk:((Y0.Me.Tr.length:Int) - Y1).toNat < k),Lp prog 0 (sub (X0 f133) [1,1,1,1,0,1,0,0]) (ZaV Y0 Y1 Ye) (Z7A Y0 (Z1H Y0 k Y1 Ye)).1 (Z7A Y0 (Z1H Y0 k Y1 Ye)).2:=by
 intro k
 induction k with
 | zero=>intro Y1 Ye Z9q Z9r hk;exact absurd hk (Nat.not_lt_zero _)
 | succ k ih =>
  intro Y1 Ye Z9q Z9r hk
  cases Yv:(decide (Y1 < (Y0.Me.Tr.length:Int))) with
  | true =>
   have YI:=odt Yv
   have YT:(0:Int)≤1:=(by omega)
   have YV:1 < (Ye.length:Int):=(by simp_all<;>omega)
   have YX:1 < Ye.length:=(by omega)
   have YZ:(0:Int)≤Y1:=(by assumption)
   have y_4:Y1 < (Y0.Me.Tr.length:Int):=(by assumption)
   have y_5:(Y0.Me.Tr.getD Y1.toNat default).length≤1073741824:=(by exact X4Q hp5.e (by assumption) Yv)
   have y_6:(Y0.Me.Tr.getD Y1.toNat default).length=3∧∀ x∈(Y0.Me.Tr.getD Y1.toNat default),0≤x∧x < (Y0.Me.Pq.length:Int):=(by exact tri3 hp5.e (by assumption) Yv)
   have y_7:(-9223372036854775808:Int)≤(Y1 + 1):=(by omega)
   have y_8:(Y1 + 1)≤(9223372036854775807:Int):=(by omega)
   have e:Z1H Y0 (k + 1) Y1 Ye=(Z1H Y0 k (Y1 + 1) (Ye.set 1 (Z4d Y0 Y1 Ye))):=by simp only [Z1H,Yv,cond_true]
   rw [e]
   exact X9 E0Ok Z7 [] Z9p [0] (⟨.ref (Gb.c Y0) 0 :: .any :: .nils :: .own 0 :: .ref (Gb.c Y0) 0 :: an 8 (.own 0 :: .ref (Gb.c Y0) 0 :: .ref (Gb.c Y0) 0 :: .ref (Gb.c Y0) 0 :: .ref (Gb.c Y0) 0 :: .ref (Gb.c Y0) 0 :: .ref (Gb.c Y0) 2 :: .sl (Y0.Sp.map Gs.c) :: an 45 (.ref (Gb.c Y0) 0 :: .ref (Gb.c Y0) 0 :: .ref (Gb.c Y0) 1 :: .sl (Y0.Me.Tr.map (cL (cI .i64))) :: .i .i64 (Y0.Me.Tr.length:Int) :: .i .i64 (Y1 + 1) :: an 88 [])),[.vec 27 1 ((Ye.map (cF .f32)).set 1 [.f .f32 (Z4d Y0 Y1 Ye)]) false]⟩) (sB Yv<|sK [19,19]<|sX (cF .f32) Ye 1 YT YV<|sV (cF .f32) Ye 1 YX<|sG (cL (cI .i64)) Y0.Me.Tr Y1 YZ y_4<|sF (Fn.sub (args:=[.ref (Gb.c Y0) 0, .sl ((Y0.Me.Tr.getD Y1.toNat default).map (cI .i64))]) (r := .agg [.f .f32 ((Zr Y0.Me (Y0.Me.Tr.getD Y1.toNat default)).X), .f .f32 ((Zr Y0.Me (Y0.Me.Tr.getD Y1.toNat default)).Y), .f .f32 ((Zr Y0.Me (Y0.Me.Tr.getD Y1.toNat default)).Z)]) (new:=[]) [some 2,none] (Zc4 Y0.Me (Y0.Me.Tr.getD Y1.toNat default) hp0 hp1 hp2 y_5 y_6))<|sF (Z80 (Zr Y0.Me (Y0.Me.Tr.getD Y1.toNat default)))<|sX (cF .f32) Ye 1 YT YV<|sC (Xl (c:=(cF .f32)) (l:=Ye) YX)<|sI (Y1 + 1) y_7 y_8<|sN) (by kernel_rfl) (by simp [ZaV,List.map_set,cF]) (ih (Y1 + 1) (Ye.set 1 (Z4d Y0 Y1 Ye)) (show 0≤(Y1 + 1) from (by omega)) (show (Ye.set 1 (Z4d Y0 Y1 Ye)).length=(Z2r Y0).length from (by simp_all<;>omega)) (by omega))
  | false =>
   have YI:=odf Yv
   have e:Z1H Y0 (k + 1) Y1 Ye=Ye:=by simp only [Z1H,Yv,cond_false]
   rw [e]
   exact outR (e:=(.exit 2)) E0Ok Z7 [] Zdm [0] (sB Yv<|sN) (by kernel_rfl) (by intro h;cases h)
theorem Zdn (Y0:Gb):∀ (k:Nat) (Y1:Int) (Ye:(List Nat)) (hk:((Y0.Me.Tr.length:Int) - Y1).toNat < k),(Z1H Y0 k Y1 Ye).length=Ye.length:=by
  intro k
  induction k with
  | zero=>intro Y1 Ye hk;exact absurd hk (Nat.not_lt_zero _)
  | succ k ih =>
    intro Y1 Ye hk
    cases Yv:(decide (Y1 < (Y0.Me.Tr.length:Int))) with
    | true =>
      have e:Z1H Y0 (k + 1) Y1 Ye=(Z1H Y0 k (Y1 + 1) (Ye.set 1 (Z4d Y0 Y1 Ye))):=by simp only [Z1H,Yv,cond_true]
      rw [e,ih (Y1 + 1) (Ye.set 1 (Z4d Y0 Y1 Ye)) (by simp_all<;>omega)];simp
    | false =>
      have e:Z1H Y0 (k + 1) Y1 Ye=Ye:=by simp only [Z1H,Yv,cond_false]
      first | (rw [e];done) | (rw [e];rfl)
def Z2s (Y0:Gb):(List Nat):=(Z1H Y0 (((Y0.Me.Tr.length:Int) - 0).toNat + 1) 0 (Z2r Y0))
@[simp] theorem Zbp (Y0:Gb):(Z2s Y0).length=((Z2r Y0):(List Nat)).length:=Zdn Y0 (((Y0.Me.Tr.length:Int) - 0).toNat + 1) 0 (Z2r Y0) (by exact Nat.lt_succ_self _)
def Z3Q (Y0:Gb) (Y1:Int):Nat:=(Z49 (Z15 Y0.Me ((Z2 Y0.Me).getD Y1.toNat default)) (Z15 Y0.Me ((Z2 Y0.Me).getD Y1.toNat default)))
def Z1s (Y0:Gb):Nat→Int→(List Nat)→(List Nat)
  | 0,_,_=>default
  | k + 1,Y1,Ye=>(cond (decide (Y1 < ((Z2 Y0.Me).length:Int)))
    (Z1s Y0 k (Y1 + 1) (Ye.set 2 (fop .add .f32 (Ye.getD 2 default) (fop .mul .f32 (fop .mul .f32 1056964608 Y0.Bend) (Z3Q Y0 Y1)))))
    Ye)
def Z7B (Y0:Gb) (r:(List Nat)):Ex × St:=((.exit 4),⟨.ref (Gb.c Y0) 0 :: .any :: .nils :: .own 0 :: .ref (Gb.c Y0) 0 :: an 4 (.own 1 :: .any :: .any :: .any :: .own 0 :: .ref (Gb.c Y0) 0 :: .ref (Gb.c Y0) 0 :: .ref (Gb.c Y0) 0 :: .ref (Gb.c Y0) 0 :: .ref (Gb.c Y0) 0 :: .ref (Gb.c Y0) 2 :: .sl (Y0.Sp.map Gs.c) :: an 45 (.ref (Gb.c Y0) 0 :: .ref (Gb.c Y0) 0 :: .ref (Gb.c Y0) 1 :: .sl (Y0.Me.Tr.map (cL (cI .i64))) :: an 26 (.ref (Gb.c Y0) 0 :: .own 1 :: .own 1 :: an 61 []))),[.vec 27 1 (r.map (cF .f32)) false, .nest 49 ((Z2 Y0.Me).map fun l=>l.map (cI .i64)) false]⟩)
def ZaW (Y0:Gb) (Y1:Int) (Ye:(List Nat)):St:=⟨.ref (Gb.c Y0) 0 :: .any :: .nils :: .own 0 :: .ref (Gb.c Y0) 0 :: an 4 (.own 1 :: .any :: .any :: .any :: .own 0 :: .ref (Gb.c Y0) 0 :: .ref (Gb.c Y0) 0 :: .ref (Gb.c Y0) 0 :: .ref (Gb.c Y0) 0 :: .ref (Gb.c Y0) 0 :: .ref (Gb.c Y0) 2 :: .sl (Y0.Sp.map Gs.c) :: an 45 (.ref (Gb.c Y0) 0 :: .ref (Gb.c Y0) 0 :: .ref (Gb.c Y0) 1 :: .sl (Y0.Me.Tr.map (cL (cI .i64))) :: an 26 (.ref (Gb.c Y0) 0 :: .own 1 :: .own 1 :: .i .i64 ((Z2 Y0.Me).length:Int) :: .i .i64 Y1 :: an 59 []))),[.vec 27 1 (Ye.map (cF .f32)) false, .nest 49 ((Z2 Y0.Me).map fun l=>l.map (cI .i64)) false]⟩
def Z9s:List Bool:=(mR false [0,1,1,3,4,1,3,8,45,4,26,5,59])
def Zdo:List Bool:=(mR false [0,1,1,3,4,1,3,8,45,4,26,3,61])
theorem Zez (Y0:Gb) (hp0:Y0.Me.Pq.length≤1073741824) (hp1:Y0.Me.Tr.length≤1073741824) (hp2:∀ t∈Y0.Me.Tr,t.length≤1073741824) (hp3:Y0.Sp.length≤1073741824) (hp4:Y0.We.length≤1073741824) (hp5:OkBd Y0):∀ (k:Nat) (Y1:Int) (Ye:(List Nat)) (Z9t:0≤Y1) (Z9u:Ye.length=(Z2s Y0).length) (hk:(((Z2 Y0.Me).length:Int) - Y1).toNat < k),Lp prog 0 (sub (X0 f133) [1,1,1,1,1,1,0,1,0,0]) (ZaW Y0 Y1 Ye) (Z7B Y0 (Z1s Y0 k Y1 Ye)).1 (Z7B Y0 (Z1s Y0 k Y1 Ye)).2:=by
 intro k
 induction k with
 | zero=>intro Y1 Ye Z9t Z9u hk;exact absurd hk (Nat.not_lt_zero _)
 | succ k ih =>
  intro Y1 Ye Z9t Z9u hk
  cases Yv:(decide (Y1 < ((Z2 Y0.Me).length:Int))) with
  | true =>
   have YI:=odt Yv
   have YT:(0:Int)≤Y1:=(by assumption)
   have YV:Int.toNat Y1 < (Z2 Y0.Me).length:=(by omega)
   have YX:Y1.toNat < (Z2 Y0.Me).length:=(by assumption)
   have YZ:((Z2 Y0.Me).getD Y1.toNat default).length≤1073741824:=(by exact ZiX hp5.e (by assumption) Yv)
   have y_4:((Z2 Y0.Me).getD Y1.toNat default).length=4∧∀ x∈((Z2 Y0.Me).getD Y1.toNat default),0≤x∧x < (Y0.Me.Pq.length:Int):=(by exact hin4 hp5.e (by assumption) Yv)
   have y_5:(0:Int)≤2:=(by omega)
   have y_6:2 < (Ye.length:Int):=(by simp_all<;>omega)
   have y_7:2 < Ye.length:=(by omega)
   have y_8:(-9223372036854775808:Int)≤(Y1 + 1):=(by omega)
   have y_9:(Y1 + 1)≤(9223372036854775807:Int):=(by have q:=hp5.w;(have q:=Z45 _ hp5.e;omega))
   have e:Z1s Y0 (k + 1) Y1 Ye=(Z1s Y0 k (Y1 + 1) (Ye.set 2 (fop .add .f32 (Ye.getD 2 default) (fop .mul .f32 (fop .mul .f32 1056964608 Y0.Bend) (Z3Q Y0 Y1))))):=by simp only [Z1s,Yv,cond_true]
   rw [e]
   exact X9 E0Ok Z7 [] Z9s [0,1] (⟨.ref (Gb.c Y0) 0 :: .any :: .nils :: .own 0 :: .ref (Gb.c Y0) 0 :: an 4 (.own 1 :: .any :: .any :: .any :: .own 0 :: .ref (Gb.c Y0) 0 :: .ref (Gb.c Y0) 0 :: .ref (Gb.c Y0) 0 :: .ref (Gb.c Y0) 0 :: .ref (Gb.c Y0) 0 :: .ref (Gb.c Y0) 2 :: .sl (Y0.Sp.map Gs.c) :: an 45 (.ref (Gb.c Y0) 0 :: .ref (Gb.c Y0) 0 :: .ref (Gb.c Y0) 1 :: .sl (Y0.Me.Tr.map (cL (cI .i64))) :: an 26 (.ref (Gb.c Y0) 0 :: .own 1 :: .own 1 :: .i .i64 ((Z2 Y0.Me).length:Int) :: .i .i64 (Y1 + 1) :: an 59 []))),[.vec 27 1 ((Ye.map (cF .f32)).set 2 [.f .f32 (fop .add .f32 (Ye.getD 2 default) (fop .mul .f32 (fop .mul .f32 1056964608 Y0.Bend) (Z3Q Y0 Y1)))]) false, .nest 49 ((Z2 Y0.Me).map fun l=>l.map (cI .i64)) false]⟩) (sB Yv<|sC (X1V (c:=(cI .i64)) (l:=(Z2 Y0.Me)) (i:=Y1) YT YV)<|sC (X2g (c:=(cI .i64)) (l:=(Z2 Y0.Me)) YX)<|sF (Fn.sub (args:=[.ref (Gb.c Y0) 0, .sl (((Z2 Y0.Me).map fun l=>l.map (cI .i64)).getD Y1.toNat [])]) (r := .agg [.f .f32 ((Z15 Y0.Me ((Z2 Y0.Me).getD Y1.toNat default)).X), .f .f32 ((Z15 Y0.Me ((Z2 Y0.Me).getD Y1.toNat default)).Y), .f .f32 ((Z15 Y0.Me ((Z2 Y0.Me).getD Y1.toNat default)).Z)]) (new:=[]) [some 2,none] (Fn.castA (args':=[.ref [.sl (Y0.Me.Pq.map Gv.c), .sl (Y0.Me.Tr.map (cL (cI .i64)))] 0, .sl (((Z2 Y0.Me).map fun l=>l.map (cI .i64)).getD Y1.toNat [])]) (ZcW Y0.Me ((Z2 Y0.Me).getD Y1.toNat default) hp0 hp1 hp2 YZ y_4) (by simp [cI];rfl)))<|sK [12,12]<|sX (cF .f32) Ye 2 y_5 y_6<|sV (cF .f32) Ye 2 y_7<|sF (Z7j (Z15 Y0.Me ((Z2 Y0.Me).getD Y1.toNat default)) (Z15 Y0.Me ((Z2 Y0.Me).getD Y1.toNat default)))<|sX (cF .f32) Ye 2 y_5 y_6<|sC (Xl (c:=(cF .f32)) (l:=Ye) y_7)<|sI (Y1 + 1) y_8 y_9<|sN) (by kernel_rfl) (by simp [ZaW,List.map_set,cF]) (ih (Y1 + 1) (Ye.set 2 (fop .add .f32 (Ye.getD 2 default) (fop .mul .f32 (fop .mul .f32 1056964608 Y0.Bend) (Z3Q Y0 Y1)))) (show 0≤(Y1 + 1) from (by omega)) (show (Ye.set 2 (fop .add .f32 (Ye.getD 2 default) (fop .mul .f32 (fop .mul .f32 1056964608 Y0.Bend) (Z3Q Y0 Y1)))).length=(Z2s Y0).length from (by simp_all<;>omega)) (by omega))
  | false =>
   have YI:=odf Yv
   have e:Z1s Y0 (k + 1) Y1 Ye=Ye:=by simp only [Z1s,Yv,cond_false]
   rw [e]
   exact outR (e:=(.exit 4)) E0Ok Z7 [] Zdo [0,1] (sB Yv<|sN) (by kernel_rfl) (by intro h;cases h)
theorem Zdp (Y0:Gb):∀ (k:Nat) (Y1:Int) (Ye:(List Nat)) (hk:(((Z2 Y0.Me).length:Int) - Y1).toNat < k),(Z1s Y0 k Y1 Ye).length=Ye.length:=by
  intro k
  induction k with
  | zero=>intro Y1 Ye hk;exact absurd hk (Nat.not_lt_zero _)
  | succ k ih =>
    intro Y1 Ye hk
    cases Yv:(decide (Y1 < ((Z2 Y0.Me).length:Int))) with
    | true =>
      have e:Z1s Y0 (k + 1) Y1 Ye=(Z1s Y0 k (Y1 + 1) (Ye.set 2 (fop .add .f32 (Ye.getD 2 default) (fop .mul .f32 (fop .mul .f32 1056964608 Y0.Bend) (Z3Q Y0 Y1))))):=by simp only [Z1s,Yv,cond_true]
      rw [e,ih (Y1 + 1) (Ye.set 2 (fop .add .f32 (Ye.getD 2 default) (fop .mul .f32 (fop .mul .f32 1056964608 Y0.Bend) (Z3Q Y0 Y1)))) (by simp_all<;>omega)];simp
    | false =>
      have e:Z1s Y0 (k + 1) Y1 Ye=Ye:=by simp only [Z1s,Yv,cond_false]
      first | (rw [e];done) | (rw [e];rfl)
end Go.Ab
