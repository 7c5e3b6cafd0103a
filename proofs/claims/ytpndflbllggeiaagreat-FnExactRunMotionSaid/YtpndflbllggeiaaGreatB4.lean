/- The functions of this seat as plain Lean, and that the program's are these. Printed by a program of the prover's own. -/
import Derived.Test.YtpndflbllggeiaaGreatB3
set_option linter.unusedVariables false
set_option linter.unusedSimpArgs false
set_option maxRecDepth 100000
namespace Go.Ab
open Go.RowKit Go.Proofs.Tryz
def Z6V (Y0:Gb) (Y1:Int) (Y8:Int):Gv:=(Z24 (Y0.Me.Pq.getD ((Y0.Me.Tr.getD Y1.toNat default).getD (Int.tmod (Y8 + 2) 3).toNat default).toNat default) (Y0.Me.Pq.getD ((Y0.Me.Tr.getD Y1.toNat default).getD (Int.tmod (Y8 + 1) 3).toNat default).toNat default))
def Z5C (Y0:Gb) (Y1:Int) (Y8:Int):Gv:=(Zr (Z4Y (Zg Y0.Me (Y0.Me.Tr.getD Y1.toNat default)) (Z6V Y0 Y1 Y8)) (Z2X Y0 Y1))
def Z2w (Y0:Gb) (Y1:Int) (Y8:Int) (Yz:(List Gv)):Gv:=(ZI (Yz.getD (((Y0.Me.Tr.getD Y1.toNat default).getD Y8.toNat default).toNat) default) (Z5C Y0 Y1 Y8))
def ZW (Y0:Gb) (Y1:Int) (Y4:(List Gv)):Nat→Int→(List Gv)→(List Gv)
  | 0,_,_ => default
  | k + 1,Y8,Yz => (cond (decide (Y8 < 3))
    (ZW Y0 Y1 Y4 k (Y8 + 1) (Yz.set (((Y0.Me.Tr.getD Y1.toNat default).getD Y8.toNat default).toNat) (Z2w Y0 Y1 Y8 Yz)))
    Yz)
def Z6W (Y0:Gb) (Y1:Int) (Y4:(List Gv)) (r:(List Gv)):Ex × St:=((.exit 4),⟨.ref (Gb.c Y0) 0 :: .any :: .nils :: .ref (Gb.c Y0) 0 :: .own 0 :: an 4 (.i .i64 Y1 :: .sl ((Y0.Me.Tr.getD Y1.toNat default).map (cI .i64)) :: .ptr 1 0 0 :: .f .f32 (Z2X Y0 Y1) :: an 7 (.ref (Gb.c Y0) 0 :: .ref (Gb.c Y0) 0 :: .ref (Gb.c Y0) 0 :: .ref (Gb.c Y0) 0 :: .ref (Gb.c Y0) 0 :: .ref (Gb.c Y0) 0 :: .sl (Y0.Me.Pq.map Gv.c) :: .i .i64 (Y0.Me.Pq.length:Int) :: .own 0 :: .ref (Gb.c Y0) 0 :: .ref (Gb.c Y0) 0 :: .ref (Gb.c Y0) 2 :: .sl (Y0.Sp.map Gs.c) :: an 52 (.ref (Gb.c Y0) 0 :: .ref (Gb.c Y0) 0 :: .ref (Gb.c Y0) 1 :: .sl (Y0.Me.Tr.map (cL (cI .i64))) :: .i .i64 (Y0.Me.Tr.length:Int) :: .i .i64 Y1 :: .b (decide (Y1 < (Y0.Me.Tr.length:Int))) :: .i .i64 Y1 :: .ref (Gb.c Y0) 0 :: .ref (Gb.c Y0) 0 :: .ref (Gb.c Y0) 1 :: .sl (Y0.Me.Tr.map (cL (cI .i64))) :: .i .i64 Y1 :: .ref [.sl ((Y0.Me.Tr.getD Y1.toNat default).map (cI .i64))] 0 :: .sl ((Y0.Me.Tr.getD Y1.toNat default).map (cI .i64)) :: .ref (Gb.c Y0) 0 :: .sl ((Y0.Me.Tr.getD Y1.toNat default).map (cI .i64)) :: .agg [.f .f32 ((Zg Y0.Me (Y0.Me.Tr.getD Y1.toNat default)).X), .f .f32 ((Zg Y0.Me (Y0.Me.Tr.getD Y1.toNat default)).Y), .f .f32 ((Zg Y0.Me (Y0.Me.Tr.getD Y1.toNat default)).Z)] :: .ref (Gb.c Y0) 0 :: .ref (Gb.c Y0) 0 :: .ref (Gb.c Y0) 3 :: .f .f32 Y0.Film :: .f .f32 (fop .mul .f32 1056964608 Y0.Film) :: .f .f32 (fneg .f32 (fop .mul .f32 1056964608 Y0.Film)) :: .agg [.f .f32 ((Zg Y0.Me (Y0.Me.Tr.getD Y1.toNat default)).X), .f .f32 ((Zg Y0.Me (Y0.Me.Tr.getD Y1.toNat default)).Y), .f .f32 ((Zg Y0.Me (Y0.Me.Tr.getD Y1.toNat default)).Z)] :: .f .f32 (Z2u (Zg Y0.Me (Y0.Me.Tr.getD Y1.toNat default))) :: .f .f32 (Z2X Y0 Y1) :: an 168 []))),[.vec 40 3 (r.map Gv.c) false, .box 40 [.f .f32 ((Zg Y0.Me (Y0.Me.Tr.getD Y1.toNat default)).X), .f .f32 ((Zg Y0.Me (Y0.Me.Tr.getD Y1.toNat default)).Y), .f .f32 ((Zg Y0.Me (Y0.Me.Tr.getD Y1.toNat default)).Z)]]⟩)
def Z9Q (Y0:Gb) (Y1:Int) (Y4:(List Gv)) (Y8:Int) (Yz:(List Gv)):St:=⟨.ref (Gb.c Y0) 0 :: .any :: .nils :: .ref (Gb.c Y0) 0 :: .own 0 :: an 4 (.i .i64 Y1 :: .sl ((Y0.Me.Tr.getD Y1.toNat default).map (cI .i64)) :: .ptr 1 0 0 :: .f .f32 (Z2X Y0 Y1) :: .i .i64 Y8 :: an 6 (.ref (Gb.c Y0) 0 :: .ref (Gb.c Y0) 0 :: .ref (Gb.c Y0) 0 :: .ref (Gb.c Y0) 0 :: .ref (Gb.c Y0) 0 :: .ref (Gb.c Y0) 0 :: .sl (Y0.Me.Pq.map Gv.c) :: .i .i64 (Y0.Me.Pq.length:Int) :: .own 0 :: .ref (Gb.c Y0) 0 :: .ref (Gb.c Y0) 0 :: .ref (Gb.c Y0) 2 :: .sl (Y0.Sp.map Gs.c) :: an 52 (.ref (Gb.c Y0) 0 :: .ref (Gb.c Y0) 0 :: .ref (Gb.c Y0) 1 :: .sl (Y0.Me.Tr.map (cL (cI .i64))) :: .i .i64 (Y0.Me.Tr.length:Int) :: .i .i64 Y1 :: .b (decide (Y1 < (Y0.Me.Tr.length:Int))) :: .i .i64 Y1 :: .ref (Gb.c Y0) 0 :: .ref (Gb.c Y0) 0 :: .ref (Gb.c Y0) 1 :: .sl (Y0.Me.Tr.map (cL (cI .i64))) :: .i .i64 Y1 :: .ref [.sl ((Y0.Me.Tr.getD Y1.toNat default).map (cI .i64))] 0 :: .sl ((Y0.Me.Tr.getD Y1.toNat default).map (cI .i64)) :: .ref (Gb.c Y0) 0 :: .sl ((Y0.Me.Tr.getD Y1.toNat default).map (cI .i64)) :: .agg [.f .f32 ((Zg Y0.Me (Y0.Me.Tr.getD Y1.toNat default)).X), .f .f32 ((Zg Y0.Me (Y0.Me.Tr.getD Y1.toNat default)).Y), .f .f32 ((Zg Y0.Me (Y0.Me.Tr.getD Y1.toNat default)).Z)] :: .ref (Gb.c Y0) 0 :: .ref (Gb.c Y0) 0 :: .ref (Gb.c Y0) 3 :: .f .f32 Y0.Film :: .f .f32 (fop .mul .f32 1056964608 Y0.Film) :: .f .f32 (fneg .f32 (fop .mul .f32 1056964608 Y0.Film)) :: .agg [.f .f32 ((Zg Y0.Me (Y0.Me.Tr.getD Y1.toNat default)).X), .f .f32 ((Zg Y0.Me (Y0.Me.Tr.getD Y1.toNat default)).Y), .f .f32 ((Zg Y0.Me (Y0.Me.Tr.getD Y1.toNat default)).Z)] :: .f .f32 (Z2u (Zg Y0.Me (Y0.Me.Tr.getD Y1.toNat default))) :: .f .f32 (Z2X Y0 Y1) :: an 168 []))),[.vec 40 3 (Yz.map Gv.c) false, .box 40 [.f .f32 ((Zg Y0.Me (Y0.Me.Tr.getD Y1.toNat default)).X), .f .f32 ((Zg Y0.Me (Y0.Me.Tr.getD Y1.toNat default)).Y), .f .f32 ((Zg Y0.Me (Y0.Me.Tr.getD Y1.toNat default)).Z)]]⟩
def Z8z:List Bool:=(mR false [0,1,1,3,4,5,6,13,52,27,168])
def ZcA:List Bool:=(mR false [0,1,1,3,4,4,7,13,52,27,168])
set_option maxHeartbeats 1000000 in
theorem ZdJ (Y0:Gb) (Y1:Int) (Y4:(List Gv)) (hp0:Y0.Me.Pq.length≤1073741824) (hp1:Y0.Me.Tr.length≤1073741824) (hp2:∀ t∈Y0.Me.Tr,t.length≤1073741824) (hp3:Y0.Sp.length≤1073741824) (hp4:Y0.We.length≤1073741824) (hp5:OkBd Y0) (Z51:0≤Y1) (Z52:Y4.length=Y0.Me.Pq.length) (Z1Y:(decide (Y1 < (Y0.Me.Tr.length:Int)))=true):∀ (k:Nat) (Y8:Int) (Yz:(List Gv)) (Z8A:0≤Y8) (Z8B:Yz.length=Y4.length) (hk:((3:Int) - Y8).toNat < k),Lp prog 0 (sub (X0 f51) [1,1,1,1,0,1,0,0,1,1,0,0,1,1,1,1,1,0,0]) (Z9Q Y0 Y1 Y4 Y8 Yz) (Z6W Y0 Y1 Y4 (ZW Y0 Y1 Y4 k Y8 Yz)).1 (Z6W Y0 Y1 Y4 (ZW Y0 Y1 Y4 k Y8 Yz)).2:=by
 intro k
 induction k with
 | zero => intro Y8 Yz Z8A Z8B hk; exact absurd hk (Nat.not_lt_zero _)
 | succ k ih =>
  intro Y8 Yz Z8A Z8B hk
  cases YW:(decide (Y8 < 3)) with
  | true =>
   have YU:=odt YW
   have Y1d:(-9223372036854775808:Int)≤(Y8 + 2):=(by omega)
   have Y1e:(Y8 + 2)≤(9223372036854775807:Int):=(by omega)
   have Y1b:(0:Int)≤(Int.tmod (Y8 + 2) 3):=(by have q:=Z2R hp5.e (by assumption) (odt Z1Y) (by assumption) YU; omega)
   have Y18:(Int.tmod (Y8 + 2) 3) < ((Y0.Me.Tr.getD Y1.toNat default).length:Int):=(by have q:=Z2R hp5.e (by assumption) (odt Z1Y) (by assumption) YU; omega)
   have Y1f:(0:Int)≤((Y0.Me.Tr.getD Y1.toNat default).getD (Int.tmod (Y8 + 2) 3).toNat default):=(by have q:=Z2R hp5.e (by assumption) (odt Z1Y) (by assumption) YU; omega)
   have Y1m:((Y0.Me.Tr.getD Y1.toNat default).getD (Int.tmod (Y8 + 2) 3).toNat default) < (Y0.Me.Pq.length:Int):=(by have q:=Z2R hp5.e (by assumption) (odt Z1Y) (by assumption) YU; omega)
   have Y1i:(-9223372036854775808:Int)≤(Y8 + 1):=(by omega)
   have Y1n:(Y8 + 1)≤(9223372036854775807:Int):=(by omega)
   have Y1A:(0:Int)≤(Int.tmod (Y8 + 1) 3):=(by have q:=Z2R hp5.e (by assumption) (odt Z1Y) (by assumption) YU; omega)
   have Y1H:(Int.tmod (Y8 + 1) 3) < ((Y0.Me.Tr.getD Y1.toNat default).length:Int):=(by have q:=Z2R hp5.e (by assumption) (odt Z1Y) (by assumption) YU; omega)
   have Y1B:(0:Int)≤((Y0.Me.Tr.getD Y1.toNat default).getD (Int.tmod (Y8 + 1) 3).toNat default):=(by have q:=Z2R hp5.e (by assumption) (odt Z1Y) (by assumption) YU; omega)
   have Y1C:((Y0.Me.Tr.getD Y1.toNat default).getD (Int.tmod (Y8 + 1) 3).toNat default) < (Y0.Me.Pq.length:Int):=(by have q:=Z2R hp5.e (by assumption) (odt Z1Y) (by assumption) YU; omega)
   have Y1v:(0:Int)≤Y8:=(by assumption)
   have Y1w:Y8 < ((Y0.Me.Tr.getD Y1.toNat default).length:Int):=(by have q:=Z2R hp5.e (by assumption) (odt Z1Y) (by assumption) YU; omega)
   have Y1x:(0:Int)≤((Y0.Me.Tr.getD Y1.toNat default).getD Y8.toNat default):=(by have q:=Z2R hp5.e (by assumption) (odt Z1Y) (by assumption) YU; omega)
   have Y1y:((Y0.Me.Tr.getD Y1.toNat default).getD Y8.toNat default) < (Yz.length:Int):=(by have q:=Z2R hp5.e (by assumption) (odt Z1Y) (by assumption) YU; omega)
   have Y1z:((Y0.Me.Tr.getD Y1.toNat default).getD Y8.toNat default).toNat < Yz.length:=(by omega)
   have e:ZW Y0 Y1 Y4 (k + 1) Y8 Yz=(ZW Y0 Y1 Y4 k (Y8 + 1) (Yz.set (((Y0.Me.Tr.getD Y1.toNat default).getD Y8.toNat default).toNat) (Z2w Y0 Y1 Y8 Yz))):=by simp only [ZW,YW,cond_true]
   rw [e]
   exact X8 E0Ok Z4 [] Z8z [0,1] (⟨.ref (Gb.c Y0) 0 :: .any :: .nils :: .ref (Gb.c Y0) 0 :: .own 0 :: an 4 (.i .i64 Y1 :: .sl ((Y0.Me.Tr.getD Y1.toNat default).map (cI .i64)) :: .ptr 1 0 0 :: .f .f32 (Z2X Y0 Y1) :: .i .i64 (Y8 + 1) :: an 6 (.ref (Gb.c Y0) 0 :: .ref (Gb.c Y0) 0 :: .ref (Gb.c Y0) 0 :: .ref (Gb.c Y0) 0 :: .ref (Gb.c Y0) 0 :: .ref (Gb.c Y0) 0 :: .sl (Y0.Me.Pq.map Gv.c) :: .i .i64 (Y0.Me.Pq.length:Int) :: .own 0 :: .ref (Gb.c Y0) 0 :: .ref (Gb.c Y0) 0 :: .ref (Gb.c Y0) 2 :: .sl (Y0.Sp.map Gs.c) :: an 52 (.ref (Gb.c Y0) 0 :: .ref (Gb.c Y0) 0 :: .ref (Gb.c Y0) 1 :: .sl (Y0.Me.Tr.map (cL (cI .i64))) :: .i .i64 (Y0.Me.Tr.length:Int) :: .i .i64 Y1 :: .b (decide (Y1 < (Y0.Me.Tr.length:Int))) :: .i .i64 Y1 :: .ref (Gb.c Y0) 0 :: .ref (Gb.c Y0) 0 :: .ref (Gb.c Y0) 1 :: .sl (Y0.Me.Tr.map (cL (cI .i64))) :: .i .i64 Y1 :: .ref [.sl ((Y0.Me.Tr.getD Y1.toNat default).map (cI .i64))] 0 :: .sl ((Y0.Me.Tr.getD Y1.toNat default).map (cI .i64)) :: .ref (Gb.c Y0) 0 :: .sl ((Y0.Me.Tr.getD Y1.toNat default).map (cI .i64)) :: .agg [.f .f32 ((Zg Y0.Me (Y0.Me.Tr.getD Y1.toNat default)).X), .f .f32 ((Zg Y0.Me (Y0.Me.Tr.getD Y1.toNat default)).Y), .f .f32 ((Zg Y0.Me (Y0.Me.Tr.getD Y1.toNat default)).Z)] :: .ref (Gb.c Y0) 0 :: .ref (Gb.c Y0) 0 :: .ref (Gb.c Y0) 3 :: .f .f32 Y0.Film :: .f .f32 (fop .mul .f32 1056964608 Y0.Film) :: .f .f32 (fneg .f32 (fop .mul .f32 1056964608 Y0.Film)) :: .agg [.f .f32 ((Zg Y0.Me (Y0.Me.Tr.getD Y1.toNat default)).X), .f .f32 ((Zg Y0.Me (Y0.Me.Tr.getD Y1.toNat default)).Y), .f .f32 ((Zg Y0.Me (Y0.Me.Tr.getD Y1.toNat default)).Z)] :: .f .f32 (Z2u (Zg Y0.Me (Y0.Me.Tr.getD Y1.toNat default))) :: .f .f32 (Z2X Y0 Y1) :: an 168 []))),[.vec 40 3 ((Yz.map Gv.c).set (((Y0.Me.Tr.getD Y1.toNat default).getD Y8.toNat default).toNat) [.f .f32 ((Z2w Y0 Y1 Y8 Yz).X), .f .f32 ((Z2w Y0 Y1 Y8 Yz).Y), .f .f32 ((Z2w Y0 Y1 Y8 Yz).Z)]) false, .box 40 [.f .f32 ((Zg Y0.Me (Y0.Me.Tr.getD Y1.toNat default)).X), .f .f32 ((Zg Y0.Me (Y0.Me.Tr.getD Y1.toNat default)).Y), .f .f32 ((Zg Y0.Me (Y0.Me.Tr.getD Y1.toNat default)).Z)]]⟩) (sB YW <| sK [26,26] <| sI (Y8 + 2) Y1d Y1e <| sC (show (3:Int)≠0 from (by decide)) <| sQ (Int.tmod (Y8 + 2) 3) <| sG (cI .i64) (Y0.Me.Tr.getD Y1.toNat default) (Int.tmod (Y8 + 2) 3) Y1b Y18 <| sG Gv.c Y0.Me.Pq ((Y0.Me.Tr.getD Y1.toNat default).getD (Int.tmod (Y8 + 2) 3).toNat default) Y1f Y1m <| sI (Y8 + 1) Y1i Y1n <| sC (show (3:Int)≠0 from (by decide)) <| sQ (Int.tmod (Y8 + 1) 3) <| sG (cI .i64) (Y0.Me.Tr.getD Y1.toNat default) (Int.tmod (Y8 + 1) 3) Y1A Y1H <| sG Gv.c Y0.Me.Pq ((Y0.Me.Tr.getD Y1.toNat default).getD (Int.tmod (Y8 + 1) 3).toNat default) Y1B Y1C <| sF (Z5u (Y0.Me.Pq.getD ((Y0.Me.Tr.getD Y1.toNat default).getD (Int.tmod (Y8 + 2) 3).toNat default).toNat default) (Y0.Me.Pq.getD ((Y0.Me.Tr.getD Y1.toNat default).getD (Int.tmod (Y8 + 1) 3).toNat default).toNat default)) <| sK [18,18] <| sG (cI .i64) (Y0.Me.Tr.getD Y1.toNat default) Y8 Y1v Y1w <| sG (cI .i64) (Y0.Me.Tr.getD Y1.toNat default) Y8 Y1v Y1w <| sX Gv.c Yz ((Y0.Me.Tr.getD Y1.toNat default).getD Y8.toNat default) Y1x Y1y <| sV Gv.c Yz (((Y0.Me.Tr.getD Y1.toNat default).getD Y8.toNat default).toNat) Y1z <| sF (Zc7 (Zg Y0.Me (Y0.Me.Tr.getD Y1.toNat default)) (Z6V Y0 Y1 Y8)) <| sF (Z3o (Z4Y (Zg Y0.Me (Y0.Me.Tr.getD Y1.toNat default)) (Z6V Y0 Y1 Y8)) (Z2X Y0 Y1)) <| sF (Z3A (Yz.getD (((Y0.Me.Tr.getD Y1.toNat default).getD Y8.toNat default).toNat) default) (Z5C Y0 Y1 Y8)) <| sX Gv.c Yz ((Y0.Me.Tr.getD Y1.toNat default).getD Y8.toNat default) Y1x Y1y <| sC (Xn (c:=Gv.c) (l:=Yz) Y1z) <| sI (Y8 + 1) Y1i Y1n <| sN) (by kernel_rfl) (by simp [Z9Q,List.map_set,Gv.c]) (ih (Y8 + 1) (Yz.set (((Y0.Me.Tr.getD Y1.toNat default).getD Y8.toNat default).toNat) (Z2w Y0 Y1 Y8 Yz)) (show 0≤(Y8 + 1) from (by omega)) (show (Yz.set (((Y0.Me.Tr.getD Y1.toNat default).getD Y8.toNat default).toNat) (Z2w Y0 Y1 Y8 Yz)).length=Y4.length from (by have q:=Z2R hp5.e (by assumption) (odt Z1Y) (by assumption) YU; (simp only [List.length_set]; omega))) (by omega))
  | false =>
   have YU:=odf YW
   have e:ZW Y0 Y1 Y4 (k + 1) Y8 Yz=Yz:=by simp only [ZW,YW,cond_false]
   rw [e]
   exact outR (e:=(.exit 4)) E0Ok Z4 [] ZcA [0,1] (sB YW <| sN) (by kernel_rfl) (by intro h; cases h)
theorem ZcB (Y0:Gb) (Y1:Int) (Y4:(List Gv)):∀ (k:Nat) (Y8:Int) (Yz:(List Gv)) (hk:((3:Int) - Y8).toNat < k),(ZW Y0 Y1 Y4 k Y8 Yz).length=Yz.length:=by
  intro k
  induction k with
  | zero => intro Y8 Yz hk; exact absurd hk (Nat.not_lt_zero _)
  | succ k ih =>
    intro Y8 Yz hk
    cases YW:(decide (Y8 < 3)) with
    | true =>
      have e:ZW Y0 Y1 Y4 (k + 1) Y8 Yz=(ZW Y0 Y1 Y4 k (Y8 + 1) (Yz.set (((Y0.Me.Tr.getD Y1.toNat default).getD Y8.toNat default).toNat) (Z2w Y0 Y1 Y8 Yz))):=by simp only [ZW,YW,cond_true]
      rw [e,ih (Y8 + 1) (Yz.set (((Y0.Me.Tr.getD Y1.toNat default).getD Y8.toNat default).toNat) (Z2w Y0 Y1 Y8 Yz)) (by simp_all <;> omega)]; simp
    | false =>
      have e:ZW Y0 Y1 Y4 (k + 1) Y8 Yz=Yz:=by simp only [ZW,YW,cond_false]
      first | (rw [e]; done) | (rw [e]; rfl)
def Z2S (Y0:Gb) (Y1:Int) (Y4:(List Gv)):(List Gv):=(ZW Y0 Y1 Y4 (((3:Int) - 0).toNat + 1) 0 Y4)
@[simp] theorem ZgH (Y0:Gb) (Y1:Int) (Y4:(List Gv)):(Z2S Y0 Y1 Y4).length=(Y4:(List Gv)).length:=ZcB Y0 Y1 Y4 (((3:Int) - 0).toNat + 1) 0 Y4 (by exact Nat.lt_succ_self _)
def Z1b (Y0:Gb):Nat→Int→(List Gv)→(List Gv)
  | 0,_,_ => default
  | k + 1,Y1,Y4 => (cond (decide (Y1 < (Y0.Me.Tr.length:Int)))
    (Z1b Y0 k (Y1 + 1) (Z2S Y0 Y1 Y4))
    Y4)
def Z6X (Y0:Gb) (r:(List Gv)):Ex × St:=((.exit 2),⟨.ref (Gb.c Y0) 0 :: .any :: .nils :: .ref (Gb.c Y0) 0 :: .own 0 :: an 15 (.ref (Gb.c Y0) 0 :: .ref (Gb.c Y0) 0 :: .ref (Gb.c Y0) 0 :: .ref (Gb.c Y0) 0 :: .ref (Gb.c Y0) 0 :: .ref (Gb.c Y0) 0 :: .sl (Y0.Me.Pq.map Gv.c) :: .i .i64 (Y0.Me.Pq.length:Int) :: .own 0 :: .ref (Gb.c Y0) 0 :: .ref (Gb.c Y0) 0 :: .ref (Gb.c Y0) 2 :: .sl (Y0.Sp.map Gs.c) :: an 52 (.ref (Gb.c Y0) 0 :: .ref (Gb.c Y0) 0 :: .ref (Gb.c Y0) 1 :: .sl (Y0.Me.Tr.map (cL (cI .i64))) :: an 191 [])),[.vec 40 3 (r.map Gv.c) false]⟩)
def ZdK (Y0:Gb) (Y1:Int) (Y4:(List Gv)):St:=⟨.ref (Gb.c Y0) 0 :: .any :: .nils :: .ref (Gb.c Y0) 0 :: .own 0 :: an 15 (.ref (Gb.c Y0) 0 :: .ref (Gb.c Y0) 0 :: .ref (Gb.c Y0) 0 :: .ref (Gb.c Y0) 0 :: .ref (Gb.c Y0) 0 :: .ref (Gb.c Y0) 0 :: .sl (Y0.Me.Pq.map Gv.c) :: .i .i64 (Y0.Me.Pq.length:Int) :: .own 0 :: .ref (Gb.c Y0) 0 :: .ref (Gb.c Y0) 0 :: .ref (Gb.c Y0) 2 :: .sl (Y0.Sp.map Gs.c) :: an 52 (.ref (Gb.c Y0) 0 :: .ref (Gb.c Y0) 0 :: .ref (Gb.c Y0) 1 :: .sl (Y0.Me.Tr.map (cL (cI .i64))) :: .i .i64 (Y0.Me.Tr.length:Int) :: .i .i64 Y1 :: an 189 [])),[.vec 40 3 (Y4.map Gv.c) false]⟩
def Z8C:List Bool:=(mR false [0,1,1,3,15,13,52,6,189])
def ZcC:List Bool:=(mR false [0,1,1,3,15,13,52,4,191])
theorem ZdL (Y0:Gb) (hp0:Y0.Me.Pq.length≤1073741824) (hp1:Y0.Me.Tr.length≤1073741824) (hp2:∀ t∈Y0.Me.Tr,t.length≤1073741824) (hp3:Y0.Sp.length≤1073741824) (hp4:Y0.We.length≤1073741824) (hp5:OkBd Y0):∀ (k:Nat) (Y1:Int) (Y4:(List Gv)) (Z51:0≤Y1) (Z52:Y4.length=Y0.Me.Pq.length) (hk:((Y0.Me.Tr.length:Int) - Y1).toNat < k),Lp prog 0 (sub (X0 f51) [1,1,1,1,0,1,0,0]) (ZdK Y0 Y1 Y4) (Z6X Y0 (Z1b Y0 k Y1 Y4)).1 (Z6X Y0 (Z1b Y0 k Y1 Y4)).2:=by
 intro k
 induction k with
 | zero => intro Y1 Y4 Z51 Z52 hk; exact absurd hk (Nat.not_lt_zero _)
 | succ k ih =>
  intro Y1 Y4 Z51 Z52 hk
  cases Yn:(decide (Y1 < (Y0.Me.Tr.length:Int))) with
  | true =>
   have YM:=odt Yn
   have YS:(0:Int)≤Y1:=(by assumption)
   have YT:Y1 < (Y0.Me.Tr.length:Int):=(by assumption)
   have YY:(Y0.Me.Tr.getD Y1.toNat default).length≤1073741824:=(by exact X4S hp5.e (by assumption) Yn)
   have YZ:(Y0.Me.Tr.getD Y1.toNat default).length=3∧∀ x∈(Y0.Me.Tr.getD Y1.toNat default),0≤x∧x < (Y0.Me.Pq.length:Int):=(by exact tri3 hp5.e (by assumption) Yn)
   have y_4:(-9223372036854775808:Int)≤(Y1 + 1):=(by omega)
   have y_5:(Y1 + 1)≤(9223372036854775807:Int):=(by omega)
   have e:Z1b Y0 (k + 1) Y1 Y4=(Z1b Y0 k (Y1 + 1) (Z2S Y0 Y1 Y4)):=by simp only [Z1b,Yn,cond_true]
   rw [e]
   exact X9 E0Ok Z4 [] Z8C [0] (ih (Y1 + 1) (Z2S Y0 Y1 Y4) (show 0≤(Y1 + 1) from (by omega)) (show (Z2S Y0 Y1 Y4).length=Y0.Me.Pq.length from (by simp_all <;> omega)) (by omega)) (sB Yn <| sG (cL (cI .i64)) Y0.Me.Tr Y1 YS YT <| sF (Fn.sub (args:=[.ref (Gb.c Y0) 0, .sl ((Y0.Me.Tr.getD Y1.toNat default).map (cI .i64))]) (r := .agg [.f .f32 ((Zg Y0.Me (Y0.Me.Tr.getD Y1.toNat default)).X), .f .f32 ((Zg Y0.Me (Y0.Me.Tr.getD Y1.toNat default)).Y), .f .f32 ((Zg Y0.Me (Y0.Me.Tr.getD Y1.toNat default)).Z)]) (new:=[]) [some 2,none] (ZbI Y0.Me (Y0.Me.Tr.getD Y1.toNat default) hp0 hp1 hp2 YY YZ)) <| sK [8,8] <| sF (Z7N (Zg Y0.Me (Y0.Me.Tr.getD Y1.toNat default))) <| sF (Zcw (fneg .f32 (fop .mul .f32 1056964608 Y0.Film)) (Z2u (Zg Y0.Me (Y0.Me.Tr.getD Y1.toNat default)))) <| sL Z8z 2 (X1 (Z6W Y0 Y1 Y4) (x:=(Z2S Y0 Y1 Y4)) (ZdJ Y0 Y1 Y4 hp0 hp1 hp2 hp3 hp4 hp5 Z51 Z52 Yn (((3:Int) - 0).toNat + 1) 0 Y4 (show 0≤0 from (by omega)) (show Y4.length=Y4.length from (by omega)) (Nat.lt_succ_self _)) rfl) <| sI (Y1 + 1) y_4 y_5 <| sN) (by kernel_rfl)
  | false =>
   have YM:=odf Yn
   have e:Z1b Y0 (k + 1) Y1 Y4=Y4:=by simp only [Z1b,Yn,cond_false]
   rw [e]
   exact outR (e:=(.exit 2)) E0Ok Z4 [] ZcC [0] (sB Yn <| sN) (by kernel_rfl) (by intro h; cases h)
theorem ZcD (Y0:Gb):∀ (k:Nat) (Y1:Int) (Y4:(List Gv)) (hk:((Y0.Me.Tr.length:Int) - Y1).toNat < k),(Z1b Y0 k Y1 Y4).length=Y4.length:=by
  intro k
  induction k with
  | zero => intro Y1 Y4 hk; exact absurd hk (Nat.not_lt_zero _)
  | succ k ih =>
    intro Y1 Y4 hk
    cases Yn:(decide (Y1 < (Y0.Me.Tr.length:Int))) with
    | true =>
      have e:Z1b Y0 (k + 1) Y1 Y4=(Z1b Y0 k (Y1 + 1) (Z2S Y0 Y1 Y4)):=by simp only [Z1b,Yn,cond_true]
      rw [e,ih (Y1 + 1) (Z2S Y0 Y1 Y4) (by simp_all <;> omega)]; simp
    | false =>
      have e:Z1b Y0 (k + 1) Y1 Y4=Y4:=by simp only [Z1b,Yn,cond_false]
      first | (rw [e]; done) | (rw [e]; rfl)
def Z3k (Y0:Gb):(List Gv):=(Z1b Y0 (((Y0.Me.Tr.length:Int) - 0).toNat + 1) 0 (Z3j Y0))
@[simp] theorem ZgI (Y0:Gb):(Z3k Y0).length=((Z3j Y0):(List Gv)).length:=ZcD Y0 (((Y0.Me.Tr.length:Int) - 0).toNat + 1) 0 (Z3j Y0) (by exact Nat.lt_succ_self _)
def Za (Y0:Gb) (Y1:Int) (Y4:(List Gv)):Gv:=(ZI (Y4.getD ((((Z2 Y0.Me).getD Y1.toNat default).getD 0 default).toNat) default) (Zr (ZY Y0.Me ((Z2 Y0.Me).getD Y1.toNat default)) Y0.Bend))
def Ze (Y0:Gb) (Y1:Int) (Y4:(List Gv)):Gv:=(ZI ((Y4.set ((((Z2 Y0.Me).getD Y1.toNat default).getD 0 default).toNat) (Za Y0 Y1 Y4)).getD ((((Z2 Y0.Me).getD Y1.toNat default).getD 1 default).toNat) default) (Zr (ZY Y0.Me ((Z2 Y0.Me).getD Y1.toNat default)) Y0.Bend))
def Zl (Y0:Gb) (Y1:Int) (Y4:(List Gv)):Gv:=(ZI (((Y4.set ((((Z2 Y0.Me).getD Y1.toNat default).getD 0 default).toNat) (Za Y0 Y1 Y4)).set ((((Z2 Y0.Me).getD Y1.toNat default).getD 1 default).toNat) (Ze Y0 Y1 Y4)).getD ((((Z2 Y0.Me).getD Y1.toNat default).getD 2 default).toNat) default) (Zr (ZY Y0.Me ((Z2 Y0.Me).getD Y1.toNat default)) (fneg .f32 Y0.Bend)))
def Z30 (Y0:Gb) (Y1:Int) (Y4:(List Gv)):Gv:=(ZI ((((Y4.set ((((Z2 Y0.Me).getD Y1.toNat default).getD 0 default).toNat) (Za Y0 Y1 Y4)).set ((((Z2 Y0.Me).getD Y1.toNat default).getD 1 default).toNat) (Ze Y0 Y1 Y4)).set ((((Z2 Y0.Me).getD Y1.toNat default).getD 2 default).toNat) (Zl Y0 Y1 Y4)).getD ((((Z2 Y0.Me).getD Y1.toNat default).getD 3 default).toNat) default) (Zr (ZY Y0.Me ((Z2 Y0.Me).getD Y1.toNat default)) (fneg .f32 Y0.Bend)))
def Z1c (Y0:Gb):Nat→Int→(List Gv)→(List Gv)
  | 0,_,_ => default
  | k + 1,Y1,Y4 => (cond (decide (Y1 < ((Z2 Y0.Me).length:Int)))
    (Z1c Y0 k (Y1 + 1) ((((Y4.set ((((Z2 Y0.Me).getD Y1.toNat default).getD 0 default).toNat) (Za Y0 Y1 Y4)).set ((((Z2 Y0.Me).getD Y1.toNat default).getD 1 default).toNat) (Ze Y0 Y1 Y4)).set ((((Z2 Y0.Me).getD Y1.toNat default).getD 2 default).toNat) (Zl Y0 Y1 Y4)).set ((((Z2 Y0.Me).getD Y1.toNat default).getD 3 default).toNat) (Z30 Y0 Y1 Y4)))
    Y4)
def Z6Y (Y0:Gb) (r:(List Gv)):Ex × St:=((.exit 6),⟨.ref (Gb.c Y0) 0 :: .any :: .nils :: .ref (Gb.c Y0) 0 :: .own 0 :: an 10 (.own 1 :: an 4 (.ref (Gb.c Y0) 0 :: .ref (Gb.c Y0) 0 :: .ref (Gb.c Y0) 0 :: .ref (Gb.c Y0) 0 :: .ref (Gb.c Y0) 0 :: .ref (Gb.c Y0) 0 :: .sl (Y0.Me.Pq.map Gv.c) :: .i .i64 (Y0.Me.Pq.length:Int) :: .own 0 :: .ref (Gb.c Y0) 0 :: .ref (Gb.c Y0) 0 :: .ref (Gb.c Y0) 2 :: .sl (Y0.Sp.map Gs.c) :: an 52 (.ref (Gb.c Y0) 0 :: .ref (Gb.c Y0) 0 :: .ref (Gb.c Y0) 1 :: .sl (Y0.Me.Tr.map (cL (cI .i64))) :: an 72 (.ref (Gb.c Y0) 0 :: .own 1 :: .own 1 :: an 116 [])))),[.vec 40 3 (r.map Gv.c) false, .nest 49 ((Z2 Y0.Me).map fun l => l.map (cI .i64)) false]⟩)
def Z9R (Y0:Gb) (Y1:Int) (Y4:(List Gv)):St:=⟨.ref (Gb.c Y0) 0 :: .any :: .nils :: .ref (Gb.c Y0) 0 :: .own 0 :: an 10 (.own 1 :: an 4 (.ref (Gb.c Y0) 0 :: .ref (Gb.c Y0) 0 :: .ref (Gb.c Y0) 0 :: .ref (Gb.c Y0) 0 :: .ref (Gb.c Y0) 0 :: .ref (Gb.c Y0) 0 :: .sl (Y0.Me.Pq.map Gv.c) :: .i .i64 (Y0.Me.Pq.length:Int) :: .own 0 :: .ref (Gb.c Y0) 0 :: .ref (Gb.c Y0) 0 :: .ref (Gb.c Y0) 2 :: .sl (Y0.Sp.map Gs.c) :: an 52 (.ref (Gb.c Y0) 0 :: .ref (Gb.c Y0) 0 :: .ref (Gb.c Y0) 1 :: .sl (Y0.Me.Tr.map (cL (cI .i64))) :: an 72 (.ref (Gb.c Y0) 0 :: .own 1 :: .own 1 :: .i .i64 ((Z2 Y0.Me).length:Int) :: .i .i64 Y1 :: an 114 [])))),[.vec 40 3 (Y4.map Gv.c) false, .nest 49 ((Z2 Y0.Me).map fun l => l.map (cI .i64)) false]⟩
def Z8D:List Bool:=(mR false [0,1,1,3,10,1,4,13,52,4,72,5,114])
def ZcE:List Bool:=(mR false [0,1,1,3,10,1,4,13,52,4,72,3,116])
set_option maxHeartbeats 1000000 in
theorem ZdM (Y0:Gb) (hp0:Y0.Me.Pq.length≤1073741824) (hp1:Y0.Me.Tr.length≤1073741824) (hp2:∀ t∈Y0.Me.Tr,t.length≤1073741824) (hp3:Y0.Sp.length≤1073741824) (hp4:Y0.We.length≤1073741824) (hp5:OkBd Y0):∀ (k:Nat) (Y1:Int) (Y4:(List Gv)) (Z8E:0≤Y1) (Z8F:Y4.length=Y0.Me.Pq.length) (hk:(((Z2 Y0.Me).length:Int) - Y1).toNat < k),Lp prog 0 (sub (X0 f51) [1,1,1,1,1,1,0,1,0,0]) (Z9R Y0 Y1 Y4) (Z6Y Y0 (Z1c Y0 k Y1 Y4)).1 (Z6Y Y0 (Z1c Y0 k Y1 Y4)).2:=by
 intro k
 induction k with
 | zero => intro Y1 Y4 Z8E Z8F hk; exact absurd hk (Nat.not_lt_zero _)
 | succ k ih =>
  intro Y1 Y4 Z8E Z8F hk
  cases Yn:(decide (Y1 < ((Z2 Y0.Me).length:Int))) with
  | true =>
   have YM:=odt Yn
   have YS:(0:Int)≤Y1:=(by assumption)
   have YT:Int.toNat Y1 < (Z2 Y0.Me).length:=(by omega)
   have YY:Y1.toNat < (Z2 Y0.Me).length:=(by assumption)
   have YZ:((Z2 Y0.Me).getD Y1.toNat default).length≤1073741824:=(by exact ZiP hp5.e (by assumption) Yn)
   have y_4:((Z2 Y0.Me).getD Y1.toNat default).length=4∧∀ x∈((Z2 Y0.Me).getD Y1.toNat default),0≤x∧x < (Y0.Me.Pq.length:Int):=(by exact hin4 hp5.e (by assumption) Yn)
   have y_5:(0:Int)≤0:=(by omega)
   have y_6:0 < (((Z2 Y0.Me).getD Y1.toNat default).length:Int):=(by omega)
   have y_7:0 < ((Z2 Y0.Me).getD Y1.toNat default).length:=(by omega)
   have y_8:(0:Int)≤(((Z2 Y0.Me).getD Y1.toNat default).getD 0 default):=(by (have q:=Z3Y _ hp5.e; (have q:=Okh.at (hin4 hp5.e (by assumption) Yn); omega)))
   have y_9:(((Z2 Y0.Me).getD Y1.toNat default).getD 0 default) < (Y4.length:Int):=(by (have q:=Z3Y _ hp5.e; (have q:=Okh.at (hin4 hp5.e (by assumption) Yn); omega)))
   have Y19:(((Z2 Y0.Me).getD Y1.toNat default).getD 0 default).toNat < Y4.length:=(by omega)
   have Y1g:(0:Int)≤1:=(by omega)
   have Y1j:1 < (((Z2 Y0.Me).getD Y1.toNat default).length:Int):=(by omega)
   have Y1k:1 < ((Z2 Y0.Me).getD Y1.toNat default).length:=(by omega)
   have Y1r:(0:Int)≤(((Z2 Y0.Me).getD Y1.toNat default).getD 1 default):=(by (have q:=Z3Y _ hp5.e; (have q:=Okh.at (hin4 hp5.e (by assumption) Yn); omega)))
   have Y1s:(((Z2 Y0.Me).getD Y1.toNat default).getD 1 default) < ((Y4.set ((((Z2 Y0.Me).getD Y1.toNat default).getD 0 default).toNat) (Za Y0 Y1 Y4)).length:Int):=(by (have q:=Z3Y _ hp5.e; (have q:=Okh.at (hin4 hp5.e (by assumption) Yn); (simp only [List.length_set]; omega))))
   have Y1t:(((Z2 Y0.Me).getD Y1.toNat default).getD 1 default).toNat < (Y4.set ((((Z2 Y0.Me).getD Y1.toNat default).getD 0 default).toNat) (Za Y0 Y1 Y4)).length:=(by omega)
   have Y1u:(0:Int)≤2:=(by omega)
   have Y1D:2 < (((Z2 Y0.Me).getD Y1.toNat default).length:Int):=(by omega)
   have Y1E:2 < ((Z2 Y0.Me).getD Y1.toNat default).length:=(by omega)
   have Y1I:(0:Int)≤(((Z2 Y0.Me).getD Y1.toNat default).getD 2 default):=(by (have q:=Z3Y _ hp5.e; (have q:=Okh.at (hin4 hp5.e (by assumption) Yn); omega)))
   have Y1J:(((Z2 Y0.Me).getD Y1.toNat default).getD 2 default) < (((Y4.set ((((Z2 Y0.Me).getD Y1.toNat default).getD 0 default).toNat) (Za Y0 Y1 Y4)).set ((((Z2 Y0.Me).getD Y1.toNat default).getD 1 default).toNat) (Ze Y0 Y1 Y4)).length:Int):=(by (have q:=Z3Y _ hp5.e; (have q:=Okh.at (hin4 hp5.e (by assumption) Yn); (simp only [List.length_set]; omega))))
   have Y1K:(((Z2 Y0.Me).getD Y1.toNat default).getD 2 default).toNat < ((Y4.set ((((Z2 Y0.Me).getD Y1.toNat default).getD 0 default).toNat) (Za Y0 Y1 Y4)).set ((((Z2 Y0.Me).getD Y1.toNat default).getD 1 default).toNat) (Ze Y0 Y1 Y4)).length:=(by omega)
   have Y1L:(0:Int)≤3:=(by omega)
   have Y1M:3 < (((Z2 Y0.Me).getD Y1.toNat default).length:Int):=(by omega)
   have Y1N:3 < ((Z2 Y0.Me).getD Y1.toNat default).length:=(by omega)
   have Y1O:(0:Int)≤(((Z2 Y0.Me).getD Y1.toNat default).getD 3 default):=(by (have q:=Z3Y _ hp5.e; (have q:=Okh.at (hin4 hp5.e (by assumption) Yn); omega)))
   have Y1P:(((Z2 Y0.Me).getD Y1.toNat default).getD 3 default) < ((((Y4.set ((((Z2 Y0.Me).getD Y1.toNat default).getD 0 default).toNat) (Za Y0 Y1 Y4)).set ((((Z2 Y0.Me).getD Y1.toNat default).getD 1 default).toNat) (Ze Y0 Y1 Y4)).set ((((Z2 Y0.Me).getD Y1.toNat default).getD 2 default).toNat) (Zl Y0 Y1 Y4)).length:Int):=(by (have q:=Z3Y _ hp5.e; (have q:=Okh.at (hin4 hp5.e (by assumption) Yn); (simp only [List.length_set]; omega))))
   have Y1Q:(((Z2 Y0.Me).getD Y1.toNat default).getD 3 default).toNat < (((Y4.set ((((Z2 Y0.Me).getD Y1.toNat default).getD 0 default).toNat) (Za Y0 Y1 Y4)).set ((((Z2 Y0.Me).getD Y1.toNat default).getD 1 default).toNat) (Ze Y0 Y1 Y4)).set ((((Z2 Y0.Me).getD Y1.toNat default).getD 2 default).toNat) (Zl Y0 Y1 Y4)).length:=(by omega)
   have Y1T:(-9223372036854775808:Int)≤(Y1 + 1):=(by omega)
   have Y1U:(Y1 + 1)≤(9223372036854775807:Int):=(by have q:=Z3Y _ hp5.e; omega)
   have e:Z1c Y0 (k + 1) Y1 Y4=(Z1c Y0 k (Y1 + 1) ((((Y4.set ((((Z2 Y0.Me).getD Y1.toNat default).getD 0 default).toNat) (Za Y0 Y1 Y4)).set ((((Z2 Y0.Me).getD Y1.toNat default).getD 1 default).toNat) (Ze Y0 Y1 Y4)).set ((((Z2 Y0.Me).getD Y1.toNat default).getD 2 default).toNat) (Zl Y0 Y1 Y4)).set ((((Z2 Y0.Me).getD Y1.toNat default).getD 3 default).toNat) (Z30 Y0 Y1 Y4))):=by simp only [Z1c,Yn,cond_true]
   rw [e]
   exact X8 E0Ok Z4 [] Z8D [0,1] (⟨.ref (Gb.c Y0) 0 :: .any :: .nils :: .ref (Gb.c Y0) 0 :: .own 0 :: an 10 (.own 1 :: an 4 (.ref (Gb.c Y0) 0 :: .ref (Gb.c Y0) 0 :: .ref (Gb.c Y0) 0 :: .ref (Gb.c Y0) 0 :: .ref (Gb.c Y0) 0 :: .ref (Gb.c Y0) 0 :: .sl (Y0.Me.Pq.map Gv.c) :: .i .i64 (Y0.Me.Pq.length:Int) :: .own 0 :: .ref (Gb.c Y0) 0 :: .ref (Gb.c Y0) 0 :: .ref (Gb.c Y0) 2 :: .sl (Y0.Sp.map Gs.c) :: an 52 (.ref (Gb.c Y0) 0 :: .ref (Gb.c Y0) 0 :: .ref (Gb.c Y0) 1 :: .sl (Y0.Me.Tr.map (cL (cI .i64))) :: an 72 (.ref (Gb.c Y0) 0 :: .own 1 :: .own 1 :: .i .i64 ((Z2 Y0.Me).length:Int) :: .i .i64 (Y1 + 1) :: an 114 [])))),[.vec 40 3 (((((Y4.map Gv.c).set ((((Z2 Y0.Me).getD Y1.toNat default).getD 0 default).toNat) [.f .f32 ((Za Y0 Y1 Y4).X), .f .f32 ((Za Y0 Y1 Y4).Y), .f .f32 ((Za Y0 Y1 Y4).Z)]).set ((((Z2 Y0.Me).getD Y1.toNat default).getD 1 default).toNat) [.f .f32 ((Ze Y0 Y1 Y4).X), .f .f32 ((Ze Y0 Y1 Y4).Y), .f .f32 ((Ze Y0 Y1 Y4).Z)]).set ((((Z2 Y0.Me).getD Y1.toNat default).getD 2 default).toNat) [.f .f32 ((Zl Y0 Y1 Y4).X), .f .f32 ((Zl Y0 Y1 Y4).Y), .f .f32 ((Zl Y0 Y1 Y4).Z)]).set ((((Z2 Y0.Me).getD Y1.toNat default).getD 3 default).toNat) [.f .f32 ((Z30 Y0 Y1 Y4).X), .f .f32 ((Z30 Y0 Y1 Y4).Y), .f .f32 ((Z30 Y0 Y1 Y4).Z)]) false, .nest 49 ((Z2 Y0.Me).map fun l => l.map (cI .i64)) false]⟩) (sB Yn <| sC (X1Y (c:=(cI .i64)) (l:=(Z2 Y0.Me)) (i:=Y1) YS YT) <| sC (X2j (c:=(cI .i64)) (l:=(Z2 Y0.Me)) YY) <| sF (Fn.sub (args:=[.ref (Gb.c Y0) 0, .sl (((Z2 Y0.Me).map fun l => l.map (cI .i64)).getD Y1.toNat [])]) (r := .agg [.f .f32 ((ZY Y0.Me ((Z2 Y0.Me).getD Y1.toNat default)).X), .f .f32 ((ZY Y0.Me ((Z2 Y0.Me).getD Y1.toNat default)).Y), .f .f32 ((ZY Y0.Me ((Z2 Y0.Me).getD Y1.toNat default)).Z)]) (new:=[]) [some 2,none] (Fn.castA (args':=[.ref [.sl (Y0.Me.Pq.map Gv.c), .sl (Y0.Me.Tr.map (cL (cI .i64)))] 0, .sl (((Z2 Y0.Me).map fun l => l.map (cI .i64)).getD Y1.toNat [])]) (Zcy Y0.Me ((Z2 Y0.Me).getD Y1.toNat default) hp0 hp1 hp2 YZ y_4) (by simp [cI]; rfl))) <| sK [17,17] <| sC (Xz (c:=(cI .i64)) (l:=(Z2 Y0.Me)) (j:=Y1.toNat) (i:=0) y_5 y_6) <| sE (Xy (c:=(cI .i64)) (l:=(Z2 Y0.Me)) (j:=Y1.toNat) (k:=0) y_7) <| sC (Xz (c:=(cI .i64)) (l:=(Z2 Y0.Me)) (j:=Y1.toNat) (i:=0) y_5 y_6) <| sE (Xy (c:=(cI .i64)) (l:=(Z2 Y0.Me)) (j:=Y1.toNat) (k:=0) y_7) <| sX Gv.c Y4 (((Z2 Y0.Me).getD Y1.toNat default).getD 0 default) y_8 y_9 <| sV Gv.c Y4 ((((Z2 Y0.Me).getD Y1.toNat default).getD 0 default).toNat) Y19 <| sF (Z3o (ZY Y0.Me ((Z2 Y0.Me).getD Y1.toNat default)) Y0.Bend) <| sF (Z3A (Y4.getD ((((Z2 Y0.Me).getD Y1.toNat default).getD 0 default).toNat) default) (Zr (ZY Y0.Me ((Z2 Y0.Me).getD Y1.toNat default)) Y0.Bend)) <| sX Gv.c Y4 (((Z2 Y0.Me).getD Y1.toNat default).getD 0 default) y_8 y_9 <| sC (Xn (c:=Gv.c) (l:=Y4) Y19) <| sK [17,17] <| sC (Xz (c:=(cI .i64)) (l:=(Z2 Y0.Me)) (j:=Y1.toNat) (i:=1) Y1g Y1j) <| sE (Xy (c:=(cI .i64)) (l:=(Z2 Y0.Me)) (j:=Y1.toNat) (k:=1) Y1k) <| sC (Xz (c:=(cI .i64)) (l:=(Z2 Y0.Me)) (j:=Y1.toNat) (i:=1) Y1g Y1j) <| sE (Xy (c:=(cI .i64)) (l:=(Z2 Y0.Me)) (j:=Y1.toNat) (k:=1) Y1k) <| sC (show 0≤(((Z2 Y0.Me).getD Y1.toNat default).getD 1 default)∧Int.toNat (((Z2 Y0.Me).getD Y1.toNat default).getD 1 default) < ((Y4.map Gv.c).set ((((Z2 Y0.Me).getD Y1.toNat default).getD 0 default).toNat) [.f .f32 ((Za Y0 Y1 Y4).X), .f .f32 ((Za Y0 Y1 Y4).Y), .f .f32 ((Za Y0 Y1 Y4).Z)]).length from (by simpa using XC (c:=Gv.c) (l:=(Y4.set ((((Z2 Y0.Me).getD Y1.toNat default).getD 0 default).toNat) (Za Y0 Y1 Y4))) (i:=(((Z2 Y0.Me).getD Y1.toNat default).getD 1 default)) Y1r Y1s)) <| sE (show ((Y4.map Gv.c).set ((((Z2 Y0.Me).getD Y1.toNat default).getD 0 default).toNat) [.f .f32 ((Za Y0 Y1 Y4).X), .f .f32 ((Za Y0 Y1 Y4).Y), .f .f32 ((Za Y0 Y1 Y4).Z)])[(((Z2 Y0.Me).getD Y1.toNat default).getD 1 default).toNat]? = some [.f .f32 (((Y4.set ((((Z2 Y0.Me).getD Y1.toNat default).getD 0 default).toNat) (Za Y0 Y1 Y4)).getD ((((Z2 Y0.Me).getD Y1.toNat default).getD 1 default).toNat) default).X), .f .f32 (((Y4.set ((((Z2 Y0.Me).getD Y1.toNat default).getD 0 default).toNat) (Za Y0 Y1 Y4)).getD ((((Z2 Y0.Me).getD Y1.toNat default).getD 1 default).toNat) default).Y), .f .f32 (((Y4.set ((((Z2 Y0.Me).getD Y1.toNat default).getD 0 default).toNat) (Za Y0 Y1 Y4)).getD ((((Z2 Y0.Me).getD Y1.toNat default).getD 1 default).toNat) default).Z)] from (by have q:=X1s (c:=Gv.c) (l:=(Y4.set ((((Z2 Y0.Me).getD Y1.toNat default).getD 0 default).toNat) (Za Y0 Y1 Y4))) (k:=(((Z2 Y0.Me).getD Y1.toNat default).getD 1 default).toNat) Y1t; (simp only [List.map_set,List.map_append,List.map_cons,List.map_nil,List.map_replicate] at q; exact q))) <| sF (Z3o (ZY Y0.Me ((Z2 Y0.Me).getD Y1.toNat default)) Y0.Bend) <| sF (Z3A ((Y4.set ((((Z2 Y0.Me).getD Y1.toNat default).getD 0 default).toNat) (Za Y0 Y1 Y4)).getD ((((Z2 Y0.Me).getD Y1.toNat default).getD 1 default).toNat) default) (Zr (ZY Y0.Me ((Z2 Y0.Me).getD Y1.toNat default)) Y0.Bend)) <| sC (show 0≤(((Z2 Y0.Me).getD Y1.toNat default).getD 1 default)∧Int.toNat (((Z2 Y0.Me).getD Y1.toNat default).getD 1 default) < ((Y4.map Gv.c).set ((((Z2 Y0.Me).getD Y1.toNat default).getD 0 default).toNat) [.f .f32 ((Za Y0 Y1 Y4).X), .f .f32 ((Za Y0 Y1 Y4).Y), .f .f32 ((Za Y0 Y1 Y4).Z)]).length from (by simpa using XC (c:=Gv.c) (l:=(Y4.set ((((Z2 Y0.Me).getD Y1.toNat default).getD 0 default).toNat) (Za Y0 Y1 Y4))) (i:=(((Z2 Y0.Me).getD Y1.toNat default).getD 1 default)) Y1r Y1s)) <| sC (show (((Z2 Y0.Me).getD Y1.toNat default).getD 1 default).toNat < ((Y4.map Gv.c).set ((((Z2 Y0.Me).getD Y1.toNat default).getD 0 default).toNat) [.f .f32 ((Za Y0 Y1 Y4).X), .f .f32 ((Za Y0 Y1 Y4).Y), .f .f32 ((Za Y0 Y1 Y4).Z)]).length from (by simpa using Y1t)) <| sK [18,18] <| sC (Xz (c:=(cI .i64)) (l:=(Z2 Y0.Me)) (j:=Y1.toNat) (i:=2) Y1u Y1D) <| sE (Xy (c:=(cI .i64)) (l:=(Z2 Y0.Me)) (j:=Y1.toNat) (k:=2) Y1E) <| sC (Xz (c:=(cI .i64)) (l:=(Z2 Y0.Me)) (j:=Y1.toNat) (i:=2) Y1u Y1D) <| sE (Xy (c:=(cI .i64)) (l:=(Z2 Y0.Me)) (j:=Y1.toNat) (k:=2) Y1E) <| sC (show 0≤(((Z2 Y0.Me).getD Y1.toNat default).getD 2 default)∧Int.toNat (((Z2 Y0.Me).getD Y1.toNat default).getD 2 default) < (((Y4.map Gv.c).set ((((Z2 Y0.Me).getD Y1.toNat default).getD 0 default).toNat) [.f .f32 ((Za Y0 Y1 Y4).X), .f .f32 ((Za Y0 Y1 Y4).Y), .f .f32 ((Za Y0 Y1 Y4).Z)]).set ((((Z2 Y0.Me).getD Y1.toNat default).getD 1 default).toNat) [.f .f32 ((Ze Y0 Y1 Y4).X), .f .f32 ((Ze Y0 Y1 Y4).Y), .f .f32 ((Ze Y0 Y1 Y4).Z)]).length from (by simpa using XC (c:=Gv.c) (l:=((Y4.set ((((Z2 Y0.Me).getD Y1.toNat default).getD 0 default).toNat) (Za Y0 Y1 Y4)).set ((((Z2 Y0.Me).getD Y1.toNat default).getD 1 default).toNat) (Ze Y0 Y1 Y4))) (i:=(((Z2 Y0.Me).getD Y1.toNat default).getD 2 default)) Y1I Y1J)) <| sE (show (((Y4.map Gv.c).set ((((Z2 Y0.Me).getD Y1.toNat default).getD 0 default).toNat) [.f .f32 ((Za Y0 Y1 Y4).X), .f .f32 ((Za Y0 Y1 Y4).Y), .f .f32 ((Za Y0 Y1 Y4).Z)]).set ((((Z2 Y0.Me).getD Y1.toNat default).getD 1 default).toNat) [.f .f32 ((Ze Y0 Y1 Y4).X), .f .f32 ((Ze Y0 Y1 Y4).Y), .f .f32 ((Ze Y0 Y1 Y4).Z)])[(((Z2 Y0.Me).getD Y1.toNat default).getD 2 default).toNat]? = some [.f .f32 ((((Y4.set ((((Z2 Y0.Me).getD Y1.toNat default).getD 0 default).toNat) (Za Y0 Y1 Y4)).set ((((Z2 Y0.Me).getD Y1.toNat default).getD 1 default).toNat) (Ze Y0 Y1 Y4)).getD ((((Z2 Y0.Me).getD Y1.toNat default).getD 2 default).toNat) default).X), .f .f32 ((((Y4.set ((((Z2 Y0.Me).getD Y1.toNat default).getD 0 default).toNat) (Za Y0 Y1 Y4)).set ((((Z2 Y0.Me).getD Y1.toNat default).getD 1 default).toNat) (Ze Y0 Y1 Y4)).getD ((((Z2 Y0.Me).getD Y1.toNat default).getD 2 default).toNat) default).Y), .f .f32 ((((Y4.set ((((Z2 Y0.Me).getD Y1.toNat default).getD 0 default).toNat) (Za Y0 Y1 Y4)).set ((((Z2 Y0.Me).getD Y1.toNat default).getD 1 default).toNat) (Ze Y0 Y1 Y4)).getD ((((Z2 Y0.Me).getD Y1.toNat default).getD 2 default).toNat) default).Z)] from (by have q:=X1s (c:=Gv.c) (l:=((Y4.set ((((Z2 Y0.Me).getD Y1.toNat default).getD 0 default).toNat) (Za Y0 Y1 Y4)).set ((((Z2 Y0.Me).getD Y1.toNat default).getD 1 default).toNat) (Ze Y0 Y1 Y4))) (k:=(((Z2 Y0.Me).getD Y1.toNat default).getD 2 default).toNat) Y1K; (simp only [List.map_set,List.map_append,List.map_cons,List.map_nil,List.map_replicate] at q; exact q))) <| sF (Z3o (ZY Y0.Me ((Z2 Y0.Me).getD Y1.toNat default)) (fneg .f32 Y0.Bend)) <| sF (Z3A (((Y4.set ((((Z2 Y0.Me).getD Y1.toNat default).getD 0 default).toNat) (Za Y0 Y1 Y4)).set ((((Z2 Y0.Me).getD Y1.toNat default).getD 1 default).toNat) (Ze Y0 Y1 Y4)).getD ((((Z2 Y0.Me).getD Y1.toNat default).getD 2 default).toNat) default) (Zr (ZY Y0.Me ((Z2 Y0.Me).getD Y1.toNat default)) (fneg .f32 Y0.Bend))) <| sC (show 0≤(((Z2 Y0.Me).getD Y1.toNat default).getD 2 default)∧Int.toNat (((Z2 Y0.Me).getD Y1.toNat default).getD 2 default) < (((Y4.map Gv.c).set ((((Z2 Y0.Me).getD Y1.toNat default).getD 0 default).toNat) [.f .f32 ((Za Y0 Y1 Y4).X), .f .f32 ((Za Y0 Y1 Y4).Y), .f .f32 ((Za Y0 Y1 Y4).Z)]).set ((((Z2 Y0.Me).getD Y1.toNat default).getD 1 default).toNat) [.f .f32 ((Ze Y0 Y1 Y4).X), .f .f32 ((Ze Y0 Y1 Y4).Y), .f .f32 ((Ze Y0 Y1 Y4).Z)]).length from (by simpa using XC (c:=Gv.c) (l:=((Y4.set ((((Z2 Y0.Me).getD Y1.toNat default).getD 0 default).toNat) (Za Y0 Y1 Y4)).set ((((Z2 Y0.Me).getD Y1.toNat default).getD 1 default).toNat) (Ze Y0 Y1 Y4))) (i:=(((Z2 Y0.Me).getD Y1.toNat default).getD 2 default)) Y1I Y1J)) <| sC (show (((Z2 Y0.Me).getD Y1.toNat default).getD 2 default).toNat < (((Y4.map Gv.c).set ((((Z2 Y0.Me).getD Y1.toNat default).getD 0 default).toNat) [.f .f32 ((Za Y0 Y1 Y4).X), .f .f32 ((Za Y0 Y1 Y4).Y), .f .f32 ((Za Y0 Y1 Y4).Z)]).set ((((Z2 Y0.Me).getD Y1.toNat default).getD 1 default).toNat) [.f .f32 ((Ze Y0 Y1 Y4).X), .f .f32 ((Ze Y0 Y1 Y4).Y), .f .f32 ((Ze Y0 Y1 Y4).Z)]).length from (by simpa using Y1K)) <| sK [18,18] <| sC (Xz (c:=(cI .i64)) (l:=(Z2 Y0.Me)) (j:=Y1.toNat) (i:=3) Y1L Y1M) <| sE (Xy (c:=(cI .i64)) (l:=(Z2 Y0.Me)) (j:=Y1.toNat) (k:=3) Y1N) <| sC (Xz (c:=(cI .i64)) (l:=(Z2 Y0.Me)) (j:=Y1.toNat) (i:=3) Y1L Y1M) <| sE (Xy (c:=(cI .i64)) (l:=(Z2 Y0.Me)) (j:=Y1.toNat) (k:=3) Y1N) <| sC (show 0≤(((Z2 Y0.Me).getD Y1.toNat default).getD 3 default)∧Int.toNat (((Z2 Y0.Me).getD Y1.toNat default).getD 3 default) < ((((Y4.map Gv.c).set ((((Z2 Y0.Me).getD Y1.toNat default).getD 0 default).toNat) [.f .f32 ((Za Y0 Y1 Y4).X), .f .f32 ((Za Y0 Y1 Y4).Y), .f .f32 ((Za Y0 Y1 Y4).Z)]).set ((((Z2 Y0.Me).getD Y1.toNat default).getD 1 default).toNat) [.f .f32 ((Ze Y0 Y1 Y4).X), .f .f32 ((Ze Y0 Y1 Y4).Y), .f .f32 ((Ze Y0 Y1 Y4).Z)]).set ((((Z2 Y0.Me).getD Y1.toNat default).getD 2 default).toNat) [.f .f32 ((Zl Y0 Y1 Y4).X), .f .f32 ((Zl Y0 Y1 Y4).Y), .f .f32 ((Zl Y0 Y1 Y4).Z)]).length from (by simpa using XC (c:=Gv.c) (l:=(((Y4.set ((((Z2 Y0.Me).getD Y1.toNat default).getD 0 default).toNat) (Za Y0 Y1 Y4)).set ((((Z2 Y0.Me).getD Y1.toNat default).getD 1 default).toNat) (Ze Y0 Y1 Y4)).set ((((Z2 Y0.Me).getD Y1.toNat default).getD 2 default).toNat) (Zl Y0 Y1 Y4))) (i:=(((Z2 Y0.Me).getD Y1.toNat default).getD 3 default)) Y1O Y1P)) <| sE (show ((((Y4.map Gv.c).set ((((Z2 Y0.Me).getD Y1.toNat default).getD 0 default).toNat) [.f .f32 ((Za Y0 Y1 Y4).X), .f .f32 ((Za Y0 Y1 Y4).Y), .f .f32 ((Za Y0 Y1 Y4).Z)]).set ((((Z2 Y0.Me).getD Y1.toNat default).getD 1 default).toNat) [.f .f32 ((Ze Y0 Y1 Y4).X), .f .f32 ((Ze Y0 Y1 Y4).Y), .f .f32 ((Ze Y0 Y1 Y4).Z)]).set ((((Z2 Y0.Me).getD Y1.toNat default).getD 2 default).toNat) [.f .f32 ((Zl Y0 Y1 Y4).X), .f .f32 ((Zl Y0 Y1 Y4).Y), .f .f32 ((Zl Y0 Y1 Y4).Z)])[(((Z2 Y0.Me).getD Y1.toNat default).getD 3 default).toNat]? = some [.f .f32 (((((Y4.set ((((Z2 Y0.Me).getD Y1.toNat default).getD 0 default).toNat) (Za Y0 Y1 Y4)).set ((((Z2 Y0.Me).getD Y1.toNat default).getD 1 default).toNat) (Ze Y0 Y1 Y4)).set ((((Z2 Y0.Me).getD Y1.toNat default).getD 2 default).toNat) (Zl Y0 Y1 Y4)).getD ((((Z2 Y0.Me).getD Y1.toNat default).getD 3 default).toNat) default).X), .f .f32 (((((Y4.set ((((Z2 Y0.Me).getD Y1.toNat default).getD 0 default).toNat) (Za Y0 Y1 Y4)).set ((((Z2 Y0.Me).getD Y1.toNat default).getD 1 default).toNat) (Ze Y0 Y1 Y4)).set ((((Z2 Y0.Me).getD Y1.toNat default).getD 2 default).toNat) (Zl Y0 Y1 Y4)).getD ((((Z2 Y0.Me).getD Y1.toNat default).getD 3 default).toNat) default).Y), .f .f32 (((((Y4.set ((((Z2 Y0.Me).getD Y1.toNat default).getD 0 default).toNat) (Za Y0 Y1 Y4)).set ((((Z2 Y0.Me).getD Y1.toNat default).getD 1 default).toNat) (Ze Y0 Y1 Y4)).set ((((Z2 Y0.Me).getD Y1.toNat default).getD 2 default).toNat) (Zl Y0 Y1 Y4)).getD ((((Z2 Y0.Me).getD Y1.toNat default).getD 3 default).toNat) default).Z)] from (by have q:=X1s (c:=Gv.c) (l:=(((Y4.set ((((Z2 Y0.Me).getD Y1.toNat default).getD 0 default).toNat) (Za Y0 Y1 Y4)).set ((((Z2 Y0.Me).getD Y1.toNat default).getD 1 default).toNat) (Ze Y0 Y1 Y4)).set ((((Z2 Y0.Me).getD Y1.toNat default).getD 2 default).toNat) (Zl Y0 Y1 Y4))) (k:=(((Z2 Y0.Me).getD Y1.toNat default).getD 3 default).toNat) Y1Q; (simp only [List.map_set,List.map_append,List.map_cons,List.map_nil,List.map_replicate] at q; exact q))) <| sF (Z3o (ZY Y0.Me ((Z2 Y0.Me).getD Y1.toNat default)) (fneg .f32 Y0.Bend)) <| sF (Z3A ((((Y4.set ((((Z2 Y0.Me).getD Y1.toNat default).getD 0 default).toNat) (Za Y0 Y1 Y4)).set ((((Z2 Y0.Me).getD Y1.toNat default).getD 1 default).toNat) (Ze Y0 Y1 Y4)).set ((((Z2 Y0.Me).getD Y1.toNat default).getD 2 default).toNat) (Zl Y0 Y1 Y4)).getD ((((Z2 Y0.Me).getD Y1.toNat default).getD 3 default).toNat) default) (Zr (ZY Y0.Me ((Z2 Y0.Me).getD Y1.toNat default)) (fneg .f32 Y0.Bend))) <| sC (show 0≤(((Z2 Y0.Me).getD Y1.toNat default).getD 3 default)∧Int.toNat (((Z2 Y0.Me).getD Y1.toNat default).getD 3 default) < ((((Y4.map Gv.c).set ((((Z2 Y0.Me).getD Y1.toNat default).getD 0 default).toNat) [.f .f32 ((Za Y0 Y1 Y4).X), .f .f32 ((Za Y0 Y1 Y4).Y), .f .f32 ((Za Y0 Y1 Y4).Z)]).set ((((Z2 Y0.Me).getD Y1.toNat default).getD 1 default).toNat) [.f .f32 ((Ze Y0 Y1 Y4).X), .f .f32 ((Ze Y0 Y1 Y4).Y), .f .f32 ((Ze Y0 Y1 Y4).Z)]).set ((((Z2 Y0.Me).getD Y1.toNat default).getD 2 default).toNat) [.f .f32 ((Zl Y0 Y1 Y4).X), .f .f32 ((Zl Y0 Y1 Y4).Y), .f .f32 ((Zl Y0 Y1 Y4).Z)]).length from (by simpa using XC (c:=Gv.c) (l:=(((Y4.set ((((Z2 Y0.Me).getD Y1.toNat default).getD 0 default).toNat) (Za Y0 Y1 Y4)).set ((((Z2 Y0.Me).getD Y1.toNat default).getD 1 default).toNat) (Ze Y0 Y1 Y4)).set ((((Z2 Y0.Me).getD Y1.toNat default).getD 2 default).toNat) (Zl Y0 Y1 Y4))) (i:=(((Z2 Y0.Me).getD Y1.toNat default).getD 3 default)) Y1O Y1P)) <| sC (show (((Z2 Y0.Me).getD Y1.toNat default).getD 3 default).toNat < ((((Y4.map Gv.c).set ((((Z2 Y0.Me).getD Y1.toNat default).getD 0 default).toNat) [.f .f32 ((Za Y0 Y1 Y4).X), .f .f32 ((Za Y0 Y1 Y4).Y), .f .f32 ((Za Y0 Y1 Y4).Z)]).set ((((Z2 Y0.Me).getD Y1.toNat default).getD 1 default).toNat) [.f .f32 ((Ze Y0 Y1 Y4).X), .f .f32 ((Ze Y0 Y1 Y4).Y), .f .f32 ((Ze Y0 Y1 Y4).Z)]).set ((((Z2 Y0.Me).getD Y1.toNat default).getD 2 default).toNat) [.f .f32 ((Zl Y0 Y1 Y4).X), .f .f32 ((Zl Y0 Y1 Y4).Y), .f .f32 ((Zl Y0 Y1 Y4).Z)]).length from (by simpa using Y1Q)) <| sI (Y1 + 1) Y1T Y1U <| sN) (by kernel_rfl) (by simp [Z9R,List.map_set,Gv.c]) (ih (Y1 + 1) ((((Y4.set ((((Z2 Y0.Me).getD Y1.toNat default).getD 0 default).toNat) (Za Y0 Y1 Y4)).set ((((Z2 Y0.Me).getD Y1.toNat default).getD 1 default).toNat) (Ze Y0 Y1 Y4)).set ((((Z2 Y0.Me).getD Y1.toNat default).getD 2 default).toNat) (Zl Y0 Y1 Y4)).set ((((Z2 Y0.Me).getD Y1.toNat default).getD 3 default).toNat) (Z30 Y0 Y1 Y4)) (show 0≤(Y1 + 1) from (by omega)) (show ((((Y4.set ((((Z2 Y0.Me).getD Y1.toNat default).getD 0 default).toNat) (Za Y0 Y1 Y4)).set ((((Z2 Y0.Me).getD Y1.toNat default).getD 1 default).toNat) (Ze Y0 Y1 Y4)).set ((((Z2 Y0.Me).getD Y1.toNat default).getD 2 default).toNat) (Zl Y0 Y1 Y4)).set ((((Z2 Y0.Me).getD Y1.toNat default).getD 3 default).toNat) (Z30 Y0 Y1 Y4)).length=Y0.Me.Pq.length from (by (have q:=Z3Y _ hp5.e; (have q:=Okh.at (hin4 hp5.e (by assumption) Yn); (simp only [List.length_set]; omega))))) (by omega))
  | false =>
   have YM:=odf Yn
   have e:Z1c Y0 (k + 1) Y1 Y4=Y4:=by simp only [Z1c,Yn,cond_false]
   rw [e]
   exact outR (e:=(.exit 6)) E0Ok Z4 [] ZcE [0,1] (sB Yn <| sN) (by kernel_rfl) (by intro h; cases h)
theorem ZcF (Y0:Gb):∀ (k:Nat) (Y1:Int) (Y4:(List Gv)) (hk:(((Z2 Y0.Me).length:Int) - Y1).toNat < k),(Z1c Y0 k Y1 Y4).length=Y4.length:=by
  intro k
  induction k with
  | zero => intro Y1 Y4 hk; exact absurd hk (Nat.not_lt_zero _)
  | succ k ih =>
    intro Y1 Y4 hk
    cases Yn:(decide (Y1 < ((Z2 Y0.Me).length:Int))) with
    | true =>
      have e:Z1c Y0 (k + 1) Y1 Y4=(Z1c Y0 k (Y1 + 1) ((((Y4.set ((((Z2 Y0.Me).getD Y1.toNat default).getD 0 default).toNat) (Za Y0 Y1 Y4)).set ((((Z2 Y0.Me).getD Y1.toNat default).getD 1 default).toNat) (Ze Y0 Y1 Y4)).set ((((Z2 Y0.Me).getD Y1.toNat default).getD 2 default).toNat) (Zl Y0 Y1 Y4)).set ((((Z2 Y0.Me).getD Y1.toNat default).getD 3 default).toNat) (Z30 Y0 Y1 Y4))):=by simp only [Z1c,Yn,cond_true]
      rw [e,ih (Y1 + 1) ((((Y4.set ((((Z2 Y0.Me).getD Y1.toNat default).getD 0 default).toNat) (Za Y0 Y1 Y4)).set ((((Z2 Y0.Me).getD Y1.toNat default).getD 1 default).toNat) (Ze Y0 Y1 Y4)).set ((((Z2 Y0.Me).getD Y1.toNat default).getD 2 default).toNat) (Zl Y0 Y1 Y4)).set ((((Z2 Y0.Me).getD Y1.toNat default).getD 3 default).toNat) (Z30 Y0 Y1 Y4)) (by simp_all <;> omega)]; simp
    | false =>
      have e:Z1c Y0 (k + 1) Y1 Y4=Y4:=by simp only [Z1c,Yn,cond_false]
      first | (rw [e]; done) | (rw [e]; rfl)
def Z3l (Y0:Gb):(List Gv):=(Z1c Y0 ((((Z2 Y0.Me).length:Int) - 0).toNat + 1) 0 (Z3k Y0))
@[simp] theorem ZgJ (Y0:Gb):(Z3l Y0).length=((Z3k Y0):(List Gv)).length:=ZcF Y0 ((((Z2 Y0.Me).length:Int) - 0).toNat + 1) 0 (Z3k Y0) (by exact Nat.lt_succ_self _)
def Z1d (Y0:Gb):Nat→Int→(List Gv)→(List Gv)
  | 0,_,_ => default
  | k + 1,Y1,Y4 => (cond (decide (Y1 < (Y0.Me.Pq.length:Int)))
    (Z1d Y0 k (Y1 + 1) (Y4.set Y1.toNat (ZI (Y4.getD Y1.toNat default) (Zr Y0.Fall (Y0.We.getD Y1.toNat default)))))
    Y4)
def Z6Z (Y0:Gb) (r:(List Gv)):Ex × St:=((.exit 8),⟨.ref (Gb.c Y0) 0 :: .any :: .nils :: .ref (Gb.c Y0) 0 :: .own 0 :: an 10 (.own 1 :: an 4 (.ref (Gb.c Y0) 0 :: .ref (Gb.c Y0) 0 :: .ref (Gb.c Y0) 0 :: .ref (Gb.c Y0) 0 :: .ref (Gb.c Y0) 0 :: .ref (Gb.c Y0) 0 :: .sl (Y0.Me.Pq.map Gv.c) :: .i .i64 (Y0.Me.Pq.length:Int) :: .own 0 :: .ref (Gb.c Y0) 0 :: .ref (Gb.c Y0) 0 :: .ref (Gb.c Y0) 2 :: .sl (Y0.Sp.map Gs.c) :: an 52 (.ref (Gb.c Y0) 0 :: .ref (Gb.c Y0) 0 :: .ref (Gb.c Y0) 1 :: .sl (Y0.Me.Tr.map (cL (cI .i64))) :: an 72 (.ref (Gb.c Y0) 0 :: .own 1 :: .own 1 :: an 86 (.ref (Gb.c Y0) 0 :: .ref (Gb.c Y0) 0 :: .ref (Gb.c Y0) 0 :: .sl (Y0.Me.Pq.map Gv.c) :: an 26 []))))),[.vec 40 3 (r.map Gv.c) false, .nest 49 ((Z2 Y0.Me).map fun l => l.map (cI .i64)) false]⟩)
def Z9S (Y0:Gb) (Y1:Int) (Y4:(List Gv)):St:=⟨.ref (Gb.c Y0) 0 :: .any :: .nils :: .ref (Gb.c Y0) 0 :: .own 0 :: an 10 (.own 1 :: an 4 (.ref (Gb.c Y0) 0 :: .ref (Gb.c Y0) 0 :: .ref (Gb.c Y0) 0 :: .ref (Gb.c Y0) 0 :: .ref (Gb.c Y0) 0 :: .ref (Gb.c Y0) 0 :: .sl (Y0.Me.Pq.map Gv.c) :: .i .i64 (Y0.Me.Pq.length:Int) :: .own 0 :: .ref (Gb.c Y0) 0 :: .ref (Gb.c Y0) 0 :: .ref (Gb.c Y0) 2 :: .sl (Y0.Sp.map Gs.c) :: an 52 (.ref (Gb.c Y0) 0 :: .ref (Gb.c Y0) 0 :: .ref (Gb.c Y0) 1 :: .sl (Y0.Me.Tr.map (cL (cI .i64))) :: an 72 (.ref (Gb.c Y0) 0 :: .own 1 :: .own 1 :: an 86 (.ref (Gb.c Y0) 0 :: .ref (Gb.c Y0) 0 :: .ref (Gb.c Y0) 0 :: .sl (Y0.Me.Pq.map Gv.c) :: .i .i64 (Y0.Me.Pq.length:Int) :: .i .i64 Y1 :: an 24 []))))),[.vec 40 3 (Y4.map Gv.c) false, .nest 49 ((Z2 Y0.Me).map fun l => l.map (cI .i64)) false]⟩
def Z8G:List Bool:=(mR false [0,1,1,3,10,1,4,13,52,4,72,3,86,6,24])
def ZcG:List Bool:=(mR false [0,1,1,3,10,1,4,13,52,4,72,3,86,4,26])
theorem ZdN (Y0:Gb) (hp0:Y0.Me.Pq.length≤1073741824) (hp1:Y0.Me.Tr.length≤1073741824) (hp2:∀ t∈Y0.Me.Tr,t.length≤1073741824) (hp3:Y0.Sp.length≤1073741824) (hp4:Y0.We.length≤1073741824) (hp5:OkBd Y0):∀ (k:Nat) (Y1:Int) (Y4:(List Gv)) (Z8H:0≤Y1) (Z8I:Y4.length=Y0.Me.Pq.length) (hk:((Y0.Me.Pq.length:Int) - Y1).toNat < k),Lp prog 0 (sub (X0 f51) [1,1,1,1,1,1,1,0,1,0,0]) (Z9S Y0 Y1 Y4) (Z6Z Y0 (Z1d Y0 k Y1 Y4)).1 (Z6Z Y0 (Z1d Y0 k Y1 Y4)).2:=by
 intro k
 induction k with
 | zero => intro Y1 Y4 Z8H Z8I hk; exact absurd hk (Nat.not_lt_zero _)
 | succ k ih =>
  intro Y1 Y4 Z8H Z8I hk
  cases Yn:(decide (Y1 < (Y0.Me.Pq.length:Int))) with
  | true =>
   have YM:=odt Yn
   have YS:(0:Int)≤Y1:=(by assumption)
   have YT:Y1 < (Y4.length:Int):=(by omega)
   have YY:Y1.toNat < Y4.length:=(by omega)
   have YZ:Y1 < (Y0.We.length:Int):=(by have q:=hp5.w; omega)
   have y_4:(-9223372036854775808:Int)≤(Y1 + 1):=(by omega)
   have y_5:(Y1 + 1)≤(9223372036854775807:Int):=(by omega)
   have e:Z1d Y0 (k + 1) Y1 Y4=(Z1d Y0 k (Y1 + 1) (Y4.set Y1.toNat (ZI (Y4.getD Y1.toNat default) (Zr Y0.Fall (Y0.We.getD Y1.toNat default))))):=by simp only [Z1d,Yn,cond_true]
   rw [e]
   exact X8 E0Ok Z4 [] Z8G [0,1] (⟨.ref (Gb.c Y0) 0 :: .any :: .nils :: .ref (Gb.c Y0) 0 :: .own 0 :: an 10 (.own 1 :: an 4 (.ref (Gb.c Y0) 0 :: .ref (Gb.c Y0) 0 :: .ref (Gb.c Y0) 0 :: .ref (Gb.c Y0) 0 :: .ref (Gb.c Y0) 0 :: .ref (Gb.c Y0) 0 :: .sl (Y0.Me.Pq.map Gv.c) :: .i .i64 (Y0.Me.Pq.length:Int) :: .own 0 :: .ref (Gb.c Y0) 0 :: .ref (Gb.c Y0) 0 :: .ref (Gb.c Y0) 2 :: .sl (Y0.Sp.map Gs.c) :: an 52 (.ref (Gb.c Y0) 0 :: .ref (Gb.c Y0) 0 :: .ref (Gb.c Y0) 1 :: .sl (Y0.Me.Tr.map (cL (cI .i64))) :: an 72 (.ref (Gb.c Y0) 0 :: .own 1 :: .own 1 :: an 86 (.ref (Gb.c Y0) 0 :: .ref (Gb.c Y0) 0 :: .ref (Gb.c Y0) 0 :: .sl (Y0.Me.Pq.map Gv.c) :: .i .i64 (Y0.Me.Pq.length:Int) :: .i .i64 (Y1 + 1) :: an 24 []))))),[.vec 40 3 ((Y4.map Gv.c).set Y1.toNat [.f .f32 ((ZI (Y4.getD Y1.toNat default) (Zr Y0.Fall (Y0.We.getD Y1.toNat default))).X), .f .f32 ((ZI (Y4.getD Y1.toNat default) (Zr Y0.Fall (Y0.We.getD Y1.toNat default))).Y), .f .f32 ((ZI (Y4.getD Y1.toNat default) (Zr Y0.Fall (Y0.We.getD Y1.toNat default))).Z)]) false, .nest 49 ((Z2 Y0.Me).map fun l => l.map (cI .i64)) false]⟩) (sB Yn <| sK [19,19] <| sX Gv.c Y4 Y1 YS YT <| sV Gv.c Y4 Y1.toNat YY <| sG (cF .f32) Y0.We Y1 YS YZ <| sF (Z3o Y0.Fall (Y0.We.getD Y1.toNat default)) <| sF (Z3A (Y4.getD Y1.toNat default) (Zr Y0.Fall (Y0.We.getD Y1.toNat default))) <| sX Gv.c Y4 Y1 YS YT <| sC (Xn (c:=Gv.c) (l:=Y4) YY) <| sI (Y1 + 1) y_4 y_5 <| sN) (by kernel_rfl) (by simp [Z9S,List.map_set,Gv.c]) (ih (Y1 + 1) (Y4.set Y1.toNat (ZI (Y4.getD Y1.toNat default) (Zr Y0.Fall (Y0.We.getD Y1.toNat default)))) (show 0≤(Y1 + 1) from (by omega)) (show (Y4.set Y1.toNat (ZI (Y4.getD Y1.toNat default) (Zr Y0.Fall (Y0.We.getD Y1.toNat default)))).length=Y0.Me.Pq.length from (by simp_all <;> omega)) (by omega))
  | false =>
   have YM:=odf Yn
   have e:Z1d Y0 (k + 1) Y1 Y4=Y4:=by simp only [Z1d,Yn,cond_false]
   rw [e]
   exact outR (e:=(.exit 8)) E0Ok Z4 [] ZcG [0,1] (sB Yn <| sN) (by kernel_rfl) (by intro h; cases h)
theorem ZcH (Y0:Gb):∀ (k:Nat) (Y1:Int) (Y4:(List Gv)) (hk:((Y0.Me.Pq.length:Int) - Y1).toNat < k),(Z1d Y0 k Y1 Y4).length=Y4.length:=by
  intro k
  induction k with
  | zero => intro Y1 Y4 hk; exact absurd hk (Nat.not_lt_zero _)
  | succ k ih =>
    intro Y1 Y4 hk
    cases Yn:(decide (Y1 < (Y0.Me.Pq.length:Int))) with
    | true =>
      have e:Z1d Y0 (k + 1) Y1 Y4=(Z1d Y0 k (Y1 + 1) (Y4.set Y1.toNat (ZI (Y4.getD Y1.toNat default) (Zr Y0.Fall (Y0.We.getD Y1.toNat default))))):=by simp only [Z1d,Yn,cond_true]
      rw [e,ih (Y1 + 1) (Y4.set Y1.toNat (ZI (Y4.getD Y1.toNat default) (Zr Y0.Fall (Y0.We.getD Y1.toNat default)))) (by simp_all <;> omega)]; simp
    | false =>
      have e:Z1d Y0 (k + 1) Y1 Y4=Y4:=by simp only [Z1d,Yn,cond_false]
      first | (rw [e]; done) | (rw [e]; rfl)
def Z4s (Y0:Gb):(List Gv):=(Z1d Y0 (((Y0.Me.Pq.length:Int) - 0).toNat + 1) 0 (Z3l Y0))
@[simp] theorem ZgK (Y0:Gb):(Z4s Y0).length=((Z3l Y0):(List Gv)).length:=ZcH Y0 (((Y0.Me.Pq.length:Int) - 0).toNat + 1) 0 (Z3l Y0) (by exact Nat.lt_succ_self _)
def Z3d (Y0:Gb):(List Gv):=(Z4s Y0)
@[simp] theorem ZhD (Y0:Gb):(Z3d Y0).length=Y0.Me.Pq.length:=by
  first | (simp [Z3d]; done)
theorem ZfA (Y0:Gb) (hp0:Y0.Me.Pq.length≤1073741824) (hp1:Y0.Me.Tr.length≤1073741824) (hp2:∀ t∈Y0.Me.Tr,t.length≤1073741824) (hp3:Y0.Sp.length≤1073741824) (hp4:Y0.We.length≤1073741824) (hp5:OkBd Y0)  : Fn prog 51 [.ref (Gb.c Y0) 0] (.own 0) [.vec 40 3 ((Z3d Y0).map Gv.c) false]:=by
 have y0:(0:Int)≤(Y0.Me.Pq.length:Int):=(by omega)
 have y1:((Y0.Me.Pq.length:Int):Int)≤2147483648:=(by omega)
 have y2:OkE Y0.Me.Pq.length Y0.Me.Tr:=(by exact hp5.e)
 refine fnS E0Ok Z4 (c:=X0 f51) [] (.own 0) [.vec 40 3 ((Z4s Y0).map Gv.c) false] func51 (sZ Gv.c Y0.Me.Pq <| sC (show (Y0.Me.Pq.length:Int)=(Y0.Me.Pq.length:Int) from rfl) <| sC y0 <| sC y1 <| sZ Gs.c Y0.Sp <| sL (mR false [0,1,1,3,15,15,245]) 1 (Xj (st2:=⟨.ref (Gb.c Y0) 0 :: .any :: .nils :: .ref (Gb.c Y0) 0 :: .own 0 :: an 15 (.ref (Gb.c Y0) 0 :: .ref (Gb.c Y0) 0 :: .ref (Gb.c Y0) 0 :: .ref (Gb.c Y0) 0 :: .ref (Gb.c Y0) 0 :: .ref (Gb.c Y0) 0 :: .sl (Y0.Me.Pq.map Gv.c) :: .i .i64 (Y0.Me.Pq.length:Int) :: .own 0 :: .ref (Gb.c Y0) 0 :: .ref (Gb.c Y0) 0 :: .ref (Gb.c Y0) 2 :: .sl (Y0.Sp.map Gs.c) :: .i .i64 (Y0.Sp.length:Int) :: .i .i64 0 :: an 245 []),[.vec 40 3 (List.replicate (Int.toNat (Y0.Me.Pq.length:Int)) [.f .f32 0, .f .f32 0, .f .f32 0]) false]⟩) (X1 (Z6T Y0) (x:=(Z3j Y0)) (ZdI Y0 hp0 hp1 hp2 hp3 hp4 hp5 (((Y0.Sp.length:Int) - 0).toNat + 1) 0 (List.replicate (Y0.Me.Pq.length:Int).toNat (⟨0,0,0⟩:Gv)) (show 0≤0 from (by omega)) (show (List.replicate (Y0.Me.Pq.length:Int).toNat (⟨0,0,0⟩:Gv)).length=Y0.Me.Pq.length from (by simp; done)) (Nat.lt_succ_self _)) rfl) (by simp [Z6U,Gv.c])) <| sZ (cL (cI .i64)) Y0.Me.Tr <| sL Z8C 1 (X1 (Z6X Y0) (x:=(Z3k Y0)) (ZdL Y0 hp0 hp1 hp2 hp3 hp4 hp5 (((Y0.Me.Tr.length:Int) - 0).toNat + 1) 0 (Z3j Y0) (show 0≤0 from (by omega)) (show (Z3j Y0).length=Y0.Me.Pq.length from (by simp; done)) (Nat.lt_succ_self _)) rfl) <| sF (Fn.sub (args:=[.ref (Gb.c Y0) 0]) (r := .own 0) (new:=[.nest 49 ((Z2 Y0.Me).map fun l => l.map (cI .i64)) false]) [some 2] (ZbM Y0.Me hp0 hp1 hp2 y2)) <| sM (X28 (l:=(Z2 Y0.Me)) (f:=fun l => l.map (cI .i64))) <| sL Z8D 2 (X1 (Z6Y Y0) (x:=(Z3l Y0)) (ZdM Y0 hp0 hp1 hp2 hp3 hp4 hp5 ((((Z2 Y0.Me).length:Int) - 0).toNat + 1) 0 (Z3k Y0) (show 0≤0 from (by omega)) (show (Z3k Y0).length=Y0.Me.Pq.length from (by simp; done)) (Nat.lt_succ_self _)) rfl) <| sZ Gv.c Y0.Me.Pq <| sL Z8G 2 (X1 (Z6Z Y0) (x:=(Z4s Y0)) (ZdN Y0 hp0 hp1 hp2 hp3 hp4 hp5 (((Y0.Me.Pq.length:Int) - 0).toNat + 1) 0 (Z3l Y0) (show 0≤0 from (by omega)) (show (Z3l Y0).length=Y0.Me.Pq.length from (by simp; done)) (Nat.lt_succ_self _)) rfl) <| sK [0] sN) rfl (by kernel_rfl) (by kernel_rfl) rfl ?_ ?_
 · rfl
 · simp [Z3d]
def Z1M (Ya:Gb) (Y2:(List Int)):Nat→Int→(List Gv)→(List Gv)
  | 0,_,_ => default
  | k + 1,Y1,Y4 => (cond (decide (Y1 < (Y2.length:Int)))
    (Z1M Ya Y2 k (Y1 + 1) (Y4.set ((Y2.getD Y1.toNat default).toNat) (⟨0,0,0⟩:Gv)))
    Y4)
def Z7V (Ya:Gb) (Y2:(List Int)) (r:(List Gv)):Ex × St:=((.exit 0),⟨.ref (Gb.c Ya) 0 :: .sl (Y2.map (cI .i64)) :: .any :: .any :: .nils :: .own 0 :: .any :: .ref (Gb.c Ya) 0 :: .own 0 :: .sl (Y2.map (cI .i64)) :: an 13 [],[.vec 40 3 (r.map Gv.c) false]⟩)
def Zbe (Ya:Gb) (Y2:(List Int)) (Y1:Int) (Y4:(List Gv)):St:=⟨.ref (Gb.c Ya) 0 :: .sl (Y2.map (cI .i64)) :: .any :: .any :: .nils :: .own 0 :: .any :: .ref (Gb.c Ya) 0 :: .own 0 :: .sl (Y2.map (cI .i64)) :: .i .i64 (Y2.length:Int) :: .i .i64 Y1 :: an 11 [],[.vec 40 3 (Y4.map Gv.c) false]⟩
theorem Zf2 (Ya:Gb) (Y2:(List Int)) (hp0:Ya.Me.Pq.length≤1073741824) (hp1:Ya.Me.Tr.length≤1073741824) (hp2:∀ t∈Ya.Me.Tr,t.length≤1073741824) (hp3:Ya.Sp.length≤1073741824) (hp4:Ya.We.length≤1073741824) (hp5:Y2.length≤1073741824) (hp6:OkBd Ya) (hp7:OkIx Ya.Me.Pq.length (fun x => x) Y2):∀ (k:Nat) (Y1:Int) (Y4:(List Gv)) (Z9T:0≤Y1) (Z9U:Y4.length=Ya.Me.Pq.length) (hk:((Y2.length:Int) - Y1).toNat < k),Lp prog 0 (sub (X0 f65) [1,1,0,1,0,0]) (Zbe Ya Y2 Y1 Y4) (Z7V Ya Y2 (Z1M Ya Y2 k Y1 Y4)).1 (Z7V Ya Y2 (Z1M Ya Y2 k Y1 Y4)).2:=by
 intro k
 induction k with
 | zero => intro Y1 Y4 Z9T Z9U hk; exact absurd hk (Nat.not_lt_zero _)
 | succ k ih =>
  intro Y1 Y4 Z9T Z9U hk
  cases Yn:(decide (Y1 < (Y2.length:Int))) with
  | true =>
   have YM:=odt Yn
   have YS:(0:Int)≤Y1:=(by assumption)
   have YT:Y1 < (Y2.length:Int):=(by assumption)
   have YY:(0:Int)≤(Y2.getD Y1.toNat default):=(by have q:=OkIx.at hp7 (by assumption) YM; omega)
   have YZ:(Y2.getD Y1.toNat default) < (Y4.length:Int):=(by have q:=OkIx.at hp7 (by assumption) YM; omega)
   have y_4:(Y2.getD Y1.toNat default).toNat < Y4.length:=(by omega)
   have y_5:(-9223372036854775808:Int)≤(Y1 + 1):=(by omega)
   have y_6:(Y1 + 1)≤(9223372036854775807:Int):=(by omega)
   have e:Z1M Ya Y2 (k + 1) Y1 Y4=(Z1M Ya Y2 k (Y1 + 1) (Y4.set ((Y2.getD Y1.toNat default).toNat) (⟨0,0,0⟩:Gv))):=by simp only [Z1M,Yn,cond_true]
   rw [e]
   exact X8 E0Ok Z4 [] (mR false [0,2,2,2,1,5,11]) [0] (⟨.ref (Gb.c Ya) 0 :: .sl (Y2.map (cI .i64)) :: .any :: .any :: .nils :: .own 0 :: .any :: .ref (Gb.c Ya) 0 :: .own 0 :: .sl (Y2.map (cI .i64)) :: .i .i64 (Y2.length:Int) :: .i .i64 (Y1 + 1) :: an 11 [],[.vec 40 3 ((Y4.map Gv.c).set ((Y2.getD Y1.toNat default).toNat) [.f .f32 0, .f .f32 0, .f .f32 0]) false]⟩) (sB Yn <| sG (cI .i64) Y2 Y1 YS YT <| sX Gv.c Y4 (Y2.getD Y1.toNat default) YY YZ <| sC (Xn (c:=Gv.c) (l:=Y4) y_4) <| sI (Y1 + 1) y_5 y_6 <| sN) (by kernel_rfl) (by simp [Zbe,List.map_set,Gv.c]) (ih (Y1 + 1) (Y4.set ((Y2.getD Y1.toNat default).toNat) (⟨0,0,0⟩:Gv)) (show 0≤(Y1 + 1) from (by omega)) (show (Y4.set ((Y2.getD Y1.toNat default).toNat) (⟨0,0,0⟩:Gv)).length=Ya.Me.Pq.length from (by have q:=OkIx.at hp7 (by assumption) YM; (simp only [List.length_set]; omega))) (by omega))
  | false =>
   have YM:=odf Yn
   have e:Z1M Ya Y2 (k + 1) Y1 Y4=Y4:=by simp only [Z1M,Yn,cond_false]
   rw [e]
   exact outR (e:=(.exit 0)) E0Ok Z4 [] (mR false [0,2,2,2,1,3,13]) [0] (sB Yn <| sN) (by kernel_rfl) (by intro h; cases h)
theorem ZdO (Ya:Gb) (Y2:(List Int)):∀ (k:Nat) (Y1:Int) (Y4:(List Gv)) (hk:((Y2.length:Int) - Y1).toNat < k),(Z1M Ya Y2 k Y1 Y4).length=Y4.length:=by
  intro k
  induction k with
  | zero => intro Y1 Y4 hk; exact absurd hk (Nat.not_lt_zero _)
  | succ k ih =>
    intro Y1 Y4 hk
    cases Yn:(decide (Y1 < (Y2.length:Int))) with
    | true =>
      have e:Z1M Ya Y2 (k + 1) Y1 Y4=(Z1M Ya Y2 k (Y1 + 1) (Y4.set ((Y2.getD Y1.toNat default).toNat) (⟨0,0,0⟩:Gv))):=by simp only [Z1M,Yn,cond_true]
      rw [e,ih (Y1 + 1) (Y4.set ((Y2.getD Y1.toNat default).toNat) (⟨0,0,0⟩:Gv)) (by simp_all <;> omega)]; simp
    | false =>
      have e:Z1M Ya Y2 (k + 1) Y1 Y4=Y4:=by simp only [Z1M,Yn,cond_false]
      first | (rw [e]; done) | (rw [e]; rfl)
def Z4K (Ya:Gb) (Y2:(List Int)):(List Gv):=(Z1M Ya Y2 (((Y2.length:Int) - 0).toNat + 1) 0 (Z3d Ya))
@[simp] theorem Zhi (Ya:Gb) (Y2:(List Int)):(Z4K Ya Y2).length=((Z3d Ya):(List Gv)).length:=ZdO Ya Y2 (((Y2.length:Int) - 0).toNat + 1) 0 (Z3d Ya) (by exact Nat.lt_succ_self _)
def Z1K (Ya:Gb) (Y2:(List Int)):(List Gv):=(Z4K Ya Y2)
@[simp] theorem Zd3 (Ya:Gb) (Y2:(List Int)):(Z1K Ya Y2).length=Ya.Me.Pq.length:=by
  first | (simp [Z1K]; done)
theorem Zgr (Ya:Gb) (Y2:(List Int)) (hp0:Ya.Me.Pq.length≤1073741824) (hp1:Ya.Me.Tr.length≤1073741824) (hp2:∀ t∈Ya.Me.Tr,t.length≤1073741824) (hp3:Ya.Sp.length≤1073741824) (hp4:Ya.We.length≤1073741824) (hp5:Y2.length≤1073741824) (hp6:OkBd Ya) (hp7:OkIx Ya.Me.Pq.length (fun x => x) Y2)  : Fn prog 65 [.ref (Gb.c Ya) 0, .sl (Y2.map (cI .i64))] (.own 0) [.vec 40 3 ((Z1K Ya Y2).map Gv.c) false]:=by
 refine fnS E0Ok Z4 (c:=X0 f65) [] (.own 0) [.vec 40 3 ((Z4K Ya Y2).map Gv.c) false] func65 (sF (ZfA Ya hp0 hp1 hp2 hp3 hp4 hp6) <| sZ (cI .i64) Y2 <| sL (mR false [0,2,2,2,1,5,11]) 1 (X1 (Z7V Ya Y2) (x:=(Z4K Ya Y2)) (Zf2 Ya Y2 hp0 hp1 hp2 hp3 hp4 hp5 hp6 hp7 (((Y2.length:Int) - 0).toNat + 1) 0 (Z3d Ya) (show 0≤0 from (by omega)) (show (Z3d Ya).length=Ya.Me.Pq.length from (by simp; done)) (Nat.lt_succ_self _)) rfl) <| sK [0] sN) rfl (by kernel_rfl) (by kernel_rfl) rfl ?_ ?_
 · rfl
 · simp [Z1K]
def Z1o (Ya:Gb) (YH:(List Gv)) (Yp:Nat):Nat→Int→(List Gv)→(List Gv)
  | 0,_,_ => default
  | k + 1,Y1,Yd => (cond (decide (Y1 < (YH.length:Int)))
    (Z1o Ya YH Yp k (Y1 + 1) (Yd.set Y1.toNat (ZI (Ya.Me.Pq.getD Y1.toNat default) (Zr (YH.getD Y1.toNat default) Yp))))
    Yd)
def Z7p (Ya:Gb) (YH:(List Gv)) (Yp:Nat) (r:(List Gv)):Ex × St:=((.exit 0),⟨.ref (Gb.c Ya) 0 :: .sl (YH.map Gv.c) :: an 4 (.ptr 0 0 0 :: .ptr 1 0 0 :: .any :: .ref (Gb.c Ya) 0 :: .agg [.own 2, .own 3, .own 4, .f .f32 Ya.Film, .f .f32 Ya.Bend, .own 5, .f .f32 Ya.Fall.X, .f .f32 Ya.Fall.Y, .f .f32 Ya.Fall.Z] :: .sl (YH.map Gv.c) :: an 26 []),[.box 42 [.nils, .nils, .nils, .f .f32 0, .f .f32 0, .nils, .f .f32 0, .f .f32 0, .f .f32 0], .box 42 [.own 2, .own 3, .own 4, .f .f32 Ya.Film, .f .f32 Ya.Bend, .own 5, .f .f32 Ya.Fall.X, .f .f32 Ya.Fall.Y, .f .f32 Ya.Fall.Z], .vec 40 3 (r.map Gv.c) false, .nest 49 (Ya.Me.Tr.map fun l => l.map (cI .i64)) false, .vec 133 4 (Ya.Sp.map Gs.c) false, .vec 27 1 (Ya.We.map (cF .f32)) false]⟩)
def Zau (Ya:Gb) (YH:(List Gv)) (Yp:Nat) (Y1:Int) (Yd:(List Gv)):St:=⟨.ref (Gb.c Ya) 0 :: .sl (YH.map Gv.c) :: .f .f32 Yp :: .any :: .any :: .any :: .ptr 0 0 0 :: .ptr 5 0 0 :: .any :: .ref (Gb.c Ya) 0 :: .agg [.own 1, .own 2, .own 3, .f .f32 Ya.Film, .f .f32 Ya.Bend, .own 4, .f .f32 Ya.Fall.X, .f .f32 Ya.Fall.Y, .f .f32 Ya.Fall.Z] :: .sl (YH.map Gv.c) :: .i .i64 (YH.length:Int) :: .i .i64 Y1 :: an 24 [],[.box 42 [.nils, .nils, .nils, .f .f32 0, .f .f32 0, .nils, .f .f32 0, .f .f32 0, .f .f32 0], .vec 40 3 (Yd.map Gv.c) false, .nest 49 (Ya.Me.Tr.map fun l => l.map (cI .i64)) false, .vec 133 4 (Ya.Sp.map Gs.c) false, .vec 27 1 (Ya.We.map (cF .f32)) false, .box 42 [.own 1, .own 2, .own 3, .f .f32 Ya.Film, .f .f32 Ya.Bend, .own 4, .f .f32 Ya.Fall.X, .f .f32 Ya.Fall.Y, .f .f32 Ya.Fall.Z]]⟩
theorem Zep (Ya:Gb) (YH:(List Gv)) (Yp:Nat) (hp0:Ya.Me.Pq.length≤1073741824) (hp1:Ya.Me.Tr.length≤1073741824) (hp2:∀ t∈Ya.Me.Tr,t.length≤1073741824) (hp3:Ya.Sp.length≤1073741824) (hp4:Ya.We.length≤1073741824) (hp5:YH.length≤1073741824) (hp6:YH.length≤Ya.Me.Pq.length):∀ (k:Nat) (Y1:Int) (Yd:(List Gv)) (Z9b:0≤Y1) (Z9c:Yd.length=Ya.Me.Pq.length) (hk:((YH.length:Int) - Y1).toNat < k),Lp prog 0 (sub (X0 f122) [1,1,0,1,0,0]) (Zau Ya YH Yp Y1 Yd) (Z7p Ya YH Yp (Z1o Ya YH Yp k Y1 Yd)).1 (Z7p Ya YH Yp (Z1o Ya YH Yp k Y1 Yd)).2:=by
 intro k
 induction k with
 | zero => intro Y1 Yd Z9b Z9c hk; exact absurd hk (Nat.not_lt_zero _)
 | succ k ih =>
  intro Y1 Yd Z9b Z9c hk
  cases Yn:(decide (Y1 < (YH.length:Int))) with
  | true =>
   have YM:=odt Yn
   have YS:(0:Int)≤Y1:=(by assumption)
   have YT:Y1 < (Ya.Me.Pq.length:Int):=(by omega)
   have YY:Y1 < (YH.length:Int):=(by assumption)
   have YZ:Y1 < (Yd.length:Int):=(by omega)
   have y_4:Y1.toNat < Yd.length:=(by omega)
   have y_5:(-9223372036854775808:Int)≤(Y1 + 1):=(by omega)
   have y_6:(Y1 + 1)≤(9223372036854775807:Int):=(by omega)
   have e:Z1o Ya YH Yp (k + 1) Y1 Yd=(Z1o Ya YH Yp k (Y1 + 1) (Yd.set Y1.toNat (ZI (Ya.Me.Pq.getD Y1.toNat default) (Zr (YH.getD Y1.toNat default) Yp)))):=by simp only [Z1o,Yn,cond_true]
   rw [e]
   exact X8 E0Ok Z4 [] (mR false [0,3,3,2,1,5,24]) [0,1,2,3,4,5] (⟨.ref (Gb.c Ya) 0 :: .sl (YH.map Gv.c) :: .f .f32 Yp :: .any :: .any :: .any :: .ptr 0 0 0 :: .ptr 5 0 0 :: .any :: .ref (Gb.c Ya) 0 :: .agg [.own 1, .own 2, .own 3, .f .f32 Ya.Film, .f .f32 Ya.Bend, .own 4, .f .f32 Ya.Fall.X, .f .f32 Ya.Fall.Y, .f .f32 Ya.Fall.Z] :: .sl (YH.map Gv.c) :: .i .i64 (YH.length:Int) :: .i .i64 (Y1 + 1) :: an 24 [],[.box 42 [.nils, .nils, .nils, .f .f32 0, .f .f32 0, .nils, .f .f32 0, .f .f32 0, .f .f32 0], .vec 40 3 ((Yd.map Gv.c).set Y1.toNat [.f .f32 ((ZI (Ya.Me.Pq.getD Y1.toNat default) (Zr (YH.getD Y1.toNat default) Yp)).X), .f .f32 ((ZI (Ya.Me.Pq.getD Y1.toNat default) (Zr (YH.getD Y1.toNat default) Yp)).Y), .f .f32 ((ZI (Ya.Me.Pq.getD Y1.toNat default) (Zr (YH.getD Y1.toNat default) Yp)).Z)]) false, .nest 49 (Ya.Me.Tr.map fun l => l.map (cI .i64)) false, .vec 133 4 (Ya.Sp.map Gs.c) false, .vec 27 1 (Ya.We.map (cF .f32)) false, .box 42 [.own 1, .own 2, .own 3, .f .f32 Ya.Film, .f .f32 Ya.Bend, .own 4, .f .f32 Ya.Fall.X, .f .f32 Ya.Fall.Y, .f .f32 Ya.Fall.Z]]⟩) (sB Yn <| sK [19,19] <| sG Gv.c Ya.Me.Pq Y1 YS YT <| sG Gv.c YH Y1 YS YY <| sF (Z3o (YH.getD Y1.toNat default) Yp) <| sF (Z3A (Ya.Me.Pq.getD Y1.toNat default) (Zr (YH.getD Y1.toNat default) Yp)) <| sX Gv.c Yd Y1 YS YZ <| sC (Xn (c:=Gv.c) (l:=Yd) y_4) <| sI (Y1 + 1) y_5 y_6 <| sN) (by kernel_rfl) (by simp [Zau,List.map_set,Gv.c]) (ih (Y1 + 1) (Yd.set Y1.toNat (ZI (Ya.Me.Pq.getD Y1.toNat default) (Zr (YH.getD Y1.toNat default) Yp))) (show 0≤(Y1 + 1) from (by omega)) (show (Yd.set Y1.toNat (ZI (Ya.Me.Pq.getD Y1.toNat default) (Zr (YH.getD Y1.toNat default) Yp))).length=Ya.Me.Pq.length from (by simp_all <;> omega)) (by omega))
  | false =>
   have YM:=odf Yn
   have e:Z1o Ya YH Yp (k + 1) Y1 Yd=Yd:=by simp only [Z1o,Yn,cond_false]
   rw [e]
   exact outR (e:=(.exit 0)) E0Ok Z4 [] (mR false [0,2,4,2,1,3,26]) [0,5,1,2,3,4] (sB Yn <| sN) (by kernel_rfl) (by intro h; cases h)
theorem Zd4 (Ya:Gb) (YH:(List Gv)) (Yp:Nat):∀ (k:Nat) (Y1:Int) (Yd:(List Gv)) (hk:((YH.length:Int) - Y1).toNat < k),(Z1o Ya YH Yp k Y1 Yd).length=Yd.length:=by
  intro k
  induction k with
  | zero => intro Y1 Yd hk; exact absurd hk (Nat.not_lt_zero _)
  | succ k ih =>
    intro Y1 Yd hk
    cases Yn:(decide (Y1 < (YH.length:Int))) with
    | true =>
      have e:Z1o Ya YH Yp (k + 1) Y1 Yd=(Z1o Ya YH Yp k (Y1 + 1) (Yd.set Y1.toNat (ZI (Ya.Me.Pq.getD Y1.toNat default) (Zr (YH.getD Y1.toNat default) Yp)))):=by simp only [Z1o,Yn,cond_true]
      rw [e,ih (Y1 + 1) (Yd.set Y1.toNat (ZI (Ya.Me.Pq.getD Y1.toNat default) (Zr (YH.getD Y1.toNat default) Yp))) (by simp_all <;> omega)]; simp
    | false =>
      have e:Z1o Ya YH Yp (k + 1) Y1 Yd=Yd:=by simp only [Z1o,Yn,cond_false]
      first | (rw [e]; done) | (rw [e]; rfl)
def Z4b (Ya:Gb) (YH:(List Gv)) (Yp:Nat):(List Gv):=(Z1o Ya YH Yp (((YH.length:Int) - 0).toNat + 1) 0 Ya.Me.Pq)
@[simp] theorem Zh2 (Ya:Gb) (YH:(List Gv)) (Yp:Nat):(Z4b Ya YH Yp).length=(Ya.Me.Pq:(List Gv)).length:=Zd4 Ya YH Yp (((YH.length:Int) - 0).toNat + 1) 0 Ya.Me.Pq (by exact Nat.lt_succ_self _)
def Zo (Ya:Gb) (YH:(List Gv)) (Yp:Nat):Gb:=(⟨(⟨(Z4b Ya YH Yp),Ya.Me.Tr⟩:Gm),Ya.Sp,Ya.Film,Ya.Bend,Ya.We,Ya.Fall⟩:Gb)
theorem Zbf (b:Gb) (v:List Gv) (s:Nat):(Zo b v s).Me.Pq.length≤b.Me.Pq.length:=by
  unfold Zo
  simp
theorem Zbg (b:Gb) (v:List Gv) (s:Nat):(Zo b v s).Me.Tr.length≤b.Me.Tr.length:=by
  unfold Zo
  simp
theorem Zbh (b:Gb) (v:List Gv) (s:Nat):(Zo b v s).We.length≤b.We.length:=by
  unfold Zo
  simp
theorem Zbi (b:Gb) (v:List Gv) (s:Nat):(Zo b v s).Sp.length≤b.Sp.length:=by
  unfold Zo
  simp
theorem Zg5 (Ya:Gb) (YH:(List Gv)) (Yp:Nat) (hp0:Ya.Me.Pq.length≤1073741824) (hp1:Ya.Me.Tr.length≤1073741824) (hp2:∀ t∈Ya.Me.Tr,t.length≤1073741824) (hp3:Ya.Sp.length≤1073741824) (hp4:Ya.We.length≤1073741824) (hp5:YH.length≤1073741824) (hp6:YH.length≤Ya.Me.Pq.length)  : Fn prog 122 [.ref (Gb.c Ya) 0, .sl (YH.map Gv.c), .f .f32 Yp] (.agg [.own 0, .own 1, .own 2, .f .f32 ((Zo Ya YH Yp).Film), .f .f32 ((Zo Ya YH Yp).Bend), .own 3, .f .f32 ((Zo Ya YH Yp).Fall.X), .f .f32 ((Zo Ya YH Yp).Fall.Y), .f .f32 ((Zo Ya YH Yp).Fall.Z)]) [.vec 40 3 (((Zo Ya YH Yp).Me.Pq).map Gv.c) false, .nest 49 (((Zo Ya YH Yp).Me.Tr).map fun l => l.map (cI .i64)) false, .vec 133 4 (((Zo Ya YH Yp).Sp).map Gs.c) false, .vec 27 1 (((Zo Ya YH Yp).We).map (cF .f32)) false]:=by
 refine fnS E0Ok Z4 (c:=X0 f122) [] (.agg [.own 0, .own 1, .own 2, .f .f32 Ya.Film, .f .f32 Ya.Bend, .own 3, .f .f32 Ya.Fall.X, .f .f32 Ya.Fall.Y, .f .f32 Ya.Fall.Z]) [.vec 40 3 ((Z4b Ya YH Yp).map Gv.c) false, .nest 49 (Ya.Me.Tr.map fun l => l.map (cI .i64)) false, .vec 133 4 (Ya.Sp.map Gs.c) false, .vec 27 1 (Ya.We.map (cF .f32)) false] func122 (sF (Zdy Ya hp0 hp1 hp2 hp3 hp4) <| sZ Gv.c YH <| sL (mR false [0,3,3,2,1,5,24]) 6 (X1 (Z7p Ya YH Yp) (x:=(Z4b Ya YH Yp)) (Zep Ya YH Yp hp0 hp1 hp2 hp3 hp4 hp5 hp6 (((YH.length:Int) - 0).toNat + 1) 0 Ya.Me.Pq (show 0≤0 from (by omega)) (show Ya.Me.Pq.length=Ya.Me.Pq.length from (by simp)) (Nat.lt_succ_self _)) rfl) <| sK [2,3,4,5] sN) rfl (by kernel_rfl) (by kernel_rfl) rfl ?_ ?_
 · rfl
 · simp [Zo]
end Go.Ab
