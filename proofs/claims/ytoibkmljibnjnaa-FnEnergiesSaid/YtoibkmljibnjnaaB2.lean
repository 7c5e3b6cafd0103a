/- The functions of this seat as plain Lean, and that the program's are these. Printed by a program of the prover's own. -/
import Derived.Test.YtoibkmljibnjnaaB1
set_option linter.unusedVariables false
set_option linter.unusedSimpArgs false
set_option maxRecDepth 100000
namespace Go.Ab
open Go.RowKit Go.Proofs.Try
def Z5Q:List Bool:=(mR false [0,1,1,5,6,16,2,7,53])
set_option maxHeartbeats 1000000 in
theorem Z6r (Y4:Gm) (Yg:Int) (Yu:(List Bool)) (hp0:Y4.Pq.length≤1073741824) (hp1:Y4.Tr.length≤1073741824) (hp2:∀ t∈Y4.Tr,t.length≤1073741824) (hp3:OkE Y4.Pq.length Y4.Tr) (Z1k:0≤Yg) (Z2d:Yu.length=(IntKind.wrap .i64 ((Y4.Pq.length:Int) * (Y4.Pq.length:Int))).toNat) (Z8k:(decide (Yg < (Y4.Tr.length:Int)))=true):∀ (k:Nat) (Yz:Int) (Yv:(List Bool)) (Z1G:0≤Yz) (Z4n:Yv.length=Yu.length) (hk:((3:Int) - Yz).toNat < k),Lp prog 0 (sub (X2 f59) [1,1,1,0,1,0,0,1,0,0,1,1,0,0]) (Z4V Y4 Yg Yu Yz Yv) (Z3h Y4 Yg Yu (ZE Y4 Yg Yu k Yz Yv)).1 (Z3h Y4 Yg Yu (ZE Y4 Yg Yu k Yz Yv)).2:=by
 intro k
 induction k with
 | zero=>intro Yz Yv Z1G Z4n hk;exact absurd hk (Nat.not_lt_zero _)
 | succ k ih =>
  intro Yz Yv Z1G Z4n hk
  cases YG:(decide (Yz < 3)) with
  | true =>
   have Y1d:=odt YG
   have Y1h:(0:Int)≤Yz:=(by assumption)
   have Y1i:Yz < ((Y4.Tr.getD Yg.toNat default).length:Int):=(by ((have q:=OkE.at (by assumption) Z1k (odt (by assumption)) Z1G (odt (by assumption));omega)))
   have Y1f:(-9223372036854775808:Int)≤(Yz + 1):=(by omega)
   have Y1g:(Yz + 1)≤(9223372036854775807:Int):=(by omega)
   have Y1m:(0:Int)≤(Int.tmod (Yz + 1) 3):=(by ((have q:=OkE.at (by assumption) Z1k (odt (by assumption)) Z1G (odt (by assumption));omega)))
   have Y1q:(Int.tmod (Yz + 1) 3) < ((Y4.Tr.getD Yg.toNat default).length:Int):=(by ((have q:=OkE.at (by assumption) Z1k (odt (by assumption)) Z1G (odt (by assumption));omega)))
   have Y1k:(0:Int)≤(IntKind.wrap .i64 ((IntKind.wrap .i64 ((ZT Y4 Yg Yz) * (Y4.Pq.length:Int))) + (ZY Y4 Yg Yz))):=(by ((have q:=OkE.at (by assumption) Z1k (odt (by assumption)) Z1G (odt (by assumption));have q2:=ix2F q.2.2.2.2.2.1 (Z5s q.2.2.2.1 q.2.2.2.2.1).1 (Z5s q.2.2.2.1 q.2.2.2.2.1).2 (Z5t q.2.2.2.1 q.2.2.2.2.1).1 (Z5t q.2.2.2.1 q.2.2.2.2.1).2;unfold ZT ZY;omega)))
   have Y1n:(IntKind.wrap .i64 ((IntKind.wrap .i64 ((ZT Y4 Yg Yz) * (Y4.Pq.length:Int))) + (ZY Y4 Yg Yz))) < (Yv.length:Int):=(by ((have q:=OkE.at (by assumption) Z1k (odt (by assumption)) Z1G (odt (by assumption));have q2:=ix2F q.2.2.2.2.2.1 (Z5s q.2.2.2.1 q.2.2.2.2.1).1 (Z5s q.2.2.2.1 q.2.2.2.2.1).2 (Z5t q.2.2.2.1 q.2.2.2.2.1).1 (Z5t q.2.2.2.1 q.2.2.2.2.1).2;unfold ZT ZY;omega)))
   have Y1s:(IntKind.wrap .i64 ((IntKind.wrap .i64 ((ZT Y4 Yg Yz) * (Y4.Pq.length:Int))) + (ZY Y4 Yg Yz))).toNat < Yv.length:=(by omega)
   have e:ZE Y4 Yg Yu (k + 1) Yz Yv=(ZE Y4 Yg Yu k (Yz + 1) (Yv.set ((IntKind.wrap .i64 ((IntKind.wrap .i64 ((ZT Y4 Yg Yz) * (Y4.Pq.length:Int))) + (ZY Y4 Yg Yz))).toNat) true)):=by simp only [ZE,YG,cond_true]
   rw [e]
   exact XD E0Ok Zg [] Z4m [0] (⟨.ref (Gm.c Y4) 0 :: .any :: .nils :: .i .i64 (Y4.Pq.length:Int) :: .own 0 :: .i .i64 Yg :: .sl ((Y4.Tr.getD Yg.toNat default).map (cI .i64)) :: .i .i64 (Yz + 1) :: an 5 (.ref (Gm.c Y4) 0 :: .ref (Gm.c Y4) 0 :: .ref (Gm.c Y4) 0 :: .sl (Y4.Pq.map Gv.c) :: .i .i64 (Y4.Pq.length:Int) :: .i .i64 (Y4.Pq.length:Int) :: .i .i64 (Y4.Pq.length:Int) :: .i .i64 (IntKind.wrap .i64 ((Y4.Pq.length:Int) * (Y4.Pq.length:Int))) :: .own 0 :: .i .i64 Yg :: .ref (Gm.c Y4) 0 :: .ref (Gm.c Y4) 0 :: .ref (Gm.c Y4) 1 :: .sl (Y4.Tr.map (cL (cI .i64))) :: .i .i64 (Y4.Tr.length:Int) :: .b (decide (Yg < (Y4.Tr.length:Int))) :: .any :: .any :: .ref (Gm.c Y4) 0 :: .ref (Gm.c Y4) 0 :: .ref (Gm.c Y4) 1 :: .sl (Y4.Tr.map (cL (cI .i64))) :: .i .i64 Yg :: .ref [.sl ((Y4.Tr.getD Yg.toNat default).map (cI .i64))] 0 :: .sl ((Y4.Tr.getD Yg.toNat default).map (cI .i64)) :: an 53 []),[.vec 4 1 ((Yv.map cB).set ((IntKind.wrap .i64 ((IntKind.wrap .i64 ((ZT Y4 Yg Yz) * (Y4.Pq.length:Int))) + (ZY Y4 Yg Yz))).toNat) [.b true]) false]⟩) (sB YG<|sG (cI .i64) (Y4.Tr.getD Yg.toNat default) Yz Y1h Y1i<|sI (Yz + 1) Y1f Y1g<|sC (show (3:Int)≠0 from (by decide))<|sQ (Int.tmod (Yz + 1) 3)<|sG (cI .i64) (Y4.Tr.getD Yg.toNat default) (Int.tmod (Yz + 1) 3) Y1m Y1q<|sF (Z7O ((Y4.Tr.getD Yg.toNat default).getD Yz.toNat default) ((Y4.Tr.getD Yg.toNat default).getD (Int.tmod (Yz + 1) 3).toNat default))<|sW .i64 ((ZT Y4 Yg Yz) * (Y4.Pq.length:Int))<|sF (Z7P ((Y4.Tr.getD Yg.toNat default).getD Yz.toNat default) ((Y4.Tr.getD Yg.toNat default).getD (Int.tmod (Yz + 1) 3).toNat default))<|sW .i64 ((IntKind.wrap .i64 ((ZT Y4 Yg Yz) * (Y4.Pq.length:Int))) + (ZY Y4 Yg Yz))<|sX cB Yv (IntKind.wrap .i64 ((IntKind.wrap .i64 ((ZT Y4 Yg Yz) * (Y4.Pq.length:Int))) + (ZY Y4 Yg Yz))) Y1k Y1n<|sC (X3w (c:=cB) (l:=Yv) Y1s)<|sI (Yz + 1) Y1f Y1g<|sN) (by kernel_rfl) (by simp [Z4V,cL,cI,cB]) (ih (Yz + 1) (Yv.set ((IntKind.wrap .i64 ((IntKind.wrap .i64 ((ZT Y4 Yg Yz) * (Y4.Pq.length:Int))) + (ZY Y4 Yg Yz))).toNat) true) (show 0≤(Yz + 1) from (by omega)) (show (Yv.set ((IntKind.wrap .i64 ((IntKind.wrap .i64 ((ZT Y4 Yg Yz) * (Y4.Pq.length:Int))) + (ZY Y4 Yg Yz))).toNat) true).length=Yu.length from (by simp_all<;>omega)) (by omega))
  | false =>
   have Y1d:=odf YG
   have e:ZE Y4 Yg Yu (k + 1) Yz Yv=Yv:=by simp only [ZE,YG,cond_false]
   rw [e]
   exact outR (e:=(.exit 2)) E0Ok Zg [] Z5Q [0] (sB YG<|sN) (by kernel_rfl) (by intro h;cases h)
theorem Z5R (Y4:Gm) (Yg:Int) (Yu:(List Bool)):∀ (k:Nat) (Yz:Int) (Yv:(List Bool)) (hk:((3:Int) - Yz).toNat < k),(ZE Y4 Yg Yu k Yz Yv).length=Yv.length:=by
  intro k
  induction k with
  | zero=>intro Yz Yv hk;exact absurd hk (Nat.not_lt_zero _)
  | succ k ih =>
    intro Yz Yv hk
    cases YG:(decide (Yz < 3)) with
    | true =>
      have e:ZE Y4 Yg Yu (k + 1) Yz Yv=(ZE Y4 Yg Yu k (Yz + 1) (Yv.set ((IntKind.wrap .i64 ((IntKind.wrap .i64 ((ZT Y4 Yg Yz) * (Y4.Pq.length:Int))) + (ZY Y4 Yg Yz))).toNat) true)):=by simp only [ZE,YG,cond_true]
      rw [e,ih (Yz + 1) (Yv.set ((IntKind.wrap .i64 ((IntKind.wrap .i64 ((ZT Y4 Yg Yz) * (Y4.Pq.length:Int))) + (ZY Y4 Yg Yz))).toNat) true) (by simp_all<;>omega)]<;>simp
    | false =>
      have e:ZE Y4 Yg Yu (k + 1) Yz Yv=Yv:=by simp only [ZE,YG,cond_false]
      first | (rw [e];done) | (rw [e];rfl)
def Z1a (Y4:Gm) (Yg:Int) (Yu:(List Bool)):(List Bool):=(ZE Y4 Yg Yu (((3:Int) - 0).toNat + 1) 0 Yu)
@[simp] theorem Z55 (Y4:Gm) (Yg:Int) (Yu:(List Bool)):(Z1a Y4 Yg Yu).length=(Yu:(List Bool)).length:=Z5R Y4 Yg Yu (((3:Int) - 0).toNat + 1) 0 Yu (by exact Nat.lt_succ_self _)
def ZO (Y4:Gm):Nat→Int→(List Bool)→(List Bool)
  | 0,_,_=>default
  | k + 1,Yg,Yu=>(cond (decide (Yg < (Y4.Tr.length:Int)))
    (ZO Y4 k (Yg + 1) (Z1a Y4 Yg Yu))
    Yu)
def Z3i (Y4:Gm) (r:(List Bool)):Ex × St:=((.exit 0),⟨.ref (Gm.c Y4) 0 :: .any :: .nils :: .i .i64 (Y4.Pq.length:Int) :: .own 0 :: an 8 (.ref (Gm.c Y4) 0 :: .ref (Gm.c Y4) 0 :: .ref (Gm.c Y4) 0 :: .sl (Y4.Pq.map Gv.c) :: .i .i64 (Y4.Pq.length:Int) :: .i .i64 (Y4.Pq.length:Int) :: .i .i64 (Y4.Pq.length:Int) :: .i .i64 (IntKind.wrap .i64 ((Y4.Pq.length:Int) * (Y4.Pq.length:Int))) :: .own 0 :: an 69 []),[.vec 4 1 (r.map cB) false]⟩)
def Z4W (Y4:Gm) (Yg:Int) (Yu:(List Bool)):St:=⟨.ref (Gm.c Y4) 0 :: .any :: .nils :: .i .i64 (Y4.Pq.length:Int) :: .own 0 :: .i .i64 Yg :: an 7 (.ref (Gm.c Y4) 0 :: .ref (Gm.c Y4) 0 :: .ref (Gm.c Y4) 0 :: .sl (Y4.Pq.map Gv.c) :: .i .i64 (Y4.Pq.length:Int) :: .i .i64 (Y4.Pq.length:Int) :: .i .i64 (Y4.Pq.length:Int) :: .i .i64 (IntKind.wrap .i64 ((Y4.Pq.length:Int) * (Y4.Pq.length:Int))) :: .own 0 :: an 69 []),[.vec 4 1 (Yu.map cB) false]⟩
theorem Z6s (Y4:Gm) (hp0:Y4.Pq.length≤1073741824) (hp1:Y4.Tr.length≤1073741824) (hp2:∀ t∈Y4.Tr,t.length≤1073741824) (hp3:OkE Y4.Pq.length Y4.Tr):∀ (k:Nat) (Yg:Int) (Yu:(List Bool)) (Z1k:0≤Yg) (Z2d:Yu.length=(IntKind.wrap .i64 ((Y4.Pq.length:Int) * (Y4.Pq.length:Int))).toNat) (hk:((Y4.Tr.length:Int) - Yg).toNat < k),Lp prog 0 (sub (X2 f59) [1,1,1,0,1,0,0]) (Z4W Y4 Yg Yu) (Z3i Y4 (ZO Y4 k Yg Yu)).1 (Z3i Y4 (ZO Y4 k Yg Yu)).2:=by
 intro k
 induction k with
 | zero=>intro Yg Yu Z1k Z2d hk;exact absurd hk (Nat.not_lt_zero _)
 | succ k ih =>
  intro Yg Yu Z1k Z2d hk
  have p {a C} (s:Scr a C):=sZ (cL (cI .i64)) Y4.Tr<|s
  cases Yr:(decide (Yg < (Y4.Tr.length:Int))) with
  | true =>
   have YM:=odt Yr
   have YU:(0:Int)≤Yg:=by clear p;exact (by assumption)
   have YR:Yg < (Y4.Tr.length:Int):=by clear p;exact (by assumption)
   have y_2:(-9223372036854775808:Int)≤(Yg + 1):=by clear p;exact (by omega)
   have YV:(Yg + 1)≤(9223372036854775807:Int):=by clear p;exact (by omega)
   have e:ZO Y4 (k + 1) Yg Yu=(ZO Y4 k (Yg + 1) (Z1a Y4 Yg Yu)):=by simp only [ZO,Yr,cond_true]
   rw [e]
   exact X1r E0Ok Zg [] (mR false [0,1,1,4,7,9,69]) [0] (ih (Yg + 1) (Z1a Y4 Yg Yu) (show 0≤(Yg + 1) from (by omega)) (show (Z1a Y4 Yg Yu).length=(IntKind.wrap .i64 ((Y4.Pq.length:Int) * (Y4.Pq.length:Int))).toNat from (by simp_all<;>omega)) (by omega)) (p (sB Yr<|sG (cL (cI .i64)) Y4.Tr Yg YU YR<|sL Z4m 1 (Xc (Z3h Y4 Yg Yu) (x:=(Z1a Y4 Yg Yu)) (Z6r Y4 Yg Yu hp0 hp1 hp2 hp3 Z1k Z2d Yr (((3:Int) - 0).toNat + 1) 0 Yu (show 0≤0 from (by omega)) (show Yu.length=Yu.length from (by omega)) (Nat.lt_succ_self _)) rfl)<|sI (Yg + 1) y_2 YV<|sN)) (by kernel_rfl)
  | false =>
   have YM:=odf Yr
   have e:ZO Y4 (k + 1) Yg Yu=Yu:=by simp only [ZO,Yr,cond_false]
   rw [e]
   exact outR (e:=(.exit 0)) E0Ok Zg [] (mR false [0,1,1,3,8,9,69]) [0] (p (sB Yr<|sN)) (by kernel_rfl) (by intro h;cases h)
theorem Z5S (Y4:Gm):∀ (k:Nat) (Yg:Int) (Yu:(List Bool)) (hk:((Y4.Tr.length:Int) - Yg).toNat < k),(ZO Y4 k Yg Yu).length=Yu.length:=by
  intro k
  induction k with
  | zero=>intro Yg Yu hk;exact absurd hk (Nat.not_lt_zero _)
  | succ k ih =>
    intro Yg Yu hk
    cases Yr:(decide (Yg < (Y4.Tr.length:Int))) with
    | true =>
      have e:ZO Y4 (k + 1) Yg Yu=(ZO Y4 k (Yg + 1) (Z1a Y4 Yg Yu)):=by simp only [ZO,Yr,cond_true]
      rw [e,ih (Yg + 1) (Z1a Y4 Yg Yu) (by simp_all<;>omega)]<;>simp
    | false =>
      have e:ZO Y4 (k + 1) Yg Yu=Yu:=by simp only [ZO,Yr,cond_false]
      first | (rw [e];done) | (rw [e];rfl)
def Zy (Y4:Gm):(List Bool):=(ZO Y4 (((Y4.Tr.length:Int) - 0).toNat + 1) 0 (List.replicate (IntKind.wrap .i64 ((Y4.Pq.length:Int) * (Y4.Pq.length:Int))).toNat false))
@[simp] theorem Z56 (Y4:Gm):(Zy Y4).length=((List.replicate (IntKind.wrap .i64 ((Y4.Pq.length:Int) * (Y4.Pq.length:Int))).toNat false):(List Bool)).length:=Z5S Y4 (((Y4.Tr.length:Int) - 0).toNat + 1) 0 (List.replicate (IntKind.wrap .i64 ((Y4.Pq.length:Int) * (Y4.Pq.length:Int))).toNat false) (by exact Nat.lt_succ_self _)
def ZP (Y4:Gm) (Ys:Int) (Y3:(List (List Int))):Nat→Int→(List (List Int))→(List (List Int))
  | 0,_,_=>default
  | k + 1,YF,Y8=>(cond (decide (YF < (Y4.Pq.length:Int)))
    (cond ((Zy Y4).getD ((IntKind.wrap .i64 ((IntKind.wrap .i64 (Ys * (Y4.Pq.length:Int))) + YF)).toNat) default)
      (ZP Y4 Ys Y3 k (YF + 1) (Y8 ++ [[Ys,YF]]))
      (ZP Y4 Ys Y3 k (YF + 1) Y8))
    Y8)
def Z3j (Y4:Gm) (Ys:Int) (Y3:(List (List Int))) (r:(List (List Int))):Ex × St:=((.exit 6),⟨.ref (Gm.c Y4) 0 :: .any :: .nils :: .i .i64 (Y4.Pq.length:Int) :: .own 0 :: an 5 (.own 1 :: .i .i64 Ys :: .any :: .ref (Gm.c Y4) 0 :: .ref (Gm.c Y4) 0 :: .ref (Gm.c Y4) 0 :: .sl (Y4.Pq.map Gv.c) :: .i .i64 (Y4.Pq.length:Int) :: .i .i64 (Y4.Pq.length:Int) :: .i .i64 (Y4.Pq.length:Int) :: .i .i64 (IntKind.wrap .i64 ((Y4.Pq.length:Int) * (Y4.Pq.length:Int))) :: .own 0 :: an 42 (.i .i64 Ys :: .i .i64 (Y4.Pq.length:Int) :: .b (decide (Ys < (Y4.Pq.length:Int))) :: .any :: .any :: .i .i64 Ys :: .i .i64 (Ys + 1) :: an 20 [])),[.vec 4 1 ((Zy Y4).map cB) false, .nest 60 (r.map fun l=>l.map (cI .i64)) false]⟩)
def Z4X (Y4:Gm) (Ys:Int) (Y3:(List (List Int))) (YF:Int) (Y8:(List (List Int))):St:=⟨.ref (Gm.c Y4) 0 :: .any :: .nils :: .i .i64 (Y4.Pq.length:Int) :: .own 0 :: an 5 (.own 1 :: .i .i64 Ys :: .i .i64 YF :: .ref (Gm.c Y4) 0 :: .ref (Gm.c Y4) 0 :: .ref (Gm.c Y4) 0 :: .sl (Y4.Pq.map Gv.c) :: .i .i64 (Y4.Pq.length:Int) :: .i .i64 (Y4.Pq.length:Int) :: .i .i64 (Y4.Pq.length:Int) :: .i .i64 (IntKind.wrap .i64 ((Y4.Pq.length:Int) * (Y4.Pq.length:Int))) :: .own 0 :: an 42 (.i .i64 Ys :: .i .i64 (Y4.Pq.length:Int) :: .b (decide (Ys < (Y4.Pq.length:Int))) :: .any :: .any :: .i .i64 Ys :: .i .i64 (Ys + 1) :: an 20 [])),[.vec 4 1 ((Zy Y4).map cB) false, .nest 60 (Y8.map fun l=>l.map (cI .i64)) false]⟩
def Z2S:List Bool:=(mR false [0,1,1,3,5,12,42,3,2,2,20])
def Z5T:List Bool:=(mR false [0,1,1,3,5,2,1,9,42,3,2,2,20])
set_option maxHeartbeats 1000000 in
theorem Z6t (Y4:Gm) (Ys:Int) (Y3:(List (List Int))) (hp0:Y4.Pq.length≤1073741824) (hp1:Y4.Tr.length≤1073741824) (hp2:∀ t∈Y4.Tr,t.length≤1073741824) (hp3:OkE Y4.Pq.length Y4.Tr) (Z2e:0≤Ys) (Z2f:(Y3.length:Int)≤64 * Ys) (Z2g:(decide (Ys < (Y4.Pq.length:Int)))=true):∀ (k:Nat) (YF:Int) (Y8:(List (List Int))) (Z4o:Ys < YF) (Z4p:(Y8.length:Int)≤(Y3.length:Int) + YF) (hk:((Y4.Pq.length:Int) - YF).toNat < k),Lp prog 0 (sub (X2 f59) [1,1,1,1,1,0,1,0,0,1,0,0,1,0,0]) (Z4X Y4 Ys Y3 YF Y8) (Z3j Y4 Ys Y3 (ZP Y4 Ys Y3 k YF Y8)).1 (Z3j Y4 Ys Y3 (ZP Y4 Ys Y3 k YF Y8)).2:=by
 intro k
 induction k with
 | zero=>intro YF Y8 Z4o Z4p hk;exact absurd hk (Nat.not_lt_zero _)
 | succ k ih =>
  intro YF Y8 Z4o Z4p hk
  cases YG:(decide (YF < (Y4.Pq.length:Int))) with
  | true =>
   have Y1d:=odt YG
   have Y1h:(0:Int)≤(IntKind.wrap .i64 ((IntKind.wrap .i64 (Ys * (Y4.Pq.length:Int))) + YF)):=(by ((have:=hp3.1;have g4:=odt Z2g;(have q2:=ix2F (n:=(Y4.Pq.length:Int)) (a:=Ys) (b:=YF) (by omega) (by omega) (by omega) (by omega) (by omega);omega))))
   have Y1i:(IntKind.wrap .i64 ((IntKind.wrap .i64 (Ys * (Y4.Pq.length:Int))) + YF)) < ((Zy Y4).length:Int):=(by ((have:=hp3.1;have g4:=odt Z2g;(have q2:=ix2F (n:=(Y4.Pq.length:Int)) (a:=Ys) (b:=YF) (by omega) (by omega) (by omega) (by omega) (by omega);(simp only [Z56,List.length_replicate];omega)))))
   have Y1f:(IntKind.wrap .i64 ((IntKind.wrap .i64 (Ys * (Y4.Pq.length:Int))) + YF)).toNat < (Zy Y4).length:=(by omega)
   have p {a C} (s:Scr a C):=sB YG<|sW .i64 (Ys * (Y4.Pq.length:Int))<|sW .i64 ((IntKind.wrap .i64 (Ys * (Y4.Pq.length:Int))) + YF)<|sX cB (Zy Y4) (IntKind.wrap .i64 ((IntKind.wrap .i64 (Ys * (Y4.Pq.length:Int))) + YF)) Y1h Y1i<|sV cB (Zy Y4) ((IntKind.wrap .i64 ((IntKind.wrap .i64 (Ys * (Y4.Pq.length:Int))) + YF)).toNat) Y1f<|s
   cases YZ:((Zy Y4).getD ((IntKind.wrap .i64 ((IntKind.wrap .i64 (Ys * (Y4.Pq.length:Int))) + YF)).toNat) default) with
   | true =>
    have Y1g:Y8.length + [[Ys,YF]].length≤1073741824:=by clear p;exact (by ((have:=hp3.1;have g4:=odt Z2g;(simp only [List.length_append,List.length_cons,List.length_nil];omega))))
    have Y1m:(-9223372036854775808:Int)≤(YF + 1):=by clear p;exact (by omega)
    have Y1q:(YF + 1)≤(9223372036854775807:Int):=by clear p;exact (by omega)
    have e:ZP Y4 Ys Y3 (k + 1) YF Y8=(ZP Y4 Ys Y3 k (YF + 1) (Y8 ++ [[Ys,YF]])):=by simp only [ZP,YG,YZ,cond_true]
    rw [e]
    exact XD E0Ok Zg [] Z2S [0,1] (⟨.ref (Gm.c Y4) 0 :: .any :: .nils :: .i .i64 (Y4.Pq.length:Int) :: .own 0 :: an 5 (.own 1 :: .i .i64 Ys :: .i .i64 (YF + 1) :: .ref (Gm.c Y4) 0 :: .ref (Gm.c Y4) 0 :: .ref (Gm.c Y4) 0 :: .sl (Y4.Pq.map Gv.c) :: .i .i64 (Y4.Pq.length:Int) :: .i .i64 (Y4.Pq.length:Int) :: .i .i64 (Y4.Pq.length:Int) :: .i .i64 (IntKind.wrap .i64 ((Y4.Pq.length:Int) * (Y4.Pq.length:Int))) :: .own 0 :: an 42 (.i .i64 Ys :: .i .i64 (Y4.Pq.length:Int) :: .b (decide (Ys < (Y4.Pq.length:Int))) :: .any :: .any :: .i .i64 Ys :: .i .i64 (Ys + 1) :: an 20 [])),[.vec 4 1 ((Zy Y4).map cB) false, .nest 60 ((Y8.map fun l=>l.map (cI .i64)) ++ [([[.i .i64 Ys],[.i .i64 YF]]:List (List AV))]) false]⟩) (p (sB YZ<|sC (show (Y8.map fun l=>l.map (cI .i64)).length + [([[.i .i64 Ys],[.i .i64 YF]]:List (List AV))].length≤1073741824 from (by simpa using Y1g))<|sI (YF + 1) Y1m Y1q<|sN)) (by kernel_rfl) (by simp [Z4X,cL,cI,cB]) (ih (YF + 1) (Y8 ++ [[Ys,YF]]) (show Ys < (YF + 1) from (by omega)) (show ((Y8 ++ [[Ys,YF]]).length:Int)≤(Y3.length:Int) + (YF + 1) from (by ((have:=hp3.1;have g4:=odt Z2g;(simp only [List.length_append,List.length_cons,List.length_nil];omega))))) (by omega))
   | false =>
    have Y1g:(-9223372036854775808:Int)≤(YF + 1):=by clear p;exact (by omega)
    have Y1m:(YF + 1)≤(9223372036854775807:Int):=by clear p;exact (by omega)
    have e:ZP Y4 Ys Y3 (k + 1) YF Y8=(ZP Y4 Ys Y3 k (YF + 1) Y8):=by simp only [ZP,YG,YZ,cond_true,cond_false]
    rw [e]
    exact X1r E0Ok Zg [] Z2S [0,1] (ih (YF + 1) Y8 (show Ys < (YF + 1) from (by omega)) (show (Y8.length:Int)≤(Y3.length:Int) + (YF + 1) from (by omega)) (by omega)) (p (sB YZ<|sI (YF + 1) Y1g Y1m<|sN)) (by kernel_rfl)
  | false =>
   have Y1d:=odf YG
   have e:ZP Y4 Ys Y3 (k + 1) YF Y8=Y8:=by simp only [ZP,YG,cond_false]
   rw [e]
   exact outR (e:=(.exit 6)) E0Ok Zg [] Z5T [0,1] (sB YG<|sN) (by kernel_rfl) (by intro h;cases h)
def Z1t (Y4:Gm) (Ys:Int) (Y3:(List (List Int))):(List (List Int)):=(ZP Y4 Ys Y3 (((Y4.Pq.length:Int) - (Ys + 1)).toNat + 1) (Ys + 1) Y3)
theorem Z9c (m:Gm) (a:Int) (r1:List (List Int)):∀ (k:Nat) (b:Int) (r:List (List Int)),(ZP m a r1 k b r).length≤r.length + k:=by
  intro k
  induction k with
  | zero=>intro b r;exact Nat.zero_le _
  | succ k ih =>
    intro b r
    rw [ZP]
    cases decide (b < (m.Pq.length:Int)) with
    | false=>rw [cond_false];omega
    | true =>
      rw [cond_true]
      cases ((Zy m).getD ((IntKind.wrap .i64 ((IntKind.wrap .i64 (a * (m.Pq.length:Int))) + b)).toNat) default) with
      | true=>rw [cond_true];have:=ih (b + 1) (r ++ [[a,b]]);simp only [List.length_append,List.length_cons,List.length_nil] at this;omega
      | false=>rw [cond_false];have:=ih (b + 1) r;omega
def Z1l (Y4:Gm):Nat→Int→(List (List Int))→(List (List Int))
  | 0,_,_=>default
  | k + 1,Ys,Y3=>(cond (decide (Ys < (Y4.Pq.length:Int)))
    (Z1l Y4 k (Ys + 1) (Z1t Y4 Ys Y3))
    Y3)
def Z3k (Y4:Gm) (r:(List (List Int))):Ex × St:=((.exit 4),⟨.ref (Gm.c Y4) 0 :: .any :: .nils :: .i .i64 (Y4.Pq.length:Int) :: .own 0 :: an 5 (.own 1 :: .any :: .any :: .ref (Gm.c Y4) 0 :: .ref (Gm.c Y4) 0 :: .ref (Gm.c Y4) 0 :: .sl (Y4.Pq.map Gv.c) :: .i .i64 (Y4.Pq.length:Int) :: .i .i64 (Y4.Pq.length:Int) :: .i .i64 (Y4.Pq.length:Int) :: .i .i64 (IntKind.wrap .i64 ((Y4.Pq.length:Int) * (Y4.Pq.length:Int))) :: .own 0 :: an 69 []),[.vec 4 1 ((Zy Y4).map cB) false, .nest 60 (r.map fun l=>l.map (cI .i64)) false]⟩)
def Z4Y (Y4:Gm) (Ys:Int) (Y3:(List (List Int))):St:=⟨.ref (Gm.c Y4) 0 :: .any :: .nils :: .i .i64 (Y4.Pq.length:Int) :: .own 0 :: an 5 (.own 1 :: .i .i64 Ys :: .any :: .ref (Gm.c Y4) 0 :: .ref (Gm.c Y4) 0 :: .ref (Gm.c Y4) 0 :: .sl (Y4.Pq.map Gv.c) :: .i .i64 (Y4.Pq.length:Int) :: .i .i64 (Y4.Pq.length:Int) :: .i .i64 (Y4.Pq.length:Int) :: .i .i64 (IntKind.wrap .i64 ((Y4.Pq.length:Int) * (Y4.Pq.length:Int))) :: .own 0 :: an 69 []),[.vec 4 1 ((Zy Y4).map cB) false, .nest 60 (Y3.map fun l=>l.map (cI .i64)) false]⟩
theorem Z6u (Y4:Gm) (hp0:Y4.Pq.length≤1073741824) (hp1:Y4.Tr.length≤1073741824) (hp2:∀ t∈Y4.Tr,t.length≤1073741824) (hp3:OkE Y4.Pq.length Y4.Tr):∀ (k:Nat) (Ys:Int) (Y3:(List (List Int))) (Z2e:0≤Ys) (Z2f:(Y3.length:Int)≤64 * Ys) (hk:((Y4.Pq.length:Int) - Ys).toNat < k),Lp prog 0 (sub (X2 f59) [1,1,1,1,1,0,1,0,0]) (Z4Y Y4 Ys Y3) (Z3k Y4 (Z1l Y4 k Ys Y3)).1 (Z3k Y4 (Z1l Y4 k Ys Y3)).2:=by
 intro k
 induction k with
 | zero=>intro Ys Y3 Z2e Z2f hk;exact absurd hk (Nat.not_lt_zero _)
 | succ k ih =>
  intro Ys Y3 Z2e Z2f hk
  cases Yr:(decide (Ys < (Y4.Pq.length:Int))) with
  | true =>
   have YM:=odt Yr
   have YU:(-9223372036854775808:Int)≤(Ys + 1):=(by omega)
   have YR:(Ys + 1)≤(9223372036854775807:Int):=(by omega)
   have e:Z1l Y4 (k + 1) Ys Y3=(Z1l Y4 k (Ys + 1) (Z1t Y4 Ys Y3)):=by simp only [Z1l,Yr,cond_true]
   rw [e]
   exact X1r E0Ok Zg [] (mR false [0,1,1,3,5,2,1,9,69]) [0,1] (ih (Ys + 1) (Z1t Y4 Ys Y3) (show 0≤(Ys + 1) from (by omega)) (show ((Z1t Y4 Ys Y3).length:Int)≤64 * (Ys + 1) from (by ((have:=hp3.1;have g4:=odt Yr;have q:=Z9c Y4 Ys Y3 (((Y4.Pq.length:Int) - (Ys + 1)).toNat + 1) (Ys + 1) Y3;unfold Z1t;omega)))) (by omega)) (sB Yr<|sI (Ys + 1) YU YR<|sL Z2S 2 (Xc (Z3j Y4 Ys Y3) (x:=(Z1t Y4 Ys Y3)) (Z6t Y4 Ys Y3 hp0 hp1 hp2 hp3 Z2e Z2f Yr (((Y4.Pq.length:Int) - (Ys + 1)).toNat + 1) (Ys + 1) Y3 (show Ys < (Ys + 1) from (by omega)) (show (Y3.length:Int)≤(Y3.length:Int) + (Ys + 1) from (by omega)) (Nat.lt_succ_self _)) rfl)<|sI (Ys + 1) YU YR<|sN) (by kernel_rfl)
  | false =>
   have YM:=odf Yr
   have e:Z1l Y4 (k + 1) Ys Y3=Y3:=by simp only [Z1l,Yr,cond_false]
   rw [e]
   exact outR (e:=(.exit 4)) E0Ok Zg [] (mR false [0,1,1,3,5,1,2,9,69]) [0,1] (sB Yr<|sN) (by kernel_rfl) (by intro h;cases h)
def Z2h (Y4:Gm):(List (List Int)):=(Z1l Y4 (((Y4.Pq.length:Int) - 0).toNat + 1) 0 ([]:List (List Int)))
def Zh (Y4:Gm):(List (List Int)):=(Z2h Y4)
theorem Z8G (m:Gm) (i:Int) (r:List Bool):Z1a m i r=((r.set (IntKind.wrap .i64 (IntKind.wrap .i64 (Z1z ((m.Tr.getD i.toNat default).getD 0 default) ((m.Tr.getD i.toNat default).getD 1 default) * (m.Pq.length:Int)) + Z1A ((m.Tr.getD i.toNat default).getD 0 default) ((m.Tr.getD i.toNat default).getD 1 default))).toNat true).set (IntKind.wrap .i64 (IntKind.wrap .i64 (Z1z ((m.Tr.getD i.toNat default).getD 1 default) ((m.Tr.getD i.toNat default).getD 2 default) * (m.Pq.length:Int)) + Z1A ((m.Tr.getD i.toNat default).getD 1 default) ((m.Tr.getD i.toNat default).getD 2 default))).toNat true).set (IntKind.wrap .i64 (IntKind.wrap .i64 (Z1z ((m.Tr.getD i.toNat default).getD 2 default) ((m.Tr.getD i.toNat default).getD 0 default) * (m.Pq.length:Int)) + Z1A ((m.Tr.getD i.toNat default).getD 2 default) ((m.Tr.getD i.toNat default).getD 0 default))).toNat true:=by
  have one:∀ (r0:List Bool) (k:Nat) (x:Int) (s:List Bool),x < 3→ZE m i r0 (k + 1) x s=ZE m i r0 k (x + 1) (s.set (IntKind.wrap .i64 (IntKind.wrap .i64 (ZT m i x * (m.Pq.length:Int)) + ZY m i x)).toNat true):=by
    intro r0 k x s hx
    rw [ZE,decide_eq_true hx,cond_true]
  unfold Z1a
  show ZE m i r 4 0 r=_
  rw [one r 3 0 r (by omega),one r 2 (0 + 1) _ (by omega),one r 1 (0 + 1 + 1) _ (by omega),ZE]
  show cond (decide ((3:Int) < 3)) _ _=_
  rw [decide_eq_false (by omega),cond_false]
  rfl
theorem Z8H (m:Gm) (ok:OkE m.Pq.length m.Tr) {a b:Int} (ha:0≤a) (hab:a < b) (hb:b < (m.Pq.length:Int)):∀ (k:Nat) (i:Nat) (r:List Bool),i≤m.Tr.length→((m.Tr.length:Int) - i).toNat < k→r.length=(IntKind.wrap .i64 ((m.Pq.length:Int) * (m.Pq.length:Int))).toNat →
    (ZO m k i r).getD (IntKind.wrap .i64 (IntKind.wrap .i64 (a * (m.Pq.length:Int)) + b)).toNat default=(r.getD (IntKind.wrap .i64 (IntKind.wrap .i64 (a * (m.Pq.length:Int)) + b)).toNat default || (m.Tr.drop i).any fun t=>tHas t a b):=by
  intro k
  induction k with
  | zero=>intro i r _ hk;exact absurd hk (Nat.not_lt_zero _)
  | succ k ih =>
    intro i r hle hk hr
    rw [ZO]
    by_cases hi:(i:Int) < (m.Tr.length:Int)
    · have hn:i < m.Tr.length:=by omega
      rw [decide_eq_true hi,cond_true]
      have:=ih (i + 1) (Z1a m i r) (by omega) (by omega) (by rw [Z55];exact hr)
      rw [show ((i:Int) + 1)=((i + 1:Nat):Int) from by omega,this,Z8G,List.drop_eq_getElem_cons hn,List.any_cons]
      have hg:m.Tr.getD ((i:Nat):Int).toNat default=m.Tr[i]:=by rw [show ((i:Nat):Int).toNat=i from by omega,List.getD_eq_getElem?_getD,List.getElem?_eq_getElem hn];rfl
      obtain ⟨x,y,z,ht,r1,r2,r3,n1,n2,n3⟩:=ok.2.2 _ (List.getElem_mem hn)
      have h64:(m.Pq.length:Int)≤64:=by have:=ok.1;omega
      rw [hg,ht]
      simp only [List.getD_cons_zero,List.getD_cons_succ]
      rw [X4p h64 (Z5P z x) (Z5s r3 r1) (Z5t r3 r1) ha hab hb (by simpa using hr),X4p h64 (Z5P y z) (Z5s r2 r3) (Z5t r2 r3) ha hab hb (by simpa using hr),X4p h64 (Z5P x y) (Z5s r1 r2) (Z5t r1 r2) ha hab hb hr]
      have hT:=X4P n1 n2 n3 hab
      unfold tE at hT
      simp only [List.getD_cons_zero,List.getD_cons_succ,List.mem_cons,List.not_mem_nil,or_false] at hT
      generalize r.getD (IntKind.wrap .i64 (IntKind.wrap .i64 (a * (m.Pq.length:Int)) + b)).toNat default=q
      generalize ((m.Tr.drop (i + 1)).any fun t=>tHas t a b)=q2
      have hB:tHas [x,y,z] a b=(decide ((⟨a,b⟩:Gedge)=mkE x y) || (decide ((⟨a,b⟩:Gedge)=mkE y z) || decide ((⟨a,b⟩:Gedge)=mkE z x))):=by
        rw [Bool.eq_iff_iff,← hT];simp only [Bool.or_eq_true,decide_eq_true_eq]
      rw [hB]
      cases decide ((⟨a,b⟩:Gedge)=mkE x y)<;>cases decide ((⟨a,b⟩:Gedge)=mkE y z)<;>cases decide ((⟨a,b⟩:Gedge)=mkE z x)<;>cases q<;>cases q2<;>rfl
    · rw [decide_eq_false hi,cond_false,List.drop_eq_nil_of_le (by omega)];simp
theorem Z9d (m:Gm) (ok:OkE m.Pq.length m.Tr) {a b:Int} (ha:0≤a) (hab:a < b) (hb:b < (m.Pq.length:Int)) :
    (Zy m).getD (IntKind.wrap .i64 (IntKind.wrap .i64 (a * (m.Pq.length:Int)) + b)).toNat default=m.Tr.any fun t=>tHas t a b:=by
  unfold Zy
  have:=Z8H m ok ha hab hb (((m.Tr.length:Int) - 0).toNat + 1) 0 (List.replicate (IntKind.wrap .i64 ((m.Pq.length:Int) * (m.Pq.length:Int))).toNat false) (Nat.zero_le _) (by omega) (by simp)
  rw [List.drop_zero] at this
  refine this.trans ?_
  rw [List.getD_eq_getElem?_getD,List.getElem?_replicate]
  split<;>simp
theorem Z6W (m:Gm) (ok:OkE m.Pq.length m.Tr):Zh m=(edgL m.Pq.length m.Tr).map e2:=by
  rw [X9z]
  unfold Zh Z2h
  refine X96 (n:=m.Pq.length) (p:=fun a b=>m.Tr.any fun t=>tHas t a b) (g:=fun a b=>e2 ⟨a,b⟩) (lo:=Z1l m) (li:=Z1t m) (fun k a r=>rfl) (fun a r ha => ?_) _ 0 (Nat.zero_le _) (by omega)
  unfold Z1t
  have hf:=X93 (n:=(m.Pq.length:Int)) (f:=fun b => !((Zy m).getD ((IntKind.wrap .i64 ((IntKind.wrap .i64 ((a:Int) * (m.Pq.length:Int))) + b)).toNat) default)) (g:=fun b => [(a:Int),b]) (lo:=ZP m a r) (fun k i r'=>by
    rw [ZP]
    cases ((Zy m).getD ((IntKind.wrap .i64 ((IntKind.wrap .i64 ((a:Int) * (m.Pq.length:Int))) + i)).toNat) default)<;>rfl) (((m.Pq.length:Int) - ((a:Int) + 1)).toNat + 1) ((a:Int) + 1) r (Nat.lt_succ_self _)
  rw [hf,show ((m.Pq.length:Int) - ((a:Int) + 1)).toNat=m.Pq.length - (a + 1) from by omega]
  congr 1
  have hfc:((List.range (m.Pq.length - (a + 1))).filter fun (j:Nat) => !(!((Zy m).getD ((IntKind.wrap .i64 ((IntKind.wrap .i64 ((a:Int) * (m.Pq.length:Int))) + ((a:Int) + 1 + (j:Int)))).toNat) default)))=(List.range (m.Pq.length - (a + 1))).filter fun (j:Nat)=>m.Tr.any fun t=>tHas t a ((a:Int) + 1 + j):=by
    refine List.filter_congr fun j hj => ?_
    rw [List.mem_range] at hj
    rw [Bool.not_not,Z9d m ok (by omega) (by omega) (by omega)]
  rw [hfc]
  rfl
theorem Z5u (m:Gm) (ok:OkE m.Pq.length m.Tr):(Zh m).length≤4096:=by
  rw [Z6W m ok,List.length_map];exact X3y ok
theorem Z3T (m:Gm) (ok:OkE m.Pq.length m.Tr) {i:Int} (h0:0≤i) (hi:i < ((Zh m).length:Int)) :
    ((Zh m).getD i.toNat default).length=2∧0≤((Zh m).getD i.toNat default).getD 0 default∧((Zh m).getD i.toNat default).getD 0 default < ((Zh m).getD i.toNat default).getD 1 default∧((Zh m).getD i.toNat default).getD 1 default < (m.Pq.length:Int)∧(m.Pq.length:Int)≤64∧((Zh m).length:Int)≤4096:=by
  have hl:=Z5u m ok
  have h64:=ok.1
  rw [Z6W m ok] at hi hl ⊢
  rw [List.length_map] at hi hl
  have hn:i.toNat < (edgL m.Pq.length m.Tr).length:=by omega
  have hg:((edgL m.Pq.length m.Tr).map e2).getD i.toNat default=e2 (edgL m.Pq.length m.Tr)[i.toNat]:=by rw [List.getD_eq_getElem?_getD,List.getElem?_map,List.getElem?_eq_getElem hn];rfl
  have hb:=X5e (List.getElem_mem hn)
  rw [hg,List.length_map]
  exact ⟨rfl,hb.1,hb.2.1,hb.2.2,by omega,by omega⟩
theorem Z79 (Y4:Gm) (hp0:Y4.Pq.length≤1073741824) (hp1:Y4.Tr.length≤1073741824) (hp2:∀ t∈Y4.Tr,t.length≤1073741824) (hp3:OkE Y4.Pq.length Y4.Tr)  : Fn prog 59 [.ref (Gm.c Y4) 0] (.own 0) [.nest 60 ((Zh Y4).map fun l=>l.map (cI .i64)) false]:=by
 have y0:(0:Int)≤(IntKind.wrap .i64 ((Y4.Pq.length:Int) * (Y4.Pq.length:Int))):=(by (have q2:=ixN hp3.1;omega))
 have y1:((IntKind.wrap .i64 ((Y4.Pq.length:Int) * (Y4.Pq.length:Int))):Int)≤2147483648:=(by (have q2:=ixN hp3.1;omega))
 refine fnS E0Ok Zg (c:=X2 f59) [] (.own 0) [.nest 60 ((Z2h Y4).map fun l=>l.map (cI .i64)) false] func59 (sZ Gv.c Y4.Pq<|sW .i64 ((Y4.Pq.length:Int) * (Y4.Pq.length:Int))<|sC (show (IntKind.wrap .i64 ((Y4.Pq.length:Int) * (Y4.Pq.length:Int)))=(IntKind.wrap .i64 ((Y4.Pq.length:Int) * (Y4.Pq.length:Int))) from rfl)<|sC y0<|sC y1<|sL (mR false [0,1,1,4,7,9,69]) 1 (X13 (st2:=⟨.ref (Gm.c Y4) 0 :: .any :: .nils :: .i .i64 (Y4.Pq.length:Int) :: .own 0 :: .i .i64 0 :: an 7 (.ref (Gm.c Y4) 0 :: .ref (Gm.c Y4) 0 :: .ref (Gm.c Y4) 0 :: .sl (Y4.Pq.map Gv.c) :: .i .i64 (Y4.Pq.length:Int) :: .i .i64 (Y4.Pq.length:Int) :: .i .i64 (Y4.Pq.length:Int) :: .i .i64 (IntKind.wrap .i64 ((Y4.Pq.length:Int) * (Y4.Pq.length:Int))) :: .own 0 :: an 69 []),[.vec 4 1 (List.replicate (Int.toNat (IntKind.wrap .i64 ((Y4.Pq.length:Int) * (Y4.Pq.length:Int)))) [.b false]) false]⟩) (Xc (Z3i Y4) (x:=(Zy Y4)) (Z6s Y4 hp0 hp1 hp2 hp3 (((Y4.Tr.length:Int) - 0).toNat + 1) 0 (List.replicate (IntKind.wrap .i64 ((Y4.Pq.length:Int) * (Y4.Pq.length:Int))).toNat false) (show 0≤0 from (by omega)) (show (List.replicate (IntKind.wrap .i64 ((Y4.Pq.length:Int) * (Y4.Pq.length:Int))).toNat false).length=(IntKind.wrap .i64 ((Y4.Pq.length:Int) * (Y4.Pq.length:Int))).toNat from (by simp)) (Nat.lt_succ_self _)) rfl) (by simp [Z4W,cB]))<|sL (mR false [0,1,1,3,5,2,1,9,69]) 2 (X13 (st2:=⟨.ref (Gm.c Y4) 0 :: .any :: .nils :: .i .i64 (Y4.Pq.length:Int) :: .own 0 :: an 5 (.own 1 :: .i .i64 0 :: .any :: .ref (Gm.c Y4) 0 :: .ref (Gm.c Y4) 0 :: .ref (Gm.c Y4) 0 :: .sl (Y4.Pq.map Gv.c) :: .i .i64 (Y4.Pq.length:Int) :: .i .i64 (Y4.Pq.length:Int) :: .i .i64 (Y4.Pq.length:Int) :: .i .i64 (IntKind.wrap .i64 ((Y4.Pq.length:Int) * (Y4.Pq.length:Int))) :: .own 0 :: an 69 []),[.vec 4 1 ((Zy Y4).map cB) false, .nest 60 [] false]⟩) (Xc (Z3k Y4) (x:=(Z2h Y4)) (Z6u Y4 hp0 hp1 hp2 hp3 (((Y4.Pq.length:Int) - 0).toNat + 1) 0 ([]:List (List Int)) (show 0≤0 from (by omega)) (show (([]:List (List Int)).length:Int)≤64 * 0 from (by simp)) (Nat.lt_succ_self _)) rfl) (by simp [Z4Y,cL,cI]))<|sK [1] sN) rfl (by kernel_rfl) (by kernel_rfl) rfl ?_ ?_
 · rfl
 · simp [Zh]
theorem Z3l (Yl:Nat) (Ym:Nat) (Yn:Nat) (Yo:Nat) (Yp:Nat) (w3:(List Gv)) (w4:(List (List Int))) (w5:(List Gv)) (w6:(List (List Int))) (w7:(List Gs)) (w8:(List Nat)) (Y10:Nat) (Y11:Nat) (Y12:Nat) (Y13:Nat) (Y14:Nat) (w10:(List (List Int))) (Y6:Gl00Src) (hp0:Y6.code.length≤1073741824) (hp1:0≤Y6.at_) (hp2:Y6.at_≤1152921504606846976)  : X9 prog 99 [.box 34 [.nils, .nils, .nils, .f .f32 Yl, .f .f32 Ym, .nils, .f .f32 Yn, .f .f32 Yo, .f .f32 Yp], .box 134 [.sl (Y6.code.map (cI .u8)), .i .i64 Y6.at_, .i .u64 Y6.seed], .box 27 [.own 3, .own 4], .vec 32 3 (w3.map Gv.c) false, .nest 60 (w4.map fun l=>l.map (cI .i64)) false, .vec 32 3 (w5.map Gv.c) false, .nest 60 (w6.map fun l=>l.map (cI .i64)) false, .vec 76 4 (w7.map Gs.c) false, .vec 29 1 (w8.map (cF .f32)) false, .box 34 [.own 5, .own 6, .own 7, .f .f32 Y10, .f .f32 Y11, .own 8, .f .f32 Y12, .f .f32 Y13, .f .f32 Y14], .nest 60 (w10.map fun l=>l.map (cI .i64)) false] [.ptr 1 0 0] (.i .i64 ((Z3 Y6).1)) [.box 34 [.nils, .nils, .nils, .f .f32 Yl, .f .f32 Ym, .nils, .f .f32 Yn, .f .f32 Yo, .f .f32 Yp], .box 134 [.sl (Y6.code.map (cI .u8)), .i .i64 ((Z3 Y6).2.1), .i .u64 ((Z3 Y6).2.2)], .box 27 [.own 3, .own 4], .vec 32 3 (w3.map Gv.c) false, .nest 60 (w4.map fun l=>l.map (cI .i64)) false, .vec 32 3 (w5.map Gv.c) false, .nest 60 (w6.map fun l=>l.map (cI .i64)) false, .vec 76 4 (w7.map Gs.c) false, .vec 29 1 (w8.map (cF .f32)) false, .box 34 [.own 5, .own 6, .own 7, .f .f32 Y10, .f .f32 Y11, .own 8, .f .f32 Y12, .f .f32 Y13, .f .f32 Y14], .nest 60 (w10.map fun l=>l.map (cI .i64)) false]:=by
 have p {a C} (s:Scr a C):=sK [9,9]<|sZ (cI .u8) Y6.code<|s
 cases h0:(decide (Y6.at_ < (Y6.code.length:Int))) with
 | true =>
  have gh0:=odt h0
  have y0:(0:Int)≤Y6.at_:=by clear p;exact (by assumption)
  have y1:Y6.at_ < (Y6.code.length:Int):=by clear p;exact (by assumption)
  have q {a C} (s:Scr a C):=p (sB h0<|sK [8,8]<|sG (cI .u8) Y6.code Y6.at_ y0 y1<|sW .i64 (Y6.code.getD Y6.at_.toNat default)<|sW .i64 (Y6.at_ + 1)<|sW .u64 (Y6.seed * 6364136223846793005)<|sW .u64 (IntKind.wrap .i64 (Y6.code.getD Y6.at_.toNat default))<|sW .u64 ((IntKind.wrap .u64 (Y6.seed * 6364136223846793005)) + (IntKind.wrap .u64 (IntKind.wrap .i64 (Y6.code.getD Y6.at_.toNat default))))<|sM (show IntKind.wrap .u64 ((IntKind.wrap .u64 ((IntKind.wrap .u64 (Y6.seed * 6364136223846793005)) + (IntKind.wrap .u64 (IntKind.wrap .i64 (Y6.code.getD Y6.at_.toNat default))))) + 1442695040888963407)=(Zf Y6) from rfl)<|sK [9,9]<|sZ (cI .u8) Y6.code<|s)
  clear p
  cases h1:(decide ((IntKind.wrap .i64 (Y6.at_ + 1))≤(Y6.code.length:Int))) with
  | true =>
   have gh1:=odt h1
   refine X8 (EpOk 11) Zg (c:=X2 f99) [.box 34 [.nils, .nils, .nils, .f .f32 Yl, .f .f32 Ym, .nils, .f .f32 Yn, .f .f32 Yo, .f .f32 Yp], .box 134 [.sl (Y6.code.map (cI .u8)), .i .i64 Y6.at_, .i .u64 Y6.seed], .box 27 [.own 3, .own 4], .vec 32 3 (w3.map Gv.c) false, .nest 60 (w4.map fun l=>l.map (cI .i64)) false, .vec 32 3 (w5.map Gv.c) false, .nest 60 (w6.map fun l=>l.map (cI .i64)) false, .vec 76 4 (w7.map Gs.c) false, .vec 29 1 (w8.map (cF .f32)) false, .box 34 [.own 5, .own 6, .own 7, .f .f32 Y10, .f .f32 Y11, .own 8, .f .f32 Y12, .f .f32 Y13, .f .f32 Y14], .nest 60 (w10.map fun l=>l.map (cI .i64)) false] [] (.i .i64 (IntKind.wrap .i64 (Y6.code.getD Y6.at_.toNat default))) [.box 34 [.nils, .nils, .nils, .f .f32 Yl, .f .f32 Ym, .nils, .f .f32 Yn, .f .f32 Yo, .f .f32 Yp], .box 134 [.sl (Y6.code.map (cI .u8)), .i .i64 (IntKind.wrap .i64 (Y6.at_ + 1)), .i .u64 (Zf Y6)], .box 27 [.own 3, .own 4], .vec 32 3 (w3.map Gv.c) false, .nest 60 (w4.map fun l=>l.map (cI .i64)) false, .vec 32 3 (w5.map Gv.c) false, .nest 60 (w6.map fun l=>l.map (cI .i64)) false, .vec 76 4 (w7.map Gs.c) false, .vec 29 1 (w8.map (cF .f32)) false, .box 34 [.own 5, .own 6, .own 7, .f .f32 Y10, .f .f32 Y11, .own 8, .f .f32 Y12, .f .f32 Y13, .f .f32 Y14], .nest 60 (w10.map fun l=>l.map (cI .i64)) false] func99 (q (sB h1<|sK [] sN)) rfl (by kernel_rfl) (by kernel_rfl) ?_ ?_
   · simp only [Z3,h0,h1,cond_true]
   · simp [Z3,h0,h1]
  | false =>
   have gh1:=odf h1
   refine X8 (EpOk 11) Zg (c:=X2 f99) [.box 34 [.nils, .nils, .nils, .f .f32 Yl, .f .f32 Ym, .nils, .f .f32 Yn, .f .f32 Yo, .f .f32 Yp], .box 134 [.sl (Y6.code.map (cI .u8)), .i .i64 Y6.at_, .i .u64 Y6.seed], .box 27 [.own 3, .own 4], .vec 32 3 (w3.map Gv.c) false, .nest 60 (w4.map fun l=>l.map (cI .i64)) false, .vec 32 3 (w5.map Gv.c) false, .nest 60 (w6.map fun l=>l.map (cI .i64)) false, .vec 76 4 (w7.map Gs.c) false, .vec 29 1 (w8.map (cF .f32)) false, .box 34 [.own 5, .own 6, .own 7, .f .f32 Y10, .f .f32 Y11, .own 8, .f .f32 Y12, .f .f32 Y13, .f .f32 Y14], .nest 60 (w10.map fun l=>l.map (cI .i64)) false] [] (.i .i64 (IntKind.wrap .i64 (bitsOf .and .u64 (Int.fdiv (Zf Y6) (2 ^ (min (Int.toNat 40) (IntKind.bits .u64)))) 255))) [.box 34 [.nils, .nils, .nils, .f .f32 Yl, .f .f32 Ym, .nils, .f .f32 Yn, .f .f32 Yo, .f .f32 Yp], .box 134 [.sl (Y6.code.map (cI .u8)), .i .i64 (IntKind.wrap .i64 (Y6.at_ + 1)), .i .u64 (Zf Y6)], .box 27 [.own 3, .own 4], .vec 32 3 (w3.map Gv.c) false, .nest 60 (w4.map fun l=>l.map (cI .i64)) false, .vec 32 3 (w5.map Gv.c) false, .nest 60 (w6.map fun l=>l.map (cI .i64)) false, .vec 76 4 (w7.map Gs.c) false, .vec 29 1 (w8.map (cF .f32)) false, .box 34 [.own 5, .own 6, .own 7, .f .f32 Y10, .f .f32 Y11, .own 8, .f .f32 Y12, .f .f32 Y13, .f .f32 Y14], .nest 60 (w10.map fun l=>l.map (cI .i64)) false] func99 (q (sB h1<|sC (show (0:Int)≤40 from (by decide))<|sQ (Int.fdiv (Zf Y6) (2 ^ (min (Int.toNat 40) (IntKind.bits .u64))))<|sQ (bitsOf .and .u64 (Int.fdiv (Zf Y6) (2 ^ (min (Int.toNat 40) (IntKind.bits .u64)))) 255)<|sW .i64 (bitsOf .and .u64 (Int.fdiv (Zf Y6) (2 ^ (min (Int.toNat 40) (IntKind.bits .u64)))) 255)<|sK [] sN)) rfl (by kernel_rfl) (by kernel_rfl) ?_ ?_
   · simp only [Z3,h0,h1,cond_true,cond_false]
   · simp [Z3,h0,h1]
 | false =>
  have gh0:=odf h0
  have q {a C} (s:Scr a C):=p (sB h0<|sW .i64 (Y6.at_ + 1)<|sW .u64 (Y6.seed * 6364136223846793005)<|sM (show IntKind.wrap .u64 0=0 from rfl)<|sW .u64 ((IntKind.wrap .u64 (Y6.seed * 6364136223846793005)) + 0)<|sW .u64 ((IntKind.wrap .u64 ((IntKind.wrap .u64 (Y6.seed * 6364136223846793005)) + 0)) + 1442695040888963407)<|sK [9,9]<|sZ (cI .u8) Y6.code<|s)
  clear p
  cases h1:(decide ((IntKind.wrap .i64 (Y6.at_ + 1))≤(Y6.code.length:Int))) with
  | true =>
   have gh1:=odt h1
   refine X8 (EpOk 11) Zg (c:=X2 f99) [.box 34 [.nils, .nils, .nils, .f .f32 Yl, .f .f32 Ym, .nils, .f .f32 Yn, .f .f32 Yo, .f .f32 Yp], .box 134 [.sl (Y6.code.map (cI .u8)), .i .i64 Y6.at_, .i .u64 Y6.seed], .box 27 [.own 3, .own 4], .vec 32 3 (w3.map Gv.c) false, .nest 60 (w4.map fun l=>l.map (cI .i64)) false, .vec 32 3 (w5.map Gv.c) false, .nest 60 (w6.map fun l=>l.map (cI .i64)) false, .vec 76 4 (w7.map Gs.c) false, .vec 29 1 (w8.map (cF .f32)) false, .box 34 [.own 5, .own 6, .own 7, .f .f32 Y10, .f .f32 Y11, .own 8, .f .f32 Y12, .f .f32 Y13, .f .f32 Y14], .nest 60 (w10.map fun l=>l.map (cI .i64)) false] [] (.i .i64 0) [.box 34 [.nils, .nils, .nils, .f .f32 Yl, .f .f32 Ym, .nils, .f .f32 Yn, .f .f32 Yo, .f .f32 Yp], .box 134 [.sl (Y6.code.map (cI .u8)), .i .i64 (IntKind.wrap .i64 (Y6.at_ + 1)), .i .u64 (IntKind.wrap .u64 ((IntKind.wrap .u64 ((IntKind.wrap .u64 (Y6.seed * 6364136223846793005)) + 0)) + 1442695040888963407))], .box 27 [.own 3, .own 4], .vec 32 3 (w3.map Gv.c) false, .nest 60 (w4.map fun l=>l.map (cI .i64)) false, .vec 32 3 (w5.map Gv.c) false, .nest 60 (w6.map fun l=>l.map (cI .i64)) false, .vec 76 4 (w7.map Gs.c) false, .vec 29 1 (w8.map (cF .f32)) false, .box 34 [.own 5, .own 6, .own 7, .f .f32 Y10, .f .f32 Y11, .own 8, .f .f32 Y12, .f .f32 Y13, .f .f32 Y14], .nest 60 (w10.map fun l=>l.map (cI .i64)) false] func99 (q (sB h1<|sK [] sN)) rfl (by kernel_rfl) (by kernel_rfl) ?_ ?_
   · simp only [Z3,h0,h1,cond_true,cond_false]
   · simp [Z3,h0,h1]
  | false =>
   have gh1:=odf h1
   refine X8 (EpOk 11) Zg (c:=X2 f99) [.box 34 [.nils, .nils, .nils, .f .f32 Yl, .f .f32 Ym, .nils, .f .f32 Yn, .f .f32 Yo, .f .f32 Yp], .box 134 [.sl (Y6.code.map (cI .u8)), .i .i64 Y6.at_, .i .u64 Y6.seed], .box 27 [.own 3, .own 4], .vec 32 3 (w3.map Gv.c) false, .nest 60 (w4.map fun l=>l.map (cI .i64)) false, .vec 32 3 (w5.map Gv.c) false, .nest 60 (w6.map fun l=>l.map (cI .i64)) false, .vec 76 4 (w7.map Gs.c) false, .vec 29 1 (w8.map (cF .f32)) false, .box 34 [.own 5, .own 6, .own 7, .f .f32 Y10, .f .f32 Y11, .own 8, .f .f32 Y12, .f .f32 Y13, .f .f32 Y14], .nest 60 (w10.map fun l=>l.map (cI .i64)) false] [] (.i .i64 (IntKind.wrap .i64 (bitsOf .and .u64 (Int.fdiv (IntKind.wrap .u64 ((IntKind.wrap .u64 ((IntKind.wrap .u64 (Y6.seed * 6364136223846793005)) + 0)) + 1442695040888963407)) (2 ^ (min (Int.toNat 40) (IntKind.bits .u64)))) 255))) [.box 34 [.nils, .nils, .nils, .f .f32 Yl, .f .f32 Ym, .nils, .f .f32 Yn, .f .f32 Yo, .f .f32 Yp], .box 134 [.sl (Y6.code.map (cI .u8)), .i .i64 (IntKind.wrap .i64 (Y6.at_ + 1)), .i .u64 (IntKind.wrap .u64 ((IntKind.wrap .u64 ((IntKind.wrap .u64 (Y6.seed * 6364136223846793005)) + 0)) + 1442695040888963407))], .box 27 [.own 3, .own 4], .vec 32 3 (w3.map Gv.c) false, .nest 60 (w4.map fun l=>l.map (cI .i64)) false, .vec 32 3 (w5.map Gv.c) false, .nest 60 (w6.map fun l=>l.map (cI .i64)) false, .vec 76 4 (w7.map Gs.c) false, .vec 29 1 (w8.map (cF .f32)) false, .box 34 [.own 5, .own 6, .own 7, .f .f32 Y10, .f .f32 Y11, .own 8, .f .f32 Y12, .f .f32 Y13, .f .f32 Y14], .nest 60 (w10.map fun l=>l.map (cI .i64)) false] func99 (q (sB h1<|sC (show (0:Int)≤40 from (by decide))<|sQ (Int.fdiv (IntKind.wrap .u64 ((IntKind.wrap .u64 ((IntKind.wrap .u64 (Y6.seed * 6364136223846793005)) + 0)) + 1442695040888963407)) (2 ^ (min (Int.toNat 40) (IntKind.bits .u64))))<|sQ (bitsOf .and .u64 (Int.fdiv (IntKind.wrap .u64 ((IntKind.wrap .u64 ((IntKind.wrap .u64 (Y6.seed * 6364136223846793005)) + 0)) + 1442695040888963407)) (2 ^ (min (Int.toNat 40) (IntKind.bits .u64)))) 255)<|sW .i64 (bitsOf .and .u64 (Int.fdiv (IntKind.wrap .u64 ((IntKind.wrap .u64 ((IntKind.wrap .u64 (Y6.seed * 6364136223846793005)) + 0)) + 1442695040888963407)) (2 ^ (min (Int.toNat 40) (IntKind.bits .u64)))) 255)<|sK [] sN)) rfl (by kernel_rfl) (by kernel_rfl) ?_ ?_
   · simp only [Z3,h0,h1,cond_false]
   · simp [Z3,h0,h1]
theorem Z3m (Yl:Nat) (Ym:Nat) (Yn:Nat) (Yo:Nat) (Yp:Nat) (w3:(List Gv)) (w4:(List (List Int))) (w5:(List Gv)) (w6:(List (List Int))) (w7:(List Gs)) (w8:(List Nat)) (Y10:Nat) (Y11:Nat) (Y12:Nat) (Y13:Nat) (Y14:Nat) (w10:(List (List Int))) (Y6:Gl00Src) (YK:Int) (hp0:Y6.code.length≤1073741824) (hp1:0≤Y6.at_) (hp2:Y6.at_≤1152921504606846970)  : X9 prog 55 [.box 34 [.nils, .nils, .nils, .f .f32 Yl, .f .f32 Ym, .nils, .f .f32 Yn, .f .f32 Yo, .f .f32 Yp], .box 134 [.sl (Y6.code.map (cI .u8)), .i .i64 Y6.at_, .i .u64 Y6.seed], .box 27 [.own 3, .own 4], .vec 32 3 (w3.map Gv.c) false, .nest 60 (w4.map fun l=>l.map (cI .i64)) false, .vec 32 3 (w5.map Gv.c) false, .nest 60 (w6.map fun l=>l.map (cI .i64)) false, .vec 76 4 (w7.map Gs.c) false, .vec 29 1 (w8.map (cF .f32)) false, .box 34 [.own 5, .own 6, .own 7, .f .f32 Y10, .f .f32 Y11, .own 8, .f .f32 Y12, .f .f32 Y13, .f .f32 Y14], .nest 60 (w10.map fun l=>l.map (cI .i64)) false] [.ptr 1 0 0, .i .i64 YK] (.i .i64 ((Z0 Y6 YK).1)) [.box 34 [.nils, .nils, .nils, .f .f32 Yl, .f .f32 Ym, .nils, .f .f32 Yn, .f .f32 Yo, .f .f32 Yp], .box 134 [.sl (Y6.code.map (cI .u8)), .i .i64 ((Z0 Y6 YK).2.1), .i .u64 ((Z0 Y6 YK).2.2)], .box 27 [.own 3, .own 4], .vec 32 3 (w3.map Gv.c) false, .nest 60 (w4.map fun l=>l.map (cI .i64)) false, .vec 32 3 (w5.map Gv.c) false, .nest 60 (w6.map fun l=>l.map (cI .i64)) false, .vec 76 4 (w7.map Gs.c) false, .vec 29 1 (w8.map (cF .f32)) false, .box 34 [.own 5, .own 6, .own 7, .f .f32 Y10, .f .f32 Y11, .own 8, .f .f32 Y12, .f .f32 Y13, .f .f32 Y14], .nest 60 (w10.map fun l=>l.map (cI .i64)) false]:=by
 cases h0:(decide (YK≤1)) with
 | true =>
  have gh0:=odt h0
  refine X8 (EpOk 11) Zg (c:=X2 f55) [.box 34 [.nils, .nils, .nils, .f .f32 Yl, .f .f32 Ym, .nils, .f .f32 Yn, .f .f32 Yo, .f .f32 Yp], .box 134 [.sl (Y6.code.map (cI .u8)), .i .i64 Y6.at_, .i .u64 Y6.seed], .box 27 [.own 3, .own 4], .vec 32 3 (w3.map Gv.c) false, .nest 60 (w4.map fun l=>l.map (cI .i64)) false, .vec 32 3 (w5.map Gv.c) false, .nest 60 (w6.map fun l=>l.map (cI .i64)) false, .vec 76 4 (w7.map Gs.c) false, .vec 29 1 (w8.map (cF .f32)) false, .box 34 [.own 5, .own 6, .own 7, .f .f32 Y10, .f .f32 Y11, .own 8, .f .f32 Y12, .f .f32 Y13, .f .f32 Y14], .nest 60 (w10.map fun l=>l.map (cI .i64)) false] [] (.i .i64 0) [.box 34 [.nils, .nils, .nils, .f .f32 Yl, .f .f32 Ym, .nils, .f .f32 Yn, .f .f32 Yo, .f .f32 Yp], .box 134 [.sl (Y6.code.map (cI .u8)), .i .i64 Y6.at_, .i .u64 Y6.seed], .box 27 [.own 3, .own 4], .vec 32 3 (w3.map Gv.c) false, .nest 60 (w4.map fun l=>l.map (cI .i64)) false, .vec 32 3 (w5.map Gv.c) false, .nest 60 (w6.map fun l=>l.map (cI .i64)) false, .vec 76 4 (w7.map Gs.c) false, .vec 29 1 (w8.map (cF .f32)) false, .box 34 [.own 5, .own 6, .own 7, .f .f32 Y10, .f .f32 Y11, .own 8, .f .f32 Y12, .f .f32 Y13, .f .f32 Y14], .nest 60 (w10.map fun l=>l.map (cI .i64)) false] func55 (sB h0<|sK [] sN) rfl (by kernel_rfl) (by kernel_rfl) ?_ ?_
  · simp only [Z0,h0,cond_true]
  · simp [Z0,h0]
 | false =>
  have gh0:=odf h0
  have y0:Y6.at_≤1152921504606846976:=(by omega)
  have l1:=(Z21 Y6)
  have p {a C} (s:Scr a C):=sB h0<|sS (Z3l Yl Ym Yn Yo Yp w3 w4 w5 w6 w7 w8 Y10 Y11 Y12 Y13 Y14 w10 Y6 hp0 hp1 y0)<|s
  cases h1:(decide (YK > 200)) with
  | true =>
   have gh1:=odt h1
   have y1:(⟨Y6.code,(Z3 Y6).2.1,(Z3 Y6).2.2⟩:Gl00Src).code.length≤1073741824:=by clear p;exact (by assumption)
   have y2:0≤(⟨Y6.code,(Z3 Y6).2.1,(Z3 Y6).2.2⟩:Gl00Src).at_:=by clear p;exact (by simp_all<;>omega)
   have y3:(⟨Y6.code,(Z3 Y6).2.1,(Z3 Y6).2.2⟩:Gl00Src).at_≤1152921504606846976:=by clear p;exact (by simp_all<;>omega)
   have l2:=(Z21 (⟨Y6.code,(Z3 Y6).2.1,(Z3 Y6).2.2⟩:Gl00Src))
   have y4:YK≠0:=by clear p;exact (by omega)
   refine X8 (EpOk 11) Zg (c:=X2 f55) [.box 34 [.nils, .nils, .nils, .f .f32 Yl, .f .f32 Ym, .nils, .f .f32 Yn, .f .f32 Yo, .f .f32 Yp], .box 134 [.sl (Y6.code.map (cI .u8)), .i .i64 Y6.at_, .i .u64 Y6.seed], .box 27 [.own 3, .own 4], .vec 32 3 (w3.map Gv.c) false, .nest 60 (w4.map fun l=>l.map (cI .i64)) false, .vec 32 3 (w5.map Gv.c) false, .nest 60 (w6.map fun l=>l.map (cI .i64)) false, .vec 76 4 (w7.map Gs.c) false, .vec 29 1 (w8.map (cF .f32)) false, .box 34 [.own 5, .own 6, .own 7, .f .f32 Y10, .f .f32 Y11, .own 8, .f .f32 Y12, .f .f32 Y13, .f .f32 Y14], .nest 60 (w10.map fun l=>l.map (cI .i64)) false] [] (.i .i64 (Int.tmod (Zp Y6) YK)) [.box 34 [.nils, .nils, .nils, .f .f32 Yl, .f .f32 Ym, .nils, .f .f32 Yn, .f .f32 Yo, .f .f32 Yp], .box 134 [.sl (Y6.code.map (cI .u8)), .i .i64 ((Z3 (⟨Y6.code,(Z3 Y6).2.1,(Z3 Y6).2.2⟩:Gl00Src)).2.1), .i .u64 ((Z3 (⟨Y6.code,(Z3 Y6).2.1,(Z3 Y6).2.2⟩:Gl00Src)).2.2)], .box 27 [.own 3, .own 4], .vec 32 3 (w3.map Gv.c) false, .nest 60 (w4.map fun l=>l.map (cI .i64)) false, .vec 32 3 (w5.map Gv.c) false, .nest 60 (w6.map fun l=>l.map (cI .i64)) false, .vec 76 4 (w7.map Gs.c) false, .vec 29 1 (w8.map (cF .f32)) false, .box 34 [.own 5, .own 6, .own 7, .f .f32 Y10, .f .f32 Y11, .own 8, .f .f32 Y12, .f .f32 Y13, .f .f32 Y14], .nest 60 (w10.map fun l=>l.map (cI .i64)) false] func55 (p (sB h1<|sW .i64 ((Z3 Y6).1 * 256)<|sS (Z3l Yl Ym Yn Yo Yp w3 w4 w5 w6 w7 w8 Y10 Y11 Y12 Y13 Y14 w10 (⟨Y6.code,(Z3 Y6).2.1,(Z3 Y6).2.2⟩:Gl00Src) y1 y2 y3)<|sM (show IntKind.wrap .i64 ((IntKind.wrap .i64 ((Z3 Y6).1 * 256)) + (Z3 (⟨Y6.code,(Z3 Y6).2.1,(Z3 Y6).2.2⟩:Gl00Src)).1)=(Zp Y6) from rfl)<|sC y4<|sQ (Int.tmod (Zp Y6) YK)<|sK [] sN)) rfl (by kernel_rfl) (by kernel_rfl) ?_ ?_
   · simp only [Z0,h0,h1,cond_true,cond_false]
   · simp [Z0,h0,h1]
  | false =>
   have gh1:=odf h1
   have y1:YK≠0:=by clear p;exact (by omega)
   refine X8 (EpOk 11) Zg (c:=X2 f55) [.box 34 [.nils, .nils, .nils, .f .f32 Yl, .f .f32 Ym, .nils, .f .f32 Yn, .f .f32 Yo, .f .f32 Yp], .box 134 [.sl (Y6.code.map (cI .u8)), .i .i64 Y6.at_, .i .u64 Y6.seed], .box 27 [.own 3, .own 4], .vec 32 3 (w3.map Gv.c) false, .nest 60 (w4.map fun l=>l.map (cI .i64)) false, .vec 32 3 (w5.map Gv.c) false, .nest 60 (w6.map fun l=>l.map (cI .i64)) false, .vec 76 4 (w7.map Gs.c) false, .vec 29 1 (w8.map (cF .f32)) false, .box 34 [.own 5, .own 6, .own 7, .f .f32 Y10, .f .f32 Y11, .own 8, .f .f32 Y12, .f .f32 Y13, .f .f32 Y14], .nest 60 (w10.map fun l=>l.map (cI .i64)) false] [] (.i .i64 (Int.tmod ((Z3 Y6).1) YK)) [.box 34 [.nils, .nils, .nils, .f .f32 Yl, .f .f32 Ym, .nils, .f .f32 Yn, .f .f32 Yo, .f .f32 Yp], .box 134 [.sl (Y6.code.map (cI .u8)), .i .i64 ((Z3 Y6).2.1), .i .u64 ((Z3 Y6).2.2)], .box 27 [.own 3, .own 4], .vec 32 3 (w3.map Gv.c) false, .nest 60 (w4.map fun l=>l.map (cI .i64)) false, .vec 32 3 (w5.map Gv.c) false, .nest 60 (w6.map fun l=>l.map (cI .i64)) false, .vec 76 4 (w7.map Gs.c) false, .vec 29 1 (w8.map (cF .f32)) false, .box 34 [.own 5, .own 6, .own 7, .f .f32 Y10, .f .f32 Y11, .own 8, .f .f32 Y12, .f .f32 Y13, .f .f32 Y14], .nest 60 (w10.map fun l=>l.map (cI .i64)) false] func55 (p (sB h1<|sC y1<|sQ (Int.tmod ((Z3 Y6).1) YK)<|sK [] sN)) rfl (by kernel_rfl) (by kernel_rfl) ?_ ?_
   · simp only [Z0,h0,h1,cond_false]
   · simp [Z0,h0,h1]
theorem Z3n (Yl:Nat) (Ym:Nat) (Yn:Nat) (Yo:Nat) (Yp:Nat) (Y15:Nat) (Y16:Nat) (Y17:Nat) (Y18:Nat) (Y19:Nat) (w4:(List (List Int))) (w5:(List Gv)) (w6:(List (List Int))) (w7:(List Gv)) (w8:(List (List Int))) (w9:(List Gs)) (w10:(List Nat)) (Y6:Gl00Src) (hp0:Y6.code.length≤1073741824) (hp1:0≤Y6.at_) (hp2:Y6.at_≤1152921504606846976)  : X9 prog 99 [.box 34 [.nils, .nils, .nils, .f .f32 Yl, .f .f32 Ym, .nils, .f .f32 Yn, .f .f32 Yo, .f .f32 Yp], .box 134 [.sl (Y6.code.map (cI .u8)), .i .i64 Y6.at_, .i .u64 Y6.seed], .box 27 [.own 5, .own 6], .box 34 [.own 7, .own 8, .own 9, .f .f32 Y15, .f .f32 Y16, .own 10, .f .f32 Y17, .f .f32 Y18, .f .f32 Y19], .nest 60 (w4.map fun l=>l.map (cI .i64)) false, .vec 32 3 (w5.map Gv.c) false, .nest 60 (w6.map fun l=>l.map (cI .i64)) false, .vec 32 3 (w7.map Gv.c) false, .nest 60 (w8.map fun l=>l.map (cI .i64)) false, .vec 76 4 (w9.map Gs.c) false, .vec 29 1 (w10.map (cF .f32)) false] [.ptr 1 0 0] (.i .i64 ((Z3 Y6).1)) [.box 34 [.nils, .nils, .nils, .f .f32 Yl, .f .f32 Ym, .nils, .f .f32 Yn, .f .f32 Yo, .f .f32 Yp], .box 134 [.sl (Y6.code.map (cI .u8)), .i .i64 ((Z3 Y6).2.1), .i .u64 ((Z3 Y6).2.2)], .box 27 [.own 5, .own 6], .box 34 [.own 7, .own 8, .own 9, .f .f32 Y15, .f .f32 Y16, .own 10, .f .f32 Y17, .f .f32 Y18, .f .f32 Y19], .nest 60 (w4.map fun l=>l.map (cI .i64)) false, .vec 32 3 (w5.map Gv.c) false, .nest 60 (w6.map fun l=>l.map (cI .i64)) false, .vec 32 3 (w7.map Gv.c) false, .nest 60 (w8.map fun l=>l.map (cI .i64)) false, .vec 76 4 (w9.map Gs.c) false, .vec 29 1 (w10.map (cF .f32)) false]:=by
 have p {a C} (s:Scr a C):=sK [9,9]<|sZ (cI .u8) Y6.code<|s
 cases h0:(decide (Y6.at_ < (Y6.code.length:Int))) with
 | true =>
  have gh0:=odt h0
  have y0:(0:Int)≤Y6.at_:=by clear p;exact (by assumption)
  have y1:Y6.at_ < (Y6.code.length:Int):=by clear p;exact (by assumption)
  have q {a C} (s:Scr a C):=p (sB h0<|sK [8,8]<|sG (cI .u8) Y6.code Y6.at_ y0 y1<|sW .i64 (Y6.code.getD Y6.at_.toNat default)<|sW .i64 (Y6.at_ + 1)<|sW .u64 (Y6.seed * 6364136223846793005)<|sW .u64 (IntKind.wrap .i64 (Y6.code.getD Y6.at_.toNat default))<|sW .u64 ((IntKind.wrap .u64 (Y6.seed * 6364136223846793005)) + (IntKind.wrap .u64 (IntKind.wrap .i64 (Y6.code.getD Y6.at_.toNat default))))<|sM (show IntKind.wrap .u64 ((IntKind.wrap .u64 ((IntKind.wrap .u64 (Y6.seed * 6364136223846793005)) + (IntKind.wrap .u64 (IntKind.wrap .i64 (Y6.code.getD Y6.at_.toNat default))))) + 1442695040888963407)=(Zf Y6) from rfl)<|sK [9,9]<|sZ (cI .u8) Y6.code<|s)
  clear p
  cases h1:(decide ((IntKind.wrap .i64 (Y6.at_ + 1))≤(Y6.code.length:Int))) with
  | true =>
   have gh1:=odt h1
   refine X8 (EpOk 11) Zg (c:=X2 f99) [.box 34 [.nils, .nils, .nils, .f .f32 Yl, .f .f32 Ym, .nils, .f .f32 Yn, .f .f32 Yo, .f .f32 Yp], .box 134 [.sl (Y6.code.map (cI .u8)), .i .i64 Y6.at_, .i .u64 Y6.seed], .box 27 [.own 5, .own 6], .box 34 [.own 7, .own 8, .own 9, .f .f32 Y15, .f .f32 Y16, .own 10, .f .f32 Y17, .f .f32 Y18, .f .f32 Y19], .nest 60 (w4.map fun l=>l.map (cI .i64)) false, .vec 32 3 (w5.map Gv.c) false, .nest 60 (w6.map fun l=>l.map (cI .i64)) false, .vec 32 3 (w7.map Gv.c) false, .nest 60 (w8.map fun l=>l.map (cI .i64)) false, .vec 76 4 (w9.map Gs.c) false, .vec 29 1 (w10.map (cF .f32)) false] [] (.i .i64 (IntKind.wrap .i64 (Y6.code.getD Y6.at_.toNat default))) [.box 34 [.nils, .nils, .nils, .f .f32 Yl, .f .f32 Ym, .nils, .f .f32 Yn, .f .f32 Yo, .f .f32 Yp], .box 134 [.sl (Y6.code.map (cI .u8)), .i .i64 (IntKind.wrap .i64 (Y6.at_ + 1)), .i .u64 (Zf Y6)], .box 27 [.own 5, .own 6], .box 34 [.own 7, .own 8, .own 9, .f .f32 Y15, .f .f32 Y16, .own 10, .f .f32 Y17, .f .f32 Y18, .f .f32 Y19], .nest 60 (w4.map fun l=>l.map (cI .i64)) false, .vec 32 3 (w5.map Gv.c) false, .nest 60 (w6.map fun l=>l.map (cI .i64)) false, .vec 32 3 (w7.map Gv.c) false, .nest 60 (w8.map fun l=>l.map (cI .i64)) false, .vec 76 4 (w9.map Gs.c) false, .vec 29 1 (w10.map (cF .f32)) false] func99 (q (sB h1<|sK [] sN)) rfl (by kernel_rfl) (by kernel_rfl) ?_ ?_
   · simp only [Z3,h0,h1,cond_true]
   · simp [Z3,h0,h1]
  | false =>
   have gh1:=odf h1
   refine X8 (EpOk 11) Zg (c:=X2 f99) [.box 34 [.nils, .nils, .nils, .f .f32 Yl, .f .f32 Ym, .nils, .f .f32 Yn, .f .f32 Yo, .f .f32 Yp], .box 134 [.sl (Y6.code.map (cI .u8)), .i .i64 Y6.at_, .i .u64 Y6.seed], .box 27 [.own 5, .own 6], .box 34 [.own 7, .own 8, .own 9, .f .f32 Y15, .f .f32 Y16, .own 10, .f .f32 Y17, .f .f32 Y18, .f .f32 Y19], .nest 60 (w4.map fun l=>l.map (cI .i64)) false, .vec 32 3 (w5.map Gv.c) false, .nest 60 (w6.map fun l=>l.map (cI .i64)) false, .vec 32 3 (w7.map Gv.c) false, .nest 60 (w8.map fun l=>l.map (cI .i64)) false, .vec 76 4 (w9.map Gs.c) false, .vec 29 1 (w10.map (cF .f32)) false] [] (.i .i64 (IntKind.wrap .i64 (bitsOf .and .u64 (Int.fdiv (Zf Y6) (2 ^ (min (Int.toNat 40) (IntKind.bits .u64)))) 255))) [.box 34 [.nils, .nils, .nils, .f .f32 Yl, .f .f32 Ym, .nils, .f .f32 Yn, .f .f32 Yo, .f .f32 Yp], .box 134 [.sl (Y6.code.map (cI .u8)), .i .i64 (IntKind.wrap .i64 (Y6.at_ + 1)), .i .u64 (Zf Y6)], .box 27 [.own 5, .own 6], .box 34 [.own 7, .own 8, .own 9, .f .f32 Y15, .f .f32 Y16, .own 10, .f .f32 Y17, .f .f32 Y18, .f .f32 Y19], .nest 60 (w4.map fun l=>l.map (cI .i64)) false, .vec 32 3 (w5.map Gv.c) false, .nest 60 (w6.map fun l=>l.map (cI .i64)) false, .vec 32 3 (w7.map Gv.c) false, .nest 60 (w8.map fun l=>l.map (cI .i64)) false, .vec 76 4 (w9.map Gs.c) false, .vec 29 1 (w10.map (cF .f32)) false] func99 (q (sB h1<|sC (show (0:Int)≤40 from (by decide))<|sQ (Int.fdiv (Zf Y6) (2 ^ (min (Int.toNat 40) (IntKind.bits .u64))))<|sQ (bitsOf .and .u64 (Int.fdiv (Zf Y6) (2 ^ (min (Int.toNat 40) (IntKind.bits .u64)))) 255)<|sW .i64 (bitsOf .and .u64 (Int.fdiv (Zf Y6) (2 ^ (min (Int.toNat 40) (IntKind.bits .u64)))) 255)<|sK [] sN)) rfl (by kernel_rfl) (by kernel_rfl) ?_ ?_
   · simp only [Z3,h0,h1,cond_true,cond_false]
   · simp [Z3,h0,h1]
 | false =>
  have gh0:=odf h0
  have q {a C} (s:Scr a C):=p (sB h0<|sW .i64 (Y6.at_ + 1)<|sW .u64 (Y6.seed * 6364136223846793005)<|sM (show IntKind.wrap .u64 0=0 from rfl)<|sW .u64 ((IntKind.wrap .u64 (Y6.seed * 6364136223846793005)) + 0)<|sW .u64 ((IntKind.wrap .u64 ((IntKind.wrap .u64 (Y6.seed * 6364136223846793005)) + 0)) + 1442695040888963407)<|sK [9,9]<|sZ (cI .u8) Y6.code<|s)
  clear p
  cases h1:(decide ((IntKind.wrap .i64 (Y6.at_ + 1))≤(Y6.code.length:Int))) with
  | true =>
   have gh1:=odt h1
   refine X8 (EpOk 11) Zg (c:=X2 f99) [.box 34 [.nils, .nils, .nils, .f .f32 Yl, .f .f32 Ym, .nils, .f .f32 Yn, .f .f32 Yo, .f .f32 Yp], .box 134 [.sl (Y6.code.map (cI .u8)), .i .i64 Y6.at_, .i .u64 Y6.seed], .box 27 [.own 5, .own 6], .box 34 [.own 7, .own 8, .own 9, .f .f32 Y15, .f .f32 Y16, .own 10, .f .f32 Y17, .f .f32 Y18, .f .f32 Y19], .nest 60 (w4.map fun l=>l.map (cI .i64)) false, .vec 32 3 (w5.map Gv.c) false, .nest 60 (w6.map fun l=>l.map (cI .i64)) false, .vec 32 3 (w7.map Gv.c) false, .nest 60 (w8.map fun l=>l.map (cI .i64)) false, .vec 76 4 (w9.map Gs.c) false, .vec 29 1 (w10.map (cF .f32)) false] [] (.i .i64 0) [.box 34 [.nils, .nils, .nils, .f .f32 Yl, .f .f32 Ym, .nils, .f .f32 Yn, .f .f32 Yo, .f .f32 Yp], .box 134 [.sl (Y6.code.map (cI .u8)), .i .i64 (IntKind.wrap .i64 (Y6.at_ + 1)), .i .u64 (IntKind.wrap .u64 ((IntKind.wrap .u64 ((IntKind.wrap .u64 (Y6.seed * 6364136223846793005)) + 0)) + 1442695040888963407))], .box 27 [.own 5, .own 6], .box 34 [.own 7, .own 8, .own 9, .f .f32 Y15, .f .f32 Y16, .own 10, .f .f32 Y17, .f .f32 Y18, .f .f32 Y19], .nest 60 (w4.map fun l=>l.map (cI .i64)) false, .vec 32 3 (w5.map Gv.c) false, .nest 60 (w6.map fun l=>l.map (cI .i64)) false, .vec 32 3 (w7.map Gv.c) false, .nest 60 (w8.map fun l=>l.map (cI .i64)) false, .vec 76 4 (w9.map Gs.c) false, .vec 29 1 (w10.map (cF .f32)) false] func99 (q (sB h1<|sK [] sN)) rfl (by kernel_rfl) (by kernel_rfl) ?_ ?_
   · simp only [Z3,h0,h1,cond_true,cond_false]
   · simp [Z3,h0,h1]
  | false =>
   have gh1:=odf h1
   refine X8 (EpOk 11) Zg (c:=X2 f99) [.box 34 [.nils, .nils, .nils, .f .f32 Yl, .f .f32 Ym, .nils, .f .f32 Yn, .f .f32 Yo, .f .f32 Yp], .box 134 [.sl (Y6.code.map (cI .u8)), .i .i64 Y6.at_, .i .u64 Y6.seed], .box 27 [.own 5, .own 6], .box 34 [.own 7, .own 8, .own 9, .f .f32 Y15, .f .f32 Y16, .own 10, .f .f32 Y17, .f .f32 Y18, .f .f32 Y19], .nest 60 (w4.map fun l=>l.map (cI .i64)) false, .vec 32 3 (w5.map Gv.c) false, .nest 60 (w6.map fun l=>l.map (cI .i64)) false, .vec 32 3 (w7.map Gv.c) false, .nest 60 (w8.map fun l=>l.map (cI .i64)) false, .vec 76 4 (w9.map Gs.c) false, .vec 29 1 (w10.map (cF .f32)) false] [] (.i .i64 (IntKind.wrap .i64 (bitsOf .and .u64 (Int.fdiv (IntKind.wrap .u64 ((IntKind.wrap .u64 ((IntKind.wrap .u64 (Y6.seed * 6364136223846793005)) + 0)) + 1442695040888963407)) (2 ^ (min (Int.toNat 40) (IntKind.bits .u64)))) 255))) [.box 34 [.nils, .nils, .nils, .f .f32 Yl, .f .f32 Ym, .nils, .f .f32 Yn, .f .f32 Yo, .f .f32 Yp], .box 134 [.sl (Y6.code.map (cI .u8)), .i .i64 (IntKind.wrap .i64 (Y6.at_ + 1)), .i .u64 (IntKind.wrap .u64 ((IntKind.wrap .u64 ((IntKind.wrap .u64 (Y6.seed * 6364136223846793005)) + 0)) + 1442695040888963407))], .box 27 [.own 5, .own 6], .box 34 [.own 7, .own 8, .own 9, .f .f32 Y15, .f .f32 Y16, .own 10, .f .f32 Y17, .f .f32 Y18, .f .f32 Y19], .nest 60 (w4.map fun l=>l.map (cI .i64)) false, .vec 32 3 (w5.map Gv.c) false, .nest 60 (w6.map fun l=>l.map (cI .i64)) false, .vec 32 3 (w7.map Gv.c) false, .nest 60 (w8.map fun l=>l.map (cI .i64)) false, .vec 76 4 (w9.map Gs.c) false, .vec 29 1 (w10.map (cF .f32)) false] func99 (q (sB h1<|sC (show (0:Int)≤40 from (by decide))<|sQ (Int.fdiv (IntKind.wrap .u64 ((IntKind.wrap .u64 ((IntKind.wrap .u64 (Y6.seed * 6364136223846793005)) + 0)) + 1442695040888963407)) (2 ^ (min (Int.toNat 40) (IntKind.bits .u64))))<|sQ (bitsOf .and .u64 (Int.fdiv (IntKind.wrap .u64 ((IntKind.wrap .u64 ((IntKind.wrap .u64 (Y6.seed * 6364136223846793005)) + 0)) + 1442695040888963407)) (2 ^ (min (Int.toNat 40) (IntKind.bits .u64)))) 255)<|sW .i64 (bitsOf .and .u64 (Int.fdiv (IntKind.wrap .u64 ((IntKind.wrap .u64 ((IntKind.wrap .u64 (Y6.seed * 6364136223846793005)) + 0)) + 1442695040888963407)) (2 ^ (min (Int.toNat 40) (IntKind.bits .u64)))) 255)<|sK [] sN)) rfl (by kernel_rfl) (by kernel_rfl) ?_ ?_
   · simp only [Z3,h0,h1,cond_false]
   · simp [Z3,h0,h1]
end Go.Ab
