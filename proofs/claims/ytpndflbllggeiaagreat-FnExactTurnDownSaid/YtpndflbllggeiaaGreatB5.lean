/- The functions of this seat as plain Lean, and that the program's are these. Printed by a program of the prover's own. -/
import Derived.Test.YtpndflbllggeiaaGreatB4
set_option linter.unusedVariables false
set_option linter.unusedSimpArgs false
set_option maxRecDepth 100000
namespace Go.Ab
open Go.RowKit Go.Proofs.Tryz
def Z2t (Y0:Gb):(List Nat):=(Z1s Y0 ((((Z2 Y0.Me).length:Int) - 0).toNat + 1) 0 (Z2s Y0))
@[simp] theorem Zbq (Y0:Gb):(Z2t Y0).length=((Z2s Y0):(List Nat)).length:=Zdp Y0 ((((Z2 Y0.Me).length:Int) - 0).toNat + 1) 0 (Z2s Y0) (by exact Nat.lt_succ_self _)
def Z4e (Y0:Gb) (Y1:Int) (Ye:(List Nat)):Nat:=(fop .add .f32 (Ye.getD 3 default) (fneg .f32 (fop .mul .f32 (Y0.We.getD Y1.toNat default) (Z49 Y0.Fall (Y0.Me.Pq.getD Y1.toNat default)))))
def Z1I (Y0:Gb):Nat→Int→(List Nat)→(List Nat)
  | 0,_,_=>default
  | k + 1,Y1,Ye=>(cond (decide (Y1 < (Y0.Me.Pq.length:Int)))
    (Z1I Y0 k (Y1 + 1) (Ye.set 3 (Z4e Y0 Y1 Ye)))
    Ye)
def Z7C (Y0:Gb) (r:(List Nat)):Ex × St:=((.exit 6),⟨.ref (Gb.c Y0) 0 :: .any :: .nils :: .own 0 :: .ref (Gb.c Y0) 0 :: an 4 (.own 1 :: .any :: .any :: .any :: .own 0 :: .ref (Gb.c Y0) 0 :: .ref (Gb.c Y0) 0 :: .ref (Gb.c Y0) 0 :: .ref (Gb.c Y0) 0 :: .ref (Gb.c Y0) 0 :: .ref (Gb.c Y0) 2 :: .sl (Y0.Sp.map Gs.c) :: an 45 (.ref (Gb.c Y0) 0 :: .ref (Gb.c Y0) 0 :: .ref (Gb.c Y0) 1 :: .sl (Y0.Me.Tr.map (cL (cI .i64))) :: an 26 (.ref (Gb.c Y0) 0 :: .own 1 :: .own 1 :: an 25 (.ref (Gb.c Y0) 0 :: .ref (Gb.c Y0) 0 :: .ref (Gb.c Y0) 0 :: .sl (Y0.Me.Pq.map Gv.c) :: an 32 [])))),[.vec 27 1 (r.map (cF .f32)) false, .nest 49 ((Z2 Y0.Me).map fun l=>l.map (cI .i64)) false]⟩)
def ZaX (Y0:Gb) (Y1:Int) (Ye:(List Nat)):St:=⟨.ref (Gb.c Y0) 0 :: .any :: .nils :: .own 0 :: .ref (Gb.c Y0) 0 :: an 4 (.own 1 :: .any :: .any :: .any :: .own 0 :: .ref (Gb.c Y0) 0 :: .ref (Gb.c Y0) 0 :: .ref (Gb.c Y0) 0 :: .ref (Gb.c Y0) 0 :: .ref (Gb.c Y0) 0 :: .ref (Gb.c Y0) 2 :: .sl (Y0.Sp.map Gs.c) :: an 45 (.ref (Gb.c Y0) 0 :: .ref (Gb.c Y0) 0 :: .ref (Gb.c Y0) 1 :: .sl (Y0.Me.Tr.map (cL (cI .i64))) :: an 26 (.ref (Gb.c Y0) 0 :: .own 1 :: .own 1 :: an 25 (.ref (Gb.c Y0) 0 :: .ref (Gb.c Y0) 0 :: .ref (Gb.c Y0) 0 :: .sl (Y0.Me.Pq.map Gv.c) :: .i .i64 (Y0.Me.Pq.length:Int) :: .i .i64 Y1 :: an 30 [])))),[.vec 27 1 (Ye.map (cF .f32)) false, .nest 49 ((Z2 Y0.Me).map fun l=>l.map (cI .i64)) false]⟩
def Z9v:List Bool:=(mR false [0,1,1,3,4,1,3,8,45,4,26,3,25,6,30])
def Zdq:List Bool:=(mR false [0,1,1,3,4,1,3,8,45,4,26,3,25,4,32])
theorem ZeA (Y0:Gb) (hp0:Y0.Me.Pq.length≤1073741824) (hp1:Y0.Me.Tr.length≤1073741824) (hp2:∀ t∈Y0.Me.Tr,t.length≤1073741824) (hp3:Y0.Sp.length≤1073741824) (hp4:Y0.We.length≤1073741824) (hp5:OkBd Y0):∀ (k:Nat) (Y1:Int) (Ye:(List Nat)) (Z9w:0≤Y1) (Z9x:Ye.length=(Z2t Y0).length) (hk:((Y0.Me.Pq.length:Int) - Y1).toNat < k),Lp prog 0 (sub (X0 f133) [1,1,1,1,1,1,1,0,1,0,0]) (ZaX Y0 Y1 Ye) (Z7C Y0 (Z1I Y0 k Y1 Ye)).1 (Z7C Y0 (Z1I Y0 k Y1 Ye)).2:=by
 intro k
 induction k with
 | zero=>intro Y1 Ye Z9w Z9x hk;exact absurd hk (Nat.not_lt_zero _)
 | succ k ih =>
  intro Y1 Ye Z9w Z9x hk
  cases Yv:(decide (Y1 < (Y0.Me.Pq.length:Int))) with
  | true =>
   have YI:=odt Yv
   have YT:(0:Int)≤3:=(by omega)
   have YV:3 < (Ye.length:Int):=(by simp_all<;>omega)
   have YX:3 < Ye.length:=(by omega)
   have YZ:(0:Int)≤Y1:=(by assumption)
   have y_4:Y1 < (Y0.We.length:Int):=(by have q:=hp5.w;omega)
   have y_5:Y1 < (Y0.Me.Pq.length:Int):=(by assumption)
   have y_6:(-9223372036854775808:Int)≤(Y1 + 1):=(by omega)
   have y_7:(Y1 + 1)≤(9223372036854775807:Int):=(by omega)
   have e:Z1I Y0 (k + 1) Y1 Ye=(Z1I Y0 k (Y1 + 1) (Ye.set 3 (Z4e Y0 Y1 Ye))):=by simp only [Z1I,Yv,cond_true]
   rw [e]
   exact X9 E0Ok Z7 [] Z9v [0,1] (⟨.ref (Gb.c Y0) 0 :: .any :: .nils :: .own 0 :: .ref (Gb.c Y0) 0 :: an 4 (.own 1 :: .any :: .any :: .any :: .own 0 :: .ref (Gb.c Y0) 0 :: .ref (Gb.c Y0) 0 :: .ref (Gb.c Y0) 0 :: .ref (Gb.c Y0) 0 :: .ref (Gb.c Y0) 0 :: .ref (Gb.c Y0) 2 :: .sl (Y0.Sp.map Gs.c) :: an 45 (.ref (Gb.c Y0) 0 :: .ref (Gb.c Y0) 0 :: .ref (Gb.c Y0) 1 :: .sl (Y0.Me.Tr.map (cL (cI .i64))) :: an 26 (.ref (Gb.c Y0) 0 :: .own 1 :: .own 1 :: an 25 (.ref (Gb.c Y0) 0 :: .ref (Gb.c Y0) 0 :: .ref (Gb.c Y0) 0 :: .sl (Y0.Me.Pq.map Gv.c) :: .i .i64 (Y0.Me.Pq.length:Int) :: .i .i64 (Y1 + 1) :: an 30 [])))),[.vec 27 1 ((Ye.map (cF .f32)).set 3 [.f .f32 (Z4e Y0 Y1 Ye)]) false, .nest 49 ((Z2 Y0.Me).map fun l=>l.map (cI .i64)) false]⟩) (sB Yv<|sK [24,24]<|sX (cF .f32) Ye 3 YT YV<|sV (cF .f32) Ye 3 YX<|sG (cF .f32) Y0.We Y1 YZ y_4<|sG Gv.c Y0.Me.Pq Y1 YZ y_5<|sF (Z7j Y0.Fall (Y0.Me.Pq.getD Y1.toNat default))<|sX (cF .f32) Ye 3 YT YV<|sC (Xl (c:=(cF .f32)) (l:=Ye) YX)<|sI (Y1 + 1) y_6 y_7<|sN) (by kernel_rfl) (by simp [ZaX,List.map_set,cF]) (ih (Y1 + 1) (Ye.set 3 (Z4e Y0 Y1 Ye)) (show 0≤(Y1 + 1) from (by omega)) (show (Ye.set 3 (Z4e Y0 Y1 Ye)).length=(Z2t Y0).length from (by simp_all<;>omega)) (by omega))
  | false =>
   have YI:=odf Yv
   have e:Z1I Y0 (k + 1) Y1 Ye=Ye:=by simp only [Z1I,Yv,cond_false]
   rw [e]
   exact outR (e:=(.exit 6)) E0Ok Z7 [] Zdq [0,1] (sB Yv<|sN) (by kernel_rfl) (by intro h;cases h)
theorem Zdr (Y0:Gb):∀ (k:Nat) (Y1:Int) (Ye:(List Nat)) (hk:((Y0.Me.Pq.length:Int) - Y1).toNat < k),(Z1I Y0 k Y1 Ye).length=Ye.length:=by
  intro k
  induction k with
  | zero=>intro Y1 Ye hk;exact absurd hk (Nat.not_lt_zero _)
  | succ k ih =>
    intro Y1 Ye hk
    cases Yv:(decide (Y1 < (Y0.Me.Pq.length:Int))) with
    | true =>
      have e:Z1I Y0 (k + 1) Y1 Ye=(Z1I Y0 k (Y1 + 1) (Ye.set 3 (Z4e Y0 Y1 Ye))):=by simp only [Z1I,Yv,cond_true]
      rw [e,ih (Y1 + 1) (Ye.set 3 (Z4e Y0 Y1 Ye)) (by simp_all<;>omega)];simp
    | false =>
      have e:Z1I Y0 (k + 1) Y1 Ye=Ye:=by simp only [Z1I,Yv,cond_false]
      first | (rw [e];done) | (rw [e];rfl)
def Z4T (Y0:Gb):(List Nat):=(Z1I Y0 (((Y0.Me.Pq.length:Int) - 0).toNat + 1) 0 (Z2t Y0))
@[simp] theorem Zbr (Y0:Gb):(Z4T Y0).length=((Z2t Y0):(List Nat)).length:=Zdr Y0 (((Y0.Me.Pq.length:Int) - 0).toNat + 1) 0 (Z2t Y0) (by exact Nat.lt_succ_self _)
def Z10 (Y0:Gb):(List Nat):=(Z4T Y0)
theorem Z9y (b:Gb):(Z10 b).length=4:=by
  unfold Z10
  rw [Zbr,Zbq,Zbp,Zbo];simp
theorem Zgj (Y0:Gb) (hp0:Y0.Me.Pq.length≤1073741824) (hp1:Y0.Me.Tr.length≤1073741824) (hp2:∀ t∈Y0.Me.Tr,t.length≤1073741824) (hp3:Y0.Sp.length≤1073741824) (hp4:Y0.We.length≤1073741824) (hp5:OkBd Y0)  : Fn prog 133 [.ref (Gb.c Y0) 0] (.own 0) [.vec 27 1 ((Z10 Y0).map (cF .f32)) false]:=by
 have y0:(0:Int)≤4:=(by omega)
 have y1:(4:Int)≤2147483648:=(by omega)
 have y2:OkE Y0.Me.Pq.length Y0.Me.Tr:=(by exact hp5.e)
 refine fnS E0Ok Z7 (c:=X0 f133) [] (.own 0) [.vec 27 1 ((Z4T Y0).map (cF .f32)) false] func133 (sC (show (4:Int)=4 from rfl)<|sC y0<|sC y1<|sZ Gs.c Y0.Sp<|sL (mR false [0,1,1,3,8,10,137]) 1 (Xk (st2:=⟨.ref (Gb.c Y0) 0 :: .any :: .nils :: .own 0 :: .ref (Gb.c Y0) 0 :: an 8 (.own 0 :: .ref (Gb.c Y0) 0 :: .ref (Gb.c Y0) 0 :: .ref (Gb.c Y0) 0 :: .ref (Gb.c Y0) 0 :: .ref (Gb.c Y0) 0 :: .ref (Gb.c Y0) 2 :: .sl (Y0.Sp.map Gs.c) :: .i .i64 (Y0.Sp.length:Int) :: .i .i64 0 :: an 137 []),[.vec 27 1 (List.replicate (Int.toNat 4) [.f .f32 0]) false]⟩) (X1 (Z7y Y0) (x:=(Z2r Y0)) (Zex Y0 hp0 hp1 hp2 hp3 hp4 hp5 (((Y0.Sp.length:Int) - 0).toNat + 1) 0 (List.replicate 4 0) (show 0≤0 from (by omega)) (show (List.replicate 4 0).length=4 from (by simp;done)) (Nat.lt_succ_self _)) rfl) (by simp [Z7z,cF]))<|sZ (cL (cI .i64)) Y0.Me.Tr<|sL Z9p 1 (X1 (Z7A Y0) (x:=(Z2s Y0)) (Zey Y0 hp0 hp1 hp2 hp3 hp4 hp5 (((Y0.Me.Tr.length:Int) - 0).toNat + 1) 0 (Z2r Y0) (show 0≤0 from (by omega)) (show (Z2r Y0).length=(Z2r Y0).length from (by omega)) (Nat.lt_succ_self _)) rfl)<|sF (Fn.sub (args:=[.ref (Gb.c Y0) 0]) (r := .own 0) (new:=[.nest 49 ((Z2 Y0.Me).map fun l=>l.map (cI .i64)) false]) [some 2] (Zc8 Y0.Me hp0 hp1 hp2 y2))<|sM (X26 (l:=(Z2 Y0.Me)) (f:=fun l=>l.map (cI .i64)))<|sL Z9s 2 (X1 (Z7B Y0) (x:=(Z2t Y0)) (Zez Y0 hp0 hp1 hp2 hp3 hp4 hp5 ((((Z2 Y0.Me).length:Int) - 0).toNat + 1) 0 (Z2s Y0) (show 0≤0 from (by omega)) (show (Z2s Y0).length=(Z2s Y0).length from (by omega)) (Nat.lt_succ_self _)) rfl)<|sZ Gv.c Y0.Me.Pq<|sL Z9v 2 (X1 (Z7C Y0) (x:=(Z4T Y0)) (ZeA Y0 hp0 hp1 hp2 hp3 hp4 hp5 (((Y0.Me.Pq.length:Int) - 0).toNat + 1) 0 (Z2t Y0) (show 0≤0 from (by omega)) (show (Z2t Y0).length=(Z2t Y0).length from (by omega)) (Nat.lt_succ_self _)) rfl)<|sK [0] sN) rfl (by kernel_rfl) (by kernel_rfl) rfl ?_ ?_
 · rfl
 · simp [Z10]
def Z7d (Yd:Gb):Nat:=(fop .add .f32 (fop .add .f32 (fop .add .f32 ((Z10 Yd).getD 0 default) ((Z10 Yd).getD 1 default)) ((Z10 Yd).getD 2 default)) ((Z10 Yd).getD 3 default))
def Z30 (Yd:Gb):Nat:=(Z7d Yd)
theorem Zc9 (Yd:Gb) (hp0:Yd.Me.Pq.length≤1073741824) (hp1:Yd.Me.Tr.length≤1073741824) (hp2:∀ t∈Yd.Me.Tr,t.length≤1073741824) (hp3:Yd.Sp.length≤1073741824) (hp4:Yd.We.length≤1073741824) (hp5:OkBd Yd)  : Fn prog 92 [.ref (Gb.c Yd) 0] (.f .f32 (Z30 Yd)) []:=by
 have y0:(0:Int)≤0:=(by omega)
 have y1:0 < ((Z10 Yd).length:Int):=(by have q:=Z9y Yd;omega)
 have y2:0 < (Z10 Yd).length:=(by omega)
 have y3:(0:Int)≤1:=(by omega)
 have y4:1 < ((Z10 Yd).length:Int):=(by have q:=Z9y Yd;omega)
 have y5:1 < (Z10 Yd).length:=(by omega)
 have y6:(0:Int)≤2:=(by omega)
 have y7:2 < ((Z10 Yd).length:Int):=(by have q:=Z9y Yd;omega)
 have y8:2 < (Z10 Yd).length:=(by omega)
 have y9:(0:Int)≤3:=(by omega)
 have y10:3 < ((Z10 Yd).length:Int):=(by have q:=Z9y Yd;omega)
 have y11:3 < (Z10 Yd).length:=(by omega)
 refine fnS E0Ok Z7 (c:=X0 f92) [] (.f .f32 (Z7d Yd)) [] func92 (sF (Zgj Yd hp0 hp1 hp2 hp3 hp4 hp5)<|sK [14,14]<|sX (cF .f32) (Z10 Yd) 0 y0 y1<|sV (cF .f32) (Z10 Yd) 0 y2<|sX (cF .f32) (Z10 Yd) 1 y3 y4<|sV (cF .f32) (Z10 Yd) 1 y5<|sX (cF .f32) (Z10 Yd) 2 y6 y7<|sV (cF .f32) (Z10 Yd) 2 y8<|sX (cF .f32) (Z10 Yd) 3 y9 y10<|sV (cF .f32) (Z10 Yd) 3 y11<|sK [] sN) rfl (by kernel_rfl) (by kernel_rfl) rfl ?_ ?_
 · rfl
 · rfl
def Z1t (Yd:Gb) (Yz:(List Gv)) (Yy:Nat):Nat→Int→(List Gv)→(List Gv)
  | 0,_,_=>default
  | k + 1,Y1,Yl=>(cond (decide (Y1 < (Yz.length:Int)))
    (Z1t Yd Yz Yy k (Y1 + 1) (Yl.set Y1.toNat (Zv (Yd.Me.Pq.getD Y1.toNat default) (Zo (Yz.getD Y1.toNat default) Yy))))
    Yl)
def Z7D (Yd:Gb) (Yz:(List Gv)) (Yy:Nat) (r:(List Gv)):Ex × St:=((.exit 0),⟨.ref (Gb.c Yd) 0 :: .sl (Yz.map Gv.c) :: an 4 (.ptr 0 0 0 :: .ptr 1 0 0 :: .any :: .ref (Gb.c Yd) 0 :: .agg [.own 2, .own 3, .own 4, .f .f32 Yd.Film, .f .f32 Yd.Bend, .own 5, .f .f32 Yd.Fall.X, .f .f32 Yd.Fall.Y, .f .f32 Yd.Fall.Z] :: .sl (Yz.map Gv.c) :: an 26 []),[.box 42 [.nils, .nils, .nils, .f .f32 0, .f .f32 0, .nils, .f .f32 0, .f .f32 0, .f .f32 0], .box 42 [.own 2, .own 3, .own 4, .f .f32 Yd.Film, .f .f32 Yd.Bend, .own 5, .f .f32 Yd.Fall.X, .f .f32 Yd.Fall.Y, .f .f32 Yd.Fall.Z], .vec 40 3 (r.map Gv.c) false, .nest 49 (Yd.Me.Tr.map fun l=>l.map (cI .i64)) false, .vec 133 4 (Yd.Sp.map Gs.c) false, .vec 27 1 (Yd.We.map (cF .f32)) false]⟩)
def ZaY (Yd:Gb) (Yz:(List Gv)) (Yy:Nat) (Y1:Int) (Yl:(List Gv)):St:=⟨.ref (Gb.c Yd) 0 :: .sl (Yz.map Gv.c) :: .f .f32 Yy :: .any :: .any :: .any :: .ptr 0 0 0 :: .ptr 5 0 0 :: .any :: .ref (Gb.c Yd) 0 :: .agg [.own 1, .own 2, .own 3, .f .f32 Yd.Film, .f .f32 Yd.Bend, .own 4, .f .f32 Yd.Fall.X, .f .f32 Yd.Fall.Y, .f .f32 Yd.Fall.Z] :: .sl (Yz.map Gv.c) :: .i .i64 (Yz.length:Int) :: .i .i64 Y1 :: an 24 [],[.box 42 [.nils, .nils, .nils, .f .f32 0, .f .f32 0, .nils, .f .f32 0, .f .f32 0, .f .f32 0], .vec 40 3 (Yl.map Gv.c) false, .nest 49 (Yd.Me.Tr.map fun l=>l.map (cI .i64)) false, .vec 133 4 (Yd.Sp.map Gs.c) false, .vec 27 1 (Yd.We.map (cF .f32)) false, .box 42 [.own 1, .own 2, .own 3, .f .f32 Yd.Film, .f .f32 Yd.Bend, .own 4, .f .f32 Yd.Fall.X, .f .f32 Yd.Fall.Y, .f .f32 Yd.Fall.Z]]⟩
theorem ZeB (Yd:Gb) (Yz:(List Gv)) (Yy:Nat) (hp0:Yd.Me.Pq.length≤1073741824) (hp1:Yd.Me.Tr.length≤1073741824) (hp2:∀ t∈Yd.Me.Tr,t.length≤1073741824) (hp3:Yd.Sp.length≤1073741824) (hp4:Yd.We.length≤1073741824) (hp5:Yz.length≤1073741824) (hp6:Yz.length≤Yd.Me.Pq.length):∀ (k:Nat) (Y1:Int) (Yl:(List Gv)) (Z9z:0≤Y1) (Z9A:Yl.length=Yd.Me.Pq.length) (hk:((Yz.length:Int) - Y1).toNat < k),Lp prog 0 (sub (X0 f122) [1,1,0,1,0,0]) (ZaY Yd Yz Yy Y1 Yl) (Z7D Yd Yz Yy (Z1t Yd Yz Yy k Y1 Yl)).1 (Z7D Yd Yz Yy (Z1t Yd Yz Yy k Y1 Yl)).2:=by
 intro k
 induction k with
 | zero=>intro Y1 Yl Z9z Z9A hk;exact absurd hk (Nat.not_lt_zero _)
 | succ k ih =>
  intro Y1 Yl Z9z Z9A hk
  cases Yv:(decide (Y1 < (Yz.length:Int))) with
  | true =>
   have YI:=odt Yv
   have YT:(0:Int)≤Y1:=(by assumption)
   have YV:Y1 < (Yd.Me.Pq.length:Int):=(by omega)
   have YX:Y1 < (Yz.length:Int):=(by assumption)
   have YZ:Y1 < (Yl.length:Int):=(by omega)
   have y_4:Y1.toNat < Yl.length:=(by omega)
   have y_5:(-9223372036854775808:Int)≤(Y1 + 1):=(by omega)
   have y_6:(Y1 + 1)≤(9223372036854775807:Int):=(by omega)
   have e:Z1t Yd Yz Yy (k + 1) Y1 Yl=(Z1t Yd Yz Yy k (Y1 + 1) (Yl.set Y1.toNat (Zv (Yd.Me.Pq.getD Y1.toNat default) (Zo (Yz.getD Y1.toNat default) Yy)))):=by simp only [Z1t,Yv,cond_true]
   rw [e]
   exact X9 E0Ok Z7 [] (mR false [0,3,3,2,1,5,24]) [0,1,2,3,4,5] (⟨.ref (Gb.c Yd) 0 :: .sl (Yz.map Gv.c) :: .f .f32 Yy :: .any :: .any :: .any :: .ptr 0 0 0 :: .ptr 5 0 0 :: .any :: .ref (Gb.c Yd) 0 :: .agg [.own 1, .own 2, .own 3, .f .f32 Yd.Film, .f .f32 Yd.Bend, .own 4, .f .f32 Yd.Fall.X, .f .f32 Yd.Fall.Y, .f .f32 Yd.Fall.Z] :: .sl (Yz.map Gv.c) :: .i .i64 (Yz.length:Int) :: .i .i64 (Y1 + 1) :: an 24 [],[.box 42 [.nils, .nils, .nils, .f .f32 0, .f .f32 0, .nils, .f .f32 0, .f .f32 0, .f .f32 0], .vec 40 3 ((Yl.map Gv.c).set Y1.toNat [.f .f32 ((Zv (Yd.Me.Pq.getD Y1.toNat default) (Zo (Yz.getD Y1.toNat default) Yy)).X), .f .f32 ((Zv (Yd.Me.Pq.getD Y1.toNat default) (Zo (Yz.getD Y1.toNat default) Yy)).Y), .f .f32 ((Zv (Yd.Me.Pq.getD Y1.toNat default) (Zo (Yz.getD Y1.toNat default) Yy)).Z)]) false, .nest 49 (Yd.Me.Tr.map fun l=>l.map (cI .i64)) false, .vec 133 4 (Yd.Sp.map Gs.c) false, .vec 27 1 (Yd.We.map (cF .f32)) false, .box 42 [.own 1, .own 2, .own 3, .f .f32 Yd.Film, .f .f32 Yd.Bend, .own 4, .f .f32 Yd.Fall.X, .f .f32 Yd.Fall.Y, .f .f32 Yd.Fall.Z]]⟩) (sB Yv<|sK [19,19]<|sG Gv.c Yd.Me.Pq Y1 YT YV<|sG Gv.c Yz Y1 YT YX<|sF (Z3y (Yz.getD Y1.toNat default) Yy)<|sF (Z3w (Yd.Me.Pq.getD Y1.toNat default) (Zo (Yz.getD Y1.toNat default) Yy))<|sX Gv.c Yl Y1 YT YZ<|sC (Xl (c:=Gv.c) (l:=Yl) y_4)<|sI (Y1 + 1) y_5 y_6<|sN) (by kernel_rfl) (by simp [ZaY,List.map_set,Gv.c]) (ih (Y1 + 1) (Yl.set Y1.toNat (Zv (Yd.Me.Pq.getD Y1.toNat default) (Zo (Yz.getD Y1.toNat default) Yy))) (show 0≤(Y1 + 1) from (by omega)) (show (Yl.set Y1.toNat (Zv (Yd.Me.Pq.getD Y1.toNat default) (Zo (Yz.getD Y1.toNat default) Yy))).length=Yd.Me.Pq.length from (by simp_all<;>omega)) (by omega))
  | false =>
   have YI:=odf Yv
   have e:Z1t Yd Yz Yy (k + 1) Y1 Yl=Yl:=by simp only [Z1t,Yv,cond_false]
   rw [e]
   exact outR (e:=(.exit 0)) E0Ok Z7 [] (mR false [0,2,4,2,1,3,26]) [0,5,1,2,3,4] (sB Yv<|sN) (by kernel_rfl) (by intro h;cases h)
theorem Zds (Yd:Gb) (Yz:(List Gv)) (Yy:Nat):∀ (k:Nat) (Y1:Int) (Yl:(List Gv)) (hk:((Yz.length:Int) - Y1).toNat < k),(Z1t Yd Yz Yy k Y1 Yl).length=Yl.length:=by
  intro k
  induction k with
  | zero=>intro Y1 Yl hk;exact absurd hk (Nat.not_lt_zero _)
  | succ k ih =>
    intro Y1 Yl hk
    cases Yv:(decide (Y1 < (Yz.length:Int))) with
    | true =>
      have e:Z1t Yd Yz Yy (k + 1) Y1 Yl=(Z1t Yd Yz Yy k (Y1 + 1) (Yl.set Y1.toNat (Zv (Yd.Me.Pq.getD Y1.toNat default) (Zo (Yz.getD Y1.toNat default) Yy)))):=by simp only [Z1t,Yv,cond_true]
      rw [e,ih (Y1 + 1) (Yl.set Y1.toNat (Zv (Yd.Me.Pq.getD Y1.toNat default) (Zo (Yz.getD Y1.toNat default) Yy))) (by simp_all<;>omega)];simp
    | false =>
      have e:Z1t Yd Yz Yy (k + 1) Y1 Yl=Yl:=by simp only [Z1t,Yv,cond_false]
      first | (rw [e];done) | (rw [e];rfl)
def Z4l (Yd:Gb) (Yz:(List Gv)) (Yy:Nat):(List Gv):=(Z1t Yd Yz Yy (((Yz.length:Int) - 0).toNat + 1) 0 Yd.Me.Pq)
@[simp] theorem Zhf (Yd:Gb) (Yz:(List Gv)) (Yy:Nat):(Z4l Yd Yz Yy).length=(Yd.Me.Pq:(List Gv)).length:=Zds Yd Yz Yy (((Yz.length:Int) - 0).toNat + 1) 0 Yd.Me.Pq (by exact Nat.lt_succ_self _)
def Zi (Yd:Gb) (Yz:(List Gv)) (Yy:Nat):Gb:=(⟨(⟨(Z4l Yd Yz Yy),Yd.Me.Tr⟩:Gm),Yd.Sp,Yd.Film,Yd.Bend,Yd.We,Yd.Fall⟩:Gb)
theorem Z88 (b:Gb) (v:List Gv) (s:Nat):(Zi b v s).Me.Pq.length≤b.Me.Pq.length:=by
  unfold Zi
  simp
theorem Z89 (b:Gb) (v:List Gv) (s:Nat):(Zi b v s).Me.Tr.length≤b.Me.Tr.length:=by
  unfold Zi
  simp
theorem Z8a (b:Gb) (v:List Gv) (s:Nat):(Zi b v s).We.length≤b.We.length:=by
  unfold Zi
  simp
theorem Z8b (b:Gb) (v:List Gv) (s:Nat):(Zi b v s).Sp.length≤b.Sp.length:=by
  unfold Zi
  simp
theorem Zgk (Yd:Gb) (Yz:(List Gv)) (Yy:Nat) (hp0:Yd.Me.Pq.length≤1073741824) (hp1:Yd.Me.Tr.length≤1073741824) (hp2:∀ t∈Yd.Me.Tr,t.length≤1073741824) (hp3:Yd.Sp.length≤1073741824) (hp4:Yd.We.length≤1073741824) (hp5:Yz.length≤1073741824) (hp6:Yz.length≤Yd.Me.Pq.length)  : Fn prog 122 [.ref (Gb.c Yd) 0, .sl (Yz.map Gv.c), .f .f32 Yy] (.agg [.own 0, .own 1, .own 2, .f .f32 ((Zi Yd Yz Yy).Film), .f .f32 ((Zi Yd Yz Yy).Bend), .own 3, .f .f32 ((Zi Yd Yz Yy).Fall.X), .f .f32 ((Zi Yd Yz Yy).Fall.Y), .f .f32 ((Zi Yd Yz Yy).Fall.Z)]) [.vec 40 3 (((Zi Yd Yz Yy).Me.Pq).map Gv.c) false, .nest 49 (((Zi Yd Yz Yy).Me.Tr).map fun l=>l.map (cI .i64)) false, .vec 133 4 (((Zi Yd Yz Yy).Sp).map Gs.c) false, .vec 27 1 (((Zi Yd Yz Yy).We).map (cF .f32)) false]:=by
 refine fnS E0Ok Z7 (c:=X0 f122) [] (.agg [.own 0, .own 1, .own 2, .f .f32 Yd.Film, .f .f32 Yd.Bend, .own 3, .f .f32 Yd.Fall.X, .f .f32 Yd.Fall.Y, .f .f32 Yd.Fall.Z]) [.vec 40 3 ((Z4l Yd Yz Yy).map Gv.c) false, .nest 49 (Yd.Me.Tr.map fun l=>l.map (cI .i64)) false, .vec 133 4 (Yd.Sp.map Gs.c) false, .vec 27 1 (Yd.We.map (cF .f32)) false] func122 (sF (Zbl Yd hp0 hp1 hp2 hp3 hp4)<|sZ Gv.c Yz<|sL (mR false [0,3,3,2,1,5,24]) 6 (X1 (Z7D Yd Yz Yy) (x:=(Z4l Yd Yz Yy)) (ZeB Yd Yz Yy hp0 hp1 hp2 hp3 hp4 hp5 hp6 (((Yz.length:Int) - 0).toNat + 1) 0 Yd.Me.Pq (show 0≤0 from (by omega)) (show Yd.Me.Pq.length=Yd.Me.Pq.length from (by simp)) (Nat.lt_succ_self _)) rfl)<|sK [2,3,4,5] sN) rfl (by kernel_rfl) (by kernel_rfl) rfl ?_ ?_
 · rfl
 · simp [Zi]
theorem Z7E (b:Gb) (v:List Gv) (s:Nat):(Z4l b v s).length=b.Me.Pq.length:=by simp
theorem Zdt {b:Gb} (h:OkBd b) (v:List Gv) (s:Nat):OkBd (Zi b v s):=by
  unfold Zi
  exact ⟨by simp only [Z7E];exact h.e,by simp only [Z7E];exact h.w,by simp only [Z7E];exact h.a,by simp only [Z7E];exact h.b⟩
def Z1Z (Yd:Gb) (Yz:(List Gv)) (Y4:Nat):Nat→Nat→Int→(Int × Nat × Nat × Nat × Nat × Nat × (List Gv) × (List (List Int)) × (List Gs) × (List Nat)) ⊕ (Unit)
  | 0,_,_ => .inl default
  | k + 1,Yx,Y1d=>(cond (decide (Y1d≤20))
    (cond (fcmp .lss .f32 (Z30 (Zi Yd Yz Yx)) (Z30 Yd))
      (.inl (Y1d,(Zi Yd Yz Yx).Film,(Zi Yd Yz Yx).Bend,(Zi Yd Yz Yx).Fall.X,(Zi Yd Yz Yx).Fall.Y,(Zi Yd Yz Yx).Fall.Z,(Zi Yd Yz Yx).Me.Pq,(Zi Yd Yz Yx).Me.Tr,(Zi Yd Yz Yx).Sp,(Zi Yd Yz Yx).We))
      (Z1Z Yd Yz Y4 k (fop .quo .f32 Yx 1073741824) (Y1d + 1)))
    (.inr ()))
def Z6x (Yd:Gb) (Yz:(List Gv)) (Y4:Nat):(Int × Nat × Nat × Nat × Nat × Nat × (List Gv) × (List (List Int)) × (List Gs) × (List Nat)) ⊕ (Unit)→Ex × St
  | .inl r=>(.ret,⟨an 6 (.ptr 0 0 0 :: .i .i64 r.1 :: .b true :: an 22 []),[.box 42 [.own 1, .own 2, .own 3, .f .f32 r.2.1, .f .f32 r.2.2.1, .own 4, .f .f32 r.2.2.2.1, .f .f32 r.2.2.2.2.1, .f .f32 r.2.2.2.2.2.1], .vec 40 3 (r.2.2.2.2.2.2.1.map Gv.c) false, .nest 49 (r.2.2.2.2.2.2.2.1.map fun l=>l.map (cI .i64)) false, .vec 133 4 (r.2.2.2.2.2.2.2.2.1.map Gs.c) false, .vec 27 1 (r.2.2.2.2.2.2.2.2.2.map (cF .f32)) false]⟩)
  | .inr r=>((.exit 0),⟨.ref (Gb.c Yd) 0 :: an 5 (.ptr 0 0 0 :: an 5 (.ref (Gb.c Yd) 0 :: .f .f32 (Z30 Yd) :: an 17 [])),[.box 42 [.nils, .nils, .nils, .f .f32 0, .f .f32 0, .nils, .f .f32 0, .f .f32 0, .f .f32 0]]⟩)
def ZfT (Yd:Gb) (Yz:(List Gv)) (Y4:Nat) (Yx:Nat) (Y1d:Int):St:=⟨.ref (Gb.c Yd) 0 :: .sl (Yz.map Gv.c) :: .f .f32 Yx :: .any :: .any :: .any :: .ptr 0 0 0 :: .any :: .any :: .f .f32 (Z30 Yd) :: .i .i64 Y1d :: .any :: .ref (Gb.c Yd) 0 :: .f .f32 (Z30 Yd) :: an 17 [],[.box 42 [.nils, .nils, .nils, .f .f32 0, .f .f32 0, .nils, .f .f32 0, .f .f32 0, .f .f32 0]]⟩
theorem Zca (Yd:Gb) (Yz:(List Gv)) (Y4:Nat) (hp0:Yd.Me.Pq.length≤1073741824) (hp1:Yd.Me.Tr.length≤1073741824) (hp2:∀ t∈Yd.Me.Tr,t.length≤1073741824) (hp3:Yd.Sp.length≤1073741824) (hp4:Yd.We.length≤1073741824) (hp5:Yz.length≤1073741824) (hp6:OkBd Yd) (hp7:Yz.length≤Yd.Me.Pq.length):∀ (k:Nat) (Yx:Nat) (Y1d:Int) (ZaZ:0≤Y1d) (hk:(21 + (Yz.length:Int) - Y1d).toNat < k),Lp prog 0 (sub (X0 f70) [1,1,0,1,0,0]) (ZfT Yd Yz Y4 Yx Y1d) (Z6x Yd Yz Y4 (Z1Z Yd Yz Y4 k Yx Y1d)).1 (Z6x Yd Yz Y4 (Z1Z Yd Yz Y4 k Yx Y1d)).2:=by
 intro k
 induction k with
 | zero=>intro Yx Y1d ZaZ hk;exact absurd hk (Nat.not_lt_zero _)
 | succ k ih =>
  intro Yx Y1d ZaZ hk
  cases Yv:(decide (Y1d≤20)) with
  | true =>
   have YI:=odt Yv
   have l_1:=(Z88 Yd Yz Yx)
   have l_2:=(Z89 Yd Yz Yx)
   have l_3:=(Z8a Yd Yz Yx)
   have l_4:=(Z8b Yd Yz Yx)
   have YT:(Zi Yd Yz Yx).Me.Pq.length≤1073741824:=(by omega)
   have YV:(Zi Yd Yz Yx).Me.Tr.length≤1073741824:=(by assumption)
   have YX:∀ t∈(Zi Yd Yz Yx).Me.Tr,t.length≤1073741824:=(by assumption)
   have YZ:(Zi Yd Yz Yx).Sp.length≤1073741824:=(by assumption)
   have y_4:(Zi Yd Yz Yx).We.length≤1073741824:=(by assumption)
   have y_5:OkBd (Zi Yd Yz Yx):=(by exact Zdt hp6 _ _)
   have p {a C} (s:Scr a C):=sB Yv<|sF (Zgk Yd Yz Yx hp0 hp1 hp2 hp3 hp4 hp5 hp7)<|sF (Fn.castA (args':=[.ref [.sl (((Zi Yd Yz Yx).Me.Pq).map Gv.c), .sl ((((Zi Yd Yz Yx).Me.Tr).map fun l=>l.map (cI .i64)).map fun l => [.sl l]), .sl (((Zi Yd Yz Yx).Sp).map Gs.c), .f .f32 ((Zi Yd Yz Yx).Film), .f .f32 ((Zi Yd Yz Yx).Bend), .sl (((Zi Yd Yz Yx).We).map (cF .f32)), .f .f32 ((Zi Yd Yz Yx).Fall.X), .f .f32 ((Zi Yd Yz Yx).Fall.Y), .f .f32 ((Zi Yd Yz Yx).Fall.Z)] 0]) (Zc9 (Zi Yd Yz Yx) YT YV YX YZ y_4 y_5) (by simp [cL,Function.comp_def];rfl))<|s
   cases YF:(fcmp .lss .f32 (Z30 (Zi Yd Yz Yx)) (Z30 Yd)) with
   | true =>
    have e:Z1Z Yd Yz Y4 (k + 1) Yx Y1d=(.inl (Y1d,(Zi Yd Yz Yx).Film,(Zi Yd Yz Yx).Bend,(Zi Yd Yz Yx).Fall.X,(Zi Yd Yz Yx).Fall.Y,(Zi Yd Yz Yx).Fall.Z,(Zi Yd Yz Yx).Me.Pq,(Zi Yd Yz Yx).Me.Tr,(Zi Yd Yz Yx).Sp,(Zi Yd Yz Yx).We)):=by simp only [Z1Z,Yv,YF,cond_true]
    rw [e]
    exact outR (e := .ret) E0Ok Z7 [] (mR false [6,3,22]) [0,1,2,3,4] (p (sB YF<|sN)) (by kernel_rfl) (by intro h;cases h)
   | false =>
    have y_6:(-9223372036854775808:Int)≤(Y1d + 1):=by clear p;exact (by omega)
    have y_7:(Y1d + 1)≤(9223372036854775807:Int):=by clear p;exact (by omega)
    have e:Z1Z Yd Yz Y4 (k + 1) Yx Y1d=(Z1Z Yd Yz Y4 k (fop .quo .f32 Yx 1073741824) (Y1d + 1)):=by simp only [Z1Z,Yv,YF,cond_true,cond_false]
    rw [e]
    exact X8 E0Ok Z7 [] (mR false [0,3,3,1,2,2,1,2,17]) [0] (ih (fop .quo .f32 Yx 1073741824) (Y1d + 1) (show 0≤(Y1d + 1) from (by omega)) (by omega)) (p (sB YF<|sI (Y1d + 1) y_6 y_7<|sN)) (by kernel_rfl)
  | false =>
   have YI:=odf Yv
   have e:Z1Z Yd Yz Y4 (k + 1) Yx Y1d=(.inr ()):=by simp only [Z1Z,Yv,cond_false]
   rw [e]
   exact outR (e:=(.exit 0)) E0Ok Z7 [] (mR false [0,1,5,1,5,2,17]) [0] (sB Yv<|sN) (by kernel_rfl) (by intro h;cases h)
def Z4H (Yd:Gb) (Yz:(List Gv)) (Y4:Nat):(Int × Nat × Nat × Nat × Nat × Nat × (List Gv) × (List (List Int)) × (List Gs) × (List Nat)) ⊕ (Unit):=(Z1Z Yd Yz Y4 ((21 + (Yz.length:Int) - 0).toNat + 1) Y4 0)
def Z0 (Yd:Gb) (Yz:(List Gv)) (Y4:Nat):Gb × Int × Bool:=(match (Z4H Yd Yz Y4) with
  | .inl r1=>((⟨(⟨r1.2.2.2.2.2.2.1,r1.2.2.2.2.2.2.2.1⟩:Gm),r1.2.2.2.2.2.2.2.2.1,r1.2.1,r1.2.2.1,r1.2.2.2.2.2.2.2.2.2,(⟨r1.2.2.2.1,r1.2.2.2.2.1,r1.2.2.2.2.2.1⟩:Gv)⟩:Gb),r1.1,true)
  | .inr r1=>(Yd,20,false))
theorem Zj9 (b:Gb) (v:List Gv) (s:Nat):∀ (k x:Nat) (n:Int),(21 + (v.length:Int) - n).toNat < k→∀ r,Z1Z b v s k x n = .inl r→∃ y,(⟨(⟨r.2.2.2.2.2.2.1,r.2.2.2.2.2.2.2.1⟩:Gm),r.2.2.2.2.2.2.2.2.1,r.2.1,r.2.2.1,r.2.2.2.2.2.2.2.2.2,(⟨r.2.2.2.1,r.2.2.2.2.1,r.2.2.2.2.2.1⟩:Gv)⟩:Gb)=Zi b v y:=by
  intro k
  induction k with
  | zero=>intro x n hk;exact absurd hk (Nat.not_lt_zero _)
  | succ k ih =>
    intro x n hk r e
    rw [Z1Z] at e
    cases h:decide (n≤20) with
    | false=>rw [h] at e;cases e
    | true =>
      have hn:=odt h
      rw [h,cond_true] at e
      cases h2:fcmp .lss .f32 (Z30 (Zi b v x)) (Z30 b) with
      | true=>rw [h2,cond_true] at e;cases e;exact ⟨x,rfl⟩
      | false=>rw [h2,cond_false] at e;exact ih _ _ (by omega) r e
theorem Zcb (b:Gb) (v:List Gv) (s:Nat):(Z0 b v s).1=b∨∃ y,(Z0 b v s).1=Zi b v y:=by
  unfold Z0 Z4H
  cases h:Z1Z b v s ((21 + (v.length:Int) - 0).toNat + 1) s 0 with
  | inl r=>exact .inr (Zj9 b v s _ s 0 (Nat.lt_succ_self _) r h)
  | inr r=>exact .inl rfl
def Like (b B:Gb):Prop:=B.Me.Pq.length=b.Me.Pq.length∧B.Me.Tr=b.Me.Tr∧B.Sp=b.Sp∧B.We=b.We
theorem Zy {b B:Gb} (h:Like b B):B.Me.Pq.length=b.Me.Pq.length∧B.Me.Tr.length=b.Me.Tr.length∧B.Sp.length=b.Sp.length∧B.We.length=b.We.length:=⟨h.1,by rw [h.2.1],by rw [h.2.2.1],by rw [h.2.2.2]⟩
theorem Zgl {b B:Gb} (h:Like b B) (v:List Gv) (s:Nat):Like b (Zi B v s):=⟨(Z7E B v s).trans h.1,h.2.1,h.2.2.1,h.2.2.2⟩
theorem Z91 {b X:Gb} (h:Like b X):Like b ⟨⟨X.Me.Pq,X.Me.Tr⟩,X.Sp,X.Film,X.Bend,X.We,⟨X.Fall.X,X.Fall.Y,X.Fall.Z⟩⟩:=h
theorem Z5Y {b B:Gb} (ok:OkBd b) (h:Like b B):OkBd B:=⟨by rw [h.1,h.2.1];exact ok.e,by rw [h.2.2.2,h.1];exact ok.w,by rw [h.1,h.2.2.1];exact ok.a,by rw [h.1,h.2.2.1];exact ok.b⟩
theorem Z92 {b B:Gb} {f:Int→Int} {l:List Int} (k:OkIx b.Me.Pq.length f l) (h:Like b B):OkIx B.Me.Pq.length f l:=by rw [h.1];exact k
theorem ZaI {b B:Gb} {n:Nat} (k:∀ t∈b.Me.Tr,t.length≤n) (h:Like b B):∀ t∈B.Me.Tr,t.length≤n:=by rw [h.2.1];exact k
theorem Z1j {b B:Gb} (h:Like b B) (v:List Gv) (s:Nat):Like b (Z0 B v s).1:=by
  rcases Zcb B v s with e | ⟨y,e⟩<;>rw [e]
  · exact h
  · exact Zgl h v y
theorem Zct (b:Gb) (v:List Gv) (s:Nat):(Z0 b v s).1.Me.Pq.length≤b.Me.Pq.length:=by
  rcases Zcb b v s with h | ⟨y,h⟩<;>rw [h]
  · exact Nat.le_refl _
  · exact Z88 b v y
theorem Zcu (b:Gb) (v:List Gv) (s:Nat):(Z0 b v s).1.Me.Tr.length≤b.Me.Tr.length:=by
  rcases Zcb b v s with h | ⟨y,h⟩<;>rw [h]
  · exact Nat.le_refl _
  · exact Z89 b v y
theorem Zcv (b:Gb) (v:List Gv) (s:Nat):(Z0 b v s).1.We.length≤b.We.length:=by
  rcases Zcb b v s with h | ⟨y,h⟩<;>rw [h]
  · exact Nat.le_refl _
  · exact Z8a b v y
theorem Zcw (b:Gb) (v:List Gv) (s:Nat):(Z0 b v s).1.Sp.length≤b.Sp.length:=by
  rcases Zcb b v s with h | ⟨y,h⟩<;>rw [h]
  · exact Nat.le_refl _
  · exact Z8b b v y
theorem ZdO (Yd:Gb) (Yz:(List Gv)) (Y4:Nat) (hp0:Yd.Me.Pq.length≤1073741824) (hp1:Yd.Me.Tr.length≤1073741824) (hp2:∀ t∈Yd.Me.Tr,t.length≤1073741824) (hp3:Yd.Sp.length≤1073741824) (hp4:Yd.We.length≤1073741824) (hp5:Yz.length≤1073741824) (hp6:OkBd Yd) (hp7:Yz.length≤Yd.Me.Pq.length)  : Fn prog 70 [.ref (Gb.c Yd) 0, .sl (Yz.map Gv.c), .f .f32 Y4] (.tup [.agg [.own 0, .own 1, .own 2, .f .f32 ((Z0 Yd Yz Y4).1.Film), .f .f32 ((Z0 Yd Yz Y4).1.Bend), .own 3, .f .f32 ((Z0 Yd Yz Y4).1.Fall.X), .f .f32 ((Z0 Yd Yz Y4).1.Fall.Y), .f .f32 ((Z0 Yd Yz Y4).1.Fall.Z)], .i .i64 ((Z0 Yd Yz Y4).2.1), .b ((Z0 Yd Yz Y4).2.2)]) [.vec 40 3 (((Z0 Yd Yz Y4).1.Me.Pq).map Gv.c) false, .nest 49 (((Z0 Yd Yz Y4).1.Me.Tr).map fun l=>l.map (cI .i64)) false, .vec 133 4 (((Z0 Yd Yz Y4).1.Sp).map Gs.c) false, .vec 27 1 (((Z0 Yd Yz Y4).1.We).map (cF .f32)) false]:=by
 have p {a C} (s:Scr a C):=sF (Zc9 Yd hp0 hp1 hp2 hp3 hp4 hp6)<|s
 cases h0:(Z4H Yd Yz Y4) with
 | inl r1 =>
  have hv:Z0 Yd Yz Y4=((⟨(⟨r1.2.2.2.2.2.2.1,r1.2.2.2.2.2.2.2.1⟩:Gm),r1.2.2.2.2.2.2.2.2.1,r1.2.1,r1.2.2.1,r1.2.2.2.2.2.2.2.2.2,(⟨r1.2.2.2.1,r1.2.2.2.2.1,r1.2.2.2.2.2.1⟩:Gv)⟩:Gb),r1.1,true):=by unfold Z0;rw [h0]
  refine fnS E0Ok Z7 (c:=X0 f70) [] (.tup [.agg [.own 0, .own 1, .own 2, .f .f32 r1.2.1, .f .f32 r1.2.2.1, .own 3, .f .f32 r1.2.2.2.1, .f .f32 r1.2.2.2.2.1, .f .f32 r1.2.2.2.2.2.1], .i .i64 r1.1, .b true]) [.vec 40 3 (r1.2.2.2.2.2.2.1.map Gv.c) false, .nest 49 (r1.2.2.2.2.2.2.2.1.map fun l=>l.map (cI .i64)) false, .vec 133 4 (r1.2.2.2.2.2.2.2.2.1.map Gs.c) false, .vec 27 1 (r1.2.2.2.2.2.2.2.2.2.map (cF .f32)) false] func70 (p (sL (mR false [0,3,3,1,2,2,1,2,17]) 1 (X1 (Z6x Yd Yz Y4) (x:=(Z4H Yd Yz Y4)) (Zca Yd Yz Y4 hp0 hp1 hp2 hp3 hp4 hp5 hp6 hp7 ((21 + (Yz.length:Int) - 0).toNat + 1) Y4 0 (show 0≤0 from (by omega)) (Nat.lt_succ_self _)) h0)<|sK [1,2,3,4] sN)) rfl (by kernel_rfl) (by kernel_rfl) rfl ?_ ?_
  · rw [hv]
  · rw [hv]
 | inr r1 =>
  have hv:Z0 Yd Yz Y4=(Yd,20,false):=by unfold Z0;rw [h0]
  refine fnS E0Ok Z7 (c:=X0 f70) [] (.tup [.agg [.own 0, .own 1, .own 2, .f .f32 Yd.Film, .f .f32 Yd.Bend, .own 3, .f .f32 Yd.Fall.X, .f .f32 Yd.Fall.Y, .f .f32 Yd.Fall.Z], .i .i64 20, .b false]) [.vec 40 3 (Yd.Me.Pq.map Gv.c) false, .nest 49 (Yd.Me.Tr.map fun l=>l.map (cI .i64)) false, .vec 133 4 (Yd.Sp.map Gs.c) false, .vec 27 1 (Yd.We.map (cF .f32)) false] func70 (p (sL (mR false [0,3,3,1,2,2,1,2,17]) 1 (X1 (Z6x Yd Yz Y4) (x:=(Z4H Yd Yz Y4)) (Zca Yd Yz Y4 hp0 hp1 hp2 hp3 hp4 hp5 hp6 hp7 ((21 + (Yz.length:Int) - 0).toNat + 1) Y4 0 (show 0≤0 from (by omega)) (Nat.lt_succ_self _)) h0)<|sF (Zbl Yd hp0 hp1 hp2 hp3 hp4)<|sK [1,2,3,4] sN)) rfl (by kernel_rfl) (by kernel_rfl) rfl ?_ ?_
  · rw [hv]
  · rw [hv]
def Z3A (Yg:(List Gv)) (Yw:(List Gv)):Nat→Nat→Int→Nat
  | 0,_,_=>default
  | k + 1,Y17,YJ=>(cond (decide (YJ < (Yg.length:Int)))
    (Z3A Yg Yw k (fop .add .f32 Y17 (Z49 (Yg.getD YJ.toNat default) (Yw.getD YJ.toNat default))) (YJ + 1))
    Y17)
def Z7F (Yg:(List Gv)) (Yw:(List Gv)) (r:Nat):Ex × St:=((.exit 0),⟨.sl (Yg.map Gv.c) :: .any :: .any :: .any :: .f .f32 0 :: .f .f32 r :: .any :: .sl (Yg.map Gv.c) :: an 17 [],[]⟩)
def ZeC (Yg:(List Gv)) (Yw:(List Gv)) (Y17:Nat) (YJ:Int):St:=⟨.sl (Yg.map Gv.c) :: .sl (Yw.map Gv.c) :: .any :: .any :: .f .f32 0 :: .f .f32 Y17 :: .any :: .sl (Yg.map Gv.c) :: .i .i64 (Yg.length:Int) :: .i .i64 YJ :: an 15 [],[]⟩
theorem ZeD (Yg:(List Gv)) (Yw:(List Gv)) (hp0:Yg.length≤1073741824) (hp1:Yw.length≤1073741824) (hp2:Yg.length=Yw.length):∀ (k:Nat) (Y17:Nat) (YJ:Int) (Z9B:0≤YJ) (hk:((Yg.length:Int) - YJ).toNat < k),Lp prog 0 (sub (X0 f88) [1,1,0,1,0,0]) (ZeC Yg Yw Y17 YJ) (Z7F Yg Yw (Z3A Yg Yw k Y17 YJ)).1 (Z7F Yg Yw (Z3A Yg Yw k Y17 YJ)).2:=by
 intro k
 induction k with
 | zero=>intro Y17 YJ Z9B hk;exact absurd hk (Nat.not_lt_zero _)
 | succ k ih =>
  intro Y17 YJ Z9B hk
  cases Yv:(decide (YJ < (Yg.length:Int))) with
  | true =>
   have YI:=odt Yv
   have YT:(0:Int)≤YJ:=(by assumption)
   have YV:YJ < (Yg.length:Int):=(by assumption)
   have YX:YJ < (Yw.length:Int):=(by omega)
   have YZ:(-9223372036854775808:Int)≤(YJ + 1):=(by omega)
   have y_4:(YJ + 1)≤(9223372036854775807:Int):=(by omega)
   have e:Z3A Yg Yw (k + 1) Y17 YJ=(Z3A Yg Yw k (fop .add .f32 Y17 (Z49 (Yg.getD YJ.toNat default) (Yw.getD YJ.toNat default))) (YJ + 1)):=by simp only [Z3A,Yv,cond_true]
   rw [e]
   exact X8 E0Ok Z7 [] (mR false [0,2,2,2,1,3,15]) [] (ih (fop .add .f32 Y17 (Z49 (Yg.getD YJ.toNat default) (Yw.getD YJ.toNat default))) (YJ + 1) (show 0≤(YJ + 1) from (by omega)) (by omega)) (sB Yv<|sK [10,10]<|sG Gv.c Yg YJ YT YV<|sG Gv.c Yw YJ YT YX<|sF (Z7j (Yg.getD YJ.toNat default) (Yw.getD YJ.toNat default))<|sI (YJ + 1) YZ y_4<|sN) (by kernel_rfl)
  | false =>
   have YI:=odf Yv
   have e:Z3A Yg Yw (k + 1) Y17 YJ=Y17:=by simp only [Z3A,Yv,cond_false]
   rw [e]
   exact outR (e:=(.exit 0)) E0Ok Z7 [] (mR false [0,1,3,2,1,1,17]) [] (sB Yv<|sN) (by kernel_rfl) (by intro h;cases h)
def Z6y (Yg:(List Gv)) (Yw:(List Gv)):Nat:=(Z3A Yg Yw (((Yg.length:Int) - 0).toNat + 1) 0 0)
def Zb (Yg:(List Gv)) (Yw:(List Gv)):Nat:=(Z6y Yg Yw)
theorem Z7k (Yg:(List Gv)) (Yw:(List Gv)) (hp0:Yg.length≤1073741824) (hp1:Yw.length≤1073741824) (hp2:Yg.length=Yw.length)  : Fn prog 88 [.sl (Yg.map Gv.c), .sl (Yw.map Gv.c)] (.f .f32 (Zb Yg Yw)) []:=by
 refine fnS E0Ok Z7 (c:=X0 f88) [] (.f .f32 (Z6y Yg Yw)) [] func88 (sZ Gv.c Yg<|sL (mR false [0,2,2,2,1,3,15]) 0 (X1 (Z7F Yg Yw) (x:=(Z6y Yg Yw)) (ZeD Yg Yw hp0 hp1 hp2 (((Yg.length:Int) - 0).toNat + 1) 0 0 (show 0≤0 from (by omega)) (Nat.lt_succ_self _)) rfl)<|sK [] sN) rfl (by kernel_rfl) (by kernel_rfl) rfl ?_ ?_
 · rfl
 · rfl
theorem in40 {n:Int} (h:Zl n 0 40=true):0≤n∧n≤40:=by
  unfold Zl at h
  by_cases h1:n ≥ 0<;>simp [h1] at h
  omega
def Z1J (Yd:Gb) (Y3:(List Int)) (Y4:Nat) (Yj:Int) (Yq:Int) (Yu:Int) (Y5:(List Gv)) (Y6:(List (List Int))) (Y7:(List Gs)) (Y8:(List Nat)) (Y9:Nat) (Ya:Nat) (Yb:Nat) (Yc:Nat) (Y2:Nat) (Yf:(List Gv)):Nat→Int→(List Gv)→(List Gv)
  | 0,_,_=>default
  | k + 1,Y1,Y11=>(cond (decide (Y1 < (Yf.length:Int)))
    (Z1J Yd Y3 Y4 Yj Yq Yu Y5 Y6 Y7 Y8 Y9 Ya Yb Yc Y2 Yf k (Y1 + 1) (Y11.set Y1.toNat (Zv ((Z1 ((Z0 (⟨(⟨Y5,Y6⟩:Gm),Y7,Y9,Ya,Y8,(⟨Yb,Yc,Y2⟩:Gv)⟩:Gb) Yf Y4).1) Y3).getD Y1.toNat default) (Zo (Y11.getD Y1.toNat default) (Zu (Zb (Z1 ((Z0 (⟨(⟨Y5,Y6⟩:Gm),Y7,Y9,Ya,Y8,(⟨Yb,Yc,Y2⟩:Gv)⟩:Gb) Yf Y4).1) Y3) (Z1 ((Z0 (⟨(⟨Y5,Y6⟩:Gm),Y7,Y9,Ya,Y8,(⟨Yb,Yc,Y2⟩:Gv)⟩:Gb) Yf Y4).1) Y3)) (Zb (Z1 (⟨(⟨Y5,Y6⟩:Gm),Y7,Y9,Ya,Y8,(⟨Yb,Yc,Y2⟩:Gv)⟩:Gb) Y3) (Z1 (⟨(⟨Y5,Y6⟩:Gm),Y7,Y9,Ya,Y8,(⟨Yb,Yc,Y2⟩:Gv)⟩:Gb) Y3)))))))
    Y11)
def Z7G (Yd:Gb) (Y3:(List Int)) (Y4:Nat) (Yj:Int) (Yq:Int) (Yu:Int) (Y5:(List Gv)) (Y6:(List (List Int))) (Y7:(List Gs)) (Y8:(List Nat)) (Y9:Nat) (Ya:Nat) (Yb:Nat) (Yc:Nat) (Y2:Nat) (Yf:(List Gv)) (r:(List Gv)):Ex × St:=((.exit 2),⟨.agg [.sl (Yd.Me.Pq.map Gv.c), .sl (Yd.Me.Tr.map (cL (cI .i64))), .sl (Yd.Sp.map Gs.c), .f .f32 Yd.Film, .f .f32 Yd.Bend, .sl (Yd.We.map (cF .f32)), .f .f32 Yd.Fall.X, .f .f32 Yd.Fall.Y, .f .f32 Yd.Fall.Z] :: .sl (Y3.map (cI .i64)) :: .f .f32 Y4 :: .i .i64 Yq :: .ptr 0 0 0 :: .any :: .any :: .any :: .ptr 1 0 0 :: .i .i64 0 :: .b false :: .ptr 2 0 0 :: .own 3 :: .i .i64 (Yu + 1) :: .own 4 :: .ptr 5 0 0 :: .any :: .b ((Z0 (⟨(⟨Y5,Y6⟩:Gm),Y7,Y9,Ya,Y8,(⟨Yb,Yc,Y2⟩:Gv)⟩:Gb) Yf Y4).2.2) :: .own 6 :: .f .f32 (Zu (Zb (Z1 ((Z0 (⟨(⟨Y5,Y6⟩:Gm),Y7,Y9,Ya,Y8,(⟨Yb,Yc,Y2⟩:Gv)⟩:Gb) Yf Y4).1) Y3) (Z1 ((Z0 (⟨(⟨Y5,Y6⟩:Gm),Y7,Y9,Ya,Y8,(⟨Yb,Yc,Y2⟩:Gv)⟩:Gb) Yf Y4).1) Y3)) (Zb (Z1 (⟨(⟨Y5,Y6⟩:Gm),Y7,Y9,Ya,Y8,(⟨Yb,Yc,Y2⟩:Gv)⟩:Gb) Y3) (Z1 (⟨(⟨Y5,Y6⟩:Gm),Y7,Y9,Ya,Y8,(⟨Yb,Yc,Y2⟩:Gv)⟩:Gb) Y3))) :: .any :: .b (Zt Yd) :: .b (!(Zt Yd)) :: .b (!(Zt Yd)) :: .sl (Y3.map (cI .i64)) :: .b (Zq Yd Y3) :: .b (!(Zq Yd Y3)) :: .b (!(Zq Yd Y3)) :: .b (!(Zq Yd Y3)) :: .f .f32 Y4 :: .b (Zh Y4) :: .b (!(Zh Y4)) :: .b (!(Zh Y4)) :: .b (!(Zh Y4)) :: .i .i64 Yj :: .b (Zl Yj 0 40) :: .b (!(Zl Yj 0 40)) :: .b (!(Zl Yj 0 40)) :: .any :: .any :: .sl (Y3.map (cI .i64)) :: .any :: .i .i64 Yq :: .b (decide (Yq > 0)) :: .any :: .any :: .sl (Y3.map (cI .i64)) :: .own 4 :: .any :: .own 3 :: .f .f32 Y4 :: .any :: .agg [.own 7, .own 8, .own 9, .f .f32 ((Z0 (⟨(⟨Y5,Y6⟩:Gm),Y7,Y9,Ya,Y8,(⟨Yb,Yc,Y2⟩:Gv)⟩:Gb) Yf Y4).1.Film), .f .f32 ((Z0 (⟨(⟨Y5,Y6⟩:Gm),Y7,Y9,Ya,Y8,(⟨Yb,Yc,Y2⟩:Gv)⟩:Gb) Yf Y4).1.Bend), .own 10, .f .f32 ((Z0 (⟨(⟨Y5,Y6⟩:Gm),Y7,Y9,Ya,Y8,(⟨Yb,Yc,Y2⟩:Gv)⟩:Gb) Yf Y4).1.Fall.X), .f .f32 ((Z0 (⟨(⟨Y5,Y6⟩:Gm),Y7,Y9,Ya,Y8,(⟨Yb,Yc,Y2⟩:Gv)⟩:Gb) Yf Y4).1.Fall.Y), .f .f32 ((Z0 (⟨(⟨Y5,Y6⟩:Gm),Y7,Y9,Ya,Y8,(⟨Yb,Yc,Y2⟩:Gv)⟩:Gb) Yf Y4).1.Fall.Z)] :: .i .i64 ((Z0 (⟨(⟨Y5,Y6⟩:Gm),Y7,Y9,Ya,Y8,(⟨Yb,Yc,Y2⟩:Gv)⟩:Gb) Yf Y4).2.1) :: .b ((Z0 (⟨(⟨Y5,Y6⟩:Gm),Y7,Y9,Ya,Y8,(⟨Yb,Yc,Y2⟩:Gv)⟩:Gb) Yf Y4).2.2) :: .b ((Z0 (⟨(⟨Y5,Y6⟩:Gm),Y7,Y9,Ya,Y8,(⟨Yb,Yc,Y2⟩:Gv)⟩:Gb) Yf Y4).2.2) :: .b (!(Z0 (⟨(⟨Y5,Y6⟩:Gm),Y7,Y9,Ya,Y8,(⟨Yb,Yc,Y2⟩:Gv)⟩:Gb) Yf Y4).2.2) :: an 8 (.b ((Z0 (⟨(⟨Y5,Y6⟩:Gm),Y7,Y9,Ya,Y8,(⟨Yb,Yc,Y2⟩:Gv)⟩:Gb) Yf Y4).2.2) :: .b (!(Z0 (⟨(⟨Y5,Y6⟩:Gm),Y7,Y9,Ya,Y8,(⟨Yb,Yc,Y2⟩:Gv)⟩:Gb) Yf Y4).2.2) :: .i .i64 Yu :: .i .i64 (Yu + 1) :: .agg [.own 7, .own 8, .own 9, .f .f32 ((Z0 (⟨(⟨Y5,Y6⟩:Gm),Y7,Y9,Ya,Y8,(⟨Yb,Yc,Y2⟩:Gv)⟩:Gb) Yf Y4).1.Film), .f .f32 ((Z0 (⟨(⟨Y5,Y6⟩:Gm),Y7,Y9,Ya,Y8,(⟨Yb,Yc,Y2⟩:Gv)⟩:Gb) Yf Y4).1.Bend), .own 10, .f .f32 ((Z0 (⟨(⟨Y5,Y6⟩:Gm),Y7,Y9,Ya,Y8,(⟨Yb,Yc,Y2⟩:Gv)⟩:Gb) Yf Y4).1.Fall.X), .f .f32 ((Z0 (⟨(⟨Y5,Y6⟩:Gm),Y7,Y9,Ya,Y8,(⟨Yb,Yc,Y2⟩:Gv)⟩:Gb) Yf Y4).1.Fall.Y), .f .f32 ((Z0 (⟨(⟨Y5,Y6⟩:Gm),Y7,Y9,Ya,Y8,(⟨Yb,Yc,Y2⟩:Gv)⟩:Gb) Yf Y4).1.Fall.Z)] :: .sl (Y3.map (cI .i64)) :: .own 6 :: .own 6 :: .own 6 :: .f .f32 (Zb (Z1 ((Z0 (⟨(⟨Y5,Y6⟩:Gm),Y7,Y9,Ya,Y8,(⟨Yb,Yc,Y2⟩:Gv)⟩:Gb) Yf Y4).1) Y3) (Z1 ((Z0 (⟨(⟨Y5,Y6⟩:Gm),Y7,Y9,Ya,Y8,(⟨Yb,Yc,Y2⟩:Gv)⟩:Gb) Yf Y4).1) Y3)) :: .own 4 :: .own 4 :: .f .f32 (Zb (Z1 (⟨(⟨Y5,Y6⟩:Gm),Y7,Y9,Ya,Y8,(⟨Yb,Yc,Y2⟩:Gv)⟩:Gb) Y3) (Z1 (⟨(⟨Y5,Y6⟩:Gm),Y7,Y9,Ya,Y8,(⟨Yb,Yc,Y2⟩:Gv)⟩:Gb) Y3)) :: .f .f32 (Zu (Zb (Z1 ((Z0 (⟨(⟨Y5,Y6⟩:Gm),Y7,Y9,Ya,Y8,(⟨Yb,Yc,Y2⟩:Gv)⟩:Gb) Yf Y4).1) Y3) (Z1 ((Z0 (⟨(⟨Y5,Y6⟩:Gm),Y7,Y9,Ya,Y8,(⟨Yb,Yc,Y2⟩:Gv)⟩:Gb) Yf Y4).1) Y3)) (Zb (Z1 (⟨(⟨Y5,Y6⟩:Gm),Y7,Y9,Ya,Y8,(⟨Yb,Yc,Y2⟩:Gv)⟩:Gb) Y3) (Z1 (⟨(⟨Y5,Y6⟩:Gm),Y7,Y9,Ya,Y8,(⟨Yb,Yc,Y2⟩:Gv)⟩:Gb) Y3))) :: .own 3 :: .i .i64 (Yf.length:Int) :: an 20 []),[.box 42 [.sl (Yd.Me.Pq.map Gv.c), .sl (Yd.Me.Tr.map (cL (cI .i64))), .sl (Yd.Sp.map Gs.c), .f .f32 Yd.Film, .f .f32 Yd.Bend, .sl (Yd.We.map (cF .f32)), .f .f32 Yd.Fall.X, .f .f32 Yd.Fall.Y, .f .f32 Yd.Fall.Z], .box 42 [.nils, .nils, .nils, .f .f32 0, .f .f32 0, .nils, .f .f32 0, .f .f32 0, .f .f32 0], .box 42 [.own 7, .own 8, .own 9, .f .f32 ((Z0 (⟨(⟨Y5,Y6⟩:Gm),Y7,Y9,Ya,Y8,(⟨Yb,Yc,Y2⟩:Gv)⟩:Gb) Yf Y4).1.Film), .f .f32 ((Z0 (⟨(⟨Y5,Y6⟩:Gm),Y7,Y9,Ya,Y8,(⟨Yb,Yc,Y2⟩:Gv)⟩:Gb) Yf Y4).1.Bend), .own 10, .f .f32 ((Z0 (⟨(⟨Y5,Y6⟩:Gm),Y7,Y9,Ya,Y8,(⟨Yb,Yc,Y2⟩:Gv)⟩:Gb) Yf Y4).1.Fall.X), .f .f32 ((Z0 (⟨(⟨Y5,Y6⟩:Gm),Y7,Y9,Ya,Y8,(⟨Yb,Yc,Y2⟩:Gv)⟩:Gb) Yf Y4).1.Fall.Y), .f .f32 ((Z0 (⟨(⟨Y5,Y6⟩:Gm),Y7,Y9,Ya,Y8,(⟨Yb,Yc,Y2⟩:Gv)⟩:Gb) Yf Y4).1.Fall.Z)], .vec 40 3 (r.map Gv.c) false, .vec 40 3 ((Z1 (⟨(⟨Y5,Y6⟩:Gm),Y7,Y9,Ya,Y8,(⟨Yb,Yc,Y2⟩:Gv)⟩:Gb) Y3).map Gv.c) false, .box 42 [.own 7, .own 8, .own 9, .f .f32 ((Z0 (⟨(⟨Y5,Y6⟩:Gm),Y7,Y9,Ya,Y8,(⟨Yb,Yc,Y2⟩:Gv)⟩:Gb) Yf Y4).1.Film), .f .f32 ((Z0 (⟨(⟨Y5,Y6⟩:Gm),Y7,Y9,Ya,Y8,(⟨Yb,Yc,Y2⟩:Gv)⟩:Gb) Yf Y4).1.Bend), .own 10, .f .f32 ((Z0 (⟨(⟨Y5,Y6⟩:Gm),Y7,Y9,Ya,Y8,(⟨Yb,Yc,Y2⟩:Gv)⟩:Gb) Yf Y4).1.Fall.X), .f .f32 ((Z0 (⟨(⟨Y5,Y6⟩:Gm),Y7,Y9,Ya,Y8,(⟨Yb,Yc,Y2⟩:Gv)⟩:Gb) Yf Y4).1.Fall.Y), .f .f32 ((Z0 (⟨(⟨Y5,Y6⟩:Gm),Y7,Y9,Ya,Y8,(⟨Yb,Yc,Y2⟩:Gv)⟩:Gb) Yf Y4).1.Fall.Z)], .vec 40 3 ((Z1 ((Z0 (⟨(⟨Y5,Y6⟩:Gm),Y7,Y9,Ya,Y8,(⟨Yb,Yc,Y2⟩:Gv)⟩:Gb) Yf Y4).1) Y3).map Gv.c) false, .vec 40 3 (((Z0 (⟨(⟨Y5,Y6⟩:Gm),Y7,Y9,Ya,Y8,(⟨Yb,Yc,Y2⟩:Gv)⟩:Gb) Yf Y4).1.Me.Pq).map Gv.c) false, .nest 49 (((Z0 (⟨(⟨Y5,Y6⟩:Gm),Y7,Y9,Ya,Y8,(⟨Yb,Yc,Y2⟩:Gv)⟩:Gb) Yf Y4).1.Me.Tr).map fun l=>l.map (cI .i64)) false, .vec 133 4 (((Z0 (⟨(⟨Y5,Y6⟩:Gm),Y7,Y9,Ya,Y8,(⟨Yb,Yc,Y2⟩:Gv)⟩:Gb) Yf Y4).1.Sp).map Gs.c) false, .vec 27 1 (((Z0 (⟨(⟨Y5,Y6⟩:Gm),Y7,Y9,Ya,Y8,(⟨Yb,Yc,Y2⟩:Gv)⟩:Gb) Yf Y4).1.We).map (cF .f32)) false]⟩)
def Zb0 (Yd:Gb) (Y3:(List Int)) (Y4:Nat) (Yj:Int) (Yq:Int) (Yu:Int) (Y5:(List Gv)) (Y6:(List (List Int))) (Y7:(List Gs)) (Y8:(List Nat)) (Y9:Nat) (Ya:Nat) (Yb:Nat) (Yc:Nat) (Y2:Nat) (Yf:(List Gv)) (Y1:Int) (Y11:(List Gv)):St:=⟨.agg [.sl (Yd.Me.Pq.map Gv.c), .sl (Yd.Me.Tr.map (cL (cI .i64))), .sl (Yd.Sp.map Gs.c), .f .f32 Yd.Film, .f .f32 Yd.Bend, .sl (Yd.We.map (cF .f32)), .f .f32 Yd.Fall.X, .f .f32 Yd.Fall.Y, .f .f32 Yd.Fall.Z] :: .sl (Y3.map (cI .i64)) :: .f .f32 Y4 :: .i .i64 Yq :: .ptr 0 0 0 :: .any :: .any :: .any :: .ptr 1 0 0 :: .i .i64 0 :: .b false :: .ptr 2 0 0 :: .own 3 :: .i .i64 (Yu + 1) :: .own 4 :: .ptr 9 0 0 :: .any :: .b ((Z0 (⟨(⟨Y5,Y6⟩:Gm),Y7,Y9,Ya,Y8,(⟨Yb,Yc,Y2⟩:Gv)⟩:Gb) Yf Y4).2.2) :: .own 10 :: .f .f32 (Zu (Zb (Z1 ((Z0 (⟨(⟨Y5,Y6⟩:Gm),Y7,Y9,Ya,Y8,(⟨Yb,Yc,Y2⟩:Gv)⟩:Gb) Yf Y4).1) Y3) (Z1 ((Z0 (⟨(⟨Y5,Y6⟩:Gm),Y7,Y9,Ya,Y8,(⟨Yb,Yc,Y2⟩:Gv)⟩:Gb) Yf Y4).1) Y3)) (Zb (Z1 (⟨(⟨Y5,Y6⟩:Gm),Y7,Y9,Ya,Y8,(⟨Yb,Yc,Y2⟩:Gv)⟩:Gb) Y3) (Z1 (⟨(⟨Y5,Y6⟩:Gm),Y7,Y9,Ya,Y8,(⟨Yb,Yc,Y2⟩:Gv)⟩:Gb) Y3))) :: .any :: .b (Zt Yd) :: .b (!(Zt Yd)) :: .b (!(Zt Yd)) :: .sl (Y3.map (cI .i64)) :: .b (Zq Yd Y3) :: .b (!(Zq Yd Y3)) :: .b (!(Zq Yd Y3)) :: .b (!(Zq Yd Y3)) :: .f .f32 Y4 :: .b (Zh Y4) :: .b (!(Zh Y4)) :: .b (!(Zh Y4)) :: .b (!(Zh Y4)) :: .i .i64 Yj :: .b (Zl Yj 0 40) :: .b (!(Zl Yj 0 40)) :: .b (!(Zl Yj 0 40)) :: .any :: .any :: .sl (Y3.map (cI .i64)) :: .any :: .i .i64 Yq :: .b (decide (Yq > 0)) :: .any :: .any :: .sl (Y3.map (cI .i64)) :: .own 4 :: .any :: .own 3 :: .f .f32 Y4 :: .any :: .agg [.own 5, .own 6, .own 7, .f .f32 ((Z0 (⟨(⟨Y5,Y6⟩:Gm),Y7,Y9,Ya,Y8,(⟨Yb,Yc,Y2⟩:Gv)⟩:Gb) Yf Y4).1.Film), .f .f32 ((Z0 (⟨(⟨Y5,Y6⟩:Gm),Y7,Y9,Ya,Y8,(⟨Yb,Yc,Y2⟩:Gv)⟩:Gb) Yf Y4).1.Bend), .own 8, .f .f32 ((Z0 (⟨(⟨Y5,Y6⟩:Gm),Y7,Y9,Ya,Y8,(⟨Yb,Yc,Y2⟩:Gv)⟩:Gb) Yf Y4).1.Fall.X), .f .f32 ((Z0 (⟨(⟨Y5,Y6⟩:Gm),Y7,Y9,Ya,Y8,(⟨Yb,Yc,Y2⟩:Gv)⟩:Gb) Yf Y4).1.Fall.Y), .f .f32 ((Z0 (⟨(⟨Y5,Y6⟩:Gm),Y7,Y9,Ya,Y8,(⟨Yb,Yc,Y2⟩:Gv)⟩:Gb) Yf Y4).1.Fall.Z)] :: .i .i64 ((Z0 (⟨(⟨Y5,Y6⟩:Gm),Y7,Y9,Ya,Y8,(⟨Yb,Yc,Y2⟩:Gv)⟩:Gb) Yf Y4).2.1) :: .b ((Z0 (⟨(⟨Y5,Y6⟩:Gm),Y7,Y9,Ya,Y8,(⟨Yb,Yc,Y2⟩:Gv)⟩:Gb) Yf Y4).2.2) :: .b ((Z0 (⟨(⟨Y5,Y6⟩:Gm),Y7,Y9,Ya,Y8,(⟨Yb,Yc,Y2⟩:Gv)⟩:Gb) Yf Y4).2.2) :: .b (!(Z0 (⟨(⟨Y5,Y6⟩:Gm),Y7,Y9,Ya,Y8,(⟨Yb,Yc,Y2⟩:Gv)⟩:Gb) Yf Y4).2.2) :: an 8 (.b ((Z0 (⟨(⟨Y5,Y6⟩:Gm),Y7,Y9,Ya,Y8,(⟨Yb,Yc,Y2⟩:Gv)⟩:Gb) Yf Y4).2.2) :: .b (!(Z0 (⟨(⟨Y5,Y6⟩:Gm),Y7,Y9,Ya,Y8,(⟨Yb,Yc,Y2⟩:Gv)⟩:Gb) Yf Y4).2.2) :: .i .i64 Yu :: .i .i64 (Yu + 1) :: .agg [.own 5, .own 6, .own 7, .f .f32 ((Z0 (⟨(⟨Y5,Y6⟩:Gm),Y7,Y9,Ya,Y8,(⟨Yb,Yc,Y2⟩:Gv)⟩:Gb) Yf Y4).1.Film), .f .f32 ((Z0 (⟨(⟨Y5,Y6⟩:Gm),Y7,Y9,Ya,Y8,(⟨Yb,Yc,Y2⟩:Gv)⟩:Gb) Yf Y4).1.Bend), .own 8, .f .f32 ((Z0 (⟨(⟨Y5,Y6⟩:Gm),Y7,Y9,Ya,Y8,(⟨Yb,Yc,Y2⟩:Gv)⟩:Gb) Yf Y4).1.Fall.X), .f .f32 ((Z0 (⟨(⟨Y5,Y6⟩:Gm),Y7,Y9,Ya,Y8,(⟨Yb,Yc,Y2⟩:Gv)⟩:Gb) Yf Y4).1.Fall.Y), .f .f32 ((Z0 (⟨(⟨Y5,Y6⟩:Gm),Y7,Y9,Ya,Y8,(⟨Yb,Yc,Y2⟩:Gv)⟩:Gb) Yf Y4).1.Fall.Z)] :: .sl (Y3.map (cI .i64)) :: .own 10 :: .own 10 :: .own 10 :: .f .f32 (Zb (Z1 ((Z0 (⟨(⟨Y5,Y6⟩:Gm),Y7,Y9,Ya,Y8,(⟨Yb,Yc,Y2⟩:Gv)⟩:Gb) Yf Y4).1) Y3) (Z1 ((Z0 (⟨(⟨Y5,Y6⟩:Gm),Y7,Y9,Ya,Y8,(⟨Yb,Yc,Y2⟩:Gv)⟩:Gb) Yf Y4).1) Y3)) :: .own 4 :: .own 4 :: .f .f32 (Zb (Z1 (⟨(⟨Y5,Y6⟩:Gm),Y7,Y9,Ya,Y8,(⟨Yb,Yc,Y2⟩:Gv)⟩:Gb) Y3) (Z1 (⟨(⟨Y5,Y6⟩:Gm),Y7,Y9,Ya,Y8,(⟨Yb,Yc,Y2⟩:Gv)⟩:Gb) Y3)) :: .f .f32 (Zu (Zb (Z1 ((Z0 (⟨(⟨Y5,Y6⟩:Gm),Y7,Y9,Ya,Y8,(⟨Yb,Yc,Y2⟩:Gv)⟩:Gb) Yf Y4).1) Y3) (Z1 ((Z0 (⟨(⟨Y5,Y6⟩:Gm),Y7,Y9,Ya,Y8,(⟨Yb,Yc,Y2⟩:Gv)⟩:Gb) Yf Y4).1) Y3)) (Zb (Z1 (⟨(⟨Y5,Y6⟩:Gm),Y7,Y9,Ya,Y8,(⟨Yb,Yc,Y2⟩:Gv)⟩:Gb) Y3) (Z1 (⟨(⟨Y5,Y6⟩:Gm),Y7,Y9,Ya,Y8,(⟨Yb,Yc,Y2⟩:Gv)⟩:Gb) Y3))) :: .own 3 :: .i .i64 (Yf.length:Int) :: .i .i64 Y1 :: an 19 []),[.box 42 [.sl (Yd.Me.Pq.map Gv.c), .sl (Yd.Me.Tr.map (cL (cI .i64))), .sl (Yd.Sp.map Gs.c), .f .f32 Yd.Film, .f .f32 Yd.Bend, .sl (Yd.We.map (cF .f32)), .f .f32 Yd.Fall.X, .f .f32 Yd.Fall.Y, .f .f32 Yd.Fall.Z], .box 42 [.nils, .nils, .nils, .f .f32 0, .f .f32 0, .nils, .f .f32 0, .f .f32 0, .f .f32 0], .box 42 [.own 5, .own 6, .own 7, .f .f32 ((Z0 (⟨(⟨Y5,Y6⟩:Gm),Y7,Y9,Ya,Y8,(⟨Yb,Yc,Y2⟩:Gv)⟩:Gb) Yf Y4).1.Film), .f .f32 ((Z0 (⟨(⟨Y5,Y6⟩:Gm),Y7,Y9,Ya,Y8,(⟨Yb,Yc,Y2⟩:Gv)⟩:Gb) Yf Y4).1.Bend), .own 8, .f .f32 ((Z0 (⟨(⟨Y5,Y6⟩:Gm),Y7,Y9,Ya,Y8,(⟨Yb,Yc,Y2⟩:Gv)⟩:Gb) Yf Y4).1.Fall.X), .f .f32 ((Z0 (⟨(⟨Y5,Y6⟩:Gm),Y7,Y9,Ya,Y8,(⟨Yb,Yc,Y2⟩:Gv)⟩:Gb) Yf Y4).1.Fall.Y), .f .f32 ((Z0 (⟨(⟨Y5,Y6⟩:Gm),Y7,Y9,Ya,Y8,(⟨Yb,Yc,Y2⟩:Gv)⟩:Gb) Yf Y4).1.Fall.Z)], .vec 40 3 (Y11.map Gv.c) false, .vec 40 3 ((Z1 (⟨(⟨Y5,Y6⟩:Gm),Y7,Y9,Ya,Y8,(⟨Yb,Yc,Y2⟩:Gv)⟩:Gb) Y3).map Gv.c) false, .vec 40 3 (((Z0 (⟨(⟨Y5,Y6⟩:Gm),Y7,Y9,Ya,Y8,(⟨Yb,Yc,Y2⟩:Gv)⟩:Gb) Yf Y4).1.Me.Pq).map Gv.c) false, .nest 49 (((Z0 (⟨(⟨Y5,Y6⟩:Gm),Y7,Y9,Ya,Y8,(⟨Yb,Yc,Y2⟩:Gv)⟩:Gb) Yf Y4).1.Me.Tr).map fun l=>l.map (cI .i64)) false, .vec 133 4 (((Z0 (⟨(⟨Y5,Y6⟩:Gm),Y7,Y9,Ya,Y8,(⟨Yb,Yc,Y2⟩:Gv)⟩:Gb) Yf Y4).1.Sp).map Gs.c) false, .vec 27 1 (((Z0 (⟨(⟨Y5,Y6⟩:Gm),Y7,Y9,Ya,Y8,(⟨Yb,Yc,Y2⟩:Gv)⟩:Gb) Yf Y4).1.We).map (cF .f32)) false, .box 42 [.own 5, .own 6, .own 7, .f .f32 ((Z0 (⟨(⟨Y5,Y6⟩:Gm),Y7,Y9,Ya,Y8,(⟨Yb,Yc,Y2⟩:Gv)⟩:Gb) Yf Y4).1.Film), .f .f32 ((Z0 (⟨(⟨Y5,Y6⟩:Gm),Y7,Y9,Ya,Y8,(⟨Yb,Yc,Y2⟩:Gv)⟩:Gb) Yf Y4).1.Bend), .own 8, .f .f32 ((Z0 (⟨(⟨Y5,Y6⟩:Gm),Y7,Y9,Ya,Y8,(⟨Yb,Yc,Y2⟩:Gv)⟩:Gb) Yf Y4).1.Fall.X), .f .f32 ((Z0 (⟨(⟨Y5,Y6⟩:Gm),Y7,Y9,Ya,Y8,(⟨Yb,Yc,Y2⟩:Gv)⟩:Gb) Yf Y4).1.Fall.Y), .f .f32 ((Z0 (⟨(⟨Y5,Y6⟩:Gm),Y7,Y9,Ya,Y8,(⟨Yb,Yc,Y2⟩:Gv)⟩:Gb) Yf Y4).1.Fall.Z)], .vec 40 3 ((Z1 ((Z0 (⟨(⟨Y5,Y6⟩:Gm),Y7,Y9,Ya,Y8,(⟨Yb,Yc,Y2⟩:Gv)⟩:Gb) Yf Y4).1) Y3).map Gv.c) false]⟩
def Z9C:List Bool:=(mR false [0,5,3,8,1,3,1,17,2,1,1,2,2,2,1,2,1,5,8,17,19])
def Zdu:List Bool:=(mR false [0,5,3,8,1,3,1,17,2,1,1,2,2,2,1,2,1,5,8,16,20])
set_option maxHeartbeats 1000000 in
theorem ZeE (Yd:Gb) (Y3:(List Int)) (Y4:Nat) (Yj:Int) (Yq:Int) (Yu:Int) (Y5:(List Gv)) (Y6:(List (List Int))) (Y7:(List Gs)) (Y8:(List Nat)) (Y9:Nat) (Ya:Nat) (Yb:Nat) (Yc:Nat) (Y2:Nat) (Yf:(List Gv)) (hp0:Yd.Me.Pq.length≤1073741824) (hp1:Yd.Me.Tr.length≤1073741824) (hp2:∀ t∈Yd.Me.Tr,t.length≤1073741824) (hp3:Yd.Sp.length≤1073741824) (hp4:Yd.We.length≤1073741824) (hp5:Y3.length≤1073741824) (Z4m:(Zl Yj 0 40)=true) (Z35:(Zt Yd)=true) (Z36:(Zq Yd Y3)=true) (Z4n:0≤Yu) (Z4o:0≤Yq) (Zn:Like Yd (⟨(⟨Y5,Y6⟩:Gm),Y7,Y9,Ya,Y8,(⟨Yb,Yc,Y2⟩:Gv)⟩:Gb)) (Z11:Yf.length=Yd.Me.Pq.length) (Z4p:Yu + Yq≤40) (Zid:(Zl Yj 0 40)=true) (Zie:(Zt Yd)=true) (Zif:(Zq Yd Y3)=true):∀ (k:Nat) (Y1:Int) (Y11:(List Gv)) (Z9D:0≤Y1) (Z9E:Y11.length=Yf.length) (hk:((Yf.length:Int) - Y1).toNat < k),Lp prog 0 (sub (X0 f43) [1,1,1,1,1,0,0,0,1,0,0,1,1,1,1,1,1,1,1,1,0,0]) (Zb0 Yd Y3 Y4 Yj Yq Yu Y5 Y6 Y7 Y8 Y9 Ya Yb Yc Y2 Yf Y1 Y11) (Z7G Yd Y3 Y4 Yj Yq Yu Y5 Y6 Y7 Y8 Y9 Ya Yb Yc Y2 Yf (Z1J Yd Y3 Y4 Yj Yq Yu Y5 Y6 Y7 Y8 Y9 Ya Yb Yc Y2 Yf k Y1 Y11)).1 (Z7G Yd Y3 Y4 Yj Yq Yu Y5 Y6 Y7 Y8 Y9 Ya Yb Yc Y2 Yf (Z1J Yd Y3 Y4 Yj Yq Yu Y5 Y6 Y7 Y8 Y9 Ya Yb Yc Y2 Yf k Y1 Y11)).2:=by
 intro k
 induction k with
 | zero=>intro Y1 Y11 Z9D Z9E hk;exact absurd hk (Nat.not_lt_zero _)
 | succ k ih =>
  intro Y1 Y11 Z9D Z9E hk
  cases YS:(decide (Y1 < (Yf.length:Int))) with
  | true =>
   have YW:=odt YS
   have Y1c:(0:Int)≤Y1:=(by with_reducible assumption)
   have Y1g:Y1 < ((Z1 ((Z0 (⟨(⟨Y5,Y6⟩:Gm),Y7,Y9,Ya,Y8,(⟨Yb,Yc,Y2⟩:Gv)⟩:Gb) Yf Y4).1) Y3).length:Int):=(by ((have q0:=Zy Zn;have q3:=Z11;have q1:=Zy (Z1j Zn Yf Y4);have q2:=Zm (Z0 (⟨(⟨Y5,Y6⟩:Gm),Y7,Y9,Ya,Y8,(⟨Yb,Yc,Y2⟩:Gv)⟩:Gb) Yf Y4).1 Y3;have q4:=Zm (⟨(⟨Y5,Y6⟩:Gm),Y7,Y9,Ya,Y8,(⟨Yb,Yc,Y2⟩:Gv)⟩:Gb) Y3;have q5:=Zy (Z1j Zn (Z1 (⟨(⟨Y5,Y6⟩:Gm),Y7,Y9,Ya,Y8,(⟨Yb,Yc,Y2⟩:Gv)⟩:Gb) Y3) Y4);have q6:=Zm (Z0 (⟨(⟨Y5,Y6⟩:Gm),Y7,Y9,Ya,Y8,(⟨Yb,Yc,Y2⟩:Gv)⟩:Gb) (Z1 (⟨(⟨Y5,Y6⟩:Gm),Y7,Y9,Ya,Y8,(⟨Yb,Yc,Y2⟩:Gv)⟩:Gb) Y3) Y4).1 Y3;omega)))
   have Y1e:Y1.toNat < (Z1 ((Z0 (⟨(⟨Y5,Y6⟩:Gm),Y7,Y9,Ya,Y8,(⟨Yb,Yc,Y2⟩:Gv)⟩:Gb) Yf Y4).1) Y3).length:=(by omega)
   have Y19:Y1 < (Y11.length:Int):=(by omega)
   have Y1f:Y1.toNat < Y11.length:=(by omega)
   have Y1n:(-9223372036854775808:Int)≤(Y1 + 1):=(by omega)
   have Y1j:(Y1 + 1)≤(9223372036854775807:Int):=(by omega)
   have e:Z1J Yd Y3 Y4 Yj Yq Yu Y5 Y6 Y7 Y8 Y9 Ya Yb Yc Y2 Yf (k + 1) Y1 Y11=(Z1J Yd Y3 Y4 Yj Yq Yu Y5 Y6 Y7 Y8 Y9 Ya Yb Yc Y2 Yf k (Y1 + 1) (Y11.set Y1.toNat (Zv ((Z1 ((Z0 (⟨(⟨Y5,Y6⟩:Gm),Y7,Y9,Ya,Y8,(⟨Yb,Yc,Y2⟩:Gv)⟩:Gb) Yf Y4).1) Y3).getD Y1.toNat default) (Zo (Y11.getD Y1.toNat default) (Zu (Zb (Z1 ((Z0 (⟨(⟨Y5,Y6⟩:Gm),Y7,Y9,Ya,Y8,(⟨Yb,Yc,Y2⟩:Gv)⟩:Gb) Yf Y4).1) Y3) (Z1 ((Z0 (⟨(⟨Y5,Y6⟩:Gm),Y7,Y9,Ya,Y8,(⟨Yb,Yc,Y2⟩:Gv)⟩:Gb) Yf Y4).1) Y3)) (Zb (Z1 (⟨(⟨Y5,Y6⟩:Gm),Y7,Y9,Ya,Y8,(⟨Yb,Yc,Y2⟩:Gv)⟩:Gb) Y3) (Z1 (⟨(⟨Y5,Y6⟩:Gm),Y7,Y9,Ya,Y8,(⟨Yb,Yc,Y2⟩:Gv)⟩:Gb) Y3))))))):=by simp only [Z1J,YS,cond_true]
   rw [e]
   exact X9 E0Ok Z7 [] Z9C [0,1,2,3,4,5,6,7,8,9,10] (⟨.agg [.sl (Yd.Me.Pq.map Gv.c), .sl (Yd.Me.Tr.map (cL (cI .i64))), .sl (Yd.Sp.map Gs.c), .f .f32 Yd.Film, .f .f32 Yd.Bend, .sl (Yd.We.map (cF .f32)), .f .f32 Yd.Fall.X, .f .f32 Yd.Fall.Y, .f .f32 Yd.Fall.Z] :: .sl (Y3.map (cI .i64)) :: .f .f32 Y4 :: .i .i64 Yq :: .ptr 0 0 0 :: .any :: .any :: .any :: .ptr 1 0 0 :: .i .i64 0 :: .b false :: .ptr 2 0 0 :: .own 3 :: .i .i64 (Yu + 1) :: .own 4 :: .ptr 9 0 0 :: .any :: .b ((Z0 (⟨(⟨Y5,Y6⟩:Gm),Y7,Y9,Ya,Y8,(⟨Yb,Yc,Y2⟩:Gv)⟩:Gb) Yf Y4).2.2) :: .own 10 :: .f .f32 (Zu (Zb (Z1 ((Z0 (⟨(⟨Y5,Y6⟩:Gm),Y7,Y9,Ya,Y8,(⟨Yb,Yc,Y2⟩:Gv)⟩:Gb) Yf Y4).1) Y3) (Z1 ((Z0 (⟨(⟨Y5,Y6⟩:Gm),Y7,Y9,Ya,Y8,(⟨Yb,Yc,Y2⟩:Gv)⟩:Gb) Yf Y4).1) Y3)) (Zb (Z1 (⟨(⟨Y5,Y6⟩:Gm),Y7,Y9,Ya,Y8,(⟨Yb,Yc,Y2⟩:Gv)⟩:Gb) Y3) (Z1 (⟨(⟨Y5,Y6⟩:Gm),Y7,Y9,Ya,Y8,(⟨Yb,Yc,Y2⟩:Gv)⟩:Gb) Y3))) :: .any :: .b (Zt Yd) :: .b (!(Zt Yd)) :: .b (!(Zt Yd)) :: .sl (Y3.map (cI .i64)) :: .b (Zq Yd Y3) :: .b (!(Zq Yd Y3)) :: .b (!(Zq Yd Y3)) :: .b (!(Zq Yd Y3)) :: .f .f32 Y4 :: .b (Zh Y4) :: .b (!(Zh Y4)) :: .b (!(Zh Y4)) :: .b (!(Zh Y4)) :: .i .i64 Yj :: .b (Zl Yj 0 40) :: .b (!(Zl Yj 0 40)) :: .b (!(Zl Yj 0 40)) :: .any :: .any :: .sl (Y3.map (cI .i64)) :: .any :: .i .i64 Yq :: .b (decide (Yq > 0)) :: .any :: .any :: .sl (Y3.map (cI .i64)) :: .own 4 :: .any :: .own 3 :: .f .f32 Y4 :: .any :: .agg [.own 5, .own 6, .own 7, .f .f32 ((Z0 (⟨(⟨Y5,Y6⟩:Gm),Y7,Y9,Ya,Y8,(⟨Yb,Yc,Y2⟩:Gv)⟩:Gb) Yf Y4).1.Film), .f .f32 ((Z0 (⟨(⟨Y5,Y6⟩:Gm),Y7,Y9,Ya,Y8,(⟨Yb,Yc,Y2⟩:Gv)⟩:Gb) Yf Y4).1.Bend), .own 8, .f .f32 ((Z0 (⟨(⟨Y5,Y6⟩:Gm),Y7,Y9,Ya,Y8,(⟨Yb,Yc,Y2⟩:Gv)⟩:Gb) Yf Y4).1.Fall.X), .f .f32 ((Z0 (⟨(⟨Y5,Y6⟩:Gm),Y7,Y9,Ya,Y8,(⟨Yb,Yc,Y2⟩:Gv)⟩:Gb) Yf Y4).1.Fall.Y), .f .f32 ((Z0 (⟨(⟨Y5,Y6⟩:Gm),Y7,Y9,Ya,Y8,(⟨Yb,Yc,Y2⟩:Gv)⟩:Gb) Yf Y4).1.Fall.Z)] :: .i .i64 ((Z0 (⟨(⟨Y5,Y6⟩:Gm),Y7,Y9,Ya,Y8,(⟨Yb,Yc,Y2⟩:Gv)⟩:Gb) Yf Y4).2.1) :: .b ((Z0 (⟨(⟨Y5,Y6⟩:Gm),Y7,Y9,Ya,Y8,(⟨Yb,Yc,Y2⟩:Gv)⟩:Gb) Yf Y4).2.2) :: .b ((Z0 (⟨(⟨Y5,Y6⟩:Gm),Y7,Y9,Ya,Y8,(⟨Yb,Yc,Y2⟩:Gv)⟩:Gb) Yf Y4).2.2) :: .b (!(Z0 (⟨(⟨Y5,Y6⟩:Gm),Y7,Y9,Ya,Y8,(⟨Yb,Yc,Y2⟩:Gv)⟩:Gb) Yf Y4).2.2) :: an 8 (.b ((Z0 (⟨(⟨Y5,Y6⟩:Gm),Y7,Y9,Ya,Y8,(⟨Yb,Yc,Y2⟩:Gv)⟩:Gb) Yf Y4).2.2) :: .b (!(Z0 (⟨(⟨Y5,Y6⟩:Gm),Y7,Y9,Ya,Y8,(⟨Yb,Yc,Y2⟩:Gv)⟩:Gb) Yf Y4).2.2) :: .i .i64 Yu :: .i .i64 (Yu + 1) :: .agg [.own 5, .own 6, .own 7, .f .f32 ((Z0 (⟨(⟨Y5,Y6⟩:Gm),Y7,Y9,Ya,Y8,(⟨Yb,Yc,Y2⟩:Gv)⟩:Gb) Yf Y4).1.Film), .f .f32 ((Z0 (⟨(⟨Y5,Y6⟩:Gm),Y7,Y9,Ya,Y8,(⟨Yb,Yc,Y2⟩:Gv)⟩:Gb) Yf Y4).1.Bend), .own 8, .f .f32 ((Z0 (⟨(⟨Y5,Y6⟩:Gm),Y7,Y9,Ya,Y8,(⟨Yb,Yc,Y2⟩:Gv)⟩:Gb) Yf Y4).1.Fall.X), .f .f32 ((Z0 (⟨(⟨Y5,Y6⟩:Gm),Y7,Y9,Ya,Y8,(⟨Yb,Yc,Y2⟩:Gv)⟩:Gb) Yf Y4).1.Fall.Y), .f .f32 ((Z0 (⟨(⟨Y5,Y6⟩:Gm),Y7,Y9,Ya,Y8,(⟨Yb,Yc,Y2⟩:Gv)⟩:Gb) Yf Y4).1.Fall.Z)] :: .sl (Y3.map (cI .i64)) :: .own 10 :: .own 10 :: .own 10 :: .f .f32 (Zb (Z1 ((Z0 (⟨(⟨Y5,Y6⟩:Gm),Y7,Y9,Ya,Y8,(⟨Yb,Yc,Y2⟩:Gv)⟩:Gb) Yf Y4).1) Y3) (Z1 ((Z0 (⟨(⟨Y5,Y6⟩:Gm),Y7,Y9,Ya,Y8,(⟨Yb,Yc,Y2⟩:Gv)⟩:Gb) Yf Y4).1) Y3)) :: .own 4 :: .own 4 :: .f .f32 (Zb (Z1 (⟨(⟨Y5,Y6⟩:Gm),Y7,Y9,Ya,Y8,(⟨Yb,Yc,Y2⟩:Gv)⟩:Gb) Y3) (Z1 (⟨(⟨Y5,Y6⟩:Gm),Y7,Y9,Ya,Y8,(⟨Yb,Yc,Y2⟩:Gv)⟩:Gb) Y3)) :: .f .f32 (Zu (Zb (Z1 ((Z0 (⟨(⟨Y5,Y6⟩:Gm),Y7,Y9,Ya,Y8,(⟨Yb,Yc,Y2⟩:Gv)⟩:Gb) Yf Y4).1) Y3) (Z1 ((Z0 (⟨(⟨Y5,Y6⟩:Gm),Y7,Y9,Ya,Y8,(⟨Yb,Yc,Y2⟩:Gv)⟩:Gb) Yf Y4).1) Y3)) (Zb (Z1 (⟨(⟨Y5,Y6⟩:Gm),Y7,Y9,Ya,Y8,(⟨Yb,Yc,Y2⟩:Gv)⟩:Gb) Y3) (Z1 (⟨(⟨Y5,Y6⟩:Gm),Y7,Y9,Ya,Y8,(⟨Yb,Yc,Y2⟩:Gv)⟩:Gb) Y3))) :: .own 3 :: .i .i64 (Yf.length:Int) :: .i .i64 (Y1 + 1) :: an 19 []),[.box 42 [.sl (Yd.Me.Pq.map Gv.c), .sl (Yd.Me.Tr.map (cL (cI .i64))), .sl (Yd.Sp.map Gs.c), .f .f32 Yd.Film, .f .f32 Yd.Bend, .sl (Yd.We.map (cF .f32)), .f .f32 Yd.Fall.X, .f .f32 Yd.Fall.Y, .f .f32 Yd.Fall.Z], .box 42 [.nils, .nils, .nils, .f .f32 0, .f .f32 0, .nils, .f .f32 0, .f .f32 0, .f .f32 0], .box 42 [.own 5, .own 6, .own 7, .f .f32 ((Z0 (⟨(⟨Y5,Y6⟩:Gm),Y7,Y9,Ya,Y8,(⟨Yb,Yc,Y2⟩:Gv)⟩:Gb) Yf Y4).1.Film), .f .f32 ((Z0 (⟨(⟨Y5,Y6⟩:Gm),Y7,Y9,Ya,Y8,(⟨Yb,Yc,Y2⟩:Gv)⟩:Gb) Yf Y4).1.Bend), .own 8, .f .f32 ((Z0 (⟨(⟨Y5,Y6⟩:Gm),Y7,Y9,Ya,Y8,(⟨Yb,Yc,Y2⟩:Gv)⟩:Gb) Yf Y4).1.Fall.X), .f .f32 ((Z0 (⟨(⟨Y5,Y6⟩:Gm),Y7,Y9,Ya,Y8,(⟨Yb,Yc,Y2⟩:Gv)⟩:Gb) Yf Y4).1.Fall.Y), .f .f32 ((Z0 (⟨(⟨Y5,Y6⟩:Gm),Y7,Y9,Ya,Y8,(⟨Yb,Yc,Y2⟩:Gv)⟩:Gb) Yf Y4).1.Fall.Z)], .vec 40 3 ((Y11.map Gv.c).set Y1.toNat [.f .f32 ((Zv ((Z1 ((Z0 (⟨(⟨Y5,Y6⟩:Gm),Y7,Y9,Ya,Y8,(⟨Yb,Yc,Y2⟩:Gv)⟩:Gb) Yf Y4).1) Y3).getD Y1.toNat default) (Zo (Y11.getD Y1.toNat default) (Zu (Zb (Z1 ((Z0 (⟨(⟨Y5,Y6⟩:Gm),Y7,Y9,Ya,Y8,(⟨Yb,Yc,Y2⟩:Gv)⟩:Gb) Yf Y4).1) Y3) (Z1 ((Z0 (⟨(⟨Y5,Y6⟩:Gm),Y7,Y9,Ya,Y8,(⟨Yb,Yc,Y2⟩:Gv)⟩:Gb) Yf Y4).1) Y3)) (Zb (Z1 (⟨(⟨Y5,Y6⟩:Gm),Y7,Y9,Ya,Y8,(⟨Yb,Yc,Y2⟩:Gv)⟩:Gb) Y3) (Z1 (⟨(⟨Y5,Y6⟩:Gm),Y7,Y9,Ya,Y8,(⟨Yb,Yc,Y2⟩:Gv)⟩:Gb) Y3))))).X), .f .f32 ((Zv ((Z1 ((Z0 (⟨(⟨Y5,Y6⟩:Gm),Y7,Y9,Ya,Y8,(⟨Yb,Yc,Y2⟩:Gv)⟩:Gb) Yf Y4).1) Y3).getD Y1.toNat default) (Zo (Y11.getD Y1.toNat default) (Zu (Zb (Z1 ((Z0 (⟨(⟨Y5,Y6⟩:Gm),Y7,Y9,Ya,Y8,(⟨Yb,Yc,Y2⟩:Gv)⟩:Gb) Yf Y4).1) Y3) (Z1 ((Z0 (⟨(⟨Y5,Y6⟩:Gm),Y7,Y9,Ya,Y8,(⟨Yb,Yc,Y2⟩:Gv)⟩:Gb) Yf Y4).1) Y3)) (Zb (Z1 (⟨(⟨Y5,Y6⟩:Gm),Y7,Y9,Ya,Y8,(⟨Yb,Yc,Y2⟩:Gv)⟩:Gb) Y3) (Z1 (⟨(⟨Y5,Y6⟩:Gm),Y7,Y9,Ya,Y8,(⟨Yb,Yc,Y2⟩:Gv)⟩:Gb) Y3))))).Y), .f .f32 ((Zv ((Z1 ((Z0 (⟨(⟨Y5,Y6⟩:Gm),Y7,Y9,Ya,Y8,(⟨Yb,Yc,Y2⟩:Gv)⟩:Gb) Yf Y4).1) Y3).getD Y1.toNat default) (Zo (Y11.getD Y1.toNat default) (Zu (Zb (Z1 ((Z0 (⟨(⟨Y5,Y6⟩:Gm),Y7,Y9,Ya,Y8,(⟨Yb,Yc,Y2⟩:Gv)⟩:Gb) Yf Y4).1) Y3) (Z1 ((Z0 (⟨(⟨Y5,Y6⟩:Gm),Y7,Y9,Ya,Y8,(⟨Yb,Yc,Y2⟩:Gv)⟩:Gb) Yf Y4).1) Y3)) (Zb (Z1 (⟨(⟨Y5,Y6⟩:Gm),Y7,Y9,Ya,Y8,(⟨Yb,Yc,Y2⟩:Gv)⟩:Gb) Y3) (Z1 (⟨(⟨Y5,Y6⟩:Gm),Y7,Y9,Ya,Y8,(⟨Yb,Yc,Y2⟩:Gv)⟩:Gb) Y3))))).Z)]) false, .vec 40 3 ((Z1 (⟨(⟨Y5,Y6⟩:Gm),Y7,Y9,Ya,Y8,(⟨Yb,Yc,Y2⟩:Gv)⟩:Gb) Y3).map Gv.c) false, .vec 40 3 (((Z0 (⟨(⟨Y5,Y6⟩:Gm),Y7,Y9,Ya,Y8,(⟨Yb,Yc,Y2⟩:Gv)⟩:Gb) Yf Y4).1.Me.Pq).map Gv.c) false, .nest 49 (((Z0 (⟨(⟨Y5,Y6⟩:Gm),Y7,Y9,Ya,Y8,(⟨Yb,Yc,Y2⟩:Gv)⟩:Gb) Yf Y4).1.Me.Tr).map fun l=>l.map (cI .i64)) false, .vec 133 4 (((Z0 (⟨(⟨Y5,Y6⟩:Gm),Y7,Y9,Ya,Y8,(⟨Yb,Yc,Y2⟩:Gv)⟩:Gb) Yf Y4).1.Sp).map Gs.c) false, .vec 27 1 (((Z0 (⟨(⟨Y5,Y6⟩:Gm),Y7,Y9,Ya,Y8,(⟨Yb,Yc,Y2⟩:Gv)⟩:Gb) Yf Y4).1.We).map (cF .f32)) false, .box 42 [.own 5, .own 6, .own 7, .f .f32 ((Z0 (⟨(⟨Y5,Y6⟩:Gm),Y7,Y9,Ya,Y8,(⟨Yb,Yc,Y2⟩:Gv)⟩:Gb) Yf Y4).1.Film), .f .f32 ((Z0 (⟨(⟨Y5,Y6⟩:Gm),Y7,Y9,Ya,Y8,(⟨Yb,Yc,Y2⟩:Gv)⟩:Gb) Yf Y4).1.Bend), .own 8, .f .f32 ((Z0 (⟨(⟨Y5,Y6⟩:Gm),Y7,Y9,Ya,Y8,(⟨Yb,Yc,Y2⟩:Gv)⟩:Gb) Yf Y4).1.Fall.X), .f .f32 ((Z0 (⟨(⟨Y5,Y6⟩:Gm),Y7,Y9,Ya,Y8,(⟨Yb,Yc,Y2⟩:Gv)⟩:Gb) Yf Y4).1.Fall.Y), .f .f32 ((Z0 (⟨(⟨Y5,Y6⟩:Gm),Y7,Y9,Ya,Y8,(⟨Yb,Yc,Y2⟩:Gv)⟩:Gb) Yf Y4).1.Fall.Z)], .vec 40 3 ((Z1 ((Z0 (⟨(⟨Y5,Y6⟩:Gm),Y7,Y9,Ya,Y8,(⟨Yb,Yc,Y2⟩:Gv)⟩:Gb) Yf Y4).1) Y3).map Gv.c) false]⟩) (sB YS<|sK [13,13]<|sX Gv.c (Z1 ((Z0 (⟨(⟨Y5,Y6⟩:Gm),Y7,Y9,Ya,Y8,(⟨Yb,Yc,Y2⟩:Gv)⟩:Gb) Yf Y4).1) Y3) Y1 Y1c Y1g<|sV Gv.c (Z1 ((Z0 (⟨(⟨Y5,Y6⟩:Gm),Y7,Y9,Ya,Y8,(⟨Yb,Yc,Y2⟩:Gv)⟩:Gb) Yf Y4).1) Y3) Y1.toNat Y1e<|sX Gv.c Y11 Y1 Y1c Y19<|sV Gv.c Y11 Y1.toNat Y1f<|sF (Z3y (Y11.getD Y1.toNat default) (Zu (Zb (Z1 ((Z0 (⟨(⟨Y5,Y6⟩:Gm),Y7,Y9,Ya,Y8,(⟨Yb,Yc,Y2⟩:Gv)⟩:Gb) Yf Y4).1) Y3) (Z1 ((Z0 (⟨(⟨Y5,Y6⟩:Gm),Y7,Y9,Ya,Y8,(⟨Yb,Yc,Y2⟩:Gv)⟩:Gb) Yf Y4).1) Y3)) (Zb (Z1 (⟨(⟨Y5,Y6⟩:Gm),Y7,Y9,Ya,Y8,(⟨Yb,Yc,Y2⟩:Gv)⟩:Gb) Y3) (Z1 (⟨(⟨Y5,Y6⟩:Gm),Y7,Y9,Ya,Y8,(⟨Yb,Yc,Y2⟩:Gv)⟩:Gb) Y3))))<|sF (Z3w ((Z1 ((Z0 (⟨(⟨Y5,Y6⟩:Gm),Y7,Y9,Ya,Y8,(⟨Yb,Yc,Y2⟩:Gv)⟩:Gb) Yf Y4).1) Y3).getD Y1.toNat default) (Zo (Y11.getD Y1.toNat default) (Zu (Zb (Z1 ((Z0 (⟨(⟨Y5,Y6⟩:Gm),Y7,Y9,Ya,Y8,(⟨Yb,Yc,Y2⟩:Gv)⟩:Gb) Yf Y4).1) Y3) (Z1 ((Z0 (⟨(⟨Y5,Y6⟩:Gm),Y7,Y9,Ya,Y8,(⟨Yb,Yc,Y2⟩:Gv)⟩:Gb) Yf Y4).1) Y3)) (Zb (Z1 (⟨(⟨Y5,Y6⟩:Gm),Y7,Y9,Ya,Y8,(⟨Yb,Yc,Y2⟩:Gv)⟩:Gb) Y3) (Z1 (⟨(⟨Y5,Y6⟩:Gm),Y7,Y9,Ya,Y8,(⟨Yb,Yc,Y2⟩:Gv)⟩:Gb) Y3)))))<|sX Gv.c Y11 Y1 Y1c Y19<|sC (Xl (c:=Gv.c) (l:=Y11) Y1f)<|sI (Y1 + 1) Y1n Y1j<|sN) (by kernel_rfl) (by simp [Zb0,Gv.c,List.map_set]<;>assumption) (ih (Y1 + 1) (Y11.set Y1.toNat (Zv ((Z1 ((Z0 (⟨(⟨Y5,Y6⟩:Gm),Y7,Y9,Ya,Y8,(⟨Yb,Yc,Y2⟩:Gv)⟩:Gb) Yf Y4).1) Y3).getD Y1.toNat default) (Zo (Y11.getD Y1.toNat default) (Zu (Zb (Z1 ((Z0 (⟨(⟨Y5,Y6⟩:Gm),Y7,Y9,Ya,Y8,(⟨Yb,Yc,Y2⟩:Gv)⟩:Gb) Yf Y4).1) Y3) (Z1 ((Z0 (⟨(⟨Y5,Y6⟩:Gm),Y7,Y9,Ya,Y8,(⟨Yb,Yc,Y2⟩:Gv)⟩:Gb) Yf Y4).1) Y3)) (Zb (Z1 (⟨(⟨Y5,Y6⟩:Gm),Y7,Y9,Ya,Y8,(⟨Yb,Yc,Y2⟩:Gv)⟩:Gb) Y3) (Z1 (⟨(⟨Y5,Y6⟩:Gm),Y7,Y9,Ya,Y8,(⟨Yb,Yc,Y2⟩:Gv)⟩:Gb) Y3)))))) (show 0≤(Y1 + 1) from (by omega)) (show (Y11.set Y1.toNat (Zv ((Z1 ((Z0 (⟨(⟨Y5,Y6⟩:Gm),Y7,Y9,Ya,Y8,(⟨Yb,Yc,Y2⟩:Gv)⟩:Gb) Yf Y4).1) Y3).getD Y1.toNat default) (Zo (Y11.getD Y1.toNat default) (Zu (Zb (Z1 ((Z0 (⟨(⟨Y5,Y6⟩:Gm),Y7,Y9,Ya,Y8,(⟨Yb,Yc,Y2⟩:Gv)⟩:Gb) Yf Y4).1) Y3) (Z1 ((Z0 (⟨(⟨Y5,Y6⟩:Gm),Y7,Y9,Ya,Y8,(⟨Yb,Yc,Y2⟩:Gv)⟩:Gb) Yf Y4).1) Y3)) (Zb (Z1 (⟨(⟨Y5,Y6⟩:Gm),Y7,Y9,Ya,Y8,(⟨Yb,Yc,Y2⟩:Gv)⟩:Gb) Y3) (Z1 (⟨(⟨Y5,Y6⟩:Gm),Y7,Y9,Ya,Y8,(⟨Yb,Yc,Y2⟩:Gv)⟩:Gb) Y3)))))).length=Yf.length from (by simp only [List.length_set];assumption)) (by omega))
  | false =>
   have YW:=odf YS
   have e:Z1J Yd Y3 Y4 Yj Yq Yu Y5 Y6 Y7 Y8 Y9 Ya Yb Yc Y2 Yf (k + 1) Y1 Y11=Y11:=by simp only [Z1J,YS,cond_false]
   rw [e]
   exact outR (e:=(.exit 2)) E0Ok Z7 [] Zdu [0,1,2,3,4,9,10,5,6,7,8] (sB YS<|sN) (by kernel_rfl) (by intro h;cases h)
theorem Zdv (Yd:Gb) (Y3:(List Int)) (Y4:Nat) (Yj:Int) (Yq:Int) (Yu:Int) (Y5:(List Gv)) (Y6:(List (List Int))) (Y7:(List Gs)) (Y8:(List Nat)) (Y9:Nat) (Ya:Nat) (Yb:Nat) (Yc:Nat) (Y2:Nat) (Yf:(List Gv)):∀ (k:Nat) (Y1:Int) (Y11:(List Gv)) (hk:((Yf.length:Int) - Y1).toNat < k),(Z1J Yd Y3 Y4 Yj Yq Yu Y5 Y6 Y7 Y8 Y9 Ya Yb Yc Y2 Yf k Y1 Y11).length=Y11.length:=by
  intro k
  induction k with
  | zero=>intro Y1 Y11 hk;exact absurd hk (Nat.not_lt_zero _)
  | succ k ih =>
    intro Y1 Y11 hk
    cases YS:(decide (Y1 < (Yf.length:Int))) with
    | true =>
      have e:Z1J Yd Y3 Y4 Yj Yq Yu Y5 Y6 Y7 Y8 Y9 Ya Yb Yc Y2 Yf (k + 1) Y1 Y11=(Z1J Yd Y3 Y4 Yj Yq Yu Y5 Y6 Y7 Y8 Y9 Ya Yb Yc Y2 Yf k (Y1 + 1) (Y11.set Y1.toNat (Zv ((Z1 ((Z0 (⟨(⟨Y5,Y6⟩:Gm),Y7,Y9,Ya,Y8,(⟨Yb,Yc,Y2⟩:Gv)⟩:Gb) Yf Y4).1) Y3).getD Y1.toNat default) (Zo (Y11.getD Y1.toNat default) (Zu (Zb (Z1 ((Z0 (⟨(⟨Y5,Y6⟩:Gm),Y7,Y9,Ya,Y8,(⟨Yb,Yc,Y2⟩:Gv)⟩:Gb) Yf Y4).1) Y3) (Z1 ((Z0 (⟨(⟨Y5,Y6⟩:Gm),Y7,Y9,Ya,Y8,(⟨Yb,Yc,Y2⟩:Gv)⟩:Gb) Yf Y4).1) Y3)) (Zb (Z1 (⟨(⟨Y5,Y6⟩:Gm),Y7,Y9,Ya,Y8,(⟨Yb,Yc,Y2⟩:Gv)⟩:Gb) Y3) (Z1 (⟨(⟨Y5,Y6⟩:Gm),Y7,Y9,Ya,Y8,(⟨Yb,Yc,Y2⟩:Gv)⟩:Gb) Y3))))))):=by simp only [Z1J,YS,cond_true]
      rw [e,ih (Y1 + 1) (Y11.set Y1.toNat (Zv ((Z1 ((Z0 (⟨(⟨Y5,Y6⟩:Gm),Y7,Y9,Ya,Y8,(⟨Yb,Yc,Y2⟩:Gv)⟩:Gb) Yf Y4).1) Y3).getD Y1.toNat default) (Zo (Y11.getD Y1.toNat default) (Zu (Zb (Z1 ((Z0 (⟨(⟨Y5,Y6⟩:Gm),Y7,Y9,Ya,Y8,(⟨Yb,Yc,Y2⟩:Gv)⟩:Gb) Yf Y4).1) Y3) (Z1 ((Z0 (⟨(⟨Y5,Y6⟩:Gm),Y7,Y9,Ya,Y8,(⟨Yb,Yc,Y2⟩:Gv)⟩:Gb) Yf Y4).1) Y3)) (Zb (Z1 (⟨(⟨Y5,Y6⟩:Gm),Y7,Y9,Ya,Y8,(⟨Yb,Yc,Y2⟩:Gv)⟩:Gb) Y3) (Z1 (⟨(⟨Y5,Y6⟩:Gm),Y7,Y9,Ya,Y8,(⟨Yb,Yc,Y2⟩:Gv)⟩:Gb) Y3)))))) (by simp_all<;>omega)];simp
    | false =>
      have e:Z1J Yd Y3 Y4 Yj Yq Yu Y5 Y6 Y7 Y8 Y9 Ya Yb Yc Y2 Yf (k + 1) Y1 Y11=Y11:=by simp only [Z1J,YS,cond_false]
      first | (rw [e];done) | (rw [e];rfl)
end Go.Ab
