/- The functions of this seat as plain Lean, and that the program's are these. Printed by a program of the prover's own. -/
import Derived.Test.YtoibkmljibnjnaaB3
set_option linter.unusedVariables false
set_option linter.unusedSimpArgs false
set_option maxRecDepth 100000
namespace Go.Ab
open Go.RowKit Go.Proofs.Try
def Z1B (Yp:Gv) (Yq:Gv):Gv:=(⟨(fop .sub .f32 Yp.X Yq.X),(fop .sub .f32 Yp.Y Yq.Y),(fop .sub .f32 Yp.Z Yq.Z)⟩:Gv)
theorem Z3L (Yp:Gv) (Yq:Gv)   : Fn prog 78 [.agg [.f .f32 Yp.X, .f .f32 Yp.Y, .f .f32 Yp.Z], .agg [.f .f32 Yq.X, .f .f32 Yq.Y, .f .f32 Yq.Z]] (.agg [.f .f32 ((Z1B Yp Yq).X), .f .f32 ((Z1B Yp Yq).Y), .f .f32 ((Z1B Yp Yq).Z)]) []:=by
 refine fnS E0Ok Zb (c:=X0 f78) [] (.agg [.f .f32 (fop .sub .f32 Yp.X Yq.X), .f .f32 (fop .sub .f32 Yp.Y Yq.Y), .f .f32 (fop .sub .f32 Yp.Z Yq.Z)]) [] func78 (sK [] sN) rfl (by kernel_rfl) (by kernel_rfl) rfl ?_ ?_
 · rfl
 · rfl
def ZB (Yp:Gv) (Yq:Gv):Gv:=(⟨(fop .sub .f32 (fop .mul .f32 Yp.Y Yq.Z) (fop .mul .f32 Yp.Z Yq.Y)),(fop .sub .f32 (fop .mul .f32 Yp.Z Yq.X) (fop .mul .f32 Yp.X Yq.Z)),(fop .sub .f32 (fop .mul .f32 Yp.X Yq.Y) (fop .mul .f32 Yp.Y Yq.X))⟩:Gv)
theorem Z3A (Yp:Gv) (Yq:Gv)   : Fn prog 97 [.agg [.f .f32 Yp.X, .f .f32 Yp.Y, .f .f32 Yp.Z], .agg [.f .f32 Yq.X, .f .f32 Yq.Y, .f .f32 Yq.Z]] (.agg [.f .f32 ((ZB Yp Yq).X), .f .f32 ((ZB Yp Yq).Y), .f .f32 ((ZB Yp Yq).Z)]) []:=by
 refine fnS E0Ok Zb (c:=X0 f97) [] (.agg [.f .f32 (fop .sub .f32 (fop .mul .f32 Yp.Y Yq.Z) (fop .mul .f32 Yp.Z Yq.Y)), .f .f32 (fop .sub .f32 (fop .mul .f32 Yp.Z Yq.X) (fop .mul .f32 Yp.X Yq.Z)), .f .f32 (fop .sub .f32 (fop .mul .f32 Yp.X Yq.Y) (fop .mul .f32 Yp.Y Yq.X))]) [] func97 (sK [] sN) rfl (by kernel_rfl) (by kernel_rfl) rfl ?_ ?_
 · rfl
 · rfl
def Z1Q (Y1:Gm) (YS:(List Int)):Gv:=(ZB (Z1B (Y1.Pq.getD (YS.getD 1 default).toNat default) (Y1.Pq.getD (YS.getD 0 default).toNat default)) (Z1B (Y1.Pq.getD (YS.getD 2 default).toNat default) (Y1.Pq.getD (YS.getD 0 default).toNat default)))
def Zf (Y1:Gm) (YS:(List Int)):Gv:=(Z1Q Y1 YS)
theorem Z5i (Y1:Gm) (YS:(List Int)) (hp0:Y1.Pq.length≤1073741824) (hp1:Y1.Tr.length≤1073741824) (hp2:∀ t∈Y1.Tr,t.length≤1073741824) (hp3:YS.length≤1073741824) (hp4:YS.length=3∧∀ x∈YS,0≤x∧x < (Y1.Pq.length:Int))  : Fn prog 88 [.agg [.sl (Y1.Pq.map Gv.c), .sl (Y1.Tr.map (cL (cI .i64)))], .sl (YS.map (cI .i64))] (.agg [.f .f32 ((Zf Y1 YS).X), .f .f32 ((Zf Y1 YS).Y), .f .f32 ((Zf Y1 YS).Z)]) []:=by
 have y0:(0:Int)≤0:=(by omega)
 have y1:0 < (YS.length:Int):=(by omega)
 have y2:(0:Int)≤(YS.getD 0 default):=(by have q:=Okt.at hp4;omega)
 have y3:(YS.getD 0 default) < (Y1.Pq.length:Int):=(by have q:=Okt.at hp4;omega)
 have y4:(0:Int)≤1:=(by omega)
 have y5:1 < (YS.length:Int):=(by omega)
 have y6:(0:Int)≤(YS.getD 1 default):=(by have q:=Okt.at hp4;omega)
 have y7:(YS.getD 1 default) < (Y1.Pq.length:Int):=(by have q:=Okt.at hp4;omega)
 have y8:(0:Int)≤2:=(by omega)
 have y9:2 < (YS.length:Int):=(by omega)
 have y10:(0:Int)≤(YS.getD 2 default):=(by have q:=Okt.at hp4;omega)
 have y11:(YS.getD 2 default) < (Y1.Pq.length:Int):=(by have q:=Okt.at hp4;omega)
 refine fnS E0Ok Zb (c:=X0 f88) [] (.agg [.f .f32 ((Z1Q Y1 YS).X), .f .f32 ((Z1Q Y1 YS).Y), .f .f32 ((Z1Q Y1 YS).Z)]) [] func88 (sK [8,8]<|sG (cI .i64) YS 0 y0 y1<|sG Gv.c Y1.Pq (YS.getD 0 default) y2 y3<|sK [17,17]<|sG (cI .i64) YS 1 y4 y5<|sG Gv.c Y1.Pq (YS.getD 1 default) y6 y7<|sF (Z3L (Y1.Pq.getD (YS.getD 1 default).toNat default) (Y1.Pq.getD (YS.getD 0 default).toNat default))<|sG (cI .i64) YS 2 y8 y9<|sG Gv.c Y1.Pq (YS.getD 2 default) y10 y11<|sF (Z3L (Y1.Pq.getD (YS.getD 2 default).toNat default) (Y1.Pq.getD (YS.getD 0 default).toNat default))<|sF (Z3A (Z1B (Y1.Pq.getD (YS.getD 1 default).toNat default) (Y1.Pq.getD (YS.getD 0 default).toNat default)) (Z1B (Y1.Pq.getD (YS.getD 2 default).toNat default) (Y1.Pq.getD (YS.getD 0 default).toNat default)))<|sK [] sN) rfl (by kernel_rfl) (by kernel_rfl) rfl ?_ ?_
 · rfl
 · rfl
def Zh (YK:Gv) (YM:Nat):Gv:=(⟨(fop .mul .f32 YK.X YM),(fop .mul .f32 YK.Y YM),(fop .mul .f32 YK.Z YM)⟩:Gv)
theorem Z4P (YK:Gv) (YM:Nat)   : Fn prog 77 [.agg [.f .f32 YK.X, .f .f32 YK.Y, .f .f32 YK.Z], .f .f32 YM] (.agg [.f .f32 ((Zh YK YM).X), .f .f32 ((Zh YK YM).Y), .f .f32 ((Zh YK YM).Z)]) []:=by
 refine fnS E0Ok Zb (c:=X0 f77) [] (.agg [.f .f32 (fop .mul .f32 YK.X YM), .f .f32 (fop .mul .f32 YK.Y YM), .f .f32 (fop .mul .f32 YK.Z YM)]) [] func77 (sK [] sN) rfl (by kernel_rfl) (by kernel_rfl) rfl ?_ ?_
 · rfl
 · rfl
def Zi (Yp:Gv) (Yq:Gv):Gv:=(⟨(fop .add .f32 Yp.X Yq.X),(fop .add .f32 Yp.Y Yq.Y),(fop .add .f32 Yp.Z Yq.Z)⟩:Gv)
theorem Z2X (Yp:Gv) (Yq:Gv)   : Fn prog 51 [.agg [.f .f32 Yp.X, .f .f32 Yp.Y, .f .f32 Yp.Z], .agg [.f .f32 Yq.X, .f .f32 Yq.Y, .f .f32 Yq.Z]] (.agg [.f .f32 ((Zi Yp Yq).X), .f .f32 ((Zi Yp Yq).Y), .f .f32 ((Zi Yp Yq).Z)]) []:=by
 refine fnS E0Ok Zb (c:=X0 f51) [] (.agg [.f .f32 (fop .add .f32 Yp.X Yq.X), .f .f32 (fop .add .f32 Yp.Y Yq.Y), .f .f32 (fop .add .f32 Yp.Z Yq.Z)]) [] func51 (sK [] sN) rfl (by kernel_rfl) (by kernel_rfl) rfl ?_ ?_
 · rfl
 · rfl
def Z18 (Y1:Gm) (Y8:Nat) (Y0:Int) (Y3:Int) (Y5:(List Gv)):Gv:=(Zi (Y5.getD (((Y1.Tr.getD Y0.toNat default).getD Y3.toNat default).toNat) default) (Zh (Zf Y1 (Y1.Tr.getD Y0.toNat default)) (fop .quo .f32 Y8 1086324736)))
def ZA (Y1:Gm) (Y8:Nat) (Y0:Int) (Y7:(List Gv)):Nat→Int→(List Gv)→(List Gv)
  | 0,_,_=>default
  | k + 1,Y3,Y5=>(cond (decide (Y3 < ((Y1.Tr.getD Y0.toNat default).length:Int)))
    (ZA Y1 Y8 Y0 Y7 k (Y3 + 1) (Y5.set (((Y1.Tr.getD Y0.toNat default).getD Y3.toNat default).toNat) (Z18 Y1 Y8 Y0 Y3 Y5)))
    Y5)
def Z2v (Y1:Gm) (Y8:Nat) (Y0:Int) (Y7:(List Gv)) (r:(List Gv)):Ex × St:=((.exit 2),⟨.agg [.sl (Y1.Pq.map Gv.c), .sl (Y1.Tr.map (cL (cI .i64)))] :: .f .f32 Y8 :: .ptr 0 0 0 :: .any :: .nils :: .b false :: .own 1 :: .any :: .sl ((Y1.Tr.getD Y0.toNat default).map (cI .i64)) :: .ptr 2 0 0 :: .any :: .any :: .agg [.sl (Y1.Pq.map Gv.c), .sl (Y1.Tr.map (cL (cI .i64)))] :: .b (Za Y1) :: .b (!(Za Y1)) :: .ptr 0 0 0 :: .sl (Y1.Pq.map Gv.c) :: .i .i64 (Y1.Pq.length:Int) :: .own 1 :: .ptr 0 0 1 :: .sl (Y1.Tr.map (cL (cI .i64))) :: .i .i64 (Y1.Tr.length:Int) :: .i .i64 Y0 :: .b (decide (Y0 < (Y1.Tr.length:Int))) :: .ref [.sl ((Y1.Tr.getD Y0.toNat default).map (cI .i64))] 0 :: .sl ((Y1.Tr.getD Y0.toNat default).map (cI .i64)) :: .agg [.sl (Y1.Pq.map Gv.c), .sl (Y1.Tr.map (cL (cI .i64)))] :: .sl ((Y1.Tr.getD Y0.toNat default).map (cI .i64)) :: .agg [.f .f32 ((Zf Y1 (Y1.Tr.getD Y0.toNat default)).X), .f .f32 ((Zf Y1 (Y1.Tr.getD Y0.toNat default)).Y), .f .f32 ((Zf Y1 (Y1.Tr.getD Y0.toNat default)).Z)] :: .f .f32 Y8 :: .f .f32 (fop .quo .f32 Y8 1086324736) :: .agg [.f .f32 ((Zh (Zf Y1 (Y1.Tr.getD Y0.toNat default)) (fop .quo .f32 Y8 1086324736)).X), .f .f32 ((Zh (Zf Y1 (Y1.Tr.getD Y0.toNat default)) (fop .quo .f32 Y8 1086324736)).Y), .f .f32 ((Zh (Zf Y1 (Y1.Tr.getD Y0.toNat default)) (fop .quo .f32 Y8 1086324736)).Z)] :: .sl ((Y1.Tr.getD Y0.toNat default).map (cI .i64)) :: .i .i64 ((Y1.Tr.getD Y0.toNat default).length:Int) :: an 16 [],[.box 27 [.sl (Y1.Pq.map Gv.c), .sl (Y1.Tr.map (cL (cI .i64)))], .vec 32 3 (r.map Gv.c) false, .box 32 [.f .f32 ((Zh (Zf Y1 (Y1.Tr.getD Y0.toNat default)) (fop .quo .f32 Y8 1086324736)).X), .f .f32 ((Zh (Zf Y1 (Y1.Tr.getD Y0.toNat default)) (fop .quo .f32 Y8 1086324736)).Y), .f .f32 ((Zh (Zf Y1 (Y1.Tr.getD Y0.toNat default)) (fop .quo .f32 Y8 1086324736)).Z)]]⟩)
def Z3v (Y1:Gm) (Y8:Nat) (Y0:Int) (Y7:(List Gv)) (Y3:Int) (Y5:(List Gv)):St:=⟨.agg [.sl (Y1.Pq.map Gv.c), .sl (Y1.Tr.map (cL (cI .i64)))] :: .f .f32 Y8 :: .ptr 0 0 0 :: .any :: .nils :: .b false :: .own 1 :: .any :: .sl ((Y1.Tr.getD Y0.toNat default).map (cI .i64)) :: .ptr 2 0 0 :: .any :: .any :: .agg [.sl (Y1.Pq.map Gv.c), .sl (Y1.Tr.map (cL (cI .i64)))] :: .b (Za Y1) :: .b (!(Za Y1)) :: .ptr 0 0 0 :: .sl (Y1.Pq.map Gv.c) :: .i .i64 (Y1.Pq.length:Int) :: .own 1 :: .ptr 0 0 1 :: .sl (Y1.Tr.map (cL (cI .i64))) :: .i .i64 (Y1.Tr.length:Int) :: .i .i64 Y0 :: .b (decide (Y0 < (Y1.Tr.length:Int))) :: .ref [.sl ((Y1.Tr.getD Y0.toNat default).map (cI .i64))] 0 :: .sl ((Y1.Tr.getD Y0.toNat default).map (cI .i64)) :: .agg [.sl (Y1.Pq.map Gv.c), .sl (Y1.Tr.map (cL (cI .i64)))] :: .sl ((Y1.Tr.getD Y0.toNat default).map (cI .i64)) :: .agg [.f .f32 ((Zf Y1 (Y1.Tr.getD Y0.toNat default)).X), .f .f32 ((Zf Y1 (Y1.Tr.getD Y0.toNat default)).Y), .f .f32 ((Zf Y1 (Y1.Tr.getD Y0.toNat default)).Z)] :: .f .f32 Y8 :: .f .f32 (fop .quo .f32 Y8 1086324736) :: .agg [.f .f32 ((Zh (Zf Y1 (Y1.Tr.getD Y0.toNat default)) (fop .quo .f32 Y8 1086324736)).X), .f .f32 ((Zh (Zf Y1 (Y1.Tr.getD Y0.toNat default)) (fop .quo .f32 Y8 1086324736)).Y), .f .f32 ((Zh (Zf Y1 (Y1.Tr.getD Y0.toNat default)) (fop .quo .f32 Y8 1086324736)).Z)] :: .sl ((Y1.Tr.getD Y0.toNat default).map (cI .i64)) :: .i .i64 ((Y1.Tr.getD Y0.toNat default).length:Int) :: .i .i64 Y3 :: an 15 [],[.box 27 [.sl (Y1.Pq.map Gv.c), .sl (Y1.Tr.map (cL (cI .i64)))], .vec 32 3 (Y5.map Gv.c) false, .box 32 [.f .f32 ((Zh (Zf Y1 (Y1.Tr.getD Y0.toNat default)) (fop .quo .f32 Y8 1086324736)).X), .f .f32 ((Zh (Zf Y1 (Y1.Tr.getD Y0.toNat default)) (fop .quo .f32 Y8 1086324736)).Y), .f .f32 ((Zh (Zf Y1 (Y1.Tr.getD Y0.toNat default)) (fop .quo .f32 Y8 1086324736)).Z)]]⟩
def Z37:List Bool:=(mR false [0,3,1,3,1,2,2,23,15])
def Z4i:List Bool:=(mR false [0,3,1,3,1,2,2,22,16])
theorem Z4H (Y1:Gm) (Y8:Nat) (Y0:Int) (Y7:(List Gv)) (hp0:Y1.Pq.length≤1073741824) (hp1:Y1.Tr.length≤1073741824) (hp2:∀ t∈Y1.Tr,t.length≤1073741824) (Z2n:(Za Y1)=true) (Z1l:0≤Y0) (Z1U:Y7.length=Y1.Pq.length) (Z65:(decide (Y0 < (Y1.Tr.length:Int)))=true) (Z66:(Za Y1)=true):∀ (k:Nat) (Y3:Int) (Y5:(List Gv)) (Z1J:0≤Y3) (Z38:Y5.length=Y7.length) (hk:(((Y1.Tr.getD Y0.toNat default).length:Int) - Y3).toNat < k),Lp prog 0 (sub (X0 f47) [1,1,1,0,1,0,0,1,1,0,0,1,1,1,0,0]) (Z3v Y1 Y8 Y0 Y7 Y3 Y5) (Z2v Y1 Y8 Y0 Y7 (ZA Y1 Y8 Y0 Y7 k Y3 Y5)).1 (Z2v Y1 Y8 Y0 Y7 (ZA Y1 Y8 Y0 Y7 k Y3 Y5)).2:=by
 intro k
 induction k with
 | zero=>intro Y3 Y5 Z1J Z38 hk;exact absurd hk (Nat.not_lt_zero _)
 | succ k ih =>
  intro Y3 Y5 Z1J Z38 hk
  cases Yr:(decide (Y3 < ((Y1.Tr.getD Y0.toNat default).length:Int))) with
  | true =>
   have YX:=odt Yr
   have Y13:(0:Int)≤Y3:=(by assumption)
   have Y14:Y3 < ((Y1.Tr.getD Y0.toNat default).length:Int):=(by assumption)
   have YY:(0:Int)≤((Y1.Tr.getD Y0.toNat default).getD Y3.toNat default):=(by (have hT:=(Z29 Y1 (by assumption)).tris;have q:=Xj.at2 hT Z1l (odt (by assumption)) Z1J (.inr (odt (by assumption)));simp only [decide_eq_true_eq] at *;omega))
   have YT:((Y1.Tr.getD Y0.toNat default).getD Y3.toNat default) < (Y5.length:Int):=(by (have hT:=(Z29 Y1 (by assumption)).tris;have q:=Xj.at2 hT Z1l (odt (by assumption)) Z1J (.inr (odt (by assumption)));simp only [decide_eq_true_eq] at *;omega))
   have Y12:((Y1.Tr.getD Y0.toNat default).getD Y3.toNat default).toNat < Y5.length:=(by omega)
   have Y19:(-9223372036854775808:Int)≤(Y3 + 1):=(by omega)
   have Y16:(Y3 + 1)≤(9223372036854775807:Int):=(by (have hT:=(Z29 Y1 (by assumption)).tris;have q:=Xj.at2 hT Z1l (odt (by assumption)) Z1J (.inr (odt (by assumption)));simp only [decide_eq_true_eq] at *;omega))
   have e:ZA Y1 Y8 Y0 Y7 (k + 1) Y3 Y5=(ZA Y1 Y8 Y0 Y7 k (Y3 + 1) (Y5.set (((Y1.Tr.getD Y0.toNat default).getD Y3.toNat default).toNat) (Z18 Y1 Y8 Y0 Y3 Y5))):=by simp only [ZA,Yr,cond_true]
   rw [e]
   exact X1m E0Ok Zb [] Z37 [0,1,2] (⟨.agg [.sl (Y1.Pq.map Gv.c), .sl (Y1.Tr.map (cL (cI .i64)))] :: .f .f32 Y8 :: .ptr 0 0 0 :: .any :: .nils :: .b false :: .own 1 :: .any :: .sl ((Y1.Tr.getD Y0.toNat default).map (cI .i64)) :: .ptr 2 0 0 :: .any :: .any :: .agg [.sl (Y1.Pq.map Gv.c), .sl (Y1.Tr.map (cL (cI .i64)))] :: .b (Za Y1) :: .b (!(Za Y1)) :: .ptr 0 0 0 :: .sl (Y1.Pq.map Gv.c) :: .i .i64 (Y1.Pq.length:Int) :: .own 1 :: .ptr 0 0 1 :: .sl (Y1.Tr.map (cL (cI .i64))) :: .i .i64 (Y1.Tr.length:Int) :: .i .i64 Y0 :: .b (decide (Y0 < (Y1.Tr.length:Int))) :: .ref [.sl ((Y1.Tr.getD Y0.toNat default).map (cI .i64))] 0 :: .sl ((Y1.Tr.getD Y0.toNat default).map (cI .i64)) :: .agg [.sl (Y1.Pq.map Gv.c), .sl (Y1.Tr.map (cL (cI .i64)))] :: .sl ((Y1.Tr.getD Y0.toNat default).map (cI .i64)) :: .agg [.f .f32 ((Zf Y1 (Y1.Tr.getD Y0.toNat default)).X), .f .f32 ((Zf Y1 (Y1.Tr.getD Y0.toNat default)).Y), .f .f32 ((Zf Y1 (Y1.Tr.getD Y0.toNat default)).Z)] :: .f .f32 Y8 :: .f .f32 (fop .quo .f32 Y8 1086324736) :: .agg [.f .f32 ((Zh (Zf Y1 (Y1.Tr.getD Y0.toNat default)) (fop .quo .f32 Y8 1086324736)).X), .f .f32 ((Zh (Zf Y1 (Y1.Tr.getD Y0.toNat default)) (fop .quo .f32 Y8 1086324736)).Y), .f .f32 ((Zh (Zf Y1 (Y1.Tr.getD Y0.toNat default)) (fop .quo .f32 Y8 1086324736)).Z)] :: .sl ((Y1.Tr.getD Y0.toNat default).map (cI .i64)) :: .i .i64 ((Y1.Tr.getD Y0.toNat default).length:Int) :: .i .i64 (Y3 + 1) :: an 15 [],[.box 27 [.sl (Y1.Pq.map Gv.c), .sl (Y1.Tr.map (cL (cI .i64)))], .vec 32 3 ((Y5.map Gv.c).set (((Y1.Tr.getD Y0.toNat default).getD Y3.toNat default).toNat) [.f .f32 ((Z18 Y1 Y8 Y0 Y3 Y5).X), .f .f32 ((Z18 Y1 Y8 Y0 Y3 Y5).Y), .f .f32 ((Z18 Y1 Y8 Y0 Y3 Y5).Z)]) false, .box 32 [.f .f32 ((Zh (Zf Y1 (Y1.Tr.getD Y0.toNat default)) (fop .quo .f32 Y8 1086324736)).X), .f .f32 ((Zh (Zf Y1 (Y1.Tr.getD Y0.toNat default)) (fop .quo .f32 Y8 1086324736)).Y), .f .f32 ((Zh (Zf Y1 (Y1.Tr.getD Y0.toNat default)) (fop .quo .f32 Y8 1086324736)).Z)]]⟩) (sB Yr<|sG (cI .i64) (Y1.Tr.getD Y0.toNat default) Y3 Y13 Y14<|sK [8,8]<|sX Gv.c Y5 ((Y1.Tr.getD Y0.toNat default).getD Y3.toNat default) YY YT<|sV Gv.c Y5 (((Y1.Tr.getD Y0.toNat default).getD Y3.toNat default).toNat) Y12<|sF (Z2X (Y5.getD (((Y1.Tr.getD Y0.toNat default).getD Y3.toNat default).toNat) default) (Zh (Zf Y1 (Y1.Tr.getD Y0.toNat default)) (fop .quo .f32 Y8 1086324736)))<|sX Gv.c Y5 ((Y1.Tr.getD Y0.toNat default).getD Y3.toNat default) YY YT<|sC (X5w (c:=Gv.c) (l:=Y5) Y12)<|sI (Y3 + 1) Y19 Y16<|sN) (by kernel_rfl) (by simp [Z3v,List.map_set,Gv.c]) (ih (Y3 + 1) (Y5.set (((Y1.Tr.getD Y0.toNat default).getD Y3.toNat default).toNat) (Z18 Y1 Y8 Y0 Y3 Y5)) (show 0≤(Y3 + 1) from (by omega)) (show (Y5.set (((Y1.Tr.getD Y0.toNat default).getD Y3.toNat default).toNat) (Z18 Y1 Y8 Y0 Y3 Y5)).length=Y7.length from (by simp_all<;>omega)) (by omega))
  | false =>
   have YX:=odf Yr
   have e:ZA Y1 Y8 Y0 Y7 (k + 1) Y3 Y5=Y5:=by simp only [ZA,Yr,cond_false]
   rw [e]
   exact outR (e:=(.exit 2)) E0Ok Zb [] Z4i [0,1,2] (sB Yr<|sN) (by kernel_rfl) (by intro h;cases h)
theorem Z4j (Y1:Gm) (Y8:Nat) (Y0:Int) (Y7:(List Gv)):∀ (k:Nat) (Y3:Int) (Y5:(List Gv)) (hk:(((Y1.Tr.getD Y0.toNat default).length:Int) - Y3).toNat < k),(ZA Y1 Y8 Y0 Y7 k Y3 Y5).length=Y5.length:=by
  intro k
  induction k with
  | zero=>intro Y3 Y5 hk;exact absurd hk (Nat.not_lt_zero _)
  | succ k ih =>
    intro Y3 Y5 hk
    cases Yr:(decide (Y3 < ((Y1.Tr.getD Y0.toNat default).length:Int))) with
    | true =>
      have e:ZA Y1 Y8 Y0 Y7 (k + 1) Y3 Y5=(ZA Y1 Y8 Y0 Y7 k (Y3 + 1) (Y5.set (((Y1.Tr.getD Y0.toNat default).getD Y3.toNat default).toNat) (Z18 Y1 Y8 Y0 Y3 Y5))):=by simp only [ZA,Yr,cond_true]
      rw [e,ih (Y3 + 1) (Y5.set (((Y1.Tr.getD Y0.toNat default).getD Y3.toNat default).toNat) (Z18 Y1 Y8 Y0 Y3 Y5)) (by simp_all<;>omega)]<;>simp
    | false =>
      have e:ZA Y1 Y8 Y0 Y7 (k + 1) Y3 Y5=Y5:=by simp only [ZA,Yr,cond_false]
      first | (rw [e];done) | (rw [e];rfl)
def ZV (Y1:Gm) (Y8:Nat) (Y0:Int) (Y7:(List Gv)):(List Gv):=(ZA Y1 Y8 Y0 Y7 ((((Y1.Tr.getD Y0.toNat default).length:Int) - 0).toNat + 1) 0 Y7)
@[simp] theorem Z5J (Y1:Gm) (Y8:Nat) (Y0:Int) (Y7:(List Gv)):(ZV Y1 Y8 Y0 Y7).length=(Y7:(List Gv)).length:=Z4j Y1 Y8 Y0 Y7 ((((Y1.Tr.getD Y0.toNat default).length:Int) - 0).toNat + 1) 0 Y7 (by exact Nat.lt_succ_self _)
def Zw (Y1:Gm) (Y8:Nat):Nat→Int→(List Gv)→(List Gv)
  | 0,_,_=>default
  | k + 1,Y0,Y7=>(cond (decide (Y0 < (Y1.Tr.length:Int)))
    (Zw Y1 Y8 k (Y0 + 1) (ZV Y1 Y8 Y0 Y7))
    Y7)
def Z2w (Y1:Gm) (Y8:Nat) (r:(List Gv)):Ex × St:=((.exit 0),⟨.agg [.sl (Y1.Pq.map Gv.c), .sl (Y1.Tr.map (cL (cI .i64)))] :: .any :: .ptr 0 0 0 :: .any :: .nils :: .b false :: .own 1 :: an 5 (.agg [.sl (Y1.Pq.map Gv.c), .sl (Y1.Tr.map (cL (cI .i64)))] :: .b (Za Y1) :: .b (!(Za Y1)) :: .ptr 0 0 0 :: .sl (Y1.Pq.map Gv.c) :: .i .i64 (Y1.Pq.length:Int) :: .own 1 :: .ptr 0 0 1 :: .sl (Y1.Tr.map (cL (cI .i64))) :: an 29 []),[.box 27 [.sl (Y1.Pq.map Gv.c), .sl (Y1.Tr.map (cL (cI .i64)))], .vec 32 3 (r.map Gv.c) false]⟩)
def Z3w (Y1:Gm) (Y8:Nat) (Y0:Int) (Y7:(List Gv)):St:=⟨.agg [.sl (Y1.Pq.map Gv.c), .sl (Y1.Tr.map (cL (cI .i64)))] :: .f .f32 Y8 :: .ptr 0 0 0 :: .any :: .nils :: .b false :: .own 1 :: an 5 (.agg [.sl (Y1.Pq.map Gv.c), .sl (Y1.Tr.map (cL (cI .i64)))] :: .b (Za Y1) :: .b (!(Za Y1)) :: .ptr 0 0 0 :: .sl (Y1.Pq.map Gv.c) :: .i .i64 (Y1.Pq.length:Int) :: .own 1 :: .ptr 0 0 1 :: .sl (Y1.Tr.map (cL (cI .i64))) :: .i .i64 (Y1.Tr.length:Int) :: .i .i64 Y0 :: an 27 []),[.box 27 [.sl (Y1.Pq.map Gv.c), .sl (Y1.Tr.map (cL (cI .i64)))], .vec 32 3 (Y7.map Gv.c) false]⟩
theorem Z4I (Y1:Gm) (Y8:Nat) (hp0:Y1.Pq.length≤1073741824) (hp1:Y1.Tr.length≤1073741824) (hp2:∀ t∈Y1.Tr,t.length≤1073741824) (Z2n:(Za Y1)=true):∀ (k:Nat) (Y0:Int) (Y7:(List Gv)) (Z1l:0≤Y0) (Z1U:Y7.length=Y1.Pq.length) (hk:((Y1.Tr.length:Int) - Y0).toNat < k),Lp prog 0 (sub (X0 f47) [1,1,1,0,1,0,0]) (Z3w Y1 Y8 Y0 Y7) (Z2w Y1 Y8 (Zw Y1 Y8 k Y0 Y7)).1 (Z2w Y1 Y8 (Zw Y1 Y8 k Y0 Y7)).2:=by
 intro k
 induction k with
 | zero=>intro Y0 Y7 Z1l Z1U hk;exact absurd hk (Nat.not_lt_zero _)
 | succ k ih =>
  intro Y0 Y7 Z1l Z1U hk
  cases Ym:(decide (Y0 < (Y1.Tr.length:Int))) with
  | true =>
   have YF:=odt Ym
   have YR:(0:Int)≤Y0:=(by assumption)
   have YL:Y0 < (Y1.Tr.length:Int):=(by assumption)
   have YZ:(Y1.Tr.getD Y0.toNat default).length≤1073741824:=(by (have q:=(Xj.get ((Z29 _ (by assumption)).tris) (by assumption) (odt (by assumption))).1;omega))
   have YU:(Y1.Tr.getD Y0.toNat default).length=3∧∀ x∈(Y1.Tr.getD Y0.toNat default),0≤x∧x < (Y1.Pq.length:Int):=(by exact Xj.get ((Z29 _ (by assumption)).tris) (by assumption) (odt (by assumption)))
   have y_4:(-9223372036854775808:Int)≤(Y0 + 1):=(by omega)
   have y_5:(Y0 + 1)≤(9223372036854775807:Int):=(by omega)
   have e:Zw Y1 Y8 (k + 1) Y0 Y7=(Zw Y1 Y8 k (Y0 + 1) (ZV Y1 Y8 Y0 Y7)):=by simp only [Zw,Ym,cond_true]
   rw [e]
   exact Xs E0Ok Zb [] (mR false [0,3,1,3,5,11,27]) [0,1] (ih (Y0 + 1) (ZV Y1 Y8 Y0 Y7) (show 0≤(Y0 + 1) from (by omega)) (show (ZV Y1 Y8 Y0 Y7).length=Y1.Pq.length from (by simp_all<;>omega)) (by omega)) (sB Ym<|sG (cL (cI .i64)) Y1.Tr Y0 YR YL<|sF (Z5i Y1 (Y1.Tr.getD Y0.toNat default) hp0 hp1 hp2 YZ YU)<|sF (Z4P (Zf Y1 (Y1.Tr.getD Y0.toNat default)) (fop .quo .f32 Y8 1086324736))<|sZ (cI .i64) (Y1.Tr.getD Y0.toNat default)<|sL Z37 3 (Xb (Z2v Y1 Y8 Y0 Y7) (x:=(ZV Y1 Y8 Y0 Y7)) (Z4H Y1 Y8 Y0 Y7 hp0 hp1 hp2 Z2n Z1l Z1U Ym Z2n ((((Y1.Tr.getD Y0.toNat default).length:Int) - 0).toNat + 1) 0 Y7 (show 0≤0 from (by omega)) (show Y7.length=Y7.length from (by simp)) (Nat.lt_succ_self _)) rfl)<|sI (Y0 + 1) y_4 y_5<|sN) (by kernel_rfl)
  | false =>
   have YF:=odf Ym
   have e:Zw Y1 Y8 (k + 1) Y0 Y7=Y7:=by simp only [Zw,Ym,cond_false]
   rw [e]
   exact outR (e:=(.exit 0)) E0Ok Zb [] (mR false [0,1,1,1,1,3,5,9,29]) [0,1] (sB Ym<|sN) (by kernel_rfl) (by intro h;cases h)
theorem Z4k (Y1:Gm) (Y8:Nat):∀ (k:Nat) (Y0:Int) (Y7:(List Gv)) (hk:((Y1.Tr.length:Int) - Y0).toNat < k),(Zw Y1 Y8 k Y0 Y7).length=Y7.length:=by
  intro k
  induction k with
  | zero=>intro Y0 Y7 hk;exact absurd hk (Nat.not_lt_zero _)
  | succ k ih =>
    intro Y0 Y7 hk
    cases Ym:(decide (Y0 < (Y1.Tr.length:Int))) with
    | true =>
      have e:Zw Y1 Y8 (k + 1) Y0 Y7=(Zw Y1 Y8 k (Y0 + 1) (ZV Y1 Y8 Y0 Y7)):=by simp only [Zw,Ym,cond_true]
      rw [e,ih (Y0 + 1) (ZV Y1 Y8 Y0 Y7) (by simp_all<;>omega)]<;>simp
    | false =>
      have e:Zw Y1 Y8 (k + 1) Y0 Y7=Y7:=by simp only [Zw,Ym,cond_false]
      first | (rw [e];done) | (rw [e];rfl)
def Z1A (Y1:Gm) (Y8:Nat):(List Gv):=(Zw Y1 Y8 (((Y1.Tr.length:Int) - 0).toNat + 1) 0 (List.replicate (Y1.Pq.length:Int).toNat (⟨0,0,0⟩:Gv)))
@[simp] theorem Z5K (Y1:Gm) (Y8:Nat):(Z1A Y1 Y8).length=((List.replicate (Y1.Pq.length:Int).toNat (⟨0,0,0⟩:Gv)):(List Gv)).length:=Z4k Y1 Y8 (((Y1.Tr.length:Int) - 0).toNat + 1) 0 (List.replicate (Y1.Pq.length:Int).toNat (⟨0,0,0⟩:Gv)) (by exact Nat.lt_succ_self _)
def Zd (Y1:Gm) (Y8:Nat):(List Gv) × Bool:=(cond (Za Y1)
  ((Z1A Y1 Y8),true)
  (([]:List Gv),false))
theorem Z4l (Y1:Gm) (Y8:Nat):(Zd Y1 Y8).1.length≤Y1.Pq.length:=by
  cases h0:(Za Y1) with
  | true =>
    first | (simp [Zd,h0];done)
  | false =>
    first | (simp [Zd,h0];done)
theorem Z5f (Y1:Gm) (Y8:Nat) (hp0:Y1.Pq.length≤1073741824) (hp1:Y1.Tr.length≤1073741824) (hp2:∀ t∈Y1.Tr,t.length≤1073741824)  : Fn prog 47 [.agg [.sl (Y1.Pq.map Gv.c), .sl (Y1.Tr.map (cL (cI .i64)))], .f .f32 Y8] (.tup [.own 0, .b ((Zd Y1 Y8).2)]) [.vec 32 3 (((Zd Y1 Y8).1).map Gv.c) false]:=by
 have p {a C} (s:Scr a C):=sF (Z2r Y1 hp0 hp1 hp2)<|s
 cases h0:(Za Y1) with
 | true =>
  have y0:(0:Int)≤(Y1.Pq.length:Int):=by clear p;exact (by omega)
  have y1:((Y1.Pq.length:Int):Int)≤2147483648:=by clear p;exact (by omega)
  refine fnS E0Ok Zb (c:=X0 f47) [] (.tup [.own 0, .b true]) [.vec 32 3 ((Z1A Y1 Y8).map Gv.c) false] func47 (p (sB' h0<|sZ Gv.c Y1.Pq<|sC (show (Y1.Pq.length:Int)=(Y1.Pq.length:Int) from rfl)<|sC y0<|sC y1<|sZ (cL (cI .i64)) Y1.Tr<|sL (mR false [0,3,1,3,5,11,27]) 2 (X1H (st2:=⟨.agg [.sl (Y1.Pq.map Gv.c), .sl (Y1.Tr.map (cL (cI .i64)))] :: .f .f32 Y8 :: .ptr 0 0 0 :: .any :: .nils :: .b false :: .own 1 :: an 5 (.agg [.sl (Y1.Pq.map Gv.c), .sl (Y1.Tr.map (cL (cI .i64)))] :: .b (Za Y1) :: .b (!(Za Y1)) :: .ptr 0 0 0 :: .sl (Y1.Pq.map Gv.c) :: .i .i64 (Y1.Pq.length:Int) :: .own 1 :: .ptr 0 0 1 :: .sl (Y1.Tr.map (cL (cI .i64))) :: .i .i64 (Y1.Tr.length:Int) :: .i .i64 0 :: an 27 []),[.box 27 [.sl (Y1.Pq.map Gv.c), .sl (Y1.Tr.map (cL (cI .i64)))], .vec 32 3 (List.replicate (Int.toNat (Y1.Pq.length:Int)) [.f .f32 0, .f .f32 0, .f .f32 0]) false]⟩) (Xb (Z2w Y1 Y8) (x:=(Z1A Y1 Y8)) (Z4I Y1 Y8 hp0 hp1 hp2 h0 (((Y1.Tr.length:Int) - 0).toNat + 1) 0 (List.replicate (Y1.Pq.length:Int).toNat (⟨0,0,0⟩:Gv)) (show 0≤0 from (by omega)) (show (List.replicate (Y1.Pq.length:Int).toNat (⟨0,0,0⟩:Gv)).length=Y1.Pq.length from (by simp)) (Nat.lt_succ_self _)) rfl) (by simp [Z3w,Gv.c]))<|sK [1] sN)) rfl (by kernel_rfl) (by kernel_rfl) rfl ?_ ?_
  · simp only [Zd,h0,cond_true]
  · simp [Zd,h0]
 | false =>
  refine fnS E0Ok Zb (c:=X0 f47) [(.tm 4, .vec 32 3 [] false)] (.tup [.own 0, .b false]) [.vec 32 3 [] false] func47 (p (sB' h0<|sK [1] sN)) rfl (by kernel_rfl) (by kernel_rfl) rfl ?_ ?_
  · simp only [Zd,h0,cond_false]
  · simp [Zd,h0,Gv.c]
def Z1u (Yp:Gv) (Yq:Gv):Nat:=(fop .add .f32 (fop .add .f32 (fop .mul .f32 Yp.X Yq.X) (fop .mul .f32 Yp.Y Yq.Y)) (fop .mul .f32 Yp.Z Yq.Z))
theorem Z3B (Yp:Gv) (Yq:Gv)   : Fn prog 53 [.agg [.f .f32 Yp.X, .f .f32 Yp.Y, .f .f32 Yp.Z], .agg [.f .f32 Yq.X, .f .f32 Yq.Y, .f .f32 Yq.Z]] (.f .f32 (Z1u Yp Yq)) []:=by
 refine fnS E0Ok Zb (c:=X0 f53) [] (.f .f32 (fop .add .f32 (fop .add .f32 (fop .mul .f32 Yp.X Yq.X) (fop .mul .f32 Yp.Y Yq.Y)) (fop .mul .f32 Yp.Z Yq.Z))) [] func53 (sK [] sN) rfl (by kernel_rfl) (by kernel_rfl) rfl ?_ ?_
 · rfl
 · rfl
def Z3M (Y1:Gm) (Ys:Int):Gv:=(ZB (Y1.Pq.getD ((Y1.Tr.getD Ys.toNat default).getD 1 default).toNat default) (Y1.Pq.getD ((Y1.Tr.getD Ys.toNat default).getD 2 default).toNat default))
def Z2J (Y1:Gm) (Ys:Int):Nat:=(fop .quo .f32 (Z1u (Y1.Pq.getD ((Y1.Tr.getD Ys.toNat default).getD 0 default).toNat default) (Z3M Y1 Ys)) 1086324736)
def Z12 (Y1:Gm):Nat→Nat→Int→Nat
  | 0,_,_=>default
  | k + 1,YI,Ys=>(cond (decide (Ys < (Y1.Tr.length:Int)))
    (Z12 Y1 k (fop .add .f32 YI (Z2J Y1 Ys)) (Ys + 1))
    YI)
def Z2K (Y1:Gm) (r:Nat):Ex × St:=((.exit 0),⟨.agg [.sl (Y1.Pq.map Gv.c), .sl (Y1.Tr.map (cL (cI .i64)))] :: .ptr 0 0 0 :: .f .f32 0 :: .f .f32 r :: .any :: .any :: .ptr 0 0 1 :: .sl (Y1.Tr.map (cL (cI .i64))) :: an 33 [],[.box 27 [.sl (Y1.Pq.map Gv.c), .sl (Y1.Tr.map (cL (cI .i64)))]]⟩)
def Z4Q (Y1:Gm) (YI:Nat) (Ys:Int):St:=⟨.agg [.sl (Y1.Pq.map Gv.c), .sl (Y1.Tr.map (cL (cI .i64)))] :: .ptr 0 0 0 :: .f .f32 0 :: .f .f32 YI :: .any :: .any :: .ptr 0 0 1 :: .sl (Y1.Tr.map (cL (cI .i64))) :: .i .i64 (Y1.Tr.length:Int) :: .i .i64 Ys :: an 31 [],[.box 27 [.sl (Y1.Pq.map Gv.c), .sl (Y1.Tr.map (cL (cI .i64)))]]⟩
theorem Z4R (Y1:Gm) (hp0:Y1.Pq.length≤1073741824) (hp1:Y1.Tr.length≤1073741824) (hp2:∀ t∈Y1.Tr,t.length≤1073741824) (hp3:Xj Y1.Pq.length Y1.Tr):∀ (k:Nat) (YI:Nat) (Ys:Int) (ZO:0≤Ys) (hk:((Y1.Tr.length:Int) - Ys).toNat < k),Lp prog 0 (sub (X0 f71) [1,1,0,1,0,0]) (Z4Q Y1 YI Ys) (Z2K Y1 (Z12 Y1 k YI Ys)).1 (Z2K Y1 (Z12 Y1 k YI Ys)).2:=by
 intro k
 induction k with
 | zero=>intro YI Ys ZO hk;exact absurd hk (Nat.not_lt_zero _)
 | succ k ih =>
  intro YI Ys ZO hk
  cases Ym:(decide (Ys < (Y1.Tr.length:Int))) with
  | true =>
   have YF:=odt Ym
   have YR:(0:Int)≤Ys:=(by assumption)
   have YL:Ys < (Y1.Tr.length:Int):=(by assumption)
   have YZ:(0:Int)≤0:=(by omega)
   have YU:0 < ((Y1.Tr.getD Ys.toNat default).length:Int):=(by have q:=Xj.at hp3 ZO (odt Ym);omega)
   have y_4:(0:Int)≤((Y1.Tr.getD Ys.toNat default).getD 0 default):=(by have q:=Xj.at hp3 ZO (odt Ym);omega)
   have y_5:((Y1.Tr.getD Ys.toNat default).getD 0 default) < (Y1.Pq.length:Int):=(by have q:=Xj.at hp3 ZO (odt Ym);omega)
   have y_6:(0:Int)≤1:=(by omega)
   have y_7:1 < ((Y1.Tr.getD Ys.toNat default).length:Int):=(by have q:=Xj.at hp3 ZO (odt Ym);omega)
   have y_8:(0:Int)≤((Y1.Tr.getD Ys.toNat default).getD 1 default):=(by have q:=Xj.at hp3 ZO (odt Ym);omega)
   have y_9:((Y1.Tr.getD Ys.toNat default).getD 1 default) < (Y1.Pq.length:Int):=(by have q:=Xj.at hp3 ZO (odt Ym);omega)
   have Y17:(0:Int)≤2:=(by omega)
   have Y18:2 < ((Y1.Tr.getD Ys.toNat default).length:Int):=(by have q:=Xj.at hp3 ZO (odt Ym);omega)
   have Y1a:(0:Int)≤((Y1.Tr.getD Ys.toNat default).getD 2 default):=(by have q:=Xj.at hp3 ZO (odt Ym);omega)
   have Y1b:((Y1.Tr.getD Ys.toNat default).getD 2 default) < (Y1.Pq.length:Int):=(by have q:=Xj.at hp3 ZO (odt Ym);omega)
   have Y1f:(-9223372036854775808:Int)≤(Ys + 1):=(by omega)
   have Y1h:(Ys + 1)≤(9223372036854775807:Int):=(by omega)
   have e:Z12 Y1 (k + 1) YI Ys=(Z12 Y1 k (fop .add .f32 YI (Z2J Y1 Ys)) (Ys + 1)):=by simp only [Z12,Ym,cond_true]
   rw [e]
   exact Xs E0Ok Zb [] (mR false [0,4,2,4,31]) [0] (ih (fop .add .f32 YI (Z2J Y1 Ys)) (Ys + 1) (show 0≤(Ys + 1) from (by omega)) (by omega)) (sB Ym<|sG (cL (cI .i64)) Y1.Tr Ys YR YL<|sK [25,25]<|sG (cI .i64) (Y1.Tr.getD Ys.toNat default) 0 YZ YU<|sG Gv.c Y1.Pq ((Y1.Tr.getD Ys.toNat default).getD 0 default) y_4 y_5<|sG (cI .i64) (Y1.Tr.getD Ys.toNat default) 1 y_6 y_7<|sG Gv.c Y1.Pq ((Y1.Tr.getD Ys.toNat default).getD 1 default) y_8 y_9<|sG (cI .i64) (Y1.Tr.getD Ys.toNat default) 2 Y17 Y18<|sG Gv.c Y1.Pq ((Y1.Tr.getD Ys.toNat default).getD 2 default) Y1a Y1b<|sF (Z3A (Y1.Pq.getD ((Y1.Tr.getD Ys.toNat default).getD 1 default).toNat default) (Y1.Pq.getD ((Y1.Tr.getD Ys.toNat default).getD 2 default).toNat default))<|sF (Z3B (Y1.Pq.getD ((Y1.Tr.getD Ys.toNat default).getD 0 default).toNat default) (Z3M Y1 Ys))<|sI (Ys + 1) Y1f Y1h<|sN) (by kernel_rfl)
  | false =>
   have YF:=odf Ym
   have e:Z12 Y1 (k + 1) YI Ys=YI:=by simp only [Z12,Ym,cond_false]
   rw [e]
   exact outR (e:=(.exit 0)) E0Ok Zb [] (mR false [0,4,2,2,33]) [0] (sB Ym<|sN) (by kernel_rfl) (by intro h;cases h)
def Z24 (Y1:Gm):Nat:=(Z12 Y1 (((Y1.Tr.length:Int) - 0).toNat + 1) 0 0)
def Z2g (Y1:Gm):Nat:=(Z24 Y1)
theorem Z5j (Y1:Gm) (hp0:Y1.Pq.length≤1073741824) (hp1:Y1.Tr.length≤1073741824) (hp2:∀ t∈Y1.Tr,t.length≤1073741824) (hp3:Xj Y1.Pq.length Y1.Tr)  : Fn prog 71 [.agg [.sl (Y1.Pq.map Gv.c), .sl (Y1.Tr.map (cL (cI .i64)))]] (.f .f32 (Z2g Y1)) []:=by
 refine fnS E0Ok Zb (c:=X0 f71) [] (.f .f32 (Z24 Y1)) [] func71 (sZ (cL (cI .i64)) Y1.Tr<|sL (mR false [0,4,2,4,31]) 1 (Xb (Z2K Y1) (x:=(Z24 Y1)) (Z4R Y1 hp0 hp1 hp2 hp3 (((Y1.Tr.length:Int) - 0).toNat + 1) 0 0 (show 0≤0 from (by omega)) (Nat.lt_succ_self _)) rfl)<|sK [] sN) rfl (by kernel_rfl) (by kernel_rfl) rfl ?_ ?_
 · rfl
 · rfl
def ZI (Y1:Gm):Nat × Bool:=(cond (Za Y1)
  ((Z2g Y1),true)
  (0,false))
theorem Z4e (Y1:Gm) (hp0:Y1.Pq.length≤1073741824) (hp1:Y1.Tr.length≤1073741824) (hp2:∀ t∈Y1.Tr,t.length≤1073741824)  : Fn prog 21 [.agg [.sl (Y1.Pq.map Gv.c), .sl (Y1.Tr.map (cL (cI .i64)))]] (.tup [.f .f32 ((ZI Y1).1), .b ((ZI Y1).2)]) []:=by
 have p {a C} (s:Scr a C):=sF (Z2r Y1 hp0 hp1 hp2)<|s
 cases h0:(Za Y1) with
 | true =>
  have y0:Xj Y1.Pq.length Y1.Tr:=by clear p;exact (by exact (Z29 _ (by assumption)).tris)
  refine fnS E0Ok Zb (c:=X0 f21) [] (.tup [.f .f32 (Z2g Y1), .b true]) [] func21 (p (sB' h0<|sF (Z5j Y1 hp0 hp1 hp2 y0)<|sK [] sN)) rfl (by kernel_rfl) (by kernel_rfl) rfl ?_ ?_
  · simp only [ZI,h0,cond_true]
  · rfl
 | false =>
  refine fnS E0Ok Zb (c:=X0 f21) [] (.tup [.f .f32 0, .b false]) [] func21 (p (sB' h0<|sK [] sN)) rfl (by kernel_rfl) (by kernel_rfl) rfl ?_ ?_
  · simp only [ZI,h0,cond_false]
  · rfl
def Z2d (Yp:Int) (Yq:Int):Gedge:=(⟨(if Yq < Yp then Yq else Yp),(if Yq > Yp then Yq else Yp)⟩:Gedge)
theorem Z4z (Yp:Int) (Yq:Int)   : Fn prog 83 [.i .i64 Yp, .i .i64 Yq] (.agg [.i .i64 ((Z2d Yp Yq).e0), .i .i64 ((Z2d Yp Yq).e1)]) []:=by
 refine fnS E0Ok Zb (c:=X0 f83) [] (.agg [.i .i64 (if Yq < Yp then Yq else Yp), .i .i64 (if Yq > Yp then Yq else Yp)]) [] func83 (sC (show (if false=true then (if Yq > Yp then Yq else Yp) else (if Yq < Yp then Yq else Yp))=(if Yq < Yp then Yq else Yp) from (by simp))<|sA (.num (if Yq < Yp then Yq else Yp))<|sC (show (if true=true then (if Yq > Yp then Yq else Yp) else (if Yq < Yp then Yq else Yp))=(if Yq > Yp then Yq else Yp) from (by simp))<|sA (.num (if Yq > Yp then Yq else Yp))<|sK [] sN) rfl (by kernel_rfl) (by kernel_rfl) rfl ?_ ?_
 · rfl
 · rfl
theorem Z5L (a b:Int):Z2d a b=mkE a b:=by
  unfold Z2d mkE
  by_cases h:a≤b
  · rw [if_pos h,if_neg (by omega)]
    by_cases h2:b > a
    · rw [if_pos h2]
    · rw [if_neg h2,show a=b from by omega]
  · rw [if_neg h,if_pos (by omega),if_neg (by omega)]
def Z9 (Y1:Gm) (Y0:Int) (Y3:Int):Gedge:=(Z2d ((Y1.Tr.getD Y0.toNat default).getD Y3.toNat default) ((Y1.Tr.getD Y0.toNat default).getD (Int.tmod (Y3 + 1) 3).toNat default))
def ZE (Y1:Gm) (Y0:Int) (Y7:(List ((Int × Int) × Int))) (Y9:(List ((Int × Int) × Int))):Nat→Int→(List ((Int × Int) × Int))→(List ((Int × Int) × Int))→(Unit) ⊕ ((List ((Int × Int) × Int)) × (List ((Int × Int) × Int)))
  | 0,_,_,_ => .inl default
  | k + 1,Y3,Y5,Ye=>(cond (decide (Y3 < 3))
    (cond ((X5 Y5 (((Y1.Tr.getD Y0.toNat default).getD Y3.toNat default),((Y1.Tr.getD Y0.toNat default).getD (Int.tmod (Y3 + 1) 3).toNat default))) == 1)
      (.inl ())
      (cond (decide ((X5 (Xy Ye ((Z9 Y1 Y0 Y3).e0,(Z9 Y1 Y0 Y3).e1) (IntKind.wrap .i64 ((X5 Ye ((Z9 Y1 Y0 Y3).e0,(Z9 Y1 Y0 Y3).e1)) + 1))) ((Z9 Y1 Y0 Y3).e0,(Z9 Y1 Y0 Y3).e1)) > 2))
        (.inl ())
        (ZE Y1 Y0 Y7 Y9 k (Y3 + 1) (Xy Y5 (((Y1.Tr.getD Y0.toNat default).getD Y3.toNat default),((Y1.Tr.getD Y0.toNat default).getD (Int.tmod (Y3 + 1) 3).toNat default)) 1) (Xy Ye ((Z9 Y1 Y0 Y3).e0,(Z9 Y1 Y0 Y3).e1) (IntKind.wrap .i64 ((X5 Ye ((Z9 Y1 Y0 Y3).e0,(Z9 Y1 Y0 Y3).e1)) + 1))))))
    (.inr (Y5,Ye)))
def Z2i (Y1:Gm) (Y0:Int) (Y7:(List ((Int × Int) × Int))) (Y9:(List ((Int × Int) × Int))):(Unit) ⊕ ((List ((Int × Int) × Int)) × (List ((Int × Int) × Int)))→Ex × St
  | .inl r=>(.ret,⟨.any :: .any :: .b false :: an 57 [],[]⟩)
  | .inr r=>((.exit 2),⟨.agg [.sl (Y1.Pq.map Gv.c), .sl (Y1.Tr.map (cL (cI .i64)))] :: .ptr 0 0 0 :: .any :: .mp 1 :: .mp 2 :: .any :: .sl ((Y1.Tr.getD Y0.toNat default).map (cI .i64)) :: .any :: .any :: .any :: .agg [.sl (Y1.Pq.map Gv.c), .sl (Y1.Tr.map (cL (cI .i64)))] :: .b (Za Y1) :: .b (!(Za Y1)) :: .mp 1 :: .mp 2 :: .ptr 0 0 1 :: .sl (Y1.Tr.map (cL (cI .i64))) :: .i .i64 (Y1.Tr.length:Int) :: .i .i64 Y0 :: .b (decide (Y0 < (Y1.Tr.length:Int))) :: .ref [.sl ((Y1.Tr.getD Y0.toNat default).map (cI .i64))] 0 :: .sl ((Y1.Tr.getD Y0.toNat default).map (cI .i64)) :: an 38 [],[.box 27 [.sl (Y1.Pq.map Gv.c), .sl (Y1.Tr.map (cL (cI .i64)))], .mapS 121 none r.1 none, .mapS 122 (some .i64) r.2 none]⟩)
def Z56 (Y1:Gm) (Y0:Int) (Y7:(List ((Int × Int) × Int))) (Y9:(List ((Int × Int) × Int))) (Y3:Int) (Y5:(List ((Int × Int) × Int))) (Ye:(List ((Int × Int) × Int))):St:=⟨.agg [.sl (Y1.Pq.map Gv.c), .sl (Y1.Tr.map (cL (cI .i64)))] :: .ptr 0 0 0 :: .any :: .mp 1 :: .mp 2 :: .any :: .sl ((Y1.Tr.getD Y0.toNat default).map (cI .i64)) :: .any :: .any :: .any :: .agg [.sl (Y1.Pq.map Gv.c), .sl (Y1.Tr.map (cL (cI .i64)))] :: .b (Za Y1) :: .b (!(Za Y1)) :: .mp 1 :: .mp 2 :: .ptr 0 0 1 :: .sl (Y1.Tr.map (cL (cI .i64))) :: .i .i64 (Y1.Tr.length:Int) :: .i .i64 Y0 :: .b (decide (Y0 < (Y1.Tr.length:Int))) :: .ref [.sl ((Y1.Tr.getD Y0.toNat default).map (cI .i64))] 0 :: .sl ((Y1.Tr.getD Y0.toNat default).map (cI .i64)) :: .i .i64 Y3 :: an 37 [],[.box 27 [.sl (Y1.Pq.map Gv.c), .sl (Y1.Tr.map (cL (cI .i64)))], .mapS 121 none Y5 none, .mapS 122 (some .i64) Ye none]⟩
def Z2x:List Bool:=(mR false [0,2,1,2,1,1,3,13,37])
def Z4J:List Bool:=(mR false [0,2,1,2,1,1,3,12,38])
set_option maxHeartbeats 1000000 in
theorem Z3Y (Y1:Gm) (Y0:Int) (Y7:(List ((Int × Int) × Int))) (Y9:(List ((Int × Int) × Int))) (hp0:Y1.Pq.length≤1073741824) (hp1:Y1.Tr.length≤1073741824) (hp2:∀ t∈Y1.Tr,t.length≤1073741824) (Z1e:(Za Y1)=true) (Z1f:0≤Y0) (Z2y:(decide (Y0 < (Y1.Tr.length:Int)))=true) (Z6d:(Za Y1)=true):∀ (k:Nat) (Y3:Int) (Y5:(List ((Int × Int) × Int))) (Ye:(List ((Int × Int) × Int))) (Z1M:0≤Y3) (hk:((3:Int) - Y3).toNat < k),Lp prog 0 (sub (X0 f36) [1,1,1,0,1,0,0,1,1,0,0,1,1,0,0]) (Z56 Y1 Y0 Y7 Y9 Y3 Y5 Ye) (Z2i Y1 Y0 Y7 Y9 (ZE Y1 Y0 Y7 Y9 k Y3 Y5 Ye)).1 (Z2i Y1 Y0 Y7 Y9 (ZE Y1 Y0 Y7 Y9 k Y3 Y5 Ye)).2:=by
 intro k
 induction k with
 | zero=>intro Y3 Y5 Ye Z1M hk;exact absurd hk (Nat.not_lt_zero _)
 | succ k ih =>
  intro Y3 Y5 Ye Z1M hk
  cases Yr:(decide (Y3 < 3)) with
  | true =>
   have YX:=odt Yr
   have Y13:(0:Int)≤Y3:=(by assumption)
   have Y14:Y3 < ((Y1.Tr.getD Y0.toNat default).length:Int):=(by (have ok_:=Z29 Y1 Z1e;have q:=OkE.at ok_ Z1f (odt Z2y) Z1M (odt (by assumption));omega))
   have YY:(-9223372036854775808:Int)≤(Y3 + 1):=(by omega)
   have YT:(Y3 + 1)≤(9223372036854775807:Int):=(by omega)
   have Y12:(0:Int)≤(Int.tmod (Y3 + 1) 3):=(by (have ok_:=Z29 Y1 Z1e;have q:=OkE.at ok_ Z1f (odt Z2y) Z1M (odt (by assumption));omega))
   have Y19:(Int.tmod (Y3 + 1) 3) < ((Y1.Tr.getD Y0.toNat default).length:Int):=(by (have ok_:=Z29 Y1 Z1e;have q:=OkE.at ok_ Z1f (odt Z2y) Z1M (odt (by assumption));omega))
   have p {a C} (s:Scr a C):=sB Yr<|sK [12,12]<|sG (cI .i64) (Y1.Tr.getD Y0.toNat default) Y3 Y13 Y14<|sI (Y3 + 1) YY YT<|sC (show (3:Int)≠0 from (by decide))<|sQ (Int.tmod (Y3 + 1) 3)<|sG (cI .i64) (Y1.Tr.getD Y0.toNat default) (Int.tmod (Y3 + 1) 3) Y12 Y19<|sC (show (0:Int)≤0∧0 < ((2:Nat):Int) from (by decide))<|sC (show (0:Int)≤1∧1 < ((2:Nat):Int) from (by decide))<|sF (Z4z ((Y1.Tr.getD Y0.toNat default).getD Y3.toNat default) ((Y1.Tr.getD Y0.toNat default).getD (Int.tmod (Y3 + 1) 3).toNat default))<|sR (X9y E0Ok Zb (id:=12) (ops:=Xa4 (sub (X0 f36) [1,1,1,0,1,0,0,1,1,0,0,1,1,0,0,1,1,0,0,1,1,1,0])) (⟨.agg [.sl (Y1.Pq.map Gv.c), .sl (Y1.Tr.map (cL (cI .i64)))] :: .ptr 0 0 0 :: .any :: .mp 1 :: .mp 2 :: .any :: .sl ((Y1.Tr.getD Y0.toNat default).map (cI .i64)) :: .i .i64 Y3 :: .ptr 3 0 0 :: .ptr 4 0 0 :: .agg [.sl (Y1.Pq.map Gv.c), .sl (Y1.Tr.map (cL (cI .i64)))] :: .b (Za Y1) :: .b (!(Za Y1)) :: .mp 1 :: .mp 2 :: .ptr 0 0 1 :: .sl (Y1.Tr.map (cL (cI .i64))) :: .i .i64 (Y1.Tr.length:Int) :: .i .i64 Y0 :: .b (decide (Y0 < (Y1.Tr.length:Int))) :: .ref [.sl ((Y1.Tr.getD Y0.toNat default).map (cI .i64))] 0 :: .sl ((Y1.Tr.getD Y0.toNat default).map (cI .i64)) :: .i .i64 Y3 :: .b (decide (Y3 < 3)) :: .i .i64 Y3 :: .sl ((Y1.Tr.getD Y0.toNat default).map (cI .i64)) :: .i .i64 Y3 :: .ref [.i .i64 ((Y1.Tr.getD Y0.toNat default).getD Y3.toNat default)] 0 :: .i .i64 ((Y1.Tr.getD Y0.toNat default).getD Y3.toNat default) :: .sl ((Y1.Tr.getD Y0.toNat default).map (cI .i64)) :: .i .i64 Y3 :: .i .i64 (Y3 + 1) :: .i .i64 (Int.tmod (Y3 + 1) 3) :: .ref [.i .i64 ((Y1.Tr.getD Y0.toNat default).getD (Int.tmod (Y3 + 1) 3).toNat default)] 0 :: .i .i64 ((Y1.Tr.getD Y0.toNat default).getD (Int.tmod (Y3 + 1) 3).toNat default) :: .agg [.i .i64 ((Y1.Tr.getD Y0.toNat default).getD Y3.toNat default), .i .i64 ((Y1.Tr.getD Y0.toNat default).getD (Int.tmod (Y3 + 1) 3).toNat default)] :: .ptr 3 0 0 :: .i .i64 ((Y1.Tr.getD Y0.toNat default).getD Y3.toNat default) :: .ptr 3 0 1 :: .i .i64 ((Y1.Tr.getD Y0.toNat default).getD (Int.tmod (Y3 + 1) 3).toNat default) :: .agg [.i .i64 ((Z9 Y1 Y0 Y3).e0), .i .i64 ((Z9 Y1 Y0 Y3).e1)] :: an 19 [],[.box 27 [.sl (Y1.Pq.map Gv.c), .sl (Y1.Tr.map (cL (cI .i64)))], .mapS 121 none Y5 none, .mapS 122 (some .i64) Ye none, .box 113 [.i .i64 ((Y1.Tr.getD Y0.toNat default).getD Y3.toNat default), .i .i64 ((Y1.Tr.getD Y0.toNat default).getD (Int.tmod (Y3 + 1) 3).toNat default)], .box 113 [.i .i64 ((Z9 Y1 Y0 Y3).e0), .i .i64 ((Z9 Y1 Y0 Y3).e1)]]⟩) (⟨.agg [.sl (Y1.Pq.map Gv.c), .sl (Y1.Tr.map (cL (cI .i64)))] :: .ptr 0 0 0 :: .any :: .mp 1 :: .mp 2 :: .any :: .sl ((Y1.Tr.getD Y0.toNat default).map (cI .i64)) :: .i .i64 Y3 :: .ptr 3 0 0 :: .ptr 4 0 0 :: .agg [.sl (Y1.Pq.map Gv.c), .sl (Y1.Tr.map (cL (cI .i64)))] :: .b (Za Y1) :: .b (!(Za Y1)) :: .mp 1 :: .mp 2 :: .ptr 0 0 1 :: .sl (Y1.Tr.map (cL (cI .i64))) :: .i .i64 (Y1.Tr.length:Int) :: .i .i64 Y0 :: .b (decide (Y0 < (Y1.Tr.length:Int))) :: .ref [.sl ((Y1.Tr.getD Y0.toNat default).map (cI .i64))] 0 :: .sl ((Y1.Tr.getD Y0.toNat default).map (cI .i64)) :: .i .i64 Y3 :: .b (decide (Y3 < 3)) :: .i .i64 Y3 :: .sl ((Y1.Tr.getD Y0.toNat default).map (cI .i64)) :: .i .i64 Y3 :: .ref [.i .i64 ((Y1.Tr.getD Y0.toNat default).getD Y3.toNat default)] 0 :: .i .i64 ((Y1.Tr.getD Y0.toNat default).getD Y3.toNat default) :: .sl ((Y1.Tr.getD Y0.toNat default).map (cI .i64)) :: .i .i64 Y3 :: .i .i64 (Y3 + 1) :: .i .i64 (Int.tmod (Y3 + 1) 3) :: .ref [.i .i64 ((Y1.Tr.getD Y0.toNat default).getD (Int.tmod (Y3 + 1) 3).toNat default)] 0 :: .i .i64 ((Y1.Tr.getD Y0.toNat default).getD (Int.tmod (Y3 + 1) 3).toNat default) :: .agg [.i .i64 ((Y1.Tr.getD Y0.toNat default).getD Y3.toNat default), .i .i64 ((Y1.Tr.getD Y0.toNat default).getD (Int.tmod (Y3 + 1) 3).toNat default)] :: .ptr 3 0 0 :: .i .i64 ((Y1.Tr.getD Y0.toNat default).getD Y3.toNat default) :: .ptr 3 0 1 :: .i .i64 ((Y1.Tr.getD Y0.toNat default).getD (Int.tmod (Y3 + 1) 3).toNat default) :: .agg [.i .i64 ((Z9 Y1 Y0 Y3).e0), .i .i64 ((Z9 Y1 Y0 Y3).e1)] :: .mp 2 :: .agg [.i .i64 ((Z9 Y1 Y0 Y3).e0), .i .i64 ((Z9 Y1 Y0 Y3).e1)] :: .i .i64 (X5 Ye ((Z9 Y1 Y0 Y3).e0,(Z9 Y1 Y0 Y3).e1)) :: .i .i64 (IntKind.wrap .i64 ((X5 Ye ((Z9 Y1 Y0 Y3).e0,(Z9 Y1 Y0 Y3).e1)) + 1)) :: .tup [.i .i64 (X5 Ye ((Z9 Y1 Y0 Y3).e0,(Z9 Y1 Y0 Y3).e1)), .i .i64 ((Xc Ye ((Z9 Y1 Y0 Y3).e0,(Z9 Y1 Y0 Y3).e1):Nat):Int)] :: .i .i64 ((Xc Ye ((Z9 Y1 Y0 Y3).e0,(Z9 Y1 Y0 Y3).e1):Nat):Int) :: an 13 [],[.box 27 [.sl (Y1.Pq.map Gv.c), .sl (Y1.Tr.map (cL (cI .i64)))], .mapS 121 none Y5 none, .mapS 122 (some .i64) (Xy Ye ((Z9 Y1 Y0 Y3).e0,(Z9 Y1 Y0 Y3).e1) (IntKind.wrap .i64 ((X5 Ye ((Z9 Y1 Y0 Y3).e0,(Z9 Y1 Y0 Y3).e1)) + 1))) none, .box 113 [.i .i64 ((Y1.Tr.getD Y0.toNat default).getD Y3.toNat default), .i .i64 ((Y1.Tr.getD Y0.toNat default).getD (Int.tmod (Y3 + 1) 3).toNat default)], .box 113 [.i .i64 ((Z9 Y1 Y0 Y3).e0), .i .i64 ((Z9 Y1 Y0 Y3).e1)]]⟩) 0 [(0,41, .mp 2),(1,42, .agg [.i .i64 ((Z9 Y1 Y0 Y3).e0), .i .i64 ((Z9 Y1 Y0 Y3).e1)]),(2,43, .i .i64 (X5 Ye ((Z9 Y1 Y0 Y3).e0,(Z9 Y1 Y0 Y3).e1))),(3,44, .i .i64 (IntKind.wrap .i64 ((X5 Ye ((Z9 Y1 Y0 Y3).e0,(Z9 Y1 Y0 Y3).e1)) + 1))),(4,45, .tup [.i .i64 (X5 Ye ((Z9 Y1 Y0 Y3).e0,(Z9 Y1 Y0 Y3).e1)), .i .i64 ((Xc Ye ((Z9 Y1 Y0 Y3).e0,(Z9 Y1 Y0 Y3).e1):Nat):Int)]),(5,46, .i .i64 ((Xc Ye ((Z9 Y1 Y0 Y3).e0,(Z9 Y1 Y0 Y3).e1):Nat):Int))] [(4,2, .mapS 122 (some .i64) Ye (some ((Z9 Y1 Y0 Y3).e0,(Z9 Y1 Y0 Y3).e1))),(6,2, .mapS 122 (some .i64) (Xy Ye ((Z9 Y1 Y0 Y3).e0,(Z9 Y1 Y0 Y3).e1) (IntKind.wrap .i64 ((X5 Ye ((Z9 Y1 Y0 Y3).e0,(Z9 Y1 Y0 Y3).e1)) + 1))) none)] [5,5,5,5,5,5,5] [⟨_,_,sN⟩,⟨_,_,sN⟩,⟨_,_,sN⟩,⟨_,_,sW .i64 ((X5 Ye ((Z9 Y1 Y0 Y3).e0,(Z9 Y1 Y0 Y3).e1)) + 1)<|sN⟩,⟨_,_,sN⟩,⟨_,_,sN⟩,⟨_,_,sC (show ((Xc Ye ((Z9 Y1 Y0 Y3).e0,(Z9 Y1 Y0 Y3).e1):Nat):Int)=((Xc Ye ((Z9 Y1 Y0 Y3).e0,(Z9 Y1 Y0 Y3).e1):Nat):Int) from rfl)<|sN⟩] [0,1,2,3,7,19,15,23,51,31,55,63,127] (by kernel_rfl) (by kernel_rfl) (by kernel_rfl) (by kernel_rfl))<|s
   cases YB:((X5 Y5 (((Y1.Tr.getD Y0.toNat default).getD Y3.toNat default),((Y1.Tr.getD Y0.toNat default).getD (Int.tmod (Y3 + 1) 3).toNat default))) == 1) with
   | true =>
    have gh__1:=eq_of_beq YB
    have e:ZE Y1 Y0 Y7 Y9 (k + 1) Y3 Y5 Ye=(.inl ()):=by simp only [ZE,Yr,YB,cond_true]
    rw [e]
    exact outR (e := .ret) E0Ok Zb [] (mR false [2,1,57]) [] (p (sB YB<|sB YB<|sB YB<|sB YB<|sB YB<|sB (show true=true from rfl)<|sN)) (by kernel_rfl) (by intro h;cases h)
   | false =>
    have gh__1:=ne_of_beq_false YB
    have q {a C} (s:Scr a C):=p (sB YB<|sB YB<|sB YB<|sB YB<|sB YB<|s)
    clear p
    cases Y11:(decide ((X5 (Xy Ye ((Z9 Y1 Y0 Y3).e0,(Z9 Y1 Y0 Y3).e1) (IntKind.wrap .i64 ((X5 Ye ((Z9 Y1 Y0 Y3).e0,(Z9 Y1 Y0 Y3).e1)) + 1))) ((Z9 Y1 Y0 Y3).e0,(Z9 Y1 Y0 Y3).e1)) > 2)) with
    | true =>
     have Y1i:=odt Y11
     have e:ZE Y1 Y0 Y7 Y9 (k + 1) Y3 Y5 Ye=(.inl ()):=by simp only [ZE,Yr,YB,Y11,cond_true,cond_false]
     rw [e]
     exact outR (e := .ret) E0Ok Zb [] (mR false [2,1,57]) [] (q (sB Y11<|sN)) (by kernel_rfl) (by intro h;cases h)
    | false =>
     have Y1i:=odf Y11
     have e:ZE Y1 Y0 Y7 Y9 (k + 1) Y3 Y5 Ye=(ZE Y1 Y0 Y7 Y9 k (Y3 + 1) (Xy Y5 (((Y1.Tr.getD Y0.toNat default).getD Y3.toNat default),((Y1.Tr.getD Y0.toNat default).getD (Int.tmod (Y3 + 1) 3).toNat default)) 1) (Xy Ye ((Z9 Y1 Y0 Y3).e0,(Z9 Y1 Y0 Y3).e1) (IntKind.wrap .i64 ((X5 Ye ((Z9 Y1 Y0 Y3).e0,(Z9 Y1 Y0 Y3).e1)) + 1)))):=by simp only [ZE,Yr,YB,Y11,cond_true,cond_false]
     rw [e]
     exact Xs E0Ok Zb [] Z2x [0,1,2] (ih (Y3 + 1) (Xy Y5 (((Y1.Tr.getD Y0.toNat default).getD Y3.toNat default),((Y1.Tr.getD Y0.toNat default).getD (Int.tmod (Y3 + 1) 3).toNat default)) 1) (Xy Ye ((Z9 Y1 Y0 Y3).e0,(Z9 Y1 Y0 Y3).e1) (IntKind.wrap .i64 ((X5 Ye ((Z9 Y1 Y0 Y3).e0,(Z9 Y1 Y0 Y3).e1)) + 1))) (show 0≤(Y3 + 1) from (by omega)) (by omega)) (q (sB Y11<|sI (Y3 + 1) YY YT<|sN)) (by kernel_rfl)
  | false =>
   have YX:=odf Yr
   have e:ZE Y1 Y0 Y7 Y9 (k + 1) Y3 Y5 Ye=(.inr (Y5,Ye)):=by simp only [ZE,Yr,cond_false]
   rw [e]
   exact outR (e:=(.exit 2)) E0Ok Zb [] Z4J [0,1,2] (sB Yr<|sN) (by kernel_rfl) (by intro h;cases h)
def Z1N (Y1:Gm) (Y0:Int) (Y7:(List ((Int × Int) × Int))) (Y9:(List ((Int × Int) × Int))):(Unit) ⊕ ((List ((Int × Int) × Int)) × (List ((Int × Int) × Int))):=(ZE Y1 Y0 Y7 Y9 (((3:Int) - 0).toNat + 1) 0 Y7 Y9)
def ZK (Y1:Gm):Nat→Int→(List ((Int × Int) × Int))→(List ((Int × Int) × Int))→(Unit) ⊕ ((List ((Int × Int) × Int)) × (List ((Int × Int) × Int)))
  | 0,_,_,_ => .inl default
  | k + 1,Y0,Y7,Y9=>(cond (decide (Y0 < (Y1.Tr.length:Int)))
    (match (Z1N Y1 Y0 Y7 Y9) with
      | .inl r_2=>(.inl ())
      | .inr r_2=>(ZK Y1 k (Y0 + 1) r_2.1 r_2.2))
    (.inr (Y7,Y9)))
def Z2j (Y1:Gm):(Unit) ⊕ ((List ((Int × Int) × Int)) × (List ((Int × Int) × Int)))→Ex × St
  | .inl r=>(.ret,⟨.any :: .any :: .b false :: an 57 [],[]⟩)
  | .inr r=>((.exit 0),⟨.agg [.sl (Y1.Pq.map Gv.c), .sl (Y1.Tr.map (cL (cI .i64)))] :: .ptr 0 0 0 :: an 8 (.agg [.sl (Y1.Pq.map Gv.c), .sl (Y1.Tr.map (cL (cI .i64)))] :: .b (Za Y1) :: .b (!(Za Y1)) :: .mp 1 :: .mp 2 :: .ptr 0 0 1 :: .sl (Y1.Tr.map (cL (cI .i64))) :: an 43 []),[.box 27 [.sl (Y1.Pq.map Gv.c), .sl (Y1.Tr.map (cL (cI .i64)))], .mapS 121 none r.1 none, .mapS 122 (some .i64) r.2 none]⟩)
def Z57 (Y1:Gm) (Y0:Int) (Y7:(List ((Int × Int) × Int))) (Y9:(List ((Int × Int) × Int))):St:=⟨.agg [.sl (Y1.Pq.map Gv.c), .sl (Y1.Tr.map (cL (cI .i64)))] :: .ptr 0 0 0 :: .any :: .mp 1 :: .mp 2 :: an 5 (.agg [.sl (Y1.Pq.map Gv.c), .sl (Y1.Tr.map (cL (cI .i64)))] :: .b (Za Y1) :: .b (!(Za Y1)) :: .mp 1 :: .mp 2 :: .ptr 0 0 1 :: .sl (Y1.Tr.map (cL (cI .i64))) :: .i .i64 (Y1.Tr.length:Int) :: .i .i64 Y0 :: an 41 []),[.box 27 [.sl (Y1.Pq.map Gv.c), .sl (Y1.Tr.map (cL (cI .i64)))], .mapS 121 none Y7 none, .mapS 122 (some .i64) Y9 none]⟩
theorem Z3Z (Y1:Gm) (hp0:Y1.Pq.length≤1073741824) (hp1:Y1.Tr.length≤1073741824) (hp2:∀ t∈Y1.Tr,t.length≤1073741824) (Z1e:(Za Y1)=true):∀ (k:Nat) (Y0:Int) (Y7:(List ((Int × Int) × Int))) (Y9:(List ((Int × Int) × Int))) (Z1f:0≤Y0) (hk:((Y1.Tr.length:Int) - Y0).toNat < k),Lp prog 0 (sub (X0 f36) [1,1,1,0,1,0,0]) (Z57 Y1 Y0 Y7 Y9) (Z2j Y1 (ZK Y1 k Y0 Y7 Y9)).1 (Z2j Y1 (ZK Y1 k Y0 Y7 Y9)).2:=by
 intro k
 induction k with
 | zero=>intro Y0 Y7 Y9 Z1f hk;exact absurd hk (Nat.not_lt_zero _)
 | succ k ih =>
  intro Y0 Y7 Y9 Z1f hk
  cases Ym:(decide (Y0 < (Y1.Tr.length:Int))) with
  | true =>
   have YF:=odt Ym
   have YR:(0:Int)≤Y0:=(by assumption)
   have YL:Y0 < (Y1.Tr.length:Int):=(by assumption)
   have p {a C} (s:Scr a C):=sB Ym<|sG (cL (cI .i64)) Y1.Tr Y0 YR YL<|s
   cases Yz:(Z1N Y1 Y0 Y7 Y9) with
   | inl r_2 =>
    have e:ZK Y1 (k + 1) Y0 Y7 Y9=(.inl ()):=by simp only [ZK,Ym,Yz,cond_true]
    rw [e]
    exact outR (e := .ret) E0Ok Zb [] (mR false [2,1,57]) [] (p (sL Z2x 3 (Xb (Z2i Y1 Y0 Y7 Y9) (x:=(Z1N Y1 Y0 Y7 Y9)) (Z3Y Y1 Y0 Y7 Y9 hp0 hp1 hp2 Z1e Z1f Ym Z1e (((3:Int) - 0).toNat + 1) 0 Y7 Y9 (show 0≤0 from (by omega)) (Nat.lt_succ_self _)) Yz)<|sN)) (by kernel_rfl) (by intro h;cases h)
   | inr r_2 =>
    have YZ:(-9223372036854775808:Int)≤(Y0 + 1):=by clear p;exact (by omega)
    have YU:(Y0 + 1)≤(9223372036854775807:Int):=by clear p;exact (by omega)
    have e:ZK Y1 (k + 1) Y0 Y7 Y9=(ZK Y1 k (Y0 + 1) r_2.1 r_2.2):=by simp only [ZK,Ym,Yz,cond_true]
    rw [e]
    exact Xs E0Ok Zb [] (mR false [0,2,1,2,5,9,41]) [0,1,2] (ih (Y0 + 1) r_2.1 r_2.2 (show 0≤(Y0 + 1) from (by omega)) (by omega)) (p (sL Z2x 3 (Xb (Z2i Y1 Y0 Y7 Y9) (x:=(Z1N Y1 Y0 Y7 Y9)) (Z3Y Y1 Y0 Y7 Y9 hp0 hp1 hp2 Z1e Z1f Ym Z1e (((3:Int) - 0).toNat + 1) 0 Y7 Y9 (show 0≤0 from (by omega)) (Nat.lt_succ_self _)) Yz)<|sI (Y0 + 1) YZ YU<|sN)) (by kernel_rfl)
  | false =>
   have YF:=odf Ym
   have e:ZK Y1 (k + 1) Y0 Y7 Y9=(.inr (Y7,Y9)):=by simp only [ZK,Ym,cond_false]
   rw [e]
   exact outR (e:=(.exit 0)) E0Ok Zb [] (mR false [0,2,8,7,43]) [0,1,2] (sB Ym<|sN) (by kernel_rfl) (by intro h;cases h)
def Z1O (Y1:Gm):(Unit) ⊕ ((List ((Int × Int) × Int)) × (List ((Int × Int) × Int))):=(ZK Y1 (((Y1.Tr.length:Int) - 0).toNat + 1) 0 ([]:List ((Int × Int) × Int)) ([]:List ((Int × Int) × Int)))
def Z1m (Y1:Gm):Bool:=(cond (Za Y1)
  (match (Z1O Y1) with
    | .inl r2=>false
    | .inr r2=>true)
  false)
theorem Z5X (m:Gm) (h:Z1m m=true):Za m=true:=by
  unfold Z1m at h
  cases hm:Za m with
  | true=>rfl
  | false=>rw [hm] at h;cases h
theorem Z6i (m:Gm) (x:Int) (r1 r2:List ((Int × Int) × Int)):∀ (k:Nat) (i:Int) (g mm:List ((Int × Int) × Int)) (D:List (Int × Int)),0≤i→i≤3→((3:Int) - i).toNat < k→SInv D g mm →
    ((D ++ (dE (m.Tr.getD x.toNat default)).drop i.toNat).Nodup∧∃ g' m',ZE m x r1 r2 k i g mm = .inr (g',m')∧SInv (D ++ (dE (m.Tr.getD x.toNat default)).drop i.toNat) g' m')∨(¬(D ++ (dE (m.Tr.getD x.toNat default)).drop i.toNat).Nodup∧ZE m x r1 r2 k i g mm = .inl ()):=by
  intro k
  induction k with
  | zero=>intro i g mm D _ _ hk;exact absurd hk (Nat.not_lt_zero _)
  | succ k ih =>
    intro i g mm D h0 h3 hk hS
    rw [ZE]
    by_cases hi:i < 3
    · generalize hw:((m.Tr.getD x.toNat default).getD i.toNat default,(m.Tr.getD x.toNat default).getD (Int.tmod (i + 1) 3).toNat default)=w
      have hd:(dE (m.Tr.getD x.toNat default)).drop i.toNat=w :: (dE (m.Tr.getD x.toNat default)).drop (i + 1).toNat:=by
        have hc:i=0∨i=1∨i=2:=by omega
        rw [← hw]
        rcases hc with rfl | rfl | rfl<;>rfl
      have he:((Z9 m x i).e0,(Z9 m x i).e1)=uE w:=by
        unfold Z9
        rw [Z5L,← hw];rfl
      rw [decide_eq_true hi,cond_true,hd,he]
      cases hg:(X5 g w == 1) with
      | true =>
        right
        refine ⟨fun hN => ?_,rfl⟩
        have hm:=hS.hit hg
        exact (List.nodup_append.1 hN).2.2 w hm w List.mem_cons_self rfl
      | false =>
        obtain ⟨q1,q2⟩:=hS.step hg
        rw [cond_false,q1,cond_false]
        have:=ih (i + 1) _ _ _ (by omega) (by omega) (by omega) q2
        rw [List.append_assoc,List.singleton_append] at this
        exact this
    · have hi3:i=3:=by omega
      subst hi3
      left
      have hd:(dE (m.Tr.getD x.toNat default)).drop (3:Int).toNat=[]:=rfl
      rw [hd,List.append_nil]
      exact ⟨hS.nd,g,mm,rfl,hS⟩
theorem Z6j (m:Gm):∀ (k:Nat) (i:Int) (g mm:List ((Int × Int) × Int)) (D:List (Int × Int)),0≤i→((m.Tr.length:Int) - i).toNat < k→SInv D g mm →
    ((D ++ (m.Tr.drop i.toNat).flatMap dE).Nodup∧∃ r,ZK m k i g mm = .inr r)∨(¬(D ++ (m.Tr.drop i.toNat).flatMap dE).Nodup∧ZK m k i g mm = .inl ()):=by
  intro k
  induction k with
  | zero=>intro i g mm D _ hk;exact absurd hk (Nat.not_lt_zero _)
  | succ k ih =>
    intro i g mm D h0 hk hS
    rw [ZK]
    by_cases hi:i < (m.Tr.length:Int)
    · have hn:i.toNat < m.Tr.length:=by omega
      have hg:m.Tr.getD i.toNat default=m.Tr[i.toNat]:=by rw [List.getD_eq_getElem?_getD,List.getElem?_eq_getElem hn];rfl
      rw [decide_eq_true hi,cond_true,List.drop_eq_getElem_cons hn,List.flatMap_cons,← show (i + 1).toNat=i.toNat + 1 from by omega]
      have q:=Z6i m i g mm (((3:Int) - 0).toNat + 1) 0 g mm D (Int.le_refl 0) (by omega) (Nat.lt_succ_self _) hS
      rw [show (0:Int).toNat=0 from rfl,List.drop_zero,hg] at q
      unfold Z1N
      rcases q with ⟨q1,g',m',q2,q3⟩ | ⟨q1,q2⟩
      · rw [q2]
        have:=ih (i + 1) g' m' _ (by omega) (by omega) q3
        rw [List.append_assoc] at this
        exact this
      · rw [q2]
        right
        refine ⟨fun hN=>q1 ?_,rfl⟩
        rw [← List.append_assoc] at hN
        exact (List.nodup_append.1 hN).1
    · rw [decide_eq_false hi,cond_false,List.drop_eq_nil_of_le (by omega)]
      left
      rw [List.flatMap_nil,List.append_nil]
      exact ⟨hS.nd,_,rfl⟩
theorem Z6k (m:Gm):Z1m m=cond (Za m) (decide ((m.Tr.flatMap dE).Nodup)) false:=by
  unfold Z1m Z1O
  have q:=Z6j m (((m.Tr.length:Int) - 0).toNat + 1) 0 [] [] [] (Int.le_refl 0) (Nat.lt_succ_self _) SInv.nil
  rw [List.nil_append,show (0:Int).toNat=0 from rfl,List.drop_zero] at q
  rcases q with ⟨q1,r,q2⟩ | ⟨q1,q2⟩
  · rw [q2,decide_eq_true q1]
  · rw [q2,decide_eq_false q1]
theorem Z5B (Y1:Gm) (hp0:Y1.Pq.length≤1073741824) (hp1:Y1.Tr.length≤1073741824) (hp2:∀ t∈Y1.Tr,t.length≤1073741824)  : Fn prog 36 [.agg [.sl (Y1.Pq.map Gv.c), .sl (Y1.Tr.map (cL (cI .i64)))]] (.b (Z1m Y1)) []:=by
 have p {a C} (s:Scr a C):=sF (Z2r Y1 hp0 hp1 hp2)<|s
 cases h0:(Za Y1) with
 | true =>
  have q {a C} (s:Scr a C):=p (sB' h0<|sZ (cL (cI .i64)) Y1.Tr<|s)
  clear p
  cases h1:(Z1O Y1) with
  | inl r2 =>
   refine fnS E0Ok Zb (c:=X0 f36) [] (.b false) [] func36 (q (sL (mR false [0,2,1,2,5,9,41]) 3 (Xb (Z2j Y1) (x:=(Z1O Y1)) (Z3Z Y1 hp0 hp1 hp2 h0 (((Y1.Tr.length:Int) - 0).toNat + 1) 0 ([]:List ((Int × Int) × Int)) ([]:List ((Int × Int) × Int)) (show 0≤0 from (by omega)) (Nat.lt_succ_self _)) h1)<|sK [] sN)) rfl (by kernel_rfl) (by kernel_rfl) rfl ?_ ?_
   · simp only [Z1m,h0,h1,cond_true]
   · rfl
  | inr r2 =>
   refine fnS E0Ok Zb (c:=X0 f36) [] (.b true) [] func36 (q (sL (mR false [0,2,1,2,5,9,41]) 3 (Xb (Z2j Y1) (x:=(Z1O Y1)) (Z3Z Y1 hp0 hp1 hp2 h0 (((Y1.Tr.length:Int) - 0).toNat + 1) 0 ([]:List ((Int × Int) × Int)) ([]:List ((Int × Int) × Int)) (show 0≤0 from (by omega)) (Nat.lt_succ_self _)) h1)<|sK [] sN)) rfl (by kernel_rfl) (by kernel_rfl) rfl ?_ ?_
   · simp only [Z1m,h0,h1,cond_true]
   · rfl
 | false =>
  refine fnS E0Ok Zb (c:=X0 f36) [] (.b false) [] func36 (p (sB' h0<|sK [] sN)) rfl (by kernel_rfl) (by kernel_rfl) rfl ?_ ?_
  · simp only [Z1m,h0,cond_false]
  · rfl
def Z1o (YE:Int):Bool:=(YE != YE)
theorem Z3N (YE:Int)   : Fn prog 150 [.i .i64 YE] (.b (Z1o YE)) []:=by
 refine fnS E0Ok Zb (c:=X0 f150) [] (.b (YE != YE)) [] func150 (sK [] sN) rfl (by kernel_rfl) (by kernel_rfl) rfl ?_ ?_
 · rfl
 · rfl
def ZH (YE:Int) (YL:Int):Int:=(cond (Z1o YE)
  (cond (Z1o YL)
    0
    (-1))
  (cond (Z1o YL)
    1
    (cond (decide (YE < YL))
      (-1)
      (cond (decide (YE > YL))
        1
        0))))
theorem Z4s (YE:Int) (YL:Int)   : Fn prog 144 [.i .i64 YE, .i .i64 YL] (.i .i64 (ZH YE YL)) []:=by
 have p {a C} (s:Scr a C):=sF (Z3N YE)<|sF (Z3N YL)<|s
 cases h0:(Z1o YE) with
 | true =>
  have q {a C} (s:Scr a C):=p (sB h0<|s)
  clear p
  cases h1:(Z1o YL) with
  | true =>
   refine fnS E0Ok Zb (c:=X0 f144) [] (.i .i64 0) [] func144 (q (sB h1<|sK [] sN)) rfl (by kernel_rfl) (by kernel_rfl) rfl ?_ ?_
   · simp only [ZH,h0,h1,cond_true]
   · rfl
  | false =>
   refine fnS E0Ok Zb (c:=X0 f144) [] (.i .i64 (-1)) [] func144 (q (sB h1<|sK [] sN)) rfl (by kernel_rfl) (by kernel_rfl) rfl ?_ ?_
   · simp only [ZH,h0,h1,cond_true,cond_false]
   · rfl
 | false =>
  have q {a C} (s:Scr a C):=p (sB h0<|s)
  clear p
  cases h1:(Z1o YL) with
  | true =>
   refine fnS E0Ok Zb (c:=X0 f144) [] (.i .i64 1) [] func144 (q (sB h1<|sK [] sN)) rfl (by kernel_rfl) (by kernel_rfl) rfl ?_ ?_
   · simp only [ZH,h0,h1,cond_true,cond_false]
   · rfl
  | false =>
   have p {a C} (s:Scr a C):=q (sB h1<|s)
   clear q
   cases h2:(decide (YE < YL)) with
   | true =>
    have gh2:=odt h2
    refine fnS E0Ok Zb (c:=X0 f144) [] (.i .i64 (-1)) [] func144 (p (sB h2<|sK [] sN)) rfl (by kernel_rfl) (by kernel_rfl) rfl ?_ ?_
    · simp only [ZH,h0,h1,h2,cond_true,cond_false]
    · rfl
   | false =>
    have gh2:=odf h2
    have q {a C} (s:Scr a C):=p (sB h2<|s)
    clear p
    cases h3:(decide (YE > YL)) with
    | true =>
     have gh3:=odt h3
     refine fnS E0Ok Zb (c:=X0 f144) [] (.i .i64 1) [] func144 (q (sB h3<|sK [] sN)) rfl (by kernel_rfl) (by kernel_rfl) rfl ?_ ?_
     · simp only [ZH,h0,h1,h2,h3,cond_true,cond_false]
     · rfl
    | false =>
     have gh3:=odf h3
     refine fnS E0Ok Zb (c:=X0 f144) [] (.i .i64 0) [] func144 (q (sB h3<|sK [] sN)) rfl (by kernel_rfl) (by kernel_rfl) rfl ?_ ?_
     · simp only [ZH,h0,h1,h2,h3,cond_false]
     · rfl
def Zg (Yt:(List Int)) (Yy:(List Int)):Nat→Int→(Int) ⊕ (Unit)
  | 0,_ => .inl default
  | k + 1,Y0=>(cond (decide (Y0 < (Yt.length:Int)))
    (cond (decide (Y0 ≥ (Yy.length:Int)))
      (.inl 1)
      (cond ((ZH (Yt.getD Y0.toNat default) (Yy.getD Y0.toNat default)) != 0)
        (.inl (ZH (Yt.getD Y0.toNat default) (Yy.getD Y0.toNat default)))
        (Zg Yt Yy k (Y0 + 1))))
    (.inr ()))
def Z1i (Yt:(List Int)) (Yy:(List Int)):(Int) ⊕ (Unit)→Ex × St
  | .inl r=>(.ret,⟨an 4 (.i .i64 r :: an 31 []),[]⟩)
  | .inr r=>((.exit 0),⟨.sl (Yt.map (cI .i64)) :: .sl (Yy.map (cI .i64)) :: an 7 (.sl (Yt.map (cI .i64)) :: an 26 []),[]⟩)
def Z2Y (Yt:(List Int)) (Yy:(List Int)) (Y0:Int):St:=⟨.sl (Yt.map (cI .i64)) :: .sl (Yy.map (cI .i64)) :: an 7 (.sl (Yt.map (cI .i64)) :: .i .i64 (Yt.length:Int) :: .i .i64 Y0 :: an 24 []),[]⟩
theorem Z1W (Yt:(List Int)) (Yy:(List Int)) (hp0:Yt.length≤1073741824) (hp1:Yy.length≤1073741824):∀ (k:Nat) (Y0:Int) (Z1R:0≤Y0) (hk:((Yt.length:Int) - Y0).toNat < k),Lp prog 0 (sub (X0 f132) [1,0,1,0,0]) (Z2Y Yt Yy Y0) (Z1i Yt Yy (Zg Yt Yy k Y0)).1 (Z1i Yt Yy (Zg Yt Yy k Y0)).2:=by
 intro k
 induction k with
 | zero=>intro Y0 Z1R hk;exact absurd hk (Nat.not_lt_zero _)
 | succ k ih =>
  intro Y0 Z1R hk
  cases Ym:(decide (Y0 < (Yt.length:Int))) with
  | true =>
   have YF:=odt Ym
   have YR:(0:Int)≤Y0:=(by assumption)
   have YL:Y0 < (Yt.length:Int):=(by assumption)
   have p {a C} (s:Scr a C):=sB Ym<|sG (cI .i64) Yt Y0 YR YL<|sZ (cI .i64) Yy<|s
   cases Yz:(decide (Y0 ≥ (Yy.length:Int))) with
   | true =>
    have Y1d:=odt Yz
    have e:Zg Yt Yy (k + 1) Y0=(.inl 1):=by simp only [Zg,Ym,Yz,cond_true]
    rw [e]
    exact outR (e := .ret) E0Ok Zb [] (mR false [4,1,31]) [] (p (sB Yz<|sN)) (by kernel_rfl) (by intro h;cases h)
   | false =>
    have Y1d:=odf Yz
    have YZ:Y0 < (Yy.length:Int):=by clear p;exact (by omega)
    have q {a C} (s:Scr a C):=p (sB Yz<|sG (cI .i64) Yy Y0 YR YZ<|sF (Z4s (Yt.getD Y0.toNat default) (Yy.getD Y0.toNat default))<|s)
    clear p
    cases YN:((ZH (Yt.getD Y0.toNat default) (Yy.getD Y0.toNat default)) != 0) with
    | true =>
     have Y1e:=bne_iff_ne.1 YN
     have e:Zg Yt Yy (k + 1) Y0=(.inl (ZH (Yt.getD Y0.toNat default) (Yy.getD Y0.toNat default))):=by simp only [Zg,Ym,Yz,YN,cond_true,cond_false]
     rw [e]
     exact outR (e := .ret) E0Ok Zb [] (mR false [4,1,31]) [] (q (sB YN<|sN)) (by kernel_rfl) (by intro h;cases h)
    | false =>
     have Y1e:=bne_eq_false_iff_eq.1 YN
     have YU:(-9223372036854775808:Int)≤(Y0 + 1):=by clear q;exact (by omega)
     have y_4:(Y0 + 1)≤(9223372036854775807:Int):=by clear q;exact (by omega)
     have e:Zg Yt Yy (k + 1) Y0=(Zg Yt Yy k (Y0 + 1)):=by simp only [Zg,Ym,Yz,YN,cond_true,cond_false]
     rw [e]
     exact Xs E0Ok Zb [] (mR false [0,2,7,3,24]) [] (ih (Y0 + 1) (show 0≤(Y0 + 1) from (by omega)) (by omega)) (q (sB YN<|sI (Y0 + 1) YU y_4<|sN)) (by kernel_rfl)
  | false =>
   have YF:=odf Ym
   have e:Zg Yt Yy (k + 1) Y0=(.inr ()):=by simp only [Zg,Ym,cond_false]
   rw [e]
   exact outR (e:=(.exit 0)) E0Ok Zb [] (mR false [0,2,7,1,26]) [] (sB Ym<|sN) (by kernel_rfl) (by intro h;cases h)
def ZS (Yt:(List Int)) (Yy:(List Int)):(Int) ⊕ (Unit):=(Zg Yt Yy (((Yt.length:Int) - 0).toNat + 1) 0)
def ZL (Yt:(List Int)) (Yy:(List Int)):Int:=(match (ZS Yt Yy) with
  | .inl r1=>r1
  | .inr r1=>(cond (decide ((Yt.length:Int) < (Yy.length:Int)))
    (-1)
    0))
theorem Z39 (Yt:(List Int)) (Yy:(List Int)) (hp0:Yt.length≤1073741824) (hp1:Yy.length≤1073741824)  : Fn prog 132 [.sl (Yt.map (cI .i64)), .sl (Yy.map (cI .i64))] (.i .i64 (ZL Yt Yy)) []:=by
 have p {a C} (s:Scr a C):=sZ (cI .i64) Yt<|s
 cases h0:(ZS Yt Yy) with
 | inl r1 =>
  refine fnS E0Ok Zb (c:=X0 f132) [] (.i .i64 r1) [] func132 (p (sL (mR false [0,2,7,3,24]) 0 (Xb (Z1i Yt Yy) (x:=(ZS Yt Yy)) (Z1W Yt Yy hp0 hp1 (((Yt.length:Int) - 0).toNat + 1) 0 (show 0≤0 from (by omega)) (Nat.lt_succ_self _)) h0)<|sK [] sN)) rfl (by kernel_rfl) (by kernel_rfl) rfl ?_ ?_
  · simp only [ZL,h0]
  · rfl
 | inr r1 =>
  have q {a C} (s:Scr a C):=p (sL (mR false [0,2,7,3,24]) 0 (Xb (Z1i Yt Yy) (x:=(ZS Yt Yy)) (Z1W Yt Yy hp0 hp1 (((Yt.length:Int) - 0).toNat + 1) 0 (show 0≤0 from (by omega)) (Nat.lt_succ_self _)) h0)<|sZ (cI .i64) Yt<|sZ (cI .i64) Yy<|s)
  clear p
  cases h1:(decide ((Yt.length:Int) < (Yy.length:Int))) with
  | true =>
   have gh1:=odt h1
   refine fnS E0Ok Zb (c:=X0 f132) [] (.i .i64 (-1)) [] func132 (q (sB h1<|sK [] sN)) rfl (by kernel_rfl) (by kernel_rfl) rfl ?_ ?_
   · simp only [ZL,h0,h1,cond_true]
   · rfl
  | false =>
   have gh1:=odf h1
   refine fnS E0Ok Zb (c:=X0 f132) [] (.i .i64 0) [] func132 (q (sB h1<|sK [] sN)) rfl (by kernel_rfl) (by kernel_rfl) rfl ?_ ?_
   · simp only [ZL,h0,h1,cond_false]
   · rfl
def Z2z (Yp:Gedge) (Yq:Gedge):Int:=(ZL ([Yp.e0,Yp.e1]) ([Yq.e0,Yq.e1]))
theorem Z3x (Yp:Gedge) (Yq:Gedge)   : Fn prog 120 [.agg [.i .i64 Yp.e0, .i .i64 Yp.e1], .agg [.i .i64 Yq.e0, .i .i64 Yq.e1]] (.i .i64 (Z2z Yp Yq)) []:=by
 have y0:([Yp.e0,Yp.e1]).length≤1073741824:=(by simp_all<;>omega)
 have y1:([Yq.e0,Yq.e1]).length≤1073741824:=(by assumption)
 refine fnS E0Ok Zb (c:=X0 f120) [] (.i .i64 (ZL ([Yp.e0,Yp.e1]) ([Yq.e0,Yq.e1]))) [] func120 (sK [2,2]<|sF (Z39 ([Yp.e0,Yp.e1]) ([Yq.e0,Yq.e1]) y0 y1)<|sK [] sN) rfl (by kernel_rfl) (by kernel_rfl) rfl ?_ ?_
 · rfl
 · rfl
def Z2 (Y1:Gm) (Y0:Int) (Y3:Int):Gedge:=(Z2d ((Y1.Tr.getD Y0.toNat default).getD Y3.toNat default) ((Y1.Tr.getD Y0.toNat default).getD (Int.tmod (Y3 + 1) 3).toNat default))
def Zc (Y1:Gm) (Y0:Int) (Y7:(List (Gedge × List Int))) (Y9:(List Gedge)):Nat→Int→(List (Gedge × List Int))→(List Gedge)→(List (Gedge × List Int)) × (List Gedge)
  | 0,_,_,_=>default
  | k + 1,Y3,Y5,Ye=>(cond (decide (Y3 < 3))
    (cond (mhas Y5 (Z2 Y1 Y0 Y3))
      (cond (((Y5.getD (midx Y5 (Z2 Y1 Y0 Y3)) default).2.length:Int) == 0)
        (Zc Y1 Y0 Y7 Y9 k (Y3 + 1) (mput Y5 (midx Y5 (Z2 Y1 Y0 Y3)) ((Y5.getD (midx Y5 (Z2 Y1 Y0 Y3)) default).2 ++ [Y0])) (Ye ++ [(Z2 Y1 Y0 Y3)]))
        (Zc Y1 Y0 Y7 Y9 k (Y3 + 1) (mput Y5 (midx Y5 (Z2 Y1 Y0 Y3)) ((Y5.getD (midx Y5 (Z2 Y1 Y0 Y3)) default).2 ++ [Y0])) Ye))
      (Zc Y1 Y0 Y7 Y9 k (Y3 + 1) (Y5 ++ [((Z2 Y1 Y0 Y3),[Y0])]) (Ye ++ [(Z2 Y1 Y0 Y3)])))
    (Y5,Ye))
def Z25 (Y1:Gm) (Y0:Int) (Y7:(List (Gedge × List Int))) (Y9:(List Gedge)) (r:(List (Gedge × List Int)) × (List Gedge)):Ex × St:=((.exit 2),⟨.agg [.sl (Y1.Pq.map Gv.c), .sl (Y1.Tr.map (cL (cI .i64)))] :: .ptr 0 0 0 :: .any :: .nils :: .mp 1 :: .own 2 :: .i .i64 Y0 :: .sl ((Y1.Tr.getD Y0.toNat default).map (cI .i64)) :: .any :: .any :: .mp 1 :: .any :: .ptr 0 0 1 :: .sl (Y1.Tr.map (cL (cI .i64))) :: .i .i64 (Y1.Tr.length:Int) :: .i .i64 Y0 :: .b (decide (Y0 < (Y1.Tr.length:Int))) :: .i .i64 Y0 :: .ref [.sl ((Y1.Tr.getD Y0.toNat default).map (cI .i64))] 0 :: .sl ((Y1.Tr.getD Y0.toNat default).map (cI .i64)) :: an 37 [],[.box 27 [.sl (Y1.Pq.map Gv.c), .sl (Y1.Tr.map (cL (cI .i64)))], .mapN 2 (mapC Gedge.pr (cI .i64) r.1) none, .vec 113 2 (r.2.map Gedge.cells) false]⟩)
def Z43 (Y1:Gm) (Y0:Int) (Y7:(List (Gedge × List Int))) (Y9:(List Gedge)) (Y3:Int) (Y5:(List (Gedge × List Int))) (Ye:(List Gedge)):St:=⟨.agg [.sl (Y1.Pq.map Gv.c), .sl (Y1.Tr.map (cL (cI .i64)))] :: .ptr 0 0 0 :: .any :: .nils :: .mp 1 :: .own 2 :: .i .i64 Y0 :: .sl ((Y1.Tr.getD Y0.toNat default).map (cI .i64)) :: .any :: .any :: .mp 1 :: .any :: .ptr 0 0 1 :: .sl (Y1.Tr.map (cL (cI .i64))) :: .i .i64 (Y1.Tr.length:Int) :: .i .i64 Y0 :: .b (decide (Y0 < (Y1.Tr.length:Int))) :: .i .i64 Y0 :: .ref [.sl ((Y1.Tr.getD Y0.toNat default).map (cI .i64))] 0 :: .sl ((Y1.Tr.getD Y0.toNat default).map (cI .i64)) :: .i .i64 Y3 :: an 36 [],[.box 27 [.sl (Y1.Pq.map Gv.c), .sl (Y1.Tr.map (cL (cI .i64)))], .mapN 2 (mapC Gedge.pr (cI .i64) Y5) none, .vec 113 2 (Ye.map Gedge.cells) false]⟩
set_option maxHeartbeats 1000000 in
theorem Z44 (Y1:Gm) (Y0:Int) (Y7:(List (Gedge × List Int))) (Y9:(List Gedge)) (hp0:Y1.Pq.length≤1073741824) (hp1:Y1.Tr.length≤1073741824) (hp2:∀ t∈Y1.Tr,t.length≤1073741824) (hp3:OkE Y1.Pq.length Y1.Tr) (Zs:0≤Y0) (Z1C:(Y9.length:Int)≤3 * Y0) (Z1p:∀ y∈Y7,(y.2.length:Int)≤3 * Y0) (ZT:(decide (Y0 < (Y1.Tr.length:Int)))=true):∀ (k:Nat) (Y3:Int) (Y5:(List (Gedge × List Int))) (Ye:(List Gedge)) (ZJ:0≤Y3) (Z2o:(Ye.length:Int)≤(Y9.length:Int) + Y3) (Z2p:∀ y∈Y5,(y.2.length:Int)≤3 * Y0 + Y3) (hk:((3:Int) - Y3).toNat < k),Lp prog 0 (sub (X0 f82) [1,1,0,1,0,0,1,1,0,0,1,1,0,0]) (Z43 Y1 Y0 Y7 Y9 Y3 Y5 Ye) (Z25 Y1 Y0 Y7 Y9 (Zc Y1 Y0 Y7 Y9 k Y3 Y5 Ye)).1 (Z25 Y1 Y0 Y7 Y9 (Zc Y1 Y0 Y7 Y9 k Y3 Y5 Ye)).2:=by
 intro k
 induction k with
 | zero=>intro Y3 Y5 Ye ZJ Z2o Z2p hk;exact absurd hk (Nat.not_lt_zero _)
 | succ k ih =>
  intro Y3 Y5 Ye ZJ Z2o Z2p hk
  cases Yr:(decide (Y3 < 3)) with
  | true =>
   have YX:=odt Yr
   have Y13:(0:Int)≤Y3:=(by assumption)
   have Y14:Y3 < ((Y1.Tr.getD Y0.toNat default).length:Int):=(by ((have g5:=odt ZT;have q:=OkE.at hp3 Zs g5 ZJ (odt (by assumption));omega)))
   have YY:(-9223372036854775808:Int)≤(Y3 + 1):=(by omega)
   have YT:(Y3 + 1)≤(9223372036854775807:Int):=(by omega)
   have Y12:(0:Int)≤(Int.tmod (Y3 + 1) 3):=(by ((have g5:=odt ZT;have q:=OkE.at hp3 Zs g5 ZJ (odt (by assumption));omega)))
   have Y19:(Int.tmod (Y3 + 1) 3) < ((Y1.Tr.getD Y0.toNat default).length:Int):=(by ((have g5:=odt ZT;have q:=OkE.at hp3 Zs g5 ZJ (odt (by assumption));omega)))
   have p {a C} (s:Scr a C):=sB Yr<|sK [12,12]<|sG (cI .i64) (Y1.Tr.getD Y0.toNat default) Y3 Y13 Y14<|sI (Y3 + 1) YY YT<|sC (show (3:Int)≠0 from (by decide))<|sQ (Int.tmod (Y3 + 1) 3)<|sG (cI .i64) (Y1.Tr.getD Y0.toNat default) (Int.tmod (Y3 + 1) 3) Y12 Y19<|sF (Z4z ((Y1.Tr.getD Y0.toNat default).getD Y3.toNat default) ((Y1.Tr.getD Y0.toNat default).getD (Int.tmod (Y3 + 1) 3).toNat default))<|s
   cases YB:(mhas Y5 (Z2 Y1 Y0 Y3)) with
   | true =>
    have m__16:=X33 YB
    have q {a C} (s:Scr a C):=p (sA (.keep [midx Y5 (Z2 Y1 Y0 Y3)])<|sC (X3K (ck:=Gedge.pr) (cv:=(cI .i64)) YB)<|sM (X6C (ck:=Gedge.pr) (cv:=(cI .i64)) (l:=Y5) (j:=(midx Y5 (Z2 Y1 Y0 Y3))))<|s)
    clear p
    cases Y11:(((Y5.getD (midx Y5 (Z2 Y1 Y0 Y3)) default).2.length:Int) == 0) with
    | true =>
     have Y1i:=eq_of_beq Y11
     have Y16:Ye.length + ([(Z2 Y1 Y0 Y3)]).length≤1073741824:=by clear q;exact (by ((have g5:=odt ZT;have q:=OkE.at hp3 Zs g5 ZJ (odt (by assumption));(simp only [List.length_append,List.length_cons,List.length_nil];omega))))
     have Y1g:(midx Y5 (Z2 Y1 Y0 Y3)) < Y5.length:=by clear q;exact (by assumption)
     have Y1j:((Y5.getD (midx Y5 (Z2 Y1 Y0 Y3)) default).2).length + ([Y0]).length≤1073741824:=by clear q;exact (by ((have g5:=odt ZT;have q:=OkE.at hp3 Zs g5 ZJ (odt (by assumption));(simp only [List.length_append,List.length_cons,List.length_nil];omega))))
     have e:Zc Y1 Y0 Y7 Y9 (k + 1) Y3 Y5 Ye=(Zc Y1 Y0 Y7 Y9 k (Y3 + 1) (mput Y5 (midx Y5 (Z2 Y1 Y0 Y3)) ((Y5.getD (midx Y5 (Z2 Y1 Y0 Y3)) default).2 ++ [Y0])) (Ye ++ [(Z2 Y1 Y0 Y3)])):=by simp only [Zc,Yr,YB,Y11,cond_true]
     rw [e]
     exact X1m E0Ok Zb [] (mR false [0,2,1,5,2,1,1,9,36]) [0,1,2] (⟨.agg [.sl (Y1.Pq.map Gv.c), .sl (Y1.Tr.map (cL (cI .i64)))] :: .ptr 0 0 0 :: .any :: .nils :: .mp 1 :: .own 2 :: .i .i64 Y0 :: .sl ((Y1.Tr.getD Y0.toNat default).map (cI .i64)) :: .any :: .any :: .mp 1 :: .any :: .ptr 0 0 1 :: .sl (Y1.Tr.map (cL (cI .i64))) :: .i .i64 (Y1.Tr.length:Int) :: .i .i64 Y0 :: .b (decide (Y0 < (Y1.Tr.length:Int))) :: .i .i64 Y0 :: .ref [.sl ((Y1.Tr.getD Y0.toNat default).map (cI .i64))] 0 :: .sl ((Y1.Tr.getD Y0.toNat default).map (cI .i64)) :: .i .i64 (Y3 + 1) :: an 36 [],[.box 27 [.sl (Y1.Pq.map Gv.c), .sl (Y1.Tr.map (cL (cI .i64)))], .mapN 2 (((mapC Gedge.pr (cI .i64) Y5).set (midx Y5 (Z2 Y1 Y0 Y3)) (((mapC Gedge.pr (cI .i64) Y5).getD (midx Y5 (Z2 Y1 Y0 Y3)) default).1,[])).set (midx Y5 (Z2 Y1 Y0 Y3)) ((((mapC Gedge.pr (cI .i64) Y5).set (midx Y5 (Z2 Y1 Y0 Y3)) (((mapC Gedge.pr (cI .i64) Y5).getD (midx Y5 (Z2 Y1 Y0 Y3)) default).1,[])).getD (midx Y5 (Z2 Y1 Y0 Y3)) default).1,(((mapC Gedge.pr (cI .i64) Y5).getD (midx Y5 (Z2 Y1 Y0 Y3)) default).2 ++ ([Y0].map (cI .i64))))) none, .vec 113 2 ((Ye.map Gedge.cells) ++ ([[.i .i64 ((Z2 Y1 Y0 Y3).e0), .i .i64 ((Z2 Y1 Y0 Y3).e1)]]:List (List AV))) false]⟩) (q (sB Y11<|sC (show (Ye.map Gedge.cells).length + ([[.i .i64 ((Z2 Y1 Y0 Y3).e0), .i .i64 ((Z2 Y1 Y0 Y3).e1)]]:List (List AV)).length≤1073741824 from (by simpa using Y16))<|sA (.keep [midx Y5 (Z2 Y1 Y0 Y3)])<|sC (X3K (ck:=Gedge.pr) (cv:=(cI .i64)) YB)<|sC (show (midx Y5 (Z2 Y1 Y0 Y3)) < (mapC Gedge.pr (cI .i64) Y5).length from (by simpa using Y1g))<|sC (show (((mapC Gedge.pr (cI .i64) Y5).getD (midx Y5 (Z2 Y1 Y0 Y3)) default).2).length + ([[.i .i64 Y0]]:List (List AV)).length≤1073741824 from (by simpa using Y1j))<|sA (.keep [(midx Y5 (Z2 Y1 Y0 Y3))])<|sC (show ((midx Y5 (Z2 Y1 Y0 Y3)):Int)=(((midx Y5 (Z2 Y1 Y0 Y3)):Nat):Int) from rfl)<|sC (show (midx Y5 (Z2 Y1 Y0 Y3)) < ((mapC Gedge.pr (cI .i64) Y5).set (midx Y5 (Z2 Y1 Y0 Y3)) (((mapC Gedge.pr (cI .i64) Y5).getD (midx Y5 (Z2 Y1 Y0 Y3)) default).1,[])).length from (by simpa using Y1g))<|sC (show ∀ i,some (midx Y5 (Z2 Y1 Y0 Y3))=some i→i=(midx Y5 (Z2 Y1 Y0 Y3)) from (fun i h=>by cases h;rfl))<|sI (Y3 + 1) YY YT<|sN)) (by kernel_rfl) (show _=⟨.agg [.sl (Y1.Pq.map Gv.c), .sl (Y1.Tr.map (cL (cI .i64)))] :: .ptr 0 0 0 :: .any :: .nils :: .mp 1 :: .own 2 :: .i .i64 Y0 :: .sl ((Y1.Tr.getD Y0.toNat default).map (cI .i64)) :: .any :: .any :: .mp 1 :: .any :: .ptr 0 0 1 :: .sl (Y1.Tr.map (cL (cI .i64))) :: .i .i64 (Y1.Tr.length:Int) :: .i .i64 Y0 :: .b (decide (Y0 < (Y1.Tr.length:Int))) :: .i .i64 Y0 :: .ref [.sl ((Y1.Tr.getD Y0.toNat default).map (cI .i64))] 0 :: .sl ((Y1.Tr.getD Y0.toNat default).map (cI .i64)) :: .i .i64 (Y3 + 1) :: an 36 [],[.box 27 [.sl (Y1.Pq.map Gv.c), .sl (Y1.Tr.map (cL (cI .i64)))], .mapN 2 (mapC Gedge.pr (cI .i64) (mput Y5 (midx Y5 (Z2 Y1 Y0 Y3)) ((Y5.getD (midx Y5 (Z2 Y1 Y0 Y3)) default).2 ++ [Y0]))) none, .vec 113 2 ((Ye ++ [(Z2 Y1 Y0 Y3)]).map Gedge.cells) false]⟩ from (by rw [X6D (X33 YB)];simp [List.map_set,Gedge.cells])) (ih (Y3 + 1) (mput Y5 (midx Y5 (Z2 Y1 Y0 Y3)) ((Y5.getD (midx Y5 (Z2 Y1 Y0 Y3)) default).2 ++ [Y0])) (Ye ++ [(Z2 Y1 Y0 Y3)]) (show 0≤(Y3 + 1) from (by omega)) (show ((Ye ++ [(Z2 Y1 Y0 Y3)]).length:Int)≤(Y9.length:Int) + (Y3 + 1) from (by simp only [List.length_append,List.length_cons,List.length_nil];omega)) (show ∀ y∈(mput Y5 (midx Y5 (Z2 Y1 Y0 Y3)) ((Y5.getD (midx Y5 (Z2 Y1 Y0 Y3)) default).2 ++ [Y0])),(y.2.length:Int)≤3 * Y0 + (Y3 + 1) from (by exact X3j (by assumption) (by omega) (by omega))) (by omega))
    | false =>
     have Y1i:=ne_of_beq_false Y11
     have Y16:(midx Y5 (Z2 Y1 Y0 Y3)) < Y5.length:=by clear q;exact (by assumption)
     have Y1g:((Y5.getD (midx Y5 (Z2 Y1 Y0 Y3)) default).2).length + ([Y0]).length≤1073741824:=by clear q;exact (by ((have g5:=odt ZT;have q:=OkE.at hp3 Zs g5 ZJ (odt (by assumption));(have q3:=X6E (N:=3 * Y0 + Y3) (by omega) (by assumption) (midx Y5 (Z2 Y1 Y0 Y3));simp only [List.length_cons,List.length_nil];omega))))
     have e:Zc Y1 Y0 Y7 Y9 (k + 1) Y3 Y5 Ye=(Zc Y1 Y0 Y7 Y9 k (Y3 + 1) (mput Y5 (midx Y5 (Z2 Y1 Y0 Y3)) ((Y5.getD (midx Y5 (Z2 Y1 Y0 Y3)) default).2 ++ [Y0])) Ye):=by simp only [Zc,Yr,YB,Y11,cond_true,cond_false]
     rw [e]
     exact X1m E0Ok Zb [] (mR false [0,2,1,5,2,1,1,9,36]) [0,1,2] (⟨.agg [.sl (Y1.Pq.map Gv.c), .sl (Y1.Tr.map (cL (cI .i64)))] :: .ptr 0 0 0 :: .any :: .nils :: .mp 1 :: .own 2 :: .i .i64 Y0 :: .sl ((Y1.Tr.getD Y0.toNat default).map (cI .i64)) :: .any :: .any :: .mp 1 :: .any :: .ptr 0 0 1 :: .sl (Y1.Tr.map (cL (cI .i64))) :: .i .i64 (Y1.Tr.length:Int) :: .i .i64 Y0 :: .b (decide (Y0 < (Y1.Tr.length:Int))) :: .i .i64 Y0 :: .ref [.sl ((Y1.Tr.getD Y0.toNat default).map (cI .i64))] 0 :: .sl ((Y1.Tr.getD Y0.toNat default).map (cI .i64)) :: .i .i64 (Y3 + 1) :: an 36 [],[.box 27 [.sl (Y1.Pq.map Gv.c), .sl (Y1.Tr.map (cL (cI .i64)))], .mapN 2 (((mapC Gedge.pr (cI .i64) Y5).set (midx Y5 (Z2 Y1 Y0 Y3)) (((mapC Gedge.pr (cI .i64) Y5).getD (midx Y5 (Z2 Y1 Y0 Y3)) default).1,[])).set (midx Y5 (Z2 Y1 Y0 Y3)) ((((mapC Gedge.pr (cI .i64) Y5).set (midx Y5 (Z2 Y1 Y0 Y3)) (((mapC Gedge.pr (cI .i64) Y5).getD (midx Y5 (Z2 Y1 Y0 Y3)) default).1,[])).getD (midx Y5 (Z2 Y1 Y0 Y3)) default).1,(((mapC Gedge.pr (cI .i64) Y5).getD (midx Y5 (Z2 Y1 Y0 Y3)) default).2 ++ ([Y0].map (cI .i64))))) none, .vec 113 2 (Ye.map Gedge.cells) false]⟩) (q (sB Y11<|sA (.keep [midx Y5 (Z2 Y1 Y0 Y3)])<|sC (X3K (ck:=Gedge.pr) (cv:=(cI .i64)) YB)<|sC (show (midx Y5 (Z2 Y1 Y0 Y3)) < (mapC Gedge.pr (cI .i64) Y5).length from (by simpa using Y16))<|sC (show (((mapC Gedge.pr (cI .i64) Y5).getD (midx Y5 (Z2 Y1 Y0 Y3)) default).2).length + ([[.i .i64 Y0]]:List (List AV)).length≤1073741824 from (by simpa using Y1g))<|sA (.keep [(midx Y5 (Z2 Y1 Y0 Y3))])<|sC (show ((midx Y5 (Z2 Y1 Y0 Y3)):Int)=(((midx Y5 (Z2 Y1 Y0 Y3)):Nat):Int) from rfl)<|sC (show (midx Y5 (Z2 Y1 Y0 Y3)) < ((mapC Gedge.pr (cI .i64) Y5).set (midx Y5 (Z2 Y1 Y0 Y3)) (((mapC Gedge.pr (cI .i64) Y5).getD (midx Y5 (Z2 Y1 Y0 Y3)) default).1,[])).length from (by simpa using Y16))<|sC (show ∀ i,some (midx Y5 (Z2 Y1 Y0 Y3))=some i→i=(midx Y5 (Z2 Y1 Y0 Y3)) from (fun i h=>by cases h;rfl))<|sI (Y3 + 1) YY YT<|sN)) (by kernel_rfl) (show _=⟨.agg [.sl (Y1.Pq.map Gv.c), .sl (Y1.Tr.map (cL (cI .i64)))] :: .ptr 0 0 0 :: .any :: .nils :: .mp 1 :: .own 2 :: .i .i64 Y0 :: .sl ((Y1.Tr.getD Y0.toNat default).map (cI .i64)) :: .any :: .any :: .mp 1 :: .any :: .ptr 0 0 1 :: .sl (Y1.Tr.map (cL (cI .i64))) :: .i .i64 (Y1.Tr.length:Int) :: .i .i64 Y0 :: .b (decide (Y0 < (Y1.Tr.length:Int))) :: .i .i64 Y0 :: .ref [.sl ((Y1.Tr.getD Y0.toNat default).map (cI .i64))] 0 :: .sl ((Y1.Tr.getD Y0.toNat default).map (cI .i64)) :: .i .i64 (Y3 + 1) :: an 36 [],[.box 27 [.sl (Y1.Pq.map Gv.c), .sl (Y1.Tr.map (cL (cI .i64)))], .mapN 2 (mapC Gedge.pr (cI .i64) (mput Y5 (midx Y5 (Z2 Y1 Y0 Y3)) ((Y5.getD (midx Y5 (Z2 Y1 Y0 Y3)) default).2 ++ [Y0]))) none, .vec 113 2 (Ye.map Gedge.cells) false]⟩ from (by rw [X6D (X33 YB)];done)) (ih (Y3 + 1) (mput Y5 (midx Y5 (Z2 Y1 Y0 Y3)) ((Y5.getD (midx Y5 (Z2 Y1 Y0 Y3)) default).2 ++ [Y0])) Ye (show 0≤(Y3 + 1) from (by omega)) (show (Ye.length:Int)≤(Y9.length:Int) + (Y3 + 1) from (by omega)) (show ∀ y∈(mput Y5 (midx Y5 (Z2 Y1 Y0 Y3)) ((Y5.getD (midx Y5 (Z2 Y1 Y0 Y3)) default).2 ++ [Y0])),(y.2.length:Int)≤3 * Y0 + (Y3 + 1) from (by exact X3j (by assumption) (by omega) (by omega))) (by omega))
   | false =>
    have Y16:Ye.length + ([(Z2 Y1 Y0 Y3)]).length≤1073741824:=by clear p;exact (by ((have g5:=odt ZT;have q:=OkE.at hp3 Zs g5 ZJ (odt (by assumption));(simp only [List.length_append,List.length_cons,List.length_nil];omega))))
    have e:Zc Y1 Y0 Y7 Y9 (k + 1) Y3 Y5 Ye=(Zc Y1 Y0 Y7 Y9 k (Y3 + 1) (Y5 ++ [((Z2 Y1 Y0 Y3),[Y0])]) (Ye ++ [(Z2 Y1 Y0 Y3)])):=by simp only [Zc,Yr,YB,cond_true,cond_false]
    rw [e]
    exact X1m E0Ok Zb [] (mR false [0,2,1,5,2,1,1,9,36]) [0,1,2] (⟨.agg [.sl (Y1.Pq.map Gv.c), .sl (Y1.Tr.map (cL (cI .i64)))] :: .ptr 0 0 0 :: .any :: .nils :: .mp 1 :: .own 2 :: .i .i64 Y0 :: .sl ((Y1.Tr.getD Y0.toNat default).map (cI .i64)) :: .any :: .any :: .mp 1 :: .any :: .ptr 0 0 1 :: .sl (Y1.Tr.map (cL (cI .i64))) :: .i .i64 (Y1.Tr.length:Int) :: .i .i64 Y0 :: .b (decide (Y0 < (Y1.Tr.length:Int))) :: .i .i64 Y0 :: .ref [.sl ((Y1.Tr.getD Y0.toNat default).map (cI .i64))] 0 :: .sl ((Y1.Tr.getD Y0.toNat default).map (cI .i64)) :: .i .i64 (Y3 + 1) :: an 36 [],[.box 27 [.sl (Y1.Pq.map Gv.c), .sl (Y1.Tr.map (cL (cI .i64)))], .mapN 2 (((mapC Gedge.pr (cI .i64) Y5) ++ [((Gedge.pr (Z2 Y1 Y0 Y3)),[])]).set (mapC Gedge.pr (cI .i64) Y5).length ((((mapC Gedge.pr (cI .i64) Y5) ++ [((Gedge.pr (Z2 Y1 Y0 Y3)),[])]).getD (mapC Gedge.pr (cI .i64) Y5).length default).1,(([Y0]).map (cI .i64)))) none, .vec 113 2 ((Ye.map Gedge.cells) ++ ([[.i .i64 ((Z2 Y1 Y0 Y3).e0), .i .i64 ((Z2 Y1 Y0 Y3).e1)]]:List (List AV))) false]⟩) (p (sA (.keep [])<|sC (X4M (ck:=Gedge.pr) (cv:=(cI .i64)) Gedge.inj YB)<|sM (show ((0:Nat):Int)=0 from rfl)<|sB (show (0 == 0)=true from rfl)<|sC (show (Ye.map Gedge.cells).length + ([[.i .i64 ((Z2 Y1 Y0 Y3).e0), .i .i64 ((Z2 Y1 Y0 Y3).e1)]]:List (List AV)).length≤1073741824 from (by simpa using Y16))<|sA (.keep [])<|sC (X4M (ck:=Gedge.pr) (cv:=(cI .i64)) Gedge.inj YB)<|sC (show ([[.i .i64 Y0]]:List (List AV))≠[] from (by simp))<|sC (show ([[.i .i64 Y0]]:List (List AV)).length≤1073741824 from (by simp))<|sA (.keep [(mapC Gedge.pr (cI .i64) Y5).length])<|sC (show ((mapC Gedge.pr (cI .i64) Y5).length:Int)=(((mapC Gedge.pr (cI .i64) Y5).length:Nat):Int) from rfl)<|sC (show (mapC Gedge.pr (cI .i64) Y5).length < ((mapC Gedge.pr (cI .i64) Y5) ++ [((Gedge.pr (Z2 Y1 Y0 Y3)),[])]).length from (by simp))<|sC (show ∀ i,(none:Option Nat)=some i→i=(mapC Gedge.pr (cI .i64) Y5).length from (fun i h=>by cases h))<|sI (Y3 + 1) YY YT<|sN)) (by kernel_rfl) (show _=⟨.agg [.sl (Y1.Pq.map Gv.c), .sl (Y1.Tr.map (cL (cI .i64)))] :: .ptr 0 0 0 :: .any :: .nils :: .mp 1 :: .own 2 :: .i .i64 Y0 :: .sl ((Y1.Tr.getD Y0.toNat default).map (cI .i64)) :: .any :: .any :: .mp 1 :: .any :: .ptr 0 0 1 :: .sl (Y1.Tr.map (cL (cI .i64))) :: .i .i64 (Y1.Tr.length:Int) :: .i .i64 Y0 :: .b (decide (Y0 < (Y1.Tr.length:Int))) :: .i .i64 Y0 :: .ref [.sl ((Y1.Tr.getD Y0.toNat default).map (cI .i64))] 0 :: .sl ((Y1.Tr.getD Y0.toNat default).map (cI .i64)) :: .i .i64 (Y3 + 1) :: an 36 [],[.box 27 [.sl (Y1.Pq.map Gv.c), .sl (Y1.Tr.map (cL (cI .i64)))], .mapN 2 (mapC Gedge.pr (cI .i64) (Y5 ++ [((Z2 Y1 Y0 Y3),[Y0])])) none, .vec 113 2 ((Ye ++ [(Z2 Y1 Y0 Y3)]).map Gedge.cells) false]⟩ from (by rw [X8Z];simp [List.map_set,Gedge.cells])) (ih (Y3 + 1) (Y5 ++ [((Z2 Y1 Y0 Y3),[Y0])]) (Ye ++ [(Z2 Y1 Y0 Y3)]) (show 0≤(Y3 + 1) from (by omega)) (show ((Ye ++ [(Z2 Y1 Y0 Y3)]).length:Int)≤(Y9.length:Int) + (Y3 + 1) from (by simp only [List.length_append,List.length_cons,List.length_nil];omega)) (show ∀ y∈(Y5 ++ [((Z2 Y1 Y0 Y3),[Y0])]),(y.2.length:Int)≤3 * Y0 + (Y3 + 1) from (by exact X6F (by assumption) (by omega) (by omega))) (by omega))
  | false =>
   have YX:=odf Yr
   have e:Zc Y1 Y0 Y7 Y9 (k + 1) Y3 Y5 Ye=(Y5,Ye):=by simp only [Zc,Yr,cond_false]
   rw [e]
   exact outR (e:=(.exit 2)) E0Ok Zb [] (mR false [0,2,1,5,2,1,1,8,37]) [0,1,2] (sB Yr<|sN) (by kernel_rfl) (by intro h;cases h)
end Go.Ab
