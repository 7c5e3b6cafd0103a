/- The functions of this seat as plain Lean, and that the program's are these. Printed by a program of the prover's own. -/
import Derived.Test.YtoibkmljibnjnaaB3
set_option linter.unusedVariables false
set_option linter.unusedSimpArgs false
set_option maxRecDepth 100000
namespace Go.Ab
open Go.RowKit Go.Proofs.Try
def Z2g (Yq:Gv) (Yr:Gv):Gv:=(⟨(fop .sub .f32 (fop .mul .f32 Yq.Y Yr.Z) (fop .mul .f32 Yq.Z Yr.Y)),(fop .sub .f32 (fop .mul .f32 Yq.Z Yr.X) (fop .mul .f32 Yq.X Yr.Z)),(fop .sub .f32 (fop .mul .f32 Yq.X Yr.Y) (fop .mul .f32 Yq.Y Yr.X))⟩:Gv)
theorem Z61 (Yq:Gv) (Yr:Gv)   : Fn prog 97 [.agg [.f .f32 Yq.X, .f .f32 Yq.Y, .f .f32 Yq.Z], .agg [.f .f32 Yr.X, .f .f32 Yr.Y, .f .f32 Yr.Z]] (.agg [.f .f32 ((Z2g Yq Yr).X), .f .f32 ((Z2g Yq Yr).Y), .f .f32 ((Z2g Yq Yr).Z)]) []:=by
 refine fnS E0Ok Zc (c:=X5 f97) [] (.agg [.f .f32 (fop .sub .f32 (fop .mul .f32 Yq.Y Yr.Z) (fop .mul .f32 Yq.Z Yr.Y)), .f .f32 (fop .sub .f32 (fop .mul .f32 Yq.Z Yr.X) (fop .mul .f32 Yq.X Yr.Z)), .f .f32 (fop .sub .f32 (fop .mul .f32 Yq.X Yr.Y) (fop .mul .f32 Yq.Y Yr.X))]) [] func97 (sK [] sN) rfl (by kernel_rfl) (by kernel_rfl) rfl ?_ ?_
 · rfl
 · rfl
def Z1W (Yq:Gv) (Yr:Gv):Nat:=(fop .add .f32 (fop .add .f32 (fop .mul .f32 Yq.X Yr.X) (fop .mul .f32 Yq.Y Yr.Y)) (fop .mul .f32 Yq.Z Yr.Z))
theorem Z4C (Yq:Gv) (Yr:Gv)   : Fn prog 53 [.agg [.f .f32 Yq.X, .f .f32 Yq.Y, .f .f32 Yq.Z], .agg [.f .f32 Yr.X, .f .f32 Yr.Y, .f .f32 Yr.Z]] (.f .f32 (Z1W Yq Yr)) []:=by
 refine fnS E0Ok Zc (c:=X5 f53) [] (.f .f32 (fop .add .f32 (fop .add .f32 (fop .mul .f32 Yq.X Yr.X) (fop .mul .f32 Yq.Y Yr.Y)) (fop .mul .f32 Yq.Z Yr.Z))) [] func53 (sK [] sN) rfl (by kernel_rfl) (by kernel_rfl) rfl ?_ ?_
 · rfl
 · rfl
def Z48 (Y7:Gm) (Yn:Int):Gv:=(Z2g (Y7.Pq.getD ((Y7.Tr.getD Yn.toNat default).getD 1 default).toNat default) (Y7.Pq.getD ((Y7.Tr.getD Yn.toNat default).getD 2 default).toNat default))
def Z32 (Y7:Gm) (Yn:Int):Nat:=(fop .quo .f32 (Z1W (Y7.Pq.getD ((Y7.Tr.getD Yn.toNat default).getD 0 default).toNat default) (Z48 Y7 Yn)) 1086324736)
def Z1e (Y7:Gm):Nat→Nat→Int→Nat
  | 0,_,_=>default
  | k + 1,YH,Yn=>(cond (decide (Yn < (Y7.Tr.length:Int)))
    (Z1e Y7 k (fop .add .f32 YH (Z32 Y7 Yn)) (Yn + 1))
    YH)
def Z33 (Y7:Gm) (r:Nat):Ex × St:=((.exit 0),⟨.agg [.sl (Y7.Pq.map Gv.c), .sl (Y7.Tr.map (cL (cI .i64)))] :: .ptr 0 0 0 :: .f .f32 0 :: .f .f32 r :: .any :: .any :: .ptr 0 0 1 :: .sl (Y7.Tr.map (cL (cI .i64))) :: an 33 [],[.box 27 [.sl (Y7.Pq.map Gv.c), .sl (Y7.Tr.map (cL (cI .i64)))]]⟩)
def Z5f (Y7:Gm) (YH:Nat) (Yn:Int):St:=⟨.agg [.sl (Y7.Pq.map Gv.c), .sl (Y7.Tr.map (cL (cI .i64)))] :: .ptr 0 0 0 :: .f .f32 0 :: .f .f32 YH :: .any :: .any :: .ptr 0 0 1 :: .sl (Y7.Tr.map (cL (cI .i64))) :: .i .i64 (Y7.Tr.length:Int) :: .i .i64 Yn :: an 31 [],[.box 27 [.sl (Y7.Pq.map Gv.c), .sl (Y7.Tr.map (cL (cI .i64)))]]⟩
theorem Z5g (Y7:Gm) (hp0:Y7.Pq.length≤1073741824) (hp1:Y7.Tr.length≤1073741824) (hp2:∀ t∈Y7.Tr,t.length≤1073741824) (hp3:Xs Y7.Pq.length Y7.Tr):∀ (k:Nat) (YH:Nat) (Yn:Int) (Z10:0≤Yn) (hk:((Y7.Tr.length:Int) - Yn).toNat < k),Lp prog 0 (sub (X5 f71) [1,1,0,1,0,0]) (Z5f Y7 YH Yn) (Z33 Y7 (Z1e Y7 k YH Yn)).1 (Z33 Y7 (Z1e Y7 k YH Yn)).2:=by
 intro k
 induction k with
 | zero=>intro YH Yn Z10 hk;exact absurd hk (Nat.not_lt_zero _)
 | succ k ih =>
  intro YH Yn Z10 hk
  cases Yk:(decide (Yn < (Y7.Tr.length:Int))) with
  | true =>
   have YL:=odt Yk
   have Yy:(0:Int)≤Yn:=(by assumption)
   have YV:Yn < (Y7.Tr.length:Int):=(by assumption)
   have YZ:(0:Int)≤0:=(by omega)
   have y_3:0 < ((Y7.Tr.getD Yn.toNat default).length:Int):=(by have q:=Xs.at hp3 Z10 (odt Yk);omega)
   have y_4:(0:Int)≤((Y7.Tr.getD Yn.toNat default).getD 0 default):=(by have q:=Xs.at hp3 Z10 (odt Yk);omega)
   have y_5:((Y7.Tr.getD Yn.toNat default).getD 0 default) < (Y7.Pq.length:Int):=(by have q:=Xs.at hp3 Z10 (odt Yk);omega)
   have y_6:(0:Int)≤1:=(by omega)
   have y_7:1 < ((Y7.Tr.getD Yn.toNat default).length:Int):=(by have q:=Xs.at hp3 Z10 (odt Yk);omega)
   have y_8:(0:Int)≤((Y7.Tr.getD Yn.toNat default).getD 1 default):=(by have q:=Xs.at hp3 Z10 (odt Yk);omega)
   have y_9:((Y7.Tr.getD Yn.toNat default).getD 1 default) < (Y7.Pq.length:Int):=(by have q:=Xs.at hp3 Z10 (odt Yk);omega)
   have Y10:(0:Int)≤2:=(by omega)
   have Y11:2 < ((Y7.Tr.getD Yn.toNat default).length:Int):=(by have q:=Xs.at hp3 Z10 (odt Yk);omega)
   have Y12:(0:Int)≤((Y7.Tr.getD Yn.toNat default).getD 2 default):=(by have q:=Xs.at hp3 Z10 (odt Yk);omega)
   have Y16:((Y7.Tr.getD Yn.toNat default).getD 2 default) < (Y7.Pq.length:Int):=(by have q:=Xs.at hp3 Z10 (odt Yk);omega)
   have Y1a:(-9223372036854775808:Int)≤(Yn + 1):=(by omega)
   have Y1g:(Yn + 1)≤(9223372036854775807:Int):=(by omega)
   have e:Z1e Y7 (k + 1) YH Yn=(Z1e Y7 k (fop .add .f32 YH (Z32 Y7 Yn)) (Yn + 1)):=by simp only [Z1e,Yk,cond_true]
   rw [e]
   exact Xo E0Ok Zc [] (mR false [0,4,2,4,31]) [0] (ih (fop .add .f32 YH (Z32 Y7 Yn)) (Yn + 1) (show 0≤(Yn + 1) from (by omega)) (by omega)) (sB Yk<|sG (cL (cI .i64)) Y7.Tr Yn Yy YV<|sK [25,25]<|sG (cI .i64) (Y7.Tr.getD Yn.toNat default) 0 YZ y_3<|sG Gv.c Y7.Pq ((Y7.Tr.getD Yn.toNat default).getD 0 default) y_4 y_5<|sG (cI .i64) (Y7.Tr.getD Yn.toNat default) 1 y_6 y_7<|sG Gv.c Y7.Pq ((Y7.Tr.getD Yn.toNat default).getD 1 default) y_8 y_9<|sG (cI .i64) (Y7.Tr.getD Yn.toNat default) 2 Y10 Y11<|sG Gv.c Y7.Pq ((Y7.Tr.getD Yn.toNat default).getD 2 default) Y12 Y16<|sF (Z61 (Y7.Pq.getD ((Y7.Tr.getD Yn.toNat default).getD 1 default).toNat default) (Y7.Pq.getD ((Y7.Tr.getD Yn.toNat default).getD 2 default).toNat default))<|sF (Z4C (Y7.Pq.getD ((Y7.Tr.getD Yn.toNat default).getD 0 default).toNat default) (Z48 Y7 Yn))<|sI (Yn + 1) Y1a Y1g<|sN) (by kernel_rfl)
  | false =>
   have YL:=odf Yk
   have e:Z1e Y7 (k + 1) YH Yn=YH:=by simp only [Z1e,Yk,cond_false]
   rw [e]
   exact outR (e:=(.exit 0)) E0Ok Zc [] (mR false [0,4,2,2,33]) [0] (sB Yk<|sN) (by kernel_rfl) (by intro h;cases h)
def Z2c (Y7:Gm):Nat:=(Z1e Y7 (((Y7.Tr.length:Int) - 0).toNat + 1) 0 0)
def Zp (Y7:Gm):Nat:=(Z2c Y7)
theorem Z3A (Y7:Gm) (hp0:Y7.Pq.length≤1073741824) (hp1:Y7.Tr.length≤1073741824) (hp2:∀ t∈Y7.Tr,t.length≤1073741824) (hp3:Xs Y7.Pq.length Y7.Tr)  : Fn prog 71 [.agg [.sl (Y7.Pq.map Gv.c), .sl (Y7.Tr.map (cL (cI .i64)))]] (.f .f32 (Zp Y7)) []:=by
 refine fnS E0Ok Zc (c:=X5 f71) [] (.f .f32 (Z2c Y7)) [] func71 (sZ (cL (cI .i64)) Y7.Tr<|sL (mR false [0,4,2,4,31]) 1 (Xl (Z33 Y7) (x:=(Z2c Y7)) (Z5g Y7 hp0 hp1 hp2 hp3 (((Y7.Tr.length:Int) - 0).toNat + 1) 0 0 (show 0≤0 from (by omega)) (Nat.lt_succ_self _)) rfl)<|sK [] sN) rfl (by kernel_rfl) (by kernel_rfl) rfl ?_ ?_
 · rfl
 · rfl
def Zg (Y7:Gm):Nat × Bool:=(cond (Zm Y7)
  ((Zp Y7),true)
  (0,false))
theorem Z22 (Y7:Gm) (hp0:Y7.Pq.length≤1073741824) (hp1:Y7.Tr.length≤1073741824) (hp2:∀ t∈Y7.Tr,t.length≤1073741824)  : Fn prog 21 [.agg [.sl (Y7.Pq.map Gv.c), .sl (Y7.Tr.map (cL (cI .i64)))]] (.tup [.f .f32 ((Zg Y7).1), .b ((Zg Y7).2)]) []:=by
 have p {a C} (s:Scr a C):=sF (Z3t Y7 hp0 hp1 hp2)<|s
 cases h0:(Zm Y7) with
 | true =>
  have y0:Xs Y7.Pq.length Y7.Tr:=by clear p;exact (by exact (Z5H _ (by assumption)).tris)
  refine fnS E0Ok Zc (c:=X5 f21) [] (.tup [.f .f32 (Zp Y7), .b true]) [] func21 (p (sB' h0<|sF (Z3A Y7 hp0 hp1 hp2 y0)<|sK [] sN)) rfl (by kernel_rfl) (by kernel_rfl) rfl ?_ ?_
  · simp only [Zg,h0,cond_true]
  · rfl
 | false =>
  refine fnS E0Ok Zc (c:=X5 f21) [] (.tup [.f .f32 0, .b false]) [] func21 (p (sB' h0<|sK [] sN)) rfl (by kernel_rfl) (by kernel_rfl) rfl ?_ ?_
  · simp only [Zg,h0,cond_false]
  · rfl
def ZC (Yq:Gv) (Yr:Gv):Gv:=(⟨(fop .add .f32 Yq.X Yr.X),(fop .add .f32 Yq.Y Yr.Y),(fop .add .f32 Yq.Z Yr.Z)⟩:Gv)
theorem Z4j (Yq:Gv) (Yr:Gv)   : Fn prog 51 [.agg [.f .f32 Yq.X, .f .f32 Yq.Y, .f .f32 Yq.Z], .agg [.f .f32 Yr.X, .f .f32 Yr.Y, .f .f32 Yr.Z]] (.agg [.f .f32 ((ZC Yq Yr).X), .f .f32 ((ZC Yq Yr).Y), .f .f32 ((ZC Yq Yr).Z)]) []:=by
 refine fnS E0Ok Zc (c:=X5 f51) [] (.agg [.f .f32 (fop .add .f32 Yq.X Yr.X), .f .f32 (fop .add .f32 Yq.Y Yr.Y), .f .f32 (fop .add .f32 Yq.Z Yr.Z)]) [] func51 (sK [] sN) rfl (by kernel_rfl) (by kernel_rfl) rfl ?_ ?_
 · rfl
 · rfl
def Z1w (Yc:(List Gv)):Nat→Int→Nat→Nat→Nat→Nat × Nat × Nat
  | 0,_,_,_,_=>default
  | k + 1,Y6,Yi,YD,YE=>(cond (decide (Y6 < (Yc.length:Int)))
    (Z1w Yc k (Y6 + 1) ((ZC (⟨Yi,YD,YE⟩:Gv) (Yc.getD Y6.toNat default)).X) ((ZC (⟨Yi,YD,YE⟩:Gv) (Yc.getD Y6.toNat default)).Y) ((ZC (⟨Yi,YD,YE⟩:Gv) (Yc.getD Y6.toNat default)).Z))
    (Yi,YD,YE))
def Z3B (Yc:(List Gv)) (r:Nat × Nat × Nat):Ex × St:=((.exit 0),⟨.sl (Yc.map Gv.c) :: .any :: .ptr 0 0 0 :: .ptr 1 0 0 :: .any :: .any :: .agg [.f .f32 0, .f .f32 0, .f .f32 0] :: .sl (Yc.map Gv.c) :: an 10 [],[.box 32 [.f .f32 0, .f .f32 0, .f .f32 0], .box 32 [.f .f32 r.1, .f .f32 r.2.1, .f .f32 r.2.2]]⟩)
def Z5N (Yc:(List Gv)) (Y6:Int) (Yi:Nat) (YD:Nat) (YE:Nat):St:=⟨.sl (Yc.map Gv.c) :: .any :: .ptr 0 0 0 :: .ptr 1 0 0 :: .any :: .any :: .agg [.f .f32 0, .f .f32 0, .f .f32 0] :: .sl (Yc.map Gv.c) :: .i .i64 (Yc.length:Int) :: .i .i64 Y6 :: an 8 [],[.box 32 [.f .f32 0, .f .f32 0, .f .f32 0], .box 32 [.f .f32 Yi, .f .f32 YD, .f .f32 YE]]⟩
theorem Z5O (Yc:(List Gv)) (hp0:Yc.length≤1073741824):∀ (k:Nat) (Y6:Int) (Yi:Nat) (YD:Nat) (YE:Nat) (Z4k:0≤Y6) (hk:((Yc.length:Int) - Y6).toNat < k),Lp prog 0 (sub (X5 f63) [1,1,0,1,0,0]) (Z5N Yc Y6 Yi YD YE) (Z3B Yc (Z1w Yc k Y6 Yi YD YE)).1 (Z3B Yc (Z1w Yc k Y6 Yi YD YE)).2:=by
 intro k
 induction k with
 | zero=>intro Y6 Yi YD YE Z4k hk;exact absurd hk (Nat.not_lt_zero _)
 | succ k ih =>
  intro Y6 Yi YD YE Z4k hk
  cases Yk:(decide (Y6 < (Yc.length:Int))) with
  | true =>
   have YL:=odt Yk
   have Yy:(0:Int)≤Y6:=(by assumption)
   have YV:Y6 < (Yc.length:Int):=(by assumption)
   have YZ:(-9223372036854775808:Int)≤(Y6 + 1):=(by omega)
   have y_3:(Y6 + 1)≤(9223372036854775807:Int):=(by omega)
   have e:Z1w Yc (k + 1) Y6 Yi YD YE=(Z1w Yc k (Y6 + 1) ((ZC (⟨Yi,YD,YE⟩:Gv) (Yc.getD Y6.toNat default)).X) ((ZC (⟨Yi,YD,YE⟩:Gv) (Yc.getD Y6.toNat default)).Y) ((ZC (⟨Yi,YD,YE⟩:Gv) (Yc.getD Y6.toNat default)).Z)):=by simp only [Z1w,Yk,cond_true]
   rw [e]
   exact Xo E0Ok Zc [] (mR false [0,1,1,2,2,4,8]) [0,1] (ih (Y6 + 1) ((ZC (⟨Yi,YD,YE⟩:Gv) (Yc.getD Y6.toNat default)).X) ((ZC (⟨Yi,YD,YE⟩:Gv) (Yc.getD Y6.toNat default)).Y) ((ZC (⟨Yi,YD,YE⟩:Gv) (Yc.getD Y6.toNat default)).Z) (show 0≤(Y6 + 1) from (by omega)) (by omega)) (sB Yk<|sG Gv.c Yc Y6 Yy YV<|sF (Z4j (⟨Yi,YD,YE⟩:Gv) (Yc.getD Y6.toNat default))<|sI (Y6 + 1) YZ y_3<|sN) (by kernel_rfl)
  | false =>
   have YL:=odf Yk
   have e:Z1w Yc (k + 1) Y6 Yi YD YE=(Yi,YD,YE):=by simp only [Z1w,Yk,cond_false]
   rw [e]
   exact outR (e:=(.exit 0)) E0Ok Zc [] (mR false [0,1,1,2,2,2,10]) [0,1] (sB Yk<|sN) (by kernel_rfl) (by intro h;cases h)
def Z1A (Yc:(List Gv)):Nat × Nat × Nat:=(Z1w Yc (((Yc.length:Int) - 0).toNat + 1) 0 0 0 0)
def Z1I (Yc:(List Gv)):Gv:=(⟨(Z1A Yc).1,(Z1A Yc).2.1,(Z1A Yc).2.2⟩:Gv)
theorem Z6k (Yc:(List Gv)) (hp0:Yc.length≤1073741824)  : Fn prog 63 [.sl (Yc.map Gv.c)] (.agg [.f .f32 ((Z1I Yc).X), .f .f32 ((Z1I Yc).Y), .f .f32 ((Z1I Yc).Z)]) []:=by
 refine fnS E0Ok Zc (c:=X5 f63) [] (.agg [.f .f32 ((Z1A Yc).1), .f .f32 ((Z1A Yc).2.1), .f .f32 ((Z1A Yc).2.2)]) [] func63 (sZ Gv.c Yc<|sL (mR false [0,1,1,2,2,4,8]) 2 (Xl (Z3B Yc) (x:=(Z1A Yc)) (Z5O Yc hp0 (((Yc.length:Int) - 0).toNat + 1) 0 0 0 0 (show 0≤0 from (by omega)) (Nat.lt_succ_self _)) rfl)<|sK [] sN) rfl (by kernel_rfl) (by kernel_rfl) rfl ?_ ?_
 · rfl
 · rfl
def ZX (YC:Gv) (YO:Nat):Gv:=(⟨(fop .mul .f32 YC.X YO),(fop .mul .f32 YC.Y YO),(fop .mul .f32 YC.Z YO)⟩:Gv)
theorem Z49 (YC:Gv) (YO:Nat)   : Fn prog 77 [.agg [.f .f32 YC.X, .f .f32 YC.Y, .f .f32 YC.Z], .f .f32 YO] (.agg [.f .f32 ((ZX YC YO).X), .f .f32 ((ZX YC YO).Y), .f .f32 ((ZX YC YO).Z)]) []:=by
 refine fnS E0Ok Zc (c:=X5 f77) [] (.agg [.f .f32 (fop .mul .f32 YC.X YO), .f .f32 (fop .mul .f32 YC.Y YO), .f .f32 (fop .mul .f32 YC.Z YO)]) [] func77 (sK [] sN) rfl (by kernel_rfl) (by kernel_rfl) rfl ?_ ?_
 · rfl
 · rfl
def Zj (Y7:Gm):Gv × Bool:=(cond (Zm Y7)
  (cond ((Y7.Pq.length:Int) == 0)
    ((⟨0,0,0⟩:Gv),false)
    ((ZX (Z1I Y7.Pq) (fop .quo .f32 1065353216 (X4 .f32 (Y7.Pq.length:Int)))),true))
  ((⟨0,0,0⟩:Gv),false))
theorem Z3C (Y7:Gm) (hp0:Y7.Pq.length≤1073741824) (hp1:Y7.Tr.length≤1073741824) (hp2:∀ t∈Y7.Tr,t.length≤1073741824)  : Fn prog 23 [.agg [.sl (Y7.Pq.map Gv.c), .sl (Y7.Tr.map (cL (cI .i64)))]] (.tup [.agg [.f .f32 ((Zj Y7).1.X), .f .f32 ((Zj Y7).1.Y), .f .f32 ((Zj Y7).1.Z)], .b ((Zj Y7).2)]) []:=by
 have p {a C} (s:Scr a C):=sF (Z3t Y7 hp0 hp1 hp2)<|s
 cases h0:(Zm Y7) with
 | true =>
  have q {a C} (s:Scr a C):=p (sB' h0<|sB' h0<|sB' h0<|sZ Gv.c Y7.Pq<|sB' h0<|sB' h0<|s)
  clear p
  cases h1:((Y7.Pq.length:Int) == 0) with
  | true =>
   have gh1:=eq_of_beq h1
   refine fnS E0Ok Zc (c:=X5 f23) [] (.tup [.agg [.f .f32 0, .f .f32 0, .f .f32 0], .b false]) [] func23 (q (sB h1<|sK [] sN)) rfl (by kernel_rfl) (by kernel_rfl) rfl ?_ ?_
   · simp only [Zj,h0,h1,cond_true]
   · rfl
  | false =>
   have gh1:=ne_of_beq_false h1
   refine fnS E0Ok Zc (c:=X5 f23) [] (.tup [.agg [.f .f32 ((ZX (Z1I Y7.Pq) (fop .quo .f32 1065353216 (X4 .f32 (Y7.Pq.length:Int)))).X), .f .f32 ((ZX (Z1I Y7.Pq) (fop .quo .f32 1065353216 (X4 .f32 (Y7.Pq.length:Int)))).Y), .f .f32 ((ZX (Z1I Y7.Pq) (fop .quo .f32 1065353216 (X4 .f32 (Y7.Pq.length:Int)))).Z)], .b true]) [] func23 (q (sB h1<|sK [8,8]<|sF (Z6k Y7.Pq hp0)<|sZ Gv.c Y7.Pq<|sF (Z49 (Z1I Y7.Pq) (fop .quo .f32 1065353216 (X4 .f32 (Y7.Pq.length:Int))))<|sK [] sN)) rfl (by kernel_rfl) (by kernel_rfl) rfl ?_ ?_
   · simp only [Zj,h0,h1,cond_true,cond_false]
   · rfl
 | false =>
  refine fnS E0Ok Zc (c:=X5 f23) [] (.tup [.agg [.f .f32 0, .f .f32 0, .f .f32 0], .b false]) [] func23 (p (sB' h0<|sB' h0<|sB' h0<|sB' h0<|sB' h0<|sB (show true=true from rfl)<|sK [] sN)) rfl (by kernel_rfl) (by kernel_rfl) rfl ?_ ?_
  · simp only [Zj,h0,cond_false]
  · rfl
def ZE (Yd:Nat):Bool:=(fcmp .eql .f32 (fop .sub .f32 Yd Yd) 0)
theorem Z2t (Yd:Nat)   : Fn prog 74 [.f .f32 Yd] (.b (ZE Yd)) []:=by
 refine fnS E0Ok Zc (c:=X5 f74) [] (.b (fcmp .eql .f32 (fop .sub .f32 Yd Yd) 0)) [] func74 (sK [] sN) rfl (by kernel_rfl) (by kernel_rfl) rfl ?_ ?_
 · rfl
 · rfl
def Zn (Yd:Nat):Bool:=(cond (ZE Yd)
  (fcmp .gtr .f32 Yd 0)
  false)
theorem Z2J (Yd:Nat)   : Fn prog 65 [.f .f32 Yd] (.b (Zn Yd)) []:=by
 have p {a C} (s:Scr a C):=sF (Z2t Yd)<|s
 cases h0:(ZE Yd) with
 | true =>
  refine fnS E0Ok Zc (c:=X5 f65) [] (.b (fcmp .gtr .f32 Yd 0)) [] func65 (p (sB h0<|sB h0<|sB h0<|sK [] sN)) rfl (by kernel_rfl) (by kernel_rfl) rfl ?_ ?_
  · simp only [Zn,h0,cond_true]
  · rfl
 | false =>
  refine fnS E0Ok Zc (c:=X5 f65) [] (.b false) [] func65 (p (sB h0<|sB h0<|sB h0<|sK [] sN)) rfl (by kernel_rfl) (by kernel_rfl) rfl ?_ ?_
  · simp only [Zn,h0,cond_false]
  · rfl
def Z1t (Y14:Int):Nat:=(cond (decide (Y14 ≥ 0))
  (cn .f64 (Int.toNat 9218868437227405312))
  (cn .f64 (Int.toNat 18442240474082181120)))
theorem Z5P (Y14:Int)   : Fn prog 114 [.i .i64 Y14] (.f .f64 (Z1t Y14)) []:=by
 cases h0:(decide (Y14 ≥ 0)) with
 | true =>
  have gh0:=odt h0
  have y0:Int.toNat 9218868437227405312 < 2 ^ 64:=(by omega)
  refine fnS E0Ok Zc (c:=X5 f114) [] (.f .f64 (cn .f64 (Int.toNat 9218868437227405312))) [] func114 (sB h0<|sC y0<|sK [] sN) rfl (by kernel_rfl) (by kernel_rfl) rfl ?_ ?_
  · simp only [Z1t,h0,cond_true]
  · rfl
 | false =>
  have gh0:=odf h0
  have y0:Int.toNat 18442240474082181120 < 2 ^ 64:=(by omega)
  refine fnS E0Ok Zc (c:=X5 f114) [] (.f .f64 (cn .f64 (Int.toNat 18442240474082181120))) [] func114 (sB h0<|sC y0<|sK [] sN) rfl (by kernel_rfl) (by kernel_rfl) rfl ?_ ?_
  · simp only [Z1t,h0,cond_false]
  · rfl
def Z14  : Nat:=(cn .f64 (Int.toNat 9221120237041090561))
theorem Z5Q    : Fn prog 115 [] (.f .f64 (Z14)) []:=by
 have y0:Int.toNat 9221120237041090561 < 2 ^ 64:=(by omega)
 refine fnS E0Ok Zc (c:=X5 f115) [] (.f .f64 (cn .f64 (Int.toNat 9221120237041090561))) [] func115 (sC y0<|sK [] sN) rfl (by kernel_rfl) (by kernel_rfl) rfl ?_ ?_
 · rfl
 · rfl
def Z34 (f_0:Nat) (sign_1:Int):Bool:=fcmp .gtr .f64 f_0 9218868437227405311
def ZK (Yy:Nat):Nat→Nat→Int→Nat × Int
  | 0,_,_=>default
  | k + 1,Y1b,YB=>(cond (fcmp .geq .f64 Y1b 4609434218613702656)
    (ZK Yy k (fop .quo .f64 Y1b 4611686018427387904) (YB + 1))
    (Y1b,YB))
def Zu (Yy:Nat):Nat × Int:=(ZK Yy (fld Yy + 1) Yy 0)
def ZP (Yy:Nat):Nat→Nat→Int→Nat × Int
  | 0,_,_=>default
  | k + 1,Y1b,YB=>(cond (fcmp .lss .f64 Y1b 4604930618986332160)
    (ZP Yy k (fop .mul .f64 Y1b 4611686018427387904) (YB - 1))
    (Y1b,YB))
def Ze (Yy:Nat):Nat × Int:=(ZP Yy ((1023 - fld ((Zu Yy).1):Nat) + 1) ((Zu Yy).1) ((Zu Yy).2))
def ZS (Yy:Nat):Nat→Nat→Int→Nat
  | 0,_,_=>default
  | k + 1,YU,Yu=>(cond (decide (Yu ≥ 1))
    (ZS Yy k (fop .add .f64 (fop .quo .f64 4607182418800017408 (X4 .f64 Yu)) (fop .mul .f64 (fop .mul .f64 (fop .quo .f64 (fop .sub .f64 ((Ze Yy).1) 4607182418800017408) (fop .add .f64 ((Ze Yy).1) 4607182418800017408)) (fop .quo .f64 (fop .sub .f64 ((Ze Yy).1) 4607182418800017408) (fop .add .f64 ((Ze Yy).1) 4607182418800017408))) YU)) (Yu - 2))
    YU)
def Z1z (Yy:Nat):Nat:=(ZS Yy ((25 + 1:Int).toNat + Yy + 1) 0 25)
def Zt (Yy:Nat):Nat:=(cond (fcmp .neq .f64 Yy Yy) Z14 (cond (fcmp .lss .f64 Yy 0) Z14 (cond (fcmp .eql .f64 Yy 0) (Z1t (-1)) (cond (Z34 Yy 1) Yy (fop .add .f64 (fop .mul .f64 4611686018427387904 (fop .mul .f64 (fop .quo .f64 (fop .sub .f64 ((Ze Yy).1) 4607182418800017408) (fop .add .f64 ((Ze Yy).1) 4607182418800017408)) (Z1z Yy))) (fop .mul .f64 (X4 .f64 ((Ze Yy).2)) 4604418534313441775))))))
def Z3p (Yd:Nat):Nat:=(Z1V (Zt (fcv .f32 .f64 Yd)))
theorem Z7t (y0:Nat):∀ (k y:Nat) (e:Int),fld y < k→Nw y→Nw (ZK y0 k y e).1∧(ZK y0 k y e).2 + (fld (ZK y0 k y e).1:Int)=e + (fld y:Int)∧fld (ZK y0 k y e).1≤1023:=by
  intro k
  induction k with
  | zero=>intro y e hk;exact absurd hk (Nat.not_lt_zero _)
  | succ k ih =>
    intro y e hk hw
    rw [ZK]
    cases h:fcmp .geq .f64 y 4609434218613702656 with
    | false=>rw [cond_false];exact ⟨hw,rfl,X9H hw h⟩
    | true =>
      have g:=X1Y hw h
      have w:=X1y hw g
      rw [cond_true,X1X hw (by omega)]
      obtain ⟨a,b,c⟩:=ih (y - 4503599627370496) (e + 1) (by omega) w.1
      exact ⟨a,by omega,c⟩
theorem Z62 (y:Nat) (hw:Nw y):Nw (Zu y).1∧(Zu y).2 + (fld (Zu y).1:Int)=(fld y:Int)∧fld (Zu y).1≤1023:=by
  obtain ⟨a,b,c⟩:=Z7t y (fld y + 1) y 0 (Nat.lt_succ_self _) hw
  rw [Int.zero_add] at b
  exact ⟨a,b,c⟩
theorem Z7u (y0:Nat):∀ (k y:Nat) (e:Int),1023 - fld y < k→Nw y→fld y≤1023→Nw (ZP y0 k y e).1∧(ZP y0 k y e).2 + (fld (ZP y0 k y e).1:Int)=e + (fld y:Int)∧1022≤fld (ZP y0 k y e).1∧fld (ZP y0 k y e).1≤1023:=by
  intro k
  induction k with
  | zero=>intro y e hk;exact absurd hk (Nat.not_lt_zero _)
  | succ k ih =>
    intro y e hk hw hl
    rw [ZP]
    cases h:fcmp .lss .f64 y 4604930618986332160 with
    | false=>rw [cond_false];exact ⟨hw,rfl,X9I hw h,hl⟩
    | true =>
      have g:=X2i hw h
      have w:=X2u hw g
      rw [cond_true,X2V hw (by omega)]
      obtain ⟨a,b,c⟩:=ih (y + 4503599627370496) (e - 1) (by omega) w.1 (by omega)
      exact ⟨a,by omega,c⟩
theorem Z6H (y:Nat) (hw:Nw y):Nw (Ze y).1∧(Ze y).2 + (fld (Ze y).1:Int)=(fld y:Int)∧1022≤fld (Ze y).1∧fld (Ze y).1≤1023:=by
  obtain ⟨a,b,c⟩:=Z62 y hw
  obtain ⟨d,e,f⟩:=Z7u y (1023 - fld (Zu y).1 + 1) (Zu y).1 (Zu y).2 (Nat.lt_succ_self _) a c
  rw [b] at e
  exact ⟨d,e,f⟩
theorem Z7v (y:Nat) (hw:Nw y):∀ (n q:Nat) (b:Rat) (k:Int),Vl .f64 q b→-3≤b→b≤3→k≤25→∃ r,Vl .f64 (ZS y n q k) r∧-3≤r∧r≤3:=by
  obtain ⟨a1,-,a3,a4⟩:=Z6H y hw
  obtain ⟨s,s1,s2,s3⟩:=X9U a1 a3 a4
  obtain ⟨u,u1,u2,u3⟩:=XaU s1 s2 s3
  intro n
  induction n with
  | zero=>intro q b k hq h1 h2 hk;exact ⟨0,by show Vl .f64 0 0;unfold Vl;decide +kernel,by decide +kernel,by decide +kernel⟩
  | succ n ih =>
    intro q b k hq h1 h2 hk
    rw [ZS]
    cases h:decide (k ≥ 1) with
    | false=>exact ⟨b,hq,h1,h2⟩
    | true =>
      have h:=odt h
      obtain ⟨r,r1,r2,r3⟩:=X9J u1 u2 u3 hq h1 h2 h hk
      rw [cond_true]
      exact ih _ _ _ r1 r2 r3 (by omega)
theorem Z4D (y:Nat) (hw:Nw y) (hl:800≤fld y) (hu:fld y≤1200):∃ r,Vl .f64 (fop .add .f64 (fop .mul .f64 4611686018427387904 (fop .mul .f64 (fop .quo .f64 (fop .sub .f64 ((Ze y).1) 4607182418800017408) (fop .add .f64 ((Ze y).1) 4607182418800017408)) (Z1z y))) (fop .mul .f64 (X4 .f64 ((Ze y).2)) 4604418534313441775)) r∧-165≤r∧r≤165:=by
  obtain ⟨a1,a2,a3,a4⟩:=Z6H y hw
  obtain ⟨s,s1,s2,s3⟩:=X9U a1 a3 a4
  have z:Vl .f64 0 0:=by unfold Vl;decide +kernel
  obtain ⟨b,b1,b2,b3⟩:=Z7v y hw ((25 + 1:Int).toNat + y + 1) 0 0 25 z (by decide) (by decide) (by omega)
  exact Xaj s1 s2 s3 b1 b2 b3 (by omega) (by omega)
theorem Z4w {y:Nat} (h0:fcmp .neq .f64 y y=false) (h1:fcmp .lss .f64 y 0=false) (h2:fcmp .eql .f64 y 0=false) (h3:Z34 y 1=false):Zt y=fop .add .f64 (fop .mul .f64 4611686018427387904 (fop .mul .f64 (fop .quo .f64 (fop .sub .f64 ((Ze y).1) 4607182418800017408) (fop .add .f64 ((Ze y).1) 4607182418800017408)) (Z1z y))) (fop .mul .f64 (X4 .f64 ((Ze y).2)) 4604418534313441775):=by
  unfold Zt
  rw [h0,cond_false,h1,cond_false,h2,cond_false,h3,cond_false]
theorem Z8A (x:Nat):XG .f64 .f32 (Zt (fcv .f32 .f64 x))=true:=by
  cases h0:fcmp .neq .f64 (fcv .f32 .f64 x) (fcv .f32 .f64 x) with
  | true =>
    have e:Zt (fcv .f32 .f64 x)=Z14:=by unfold Zt;rw [h0,cond_true]
    rw [e];decide +kernel
  | false =>
    cases h1:fcmp .lss .f64 (fcv .f32 .f64 x) 0 with
    | true =>
      have e:Zt (fcv .f32 .f64 x)=Z14:=by unfold Zt;rw [h0,cond_false,h1,cond_true]
      rw [e];decide +kernel
    | false =>
      cases h2:fcmp .eql .f64 (fcv .f32 .f64 x) 0 with
      | true =>
        have e:Zt (fcv .f32 .f64 x)=Z1t (-1):=by unfold Zt;rw [h0,cond_false,h1,cond_false,h2,cond_true]
        rw [e];decide +kernel
      | false =>
        cases h3:Z34 (fcv .f32 .f64 x) 1 with
        | true =>
          have e:Zt (fcv .f32 .f64 x)=fcv .f32 .f64 x:=by unfold Zt;rw [h0,cond_false,h1,cond_false,h2,cond_false,h3,cond_true]
          rw [e,(X4F h3).1];decide +kernel
        | false =>
          obtain ⟨a,b,c⟩:=X7n h0 h1 h2 h3
          obtain ⟨r,r1,r2,r3⟩:=Z4D _ a b c
          rw [Z4w h0 h1 h2 h3]
          exact X5s r1 (by grind) (by grind)
def Z4E:List Nat:=[4627730092099895296,4627167142146473984,4626604192193052672,4626041242239631360,4625478292286210048,4624633867356078080,4623507967449235456,4622382067542392832,4621256167635550208,4619567317775286272,4617315517961601024,4613937818241073152,4607182418800017408,13830554455654793216]
def kIx (w:Nat):Nat:=if w=4627730092099895296 then 13 else if w=4627167142146473984 then 12 else if w=4626604192193052672 then 11 else if w=4626041242239631360 then 10 else if w=4625478292286210048 then 9 else if w=4624633867356078080 then 8 else if w=4623507967449235456 then 7 else if w=4622382067542392832 then 6 else if w=4621256167635550208 then 5 else if w=4619567317775286272 then 4 else if w=4617315517961601024 then 3 else if w=4613937818241073152 then 2 else if w=4607182418800017408 then 1 else if w=13830554455654793216 then 0 else 0
theorem Z5C (w:Nat) (h:w∈Z4E) (g:fcmp .geq .f64 w 4607182418800017408=true):fop .sub .f64 w 4611686018427387904∈Z4E∧kIx (fop .sub .f64 w 4611686018427387904) < kIx w:=by
  simp only [Z4E,List.mem_cons,List.not_mem_nil,or_false] at h
  rcases h with rfl | rfl | rfl | rfl | rfl | rfl | rfl | rfl | rfl | rfl | rfl | rfl | rfl | rfl
  all_goals first | exact ⟨by decide +kernel,by decide +kernel⟩ | exact absurd g (by decide +kernel)
def ZL (Yd:Nat):Nat→Nat→Nat→Nat × Nat
  | 0,_,_=>default
  | k + 1,Y6,YB=>(cond (fcmp .geq .f64 Y6 4609434218613702656)
    (ZL Yd k (fop .quo .f64 Y6 4611686018427387904) (fop .add .f64 YB 4607182418800017408))
    (Y6,YB))
def Z2D (Yd:Nat) (r:Nat × Nat):Ex × St:=((.exit 0),⟨.f .f64 r.1 :: .any :: .f .f64 0 :: .f .f64 r.2 :: an 41 [],[]⟩)
def Z4L (Yd:Nat) (Y6:Nat) (YB:Nat):St:=⟨.f .f64 Y6 :: .any :: .f .f64 0 :: .f .f64 YB :: an 41 [],[]⟩
theorem Z4M (Yd:Nat) (hp0:Nw Yd) (hp1:800≤fld Yd) (hp2:fld Yd≤1200):∀ (k:Nat) (Y6:Nat) (YB:Nat) (Z3g:Nw Y6) (Z3h:800≤fld Y6) (Z3i:fld Y6≤1200) (hk:fld Y6 < k),Lp prog 0 (sub (X5 f116) [1,1,0,0,0]) (Z4L Yd Y6 YB) (Z2D Yd (ZL Yd k Y6 YB)).1 (Z2D Yd (ZL Yd k Y6 YB)).2:=by
 intro k
 induction k with
 | zero=>intro Y6 YB Z3g Z3h Z3i hk;exact absurd hk (Nat.not_lt_zero _)
 | succ k ih =>
  intro Y6 YB Z3g Z3h Z3i hk
  cases Yk:(fcmp .geq .f64 Y6 4609434218613702656) with
  | true =>
   have e:ZL Yd (k + 1) Y6 YB=(ZL Yd k (fop .quo .f64 Y6 4611686018427387904) (fop .add .f64 YB 4607182418800017408)):=by simp only [ZL,Yk,cond_true]
   rw [e]
   exact Xo E0Ok Zc [] (mR false [0,1,1,2,41]) [] (ih (fop .quo .f64 Y6 4611686018427387904) (fop .add .f64 YB 4607182418800017408) (show Nw (fop .quo .f64 Y6 4611686018427387904) from (by have g:=X1Y (by assumption) Yk;have w:=X1y (by assumption) g;rw [X1X (by assumption) (by omega)];exact w.1)) (show 800≤fld (fop .quo .f64 Y6 4611686018427387904) from (by have g:=X1Y (by assumption) Yk;have w:=X1y (by assumption) g;rw [X1X (by assumption) (by omega)];(rw [w.2];omega))) (show fld (fop .quo .f64 Y6 4611686018427387904)≤1200 from (by have g:=X1Y (by assumption) Yk;have w:=X1y (by assumption) g;rw [X1X (by assumption) (by omega)];(rw [w.2];omega))) (by have g:=X1Y (by assumption) Yk;have w:=X1y (by assumption) g;rw [X1X (by assumption) (by omega)];(rw [w.2];omega))) (sB Yk<|sN) (by kernel_rfl)
  | false =>
   have e:ZL Yd (k + 1) Y6 YB=(Y6,YB):=by simp only [ZL,Yk,cond_false]
   rw [e]
   exact outR (e:=(.exit 0)) E0Ok Zc [] (mR false [0,1,1,2,41]) [] (sB Yk<|sN) (by kernel_rfl) (by intro h;cases h)
def ZH (Yd:Nat):Nat × Nat:=(ZL Yd (fld Yd + 1) Yd 0)
theorem Z7g (x0:Nat):∀ (k x:Nat) (e:Nat),fld x < k→Nw x→800≤fld x→fld x≤1200→Nw (ZL x0 k x e).1∧800≤fld (ZL x0 k x e).1∧fld (ZL x0 k x e).1≤1200:=by
  intro k
  induction k with
  | zero=>intro x e hk;exact absurd hk (Nat.not_lt_zero _)
  | succ k ih =>
    intro x e hk hw hl hu
    rw [ZL]
    cases h:fcmp .geq .f64 x 4609434218613702656 with
    | false=>rw [cond_false];exact ⟨hw,hl,hu⟩
    | true =>
      have g:=X1Y hw h
      have w:=X1y hw g
      rw [cond_true,X1X hw (by omega)]
      exact ih _ _ (by omega) w.1 (by omega) (by omega)
theorem Z5I (x:Nat) (hw:Nw x) (hl:800≤fld x) (hu:fld x≤1200):Nw (ZH x).1∧800≤fld (ZH x).1∧fld (ZH x).1≤1200 :=
  Z7g x _ _ _ (Nat.lt_succ_self _) hw hl hu
def Z11 (Yd:Nat):Nat→Nat→Nat→Nat × Nat
  | 0,_,_=>default
  | k + 1,Y6,YB=>(cond (fcmp .lss .f64 Y6 4604930618986332160)
    (Z11 Yd k (fop .mul .f64 Y6 4611686018427387904) (fop .sub .f64 YB 4607182418800017408))
    (Y6,YB))
def Z2E (Yd:Nat) (r:Nat × Nat):Ex × St:=((.exit 2),⟨.f .f64 r.1 :: .any :: .f .f64 0 :: .f .f64 r.2 :: an 41 [],[]⟩)
def Z4N (Yd:Nat) (Y6:Nat) (YB:Nat):St:=⟨.f .f64 Y6 :: .any :: .f .f64 0 :: .f .f64 YB :: an 41 [],[]⟩
theorem Z4O (Yd:Nat) (hp0:Nw Yd) (hp1:800≤fld Yd) (hp2:fld Yd≤1200):∀ (k:Nat) (Y6:Nat) (YB:Nat) (Z3j:Nw Y6) (Z3k:800≤fld Y6) (Z3l:fld Y6≤1200) (hk:(1023 - fld Y6:Nat) < k),Lp prog 0 (sub (X5 f116) [1,1,1,0,0,0]) (Z4N Yd Y6 YB) (Z2E Yd (Z11 Yd k Y6 YB)).1 (Z2E Yd (Z11 Yd k Y6 YB)).2:=by
 intro k
 induction k with
 | zero=>intro Y6 YB Z3j Z3k Z3l hk;exact absurd hk (Nat.not_lt_zero _)
 | succ k ih =>
  intro Y6 YB Z3j Z3k Z3l hk
  cases Yk:(fcmp .lss .f64 Y6 4604930618986332160) with
  | true =>
   have e:Z11 Yd (k + 1) Y6 YB=(Z11 Yd k (fop .mul .f64 Y6 4611686018427387904) (fop .sub .f64 YB 4607182418800017408)):=by simp only [Z11,Yk,cond_true]
   rw [e]
   exact Xo E0Ok Zc [] (mR false [0,1,1,2,41]) [] (ih (fop .mul .f64 Y6 4611686018427387904) (fop .sub .f64 YB 4607182418800017408) (show Nw (fop .mul .f64 Y6 4611686018427387904) from (by have g:=X2i (by assumption) Yk;have w:=X2u (by assumption) g;rw [X2V (by assumption) (by omega)];exact w.1)) (show 800≤fld (fop .mul .f64 Y6 4611686018427387904) from (by have g:=X2i (by assumption) Yk;have w:=X2u (by assumption) g;rw [X2V (by assumption) (by omega)];(rw [w.2];omega))) (show fld (fop .mul .f64 Y6 4611686018427387904)≤1200 from (by have g:=X2i (by assumption) Yk;have w:=X2u (by assumption) g;rw [X2V (by assumption) (by omega)];(rw [w.2];omega))) (by have g:=X2i (by assumption) Yk;have w:=X2u (by assumption) g;rw [X2V (by assumption) (by omega)];(rw [w.2];omega))) (sB Yk<|sN) (by kernel_rfl)
  | false =>
   have e:Z11 Yd (k + 1) Y6 YB=(Y6,YB):=by simp only [Z11,Yk,cond_false]
   rw [e]
   exact outR (e:=(.exit 2)) E0Ok Zc [] (mR false [0,1,1,2,41]) [] (sB Yk<|sN) (by kernel_rfl) (by intro h;cases h)
def Z9 (Yd:Nat):Nat × Nat:=(Z11 Yd ((1023 - fld ((ZH Yd).1):Nat) + 1) ((ZH Yd).1) ((ZH Yd).2))
def ZV (Yd:Nat):Nat→Nat→Nat→Nat
  | 0,_,_=>default
  | k + 1,YU,Yu=>(cond (fcmp .geq .f64 Yu 4607182418800017408)
    (ZV Yd k (fop .add .f64 (fop .quo .f64 4607182418800017408 Yu) (fop .mul .f64 (fop .mul .f64 (fop .quo .f64 (fop .sub .f64 ((Z9 Yd).1) 4607182418800017408) (fop .add .f64 ((Z9 Yd).1) 4607182418800017408)) (fop .quo .f64 (fop .sub .f64 ((Z9 Yd).1) 4607182418800017408) (fop .add .f64 ((Z9 Yd).1) 4607182418800017408))) YU)) (fop .sub .f64 Yu 4611686018427387904))
    YU)
def Z2F (Yd:Nat) (r:Nat):Ex × St:=((.exit 4),⟨.f .f64 ((Z9 Yd).1) :: .any :: .f .f64 0 :: .f .f64 ((Z9 Yd).2) :: .f .f64 (fop .quo .f64 (fop .sub .f64 ((Z9 Yd).1) 4607182418800017408) (fop .add .f64 ((Z9 Yd).1) 4607182418800017408)) :: .any :: .f .f64 r :: an 13 (.f .f64 ((Z9 Yd).1) :: .f .f64 (fop .sub .f64 ((Z9 Yd).1) 4607182418800017408) :: .f .f64 ((Z9 Yd).1) :: .f .f64 (fop .add .f64 ((Z9 Yd).1) 4607182418800017408) :: .f .f64 (fop .quo .f64 (fop .sub .f64 ((Z9 Yd).1) 4607182418800017408) (fop .add .f64 ((Z9 Yd).1) 4607182418800017408)) :: .f .f64 (fop .quo .f64 (fop .sub .f64 ((Z9 Yd).1) 4607182418800017408) (fop .add .f64 ((Z9 Yd).1) 4607182418800017408)) :: .f .f64 (fop .quo .f64 (fop .sub .f64 ((Z9 Yd).1) 4607182418800017408) (fop .add .f64 ((Z9 Yd).1) 4607182418800017408)) :: .f .f64 (fop .mul .f64 (fop .quo .f64 (fop .sub .f64 ((Z9 Yd).1) 4607182418800017408) (fop .add .f64 ((Z9 Yd).1) 4607182418800017408)) (fop .quo .f64 (fop .sub .f64 ((Z9 Yd).1) 4607182418800017408) (fop .add .f64 ((Z9 Yd).1) 4607182418800017408))) :: an 17 []),[]⟩)
def Z4P (Yd:Nat) (YU:Nat) (Yu:Nat):St:=⟨.f .f64 ((Z9 Yd).1) :: .any :: .f .f64 0 :: .f .f64 ((Z9 Yd).2) :: .f .f64 (fop .quo .f64 (fop .sub .f64 ((Z9 Yd).1) 4607182418800017408) (fop .add .f64 ((Z9 Yd).1) 4607182418800017408)) :: .f .f64 (fop .mul .f64 (fop .quo .f64 (fop .sub .f64 ((Z9 Yd).1) 4607182418800017408) (fop .add .f64 ((Z9 Yd).1) 4607182418800017408)) (fop .quo .f64 (fop .sub .f64 ((Z9 Yd).1) 4607182418800017408) (fop .add .f64 ((Z9 Yd).1) 4607182418800017408))) :: .f .f64 YU :: .f .f64 Yu :: an 12 (.f .f64 ((Z9 Yd).1) :: .f .f64 (fop .sub .f64 ((Z9 Yd).1) 4607182418800017408) :: .f .f64 ((Z9 Yd).1) :: .f .f64 (fop .add .f64 ((Z9 Yd).1) 4607182418800017408) :: .f .f64 (fop .quo .f64 (fop .sub .f64 ((Z9 Yd).1) 4607182418800017408) (fop .add .f64 ((Z9 Yd).1) 4607182418800017408)) :: .f .f64 (fop .quo .f64 (fop .sub .f64 ((Z9 Yd).1) 4607182418800017408) (fop .add .f64 ((Z9 Yd).1) 4607182418800017408)) :: .f .f64 (fop .quo .f64 (fop .sub .f64 ((Z9 Yd).1) 4607182418800017408) (fop .add .f64 ((Z9 Yd).1) 4607182418800017408)) :: .f .f64 (fop .mul .f64 (fop .quo .f64 (fop .sub .f64 ((Z9 Yd).1) 4607182418800017408) (fop .add .f64 ((Z9 Yd).1) 4607182418800017408)) (fop .quo .f64 (fop .sub .f64 ((Z9 Yd).1) 4607182418800017408) (fop .add .f64 ((Z9 Yd).1) 4607182418800017408))) :: an 17 []),[]⟩
def Z4x:List Bool:=(mR false [0,1,1,3,1,1,13,8,17])
theorem Z4Q (Yd:Nat) (hp0:Nw Yd) (hp1:800≤fld Yd) (hp2:fld Yd≤1200):∀ (k:Nat) (YU:Nat) (Yu:Nat) (Z3m:Yu∈Z4E) (hk:kIx Yu + Yd < k),Lp prog 0 (sub (X5 f116) [1,1,1,1,1,1,1,0,1,0,0]) (Z4P Yd YU Yu) (Z2F Yd (ZV Yd k YU Yu)).1 (Z2F Yd (ZV Yd k YU Yu)).2:=by
 intro k
 induction k with
 | zero=>intro YU Yu Z3m hk;exact absurd hk (Nat.not_lt_zero _)
 | succ k ih =>
  intro YU Yu Z3m hk
  cases Yk:(fcmp .geq .f64 Yu 4607182418800017408) with
  | true =>
   have e:ZV Yd (k + 1) YU Yu=(ZV Yd k (fop .add .f64 (fop .quo .f64 4607182418800017408 Yu) (fop .mul .f64 (fop .mul .f64 (fop .quo .f64 (fop .sub .f64 ((Z9 Yd).1) 4607182418800017408) (fop .add .f64 ((Z9 Yd).1) 4607182418800017408)) (fop .quo .f64 (fop .sub .f64 ((Z9 Yd).1) 4607182418800017408) (fop .add .f64 ((Z9 Yd).1) 4607182418800017408))) YU)) (fop .sub .f64 Yu 4611686018427387904)):=by simp only [ZV,Yk,cond_true]
   rw [e]
   exact Xo E0Ok Zc [] (mR false [0,1,1,6,12,8,17]) [] (ih (fop .add .f64 (fop .quo .f64 4607182418800017408 Yu) (fop .mul .f64 (fop .mul .f64 (fop .quo .f64 (fop .sub .f64 ((Z9 Yd).1) 4607182418800017408) (fop .add .f64 ((Z9 Yd).1) 4607182418800017408)) (fop .quo .f64 (fop .sub .f64 ((Z9 Yd).1) 4607182418800017408) (fop .add .f64 ((Z9 Yd).1) 4607182418800017408))) YU)) (fop .sub .f64 Yu 4611686018427387904) (show (fop .sub .f64 Yu 4611686018427387904)∈Z4E from (by exact (Z5C _ (by assumption) Yk).1)) (by (have q:=(Z5C _ (by assumption) Yk).2;omega))) (sB Yk<|sN) (by kernel_rfl)
  | false =>
   have e:ZV Yd (k + 1) YU Yu=YU:=by simp only [ZV,Yk,cond_false]
   rw [e]
   exact outR (e:=(.exit 4)) E0Ok Zc [] Z4x [] (sB Yk<|sN) (by kernel_rfl) (by intro h;cases h)
def Z1Y (Yd:Nat):Nat:=(ZV Yd (kIx 4627730092099895296 + Yd + 1) 0 4627730092099895296)
def Z1k (Yd:Nat):Nat:=(fop .add .f64 (fop .mul .f64 4611686018427387904 (fop .mul .f64 (fop .quo .f64 (fop .sub .f64 ((Z9 Yd).1) 4607182418800017408) (fop .add .f64 ((Z9 Yd).1) 4607182418800017408)) (Z1Y Yd))) (fop .mul .f64 ((Z9 Yd).2) 4604418534313441775))
theorem Z5s (Yd:Nat) (hp0:Nw Yd) (hp1:800≤fld Yd) (hp2:fld Yd≤1200)  : Fn prog 116 [.f .f64 Yd] (.f .f64 (Z1k Yd)) []:=by
 refine fnS E0Ok Zc (c:=X5 f116) [] (.f .f64 (fop .add .f64 (fop .mul .f64 4611686018427387904 (fop .mul .f64 (fop .quo .f64 (fop .sub .f64 ((Z9 Yd).1) 4607182418800017408) (fop .add .f64 ((Z9 Yd).1) 4607182418800017408)) (Z1Y Yd))) (fop .mul .f64 ((Z9 Yd).2) 4604418534313441775))) [] func116 (sL (mR false [0,1,1,2,41]) 0 (Xl (Z2D Yd) (x:=(ZH Yd)) (Z4M Yd hp0 hp1 hp2 (fld Yd + 1) Yd 0 (show Nw Yd from (by assumption)) (show 800≤fld Yd from (by assumption)) (show fld Yd≤1200 from (by assumption)) (Nat.lt_succ_self _)) rfl)<|sL (mR false [0,1,1,2,41]) 0 (Xl (Z2E Yd) (x:=(Z9 Yd)) (Z4O Yd hp0 hp1 hp2 ((1023 - fld ((ZH Yd).1):Nat) + 1) ((ZH Yd).1) ((ZH Yd).2) (show Nw ((ZH Yd).1) from (by exact (Z5I Yd (by assumption) (by assumption) (by assumption)).1)) (show 800≤fld ((ZH Yd).1) from (by exact (Z5I Yd (by assumption) (by assumption) (by assumption)).2.1)) (show fld ((ZH Yd).1)≤1200 from (by exact (Z5I Yd (by assumption) (by assumption) (by assumption)).2.2)) (Nat.lt_succ_self _)) rfl)<|sL (mR false [0,1,1,6,12,8,17]) 0 (Xl (Z2F Yd) (x:=(Z1Y Yd)) (Z4Q Yd hp0 hp1 hp2 (kIx 4627730092099895296 + Yd + 1) 0 4627730092099895296 (show 4627730092099895296∈Z4E from (by decide)) (Nat.lt_succ_self _)) rfl)<|sK [] sN) rfl (by kernel_rfl) (by kernel_rfl) rfl ?_ ?_
 · rfl
 · rfl
theorem Z7W (x0 y0:Nat):∀ (k y:Nat) (e:Int),fld y < k→Nw y→0≤e→e + (fld y:Int)≤1200→800≤fld y→ZL x0 k y (X4 .f64 e)=((ZK y0 k y e).1,X4 .f64 (ZK y0 k y e).2)∧0≤(ZK y0 k y e).2∧(ZK y0 k y e).2≤400:=by
  intro k
  induction k with
  | zero=>intro y e hk;exact absurd hk (Nat.not_lt_zero _)
  | succ k ih =>
    intro y e hk hw he hu hf
    rw [ZK,ZL]
    cases h:fcmp .geq .f64 y 4609434218613702656 with
    | false=>rw [cond_false,cond_false];exact ⟨rfl,he,by simp only;omega⟩
    | true =>
      have g:=X1Y hw h
      have w:=X1y hw g
      have o:=X8y e.toNat (by omega)
      rw [show ((e.toNat:Nat):Int)=e from by omega] at o
      rw [cond_true,cond_true,X1X hw (by omega),o]
      exact ih _ _ (by omega) w.1 (by omega) (by omega) (by omega)
theorem Z7X (x0 y0:Nat):∀ (k y:Nat) (e:Int),1023 - fld y < k→Nw y→fld y≤1023→e≤1100→800≤e + (fld y:Int)→Z11 x0 k y (X4 .f64 e)=((ZP y0 k y e).1,X4 .f64 (ZP y0 k y e).2):=by
  intro k
  induction k with
  | zero=>intro y e hk;exact absurd hk (Nat.not_lt_zero _)
  | succ k ih =>
    intro y e hk hw hl hu hb
    rw [ZP,Z11]
    cases h:fcmp .lss .f64 y 4604930618986332160 with
    | false=>rw [cond_false,cond_false]
    | true =>
      have g:=X2i hw h
      have w:=X2u hw g
      have o:=X8z (1100 - e).toNat (by omega)
      rw [show 1100 - (((1100 - e).toNat:Nat):Int)=e from by omega,show 1099 - (((1100 - e).toNat:Nat):Int)=e - 1 from by omega] at o
      rw [cond_true,cond_true,X2V hw (by omega),o]
      exact ih _ _ (by omega) w.1 (by omega) (by omega) (by omega)
theorem Z7h (y:Nat) (hw:Nw y) (hl:800≤fld y) (hu:fld y≤1200):ZH y=((Zu y).1,X4 .f64 (Zu y).2)∧0≤(Zu y).2∧(Zu y).2≤400:=by
  have h:=Z7W y y (fld y + 1) y 0 (Nat.lt_succ_self _) hw (Int.le_refl 0) (by omega) hl
  rw [show X4 .f64 0=0 from by decide +kernel] at h
  exact h
theorem Z6l (y:Nat) (hw:Nw y) (hl:800≤fld y) (hu:fld y≤1200):Z9 y=((Ze y).1,X4 .f64 (Ze y).2):=by
  obtain ⟨h1,h2,h3⟩:=Z7h y hw hl hu
  obtain ⟨a,b,c⟩:=Z62 y hw
  unfold Z9
  rw [h1]
  exact Z7X y y (1023 - fld (Zu y).1 + 1) (Zu y).1 (Zu y).2 (Nat.lt_succ_self _) a c (by omega) (by omega)
theorem Z74:∀ j:Nat,j < 14→fcmp .geq .f64 (X4 .f64 (2 * (j:Int) - 1)) 4607182418800017408=decide (2 * (j:Int) - 1 ≥ 1)∧(0 < j→fop .sub .f64 (X4 .f64 (2 * (j:Int) - 1)) 4611686018427387904=X4 .f64 (2 * ((j - 1:Nat):Int) - 1)):=by
  have h:(List.range 14).all (fun j=>(fcmp .geq .f64 (X4 .f64 (2 * (j:Int) - 1)) 4607182418800017408 == decide (2 * (j:Int) - 1 ≥ 1)) && (j == 0 || fop .sub .f64 (X4 .f64 (2 * (j:Int) - 1)) 4611686018427387904 == X4 .f64 (2 * ((j - 1:Nat):Int) - 1)))=true:=by decide +kernel
  intro j hj
  have q:=(List.all_eq_true.1 h) j (List.mem_range.2 hj)
  rw [Bool.and_eq_true,Bool.or_eq_true,beq_iff_eq,beq_iff_eq,beq_iff_eq] at q
  exact ⟨q.1,fun h0=>q.2.resolve_left (by omega)⟩
theorem Z7Y (y:Nat) (hw:Nw y) (hl:800≤fld y) (hu:fld y≤1200):∀ (j:Nat),j < 14→∀ (m n q:Nat),j < m→j < n→ZV y m q (X4 .f64 (2 * (j:Int) - 1))=ZS y n q (2 * (j:Int) - 1):=by
  have e2:(Z9 y).1=(Ze y).1:=by rw [Z6l y hw hl hu]
  intro j
  induction j with
  | zero =>
    intro hj m n q hm hn
    obtain ⟨m,rfl⟩:∃ k,m=k + 1:=⟨m - 1,by omega⟩
    obtain ⟨n,rfl⟩:∃ k,n=k + 1:=⟨n - 1,by omega⟩
    rw [ZV,ZS,(Z74 0 hj).1,decide_eq_false (by omega),cond_false,cond_false]
  | succ j ih =>
    intro hj m n q hm hn
    obtain ⟨m,rfl⟩:∃ k,m=k + 1:=⟨m - 1,by omega⟩
    obtain ⟨n,rfl⟩:∃ k,n=k + 1:=⟨n - 1,by omega⟩
    have g:=Z74 (j + 1) hj
    have g2:=g.2 (by omega)
    rw [Nat.add_sub_cancel] at g2
    rw [ZV,ZS,g.1,decide_eq_true (by omega),cond_true,cond_true,g2,e2,show 2 * (((j + 1:Nat)):Int) - 1 - 2=2 * (j:Int) - 1 from by omega]
    exact ih (by omega) m n _ (by omega) (by omega)
theorem Z7i (y:Nat) (hw:Nw y) (hl:800≤fld y) (hu:fld y≤1200):Z1Y y=Z1z y:=by
  have h:=Z7Y y hw hl hu 13 (by omega) (kIx 4627730092099895296 + y + 1) ((25 + 1:Int).toNat + y + 1) 0 (by rw [show kIx 4627730092099895296=13 from by decide];omega) (by omega)
  rw [show X4 .f64 (2 * ((13:Nat):Int) - 1)=4627730092099895296 from by decide +kernel] at h
  exact h
theorem Z2K (y:Nat) (hw:Nw y) (hl:800≤fld y) (hu:fld y≤1200):Z1k y=fop .add .f64 (fop .mul .f64 4611686018427387904 (fop .mul .f64 (fop .quo .f64 (fop .sub .f64 ((Ze y).1) 4607182418800017408) (fop .add .f64 ((Ze y).1) 4607182418800017408)) (Z1z y))) (fop .mul .f64 (X4 .f64 ((Ze y).2)) 4604418534313441775):=by
  unfold Z1k
  rw [Z7i y hw hl hu,Z6l y hw hl hu]
theorem Z63 {x:Nat} (h0:fcmp .eql .f32 x 0=false) (h1:fcmp .lss .f32 x 0=false) (h3:fcmp .eql .f32 (fop .sub .f32 x x) 0=true):XG .f64 .f32 (Z1k (fcv .f32 .f64 x))=true:=by
  obtain ⟨a,b,c⟩:=X4d (X2j h0 h1 h3) h3
  obtain ⟨r,r1,r2,r3⟩:=Z4D _ a b c
  rw [Z2K _ a b c]
  exact X5s r1 (by grind) (by grind)
def Zl (Yd:Nat):Nat:=(cond (fcmp .eql .f32 Yd 0)
  (fcv .f64 .f32 (Z1t (-1)))
  (cond (fcmp .lss .f32 Yd 0)
    (fcv .f64 .f32 (Z14))
    (cond (fcmp .neq .f32 Yd Yd)
      (fcv .f64 .f32 (Z14))
      (cond (ZE Yd)
        (fcv .f64 .f32 (Z1k (fcv .f32 .f64 Yd)))
        Yd))))
theorem Z4t (Yd:Nat)   : Fn prog 73 [.f .f32 Yd] (.f .f32 (Zl Yd)) []:=by
 cases h0:(fcmp .eql .f32 Yd 0) with
 | true =>
  have y0:XG .f64 .f32 (Z1t (-1))=true:=(by decide +kernel)
  have hv:Zl Yd=(fcv .f64 .f32 (Z1t (-1))):=by unfold Zl;rw [h0,cond_true]
  refine fnS E0Ok Zc (c:=X5 f73) [] (.f .f32 (fcv .f64 .f32 (Z1t (-1)))) [] func73 (sB h0<|sF (Z5P (-1))<|sC y0<|sK [] sN) rfl (by kernel_rfl) (by kernel_rfl) rfl ?_ ?_
  · rw [hv]
  · rfl
 | false =>
  have p {a C} (s:Scr a C):=sB h0<|s
  cases h1:(fcmp .lss .f32 Yd 0) with
  | true =>
   have y0:XG .f64 .f32 (Z14)=true:=by clear p;exact (by decide +kernel)
   have hv:Zl Yd=(fcv .f64 .f32 (Z14)):=by unfold Zl;rw [h0,cond_false,h1,cond_true]
   refine fnS E0Ok Zc (c:=X5 f73) [] (.f .f32 (fcv .f64 .f32 (Z14))) [] func73 (p (sB h1<|sB h1<|sB h1<|sB h1<|sB (show true=true from rfl)<|sF (Z5Q )<|sC y0<|sK [] sN)) rfl (by kernel_rfl) (by kernel_rfl) rfl ?_ ?_
   · rw [hv]
   · rfl
  | false =>
   have q {a C} (s:Scr a C):=p (sB h1<|sB h1<|sB h1<|sB h1<|s)
   clear p
   cases h2:(fcmp .neq .f32 Yd Yd) with
   | true =>
    have y0:XG .f64 .f32 (Z14)=true:=by clear q;exact (by decide +kernel)
    have hv:Zl Yd=(fcv .f64 .f32 (Z14)):=by unfold Zl;rw [h0,cond_false,h1,cond_false,h2,cond_true]
    refine fnS E0Ok Zc (c:=X5 f73) [] (.f .f32 (fcv .f64 .f32 (Z14))) [] func73 (q (sB h2<|sF (Z5Q )<|sC y0<|sK [] sN)) rfl (by kernel_rfl) (by kernel_rfl) rfl ?_ ?_
    · rw [hv]
    · rfl
   | false =>
    have p {a C} (s:Scr a C):=q (sB h2<|sF (Z2t Yd)<|s)
    clear q
    cases h3:(ZE Yd) with
    | true =>
     have y0:Nw (fcv .f32 .f64 Yd):=by clear p;exact (by exact (X4d (X2j h0 h1 h3) h3).1)
     have y1:800≤fld (fcv .f32 .f64 Yd):=by clear p;exact (by exact (X4d (X2j h0 h1 h3) h3).2.1)
     have y2:fld (fcv .f32 .f64 Yd)≤1200:=by clear p;exact (by exact (X4d (X2j h0 h1 h3) h3).2.2)
     have y3:XG .f64 .f32 (Z1k (fcv .f32 .f64 Yd))=true:=by clear p;exact (by exact Z63 h0 h1 h3)
     have hv:Zl Yd=(fcv .f64 .f32 (Z1k (fcv .f32 .f64 Yd))):=by unfold Zl;rw [h0,cond_false,h1,cond_false,h2,cond_false,h3,cond_true]
     refine fnS E0Ok Zc (c:=X5 f73) [] (.f .f32 (fcv .f64 .f32 (Z1k (fcv .f32 .f64 Yd)))) [] func73 (p (sB' h3<|sC (Xb Yd)<|sF (Z5s (fcv .f32 .f64 Yd) y0 y1 y2)<|sC y3<|sK [] sN)) rfl (by kernel_rfl) (by kernel_rfl) rfl ?_ ?_
     · rw [hv]
     · rfl
    | false =>
     have hv:Zl Yd=Yd:=by unfold Zl;rw [h0,cond_false,h1,cond_false,h2,cond_false,h3,cond_false]
     refine fnS E0Ok Zc (c:=X5 f73) [] (.f .f32 Yd) [] func73 (p (sB' h3<|sK [] sN)) rfl (by kernel_rfl) (by kernel_rfl) rfl ?_ ?_
     · rw [hv]
     · rfl
theorem Z6m (x:Nat) (hx:x < 4294967296∨ZE x=true):Zl x=Z3p x:=by
  unfold Z3p Z1V
  have hf:=X2f x
  have r0:FloatKind.f32.format.read 0 = .number false 0 (-149):=by decide +kernel
  cases hr:Ieee.single.read x with
  | nan s t =>
    rw [hr] at hf
    have hf:fcv .f32 .f64 x=Xn .f64:=hf
    have a0:fcmp .eql .f32 x 0=false:=by show ((Ieee.single.read x).order (FloatKind.f32.format.read 0) == some .eq)=false;rw [hr];rfl
    have a1:fcmp .lss .f32 x 0=false:=by show ((Ieee.single.read x).order (FloatKind.f32.format.read 0) == some .lt)=false;rw [hr];rfl
    have a2:fcmp .neq .f32 x x=true:=by show ((Ieee.single.read x).order (Ieee.single.read x) != some .eq)=true;rw [hr];rfl
    have e:Zl x=fcv .f64 .f32 Z14:=by unfold Zl;rw [a0,cond_false,a1,cond_false,a2,cond_true]
    have e2:Zt (fcv .f32 .f64 x)=Z14:=by
      unfold Zt
      rw [hf,show fcmp .neq .f64 (Xn .f64) (Xn .f64)=true from by decide +kernel,cond_true]
    rw [e,e2]
  | infinity s =>
    rw [hr] at hf
    cases s with
    | true =>
      have hf:fcv .f32 .f64 x=18442240474082181120:=hf
      have a0:fcmp .eql .f32 x 0=false:=by show ((Ieee.single.read x).order (FloatKind.f32.format.read 0) == some .eq)=false;rw [hr,r0];rfl
      have a1:fcmp .lss .f32 x 0=true:=by show ((Ieee.single.read x).order (FloatKind.f32.format.read 0) == some .lt)=true;rw [hr,r0];rfl
      have e:Zl x=fcv .f64 .f32 Z14:=by unfold Zl;rw [a0,cond_false,a1,cond_true]
      have e2:Zt (fcv .f32 .f64 x)=Z14:=by
        unfold Zt
        rw [hf,show fcmp .neq .f64 18442240474082181120 18442240474082181120=false from by decide +kernel,cond_false,show fcmp .lss .f64 18442240474082181120 0=true from by decide +kernel,cond_true]
      rw [e,e2]
    | false =>
      have hf:fcv .f32 .f64 x=9218868437227405312:=hf
      have hx:x < 4294967296:=by
        refine hx.elim id fun hx => ?_
        exfalso
        have hs:(FloatKind.f32.format.read x).sum (FloatKind.f32.format.read x).opposite=none:=by
          have hr':FloatKind.f32.format.read x = .infinity false:=hr
          rw [hr'];rfl
        exact X9c hx (X5N hs)
      have hxe:x=2139095040:=by
        have hs:Ieee.single.signWeight=2147483648:=by decide +kernel
        have hb:Ieee.single.binade=8388608:=by decide +kernel
        have hi:Ieee.single.infRung=2139095040:=by decide +kernel
        unfold Ieee.Format.read at hr
        rw [hs,hb,hi] at hr
        simp only at hr
        split at hr
        · cases hr
        · split at hr
          · cases hr
          · split at hr
            · rename_i q
              simp only [Ieee.Datum.infinity.injEq,beq_eq_false_iff_ne] at hr
              omega
            · cases hr
      subst hxe
      decide +kernel
  | number s m e =>
    have hv:Vl .f32 x (sg s * ((m:Rat) * (2:Rat) ^ e)):=by show vl (Ieee.single.read x)=_;rw [hr];rfl
    generalize sg s * ((m:Rat) * (2:Rat) ^ e)=v at hv
    have z:Vl .f32 0 0:=by unfold Vl;decide +kernel
    have z6:Vl .f64 0 0:=by unfold Vl;decide +kernel
    have hw:=XI hv
    have n0:fcmp .neq .f64 (fcv .f32 .f64 x) (fcv .f32 .f64 x)=false:=by
      have e:fcmp .neq .f64 (fcv .f32 .f64 x) (fcv .f32 .f64 x)=!(fcmp .eql .f64 (fcv .f32 .f64 x) (fcv .f32 .f64 x)):=rfl
      rw [e,eqlV hw hw,decide_eq_true rfl];rfl
    have n2:fcmp .neq .f32 x x=false:=by
      have e:fcmp .neq .f32 x x=!(fcmp .eql .f32 x x):=rfl
      rw [e,eqlV hv hv,decide_eq_true rfl];rfl
    have i3:ZE x=true:=by
      unfold ZE
      rw [eqlV (X5O hv) z];rfl
    have tri:v < 0∨v=0∨0 < v:=by grind
    rcases tri with h | h | h
    · have a0:fcmp .eql .f32 x 0=false:=by rw [eqlV hv z];exact decide_eq_false (by grind)
      have a1:fcmp .lss .f32 x 0=true:=by rw [lssV hv z];exact decide_eq_true h
      have b1:fcmp .lss .f64 (fcv .f32 .f64 x) 0=true:=by rw [lssV hw z6];exact decide_eq_true h
      have e:Zl x=fcv .f64 .f32 Z14:=by unfold Zl;rw [a0,cond_false,a1,cond_true]
      have e2:Zt (fcv .f32 .f64 x)=Z14:=by unfold Zt;rw [n0,cond_false,b1,cond_true]
      rw [e,e2]
    · have a0:fcmp .eql .f32 x 0=true:=by rw [eqlV hv z];exact decide_eq_true h
      have b1:fcmp .lss .f64 (fcv .f32 .f64 x) 0=false:=by rw [lssV hw z6];exact decide_eq_false (by grind)
      have b2:fcmp .eql .f64 (fcv .f32 .f64 x) 0=true:=by rw [eqlV hw z6];exact decide_eq_true h
      have e:Zl x=fcv .f64 .f32 (Z1t (-1)):=by unfold Zl;rw [a0,cond_true]
      have e2:Zt (fcv .f32 .f64 x)=Z1t (-1):=by unfold Zt;rw [n0,cond_false,b1,cond_false,b2,cond_true]
      rw [e,e2]
    · have a0:fcmp .eql .f32 x 0=false:=by rw [eqlV hv z];exact decide_eq_false (by grind)
      have a1:fcmp .lss .f32 x 0=false:=by rw [lssV hv z];exact decide_eq_false (by grind)
      have b1:fcmp .lss .f64 (fcv .f32 .f64 x) 0=false:=by rw [lssV hw z6];exact decide_eq_false (by grind)
      have b2:fcmp .eql .f64 (fcv .f32 .f64 x) 0=false:=by rw [eqlV hw z6];exact decide_eq_false (by grind)
      have b3:Z34 (fcv .f32 .f64 x) 1=false:=by
        refine Bool.eq_false_iff.2 fun hc => ?_
        have:=(X4F hc).2
        rw [hr] at this;cases this
      obtain ⟨c1,c2,c3⟩:=X4d (X2j a0 a1 i3) i3
      have e:Zl x=fcv .f64 .f32 (Z1k (fcv .f32 .f64 x)):=by unfold Zl;rw [a0,cond_false,a1,cond_false,n2,cond_false,i3,cond_true]
      rw [e,Z4w n0 b1 b2 b3,Z2K _ c1 c2 c3]
def ZT (Yy:Nat):Nat→Nat→Int→Nat
  | 0,_,_=>default
  | k + 1,Yz,Yu=>(cond (decide (Yu ≥ 1))
    (ZT Yy k (fop .add .f64 4607182418800017408 (fop .quo .f64 (fop .mul .f64 (fop .quo .f64 Yy 4643211215818981376) Yz) (X4 .f64 Yu))) (Yu - 1))
    Yz)
def Z3n (Yy:Nat):Nat:=(ZT Yy ((12:Int).toNat + Yy + 1) 4607182418800017408 12)
def Z1b (Yy:Nat):Nat→Nat→Int→Nat
  | 0,_,_=>default
  | k + 1,Yz,Yu=>(cond (decide (Yu < 8))
    (Z1b Yy k (fop .mul .f64 Yz Yz) (Yu + 1))
    Yz)
def Z1J (Yy:Nat):Nat:=(Z1b Yy ((8 - 0:Int).toNat + Yy + 1) (Z3n Yy) 0)
def Z2x (Yy:Nat):Nat:=(cond (fcmp .neq .f64 Yy Yy) Yy (cond (fcmp .gtr .f64 Yy 4641240890982006784) (Z1t 1) (cond (fcmp .lss .f64 Yy 13864612927836782592) 0 (Z1J Yy))))
theorem Z7w {y a:Nat} {r:Rat} (h:Vl .f64 y r) (h1:-60≤r) (h2:r≤60):∀ (n p:Nat) (b:Rat) (k:Int),Vl .f64 p b→-(33/25)≤b→b≤33/25→k≤12→∃ q,Vl .f64 (ZT y n p k) q∧-(33/25)≤q∧q≤33/25:=by
  obtain ⟨t,t1,t2,t3⟩:=XaV h h1 h2
  intro n
  induction n with
  | zero=>intro p b k hp b1 b2 hk;exact ⟨0,by show Vl .f64 0 0;unfold Vl;decide +kernel,by decide +kernel,by decide +kernel⟩
  | succ n ih =>
    intro p b k hp b1 b2 hk
    rw [ZT]
    cases hc:decide (k ≥ 1) with
    | false=>exact ⟨b,hp,b1,b2⟩
    | true =>
      have hc:=odt hc
      obtain ⟨q,q1,q2,q3⟩:=X9K t1 t2 t3 hp b1 b2 hc hk
      rw [cond_true]
      exact ih _ _ _ q1 q2 q3 (by omega)
theorem Z7x (y:Nat):∀ (n p:Nat) (b:Rat) (k:Nat),k≤8→Vl .f64 p b→-expB k≤b→b≤expB k→∃ q,Vl .f64 (Z1b y n p (k:Int)) q∧-50000000000000000000000000000000≤q∧q≤50000000000000000000000000000000:=by
  intro n
  induction n with
  | zero=>intro p b k hk hp b1 b2;exact ⟨0,by show Vl .f64 0 0;unfold Vl;decide +kernel,by decide +kernel,by decide +kernel⟩
  | succ n ih =>
    intro p b k hk hp b1 b2
    rw [Z1b]
    cases hc:decide ((k:Int) < 8) with
    | false =>
      have:=(X80 k (by omega)).1
      exact ⟨b,hp,by grind,by grind⟩
    | true =>
      have hc:=odt hc
      obtain ⟨q,q1,q2,q3⟩:=XaL (by omega) hp b1 b2
      rw [cond_true]
      exact ih _ _ (k + 1) (by omega) q1 q2 q3
theorem Z6n {y:Nat} {r:Rat} (h:Vl .f64 y r) (h1:-60≤r) (h2:r≤60):fcmp .neq .f64 y y=false∧fcmp .gtr .f64 y 4641240890982006784=false∧fcmp .lss .f64 y 13864612927836782592=false:=by
  refine ⟨?_,?_,?_⟩
  · have e:fcmp .neq .f64 y y=!(fcmp .eql .f64 y y):=rfl
    rw [e,eqlV h h,decide_eq_true rfl];rfl
  · rw [gtrV h c200];exact decide_eq_false (by grind)
  · rw [lssV h XaW];exact decide_eq_false (by grind)
theorem Z3Z {y:Nat} {r:Rat} (h:Vl .f64 y r) (h1:-60≤r) (h2:r≤60):Z2x y=Z1J y∧∃ q,Vl .f64 (Z1J y) q∧-50000000000000000000000000000000≤q∧q≤50000000000000000000000000000000:=by
  obtain ⟨c1,c2,c3⟩:=Z6n h h1 h2
  refine ⟨by unfold Z2x;rw [c1,cond_false,c2,cond_false,c3,cond_false],?_⟩
  obtain ⟨q,q1,q2,q3⟩:=Z7w (a:=0) h h1 h2 ((12:Int).toNat + y + 1) 4607182418800017408 1 12 cOne (by decide +kernel) (by decide +kernel) (by omega)
  exact Z7x y _ _ q 0 (by omega) q1 q2 q3
theorem Z6z {x:Nat} (h:X1E x):XG .f64 .f32 (Z2x (fcv .f32 .f64 x))=true:=by
  rcases h with ⟨r,h,h1,h2⟩ | rfl | rfl | rfl
  · obtain ⟨e,q,q1,q2,q3⟩:=Z3Z (XI h) h1 h2
    rw [e]
    exact X5s q1 (by grind) (by grind)
  · decide +kernel
  · decide +kernel
  · decide +kernel
def Z13 (Yd:Nat):Nat→Nat→Nat→Nat
  | 0,_,_=>default
  | k + 1,Yz,Yu=>(cond (fcmp .geq .f64 Yu 4607182418800017408)
    (Z13 Yd k (fop .add .f64 4607182418800017408 (fop .quo .f64 (fop .mul .f64 (fop .quo .f64 Yd 4643211215818981376) Yz) Yu)) (fop .sub .f64 Yu 4607182418800017408))
    Yz)
def Z3c (Yd:Nat) (r:Nat):Ex × St:=((.exit 1),⟨.f .f64 Yd :: .any :: .f .f64 0 :: .any :: .f .f64 r :: .any :: .b (fcmp .gtr .f64 Yd 4641240890982006784) :: .f .f64 Yd :: .b (fcmp .gtr .f64 Yd 4641240890982006784) :: .any :: .b (fcmp .lss .f64 Yd 13864612927836782592) :: .f .f64 Yd :: .b (fcmp .lss .f64 Yd 13864612927836782592) :: .f .f64 Yd :: .f .f64 (fop .quo .f64 Yd 4643211215818981376) :: an 17 [],[]⟩)
def Z5t (Yd:Nat) (Yz:Nat) (Yu:Nat):St:=⟨.f .f64 Yd :: .any :: .f .f64 0 :: .f .f64 (fop .quo .f64 Yd 4643211215818981376) :: .f .f64 Yz :: .f .f64 Yu :: .b (fcmp .gtr .f64 Yd 4641240890982006784) :: .f .f64 Yd :: .b (fcmp .gtr .f64 Yd 4641240890982006784) :: .any :: .b (fcmp .lss .f64 Yd 13864612927836782592) :: .f .f64 Yd :: .b (fcmp .lss .f64 Yd 13864612927836782592) :: .f .f64 Yd :: .f .f64 (fop .quo .f64 Yd 4643211215818981376) :: an 17 [],[]⟩
def Z54:List Bool:=(mR false [0,1,1,1,1,1,1,3,1,5,17])
theorem Z5u (Yd:Nat)  : ∀ (k:Nat) (Yz:Nat) (Yu:Nat) (Z3O:Yu∈X3p) (hk:eIx Yu + Yd < k),Lp prog 0 (sub (X5 f126) [1,1,1,1,0,1,0,0]) (Z5t Yd Yz Yu) (Z3c Yd (Z13 Yd k Yz Yu)).1 (Z3c Yd (Z13 Yd k Yz Yu)).2:=by
 intro k
 induction k with
 | zero=>intro Yz Yu Z3O hk;exact absurd hk (Nat.not_lt_zero _)
 | succ k ih =>
  intro Yz Yu Z3O hk
  cases Yk:(fcmp .geq .f64 Yu 4607182418800017408) with
  | true =>
   have e:Z13 Yd (k + 1) Yz Yu=(Z13 Yd k (fop .add .f64 4607182418800017408 (fop .quo .f64 (fop .mul .f64 (fop .quo .f64 Yd 4643211215818981376) Yz) Yu)) (fop .sub .f64 Yu 4607182418800017408)):=by simp only [Z13,Yk,cond_true]
   rw [e]
   exact Xo E0Ok Zc [] (mR false [0,1,1,7,1,5,17]) [] (ih (fop .add .f64 4607182418800017408 (fop .quo .f64 (fop .mul .f64 (fop .quo .f64 Yd 4643211215818981376) Yz) Yu)) (fop .sub .f64 Yu 4607182418800017408) (show (fop .sub .f64 Yu 4607182418800017408)∈X3p from (by exact (X4t _ (by assumption) Yk).1)) (by (have q:=(X4t _ (by assumption) Yk).2;omega))) (sB Yk<|sN) (by kernel_rfl)
  | false =>
   have e:Z13 Yd (k + 1) Yz Yu=Yz:=by simp only [Z13,Yk,cond_false]
   rw [e]
   exact outR (e:=(.exit 1)) E0Ok Zc [] Z54 [] (sB Yk<|sN) (by kernel_rfl) (by intro h;cases h)
def Z2l (Yd:Nat):Nat:=(Z13 Yd (eIx 4622945017495814144 + Yd + 1) 4607182418800017408 4622945017495814144)
def Z19 (Yd:Nat):Nat→Nat→Int→Nat
  | 0,_,_=>default
  | k + 1,Yz,Yn=>(cond (decide (Yn < 8))
    (Z19 Yd k (fop .mul .f64 Yz Yz) (Yn + 1))
    Yz)
def Z3d (Yd:Nat) (r:Nat):Ex × St:=((.exit 3),⟨.f .f64 Yd :: .any :: .f .f64 0 :: .any :: .f .f64 r :: .any :: .b (fcmp .gtr .f64 Yd 4641240890982006784) :: .f .f64 Yd :: .b (fcmp .gtr .f64 Yd 4641240890982006784) :: .any :: .b (fcmp .lss .f64 Yd 13864612927836782592) :: .f .f64 Yd :: .b (fcmp .lss .f64 Yd 13864612927836782592) :: .f .f64 Yd :: .f .f64 (fop .quo .f64 Yd 4643211215818981376) :: an 17 [],[]⟩)
def Z5v (Yd:Nat) (Yz:Nat) (Yn:Int):St:=⟨.f .f64 Yd :: .any :: .f .f64 0 :: .any :: .f .f64 Yz :: .any :: .b (fcmp .gtr .f64 Yd 4641240890982006784) :: .f .f64 Yd :: .b (fcmp .gtr .f64 Yd 4641240890982006784) :: .any :: .b (fcmp .lss .f64 Yd 13864612927836782592) :: .f .f64 Yd :: .b (fcmp .lss .f64 Yd 13864612927836782592) :: .f .f64 Yd :: .f .f64 (fop .quo .f64 Yd 4643211215818981376) :: an 10 (.i .i64 Yn :: an 6 []),[]⟩
def Z3P:List Bool:=(mR false [0,1,1,1,1,1,1,3,1,5,10,1,6])
def Z55:List Bool:=(mR false [0,1,1,1,1,1,1,3,1,5,17])
theorem Z5w (Yd:Nat)  : ∀ (k:Nat) (Yz:Nat) (Yn:Int) (Z3Q:0≤Yn) (Z3R:0≤Yn) (Z3S:Yn≤8) (hk:(8 - Yn:Int).toNat + Yd < k),Lp prog 0 (sub (X5 f126) [1,1,1,1,1,0,1,0,0]) (Z5v Yd Yz Yn) (Z3d Yd (Z19 Yd k Yz Yn)).1 (Z3d Yd (Z19 Yd k Yz Yn)).2:=by
 intro k
 induction k with
 | zero=>intro Yz Yn Z3Q Z3R Z3S hk;exact absurd hk (Nat.not_lt_zero _)
 | succ k ih =>
  intro Yz Yn Z3Q Z3R Z3S hk
  cases Yk:(decide (Yn < 8)) with
  | true =>
   have YL:=odt Yk
   have Yy:(-9223372036854775808:Int)≤(Yn + 1):=(by omega)
   have YV:(Yn + 1)≤(9223372036854775807:Int):=(by omega)
   have e:Z19 Yd (k + 1) Yz Yn=(Z19 Yd k (fop .mul .f64 Yz Yz) (Yn + 1)):=by simp only [Z19,Yk,cond_true]
   rw [e]
   exact Xo E0Ok Zc [] Z3P [] (ih (fop .mul .f64 Yz Yz) (Yn + 1) (show 0≤(Yn + 1) from (by omega)) (show 0≤(Yn + 1) from (by omega)) (show (Yn + 1)≤8 from (by assumption)) (by omega)) (sB Yk<|sI (Yn + 1) Yy YV<|sN) (by kernel_rfl)
  | false =>
   have YL:=odf Yk
   have e:Z19 Yd (k + 1) Yz Yn=Yz:=by simp only [Z19,Yk,cond_false]
   rw [e]
   exact outR (e:=(.exit 3)) E0Ok Zc [] Z55 [] (sB Yk<|sN) (by kernel_rfl) (by intro h;cases h)
def Z1G (Yd:Nat):Nat:=(Z19 Yd ((8 - 0:Int).toNat + Yd + 1) (Z2l Yd) 0)
def Z1n (Yd:Nat):Nat:=(cond (fcmp .gtr .f64 Yd 4641240890982006784)
  (Z1t 1)
  (cond (fcmp .lss .f64 Yd 13864612927836782592)
    0
    (Z1G Yd)))
theorem Z64 (Yd:Nat)   : Fn prog 126 [.f .f64 Yd] (.f .f64 (Z1n Yd)) []:=by
 cases h0:(fcmp .gtr .f64 Yd 4641240890982006784) with
 | true =>
  have hv:Z1n Yd=(Z1t 1):=by unfold Z1n;rw [h0,cond_true]
  refine fnS E0Ok Zc (c:=X5 f126) [] (.f .f64 (Z1t 1)) [] func126 (sB h0<|sF (Z5P 1)<|sK [] sN) rfl (by kernel_rfl) (by kernel_rfl) rfl ?_ ?_
  · rw [hv]
  · rfl
 | false =>
  have p {a C} (s:Scr a C):=sB h0<|s
  cases h1:(fcmp .lss .f64 Yd 13864612927836782592) with
  | true =>
   have hv:Z1n Yd=0:=by unfold Z1n;rw [h0,cond_false,h1,cond_true]
   refine fnS E0Ok Zc (c:=X5 f126) [] (.f .f64 0) [] func126 (p (sB h1<|sK [] sN)) rfl (by kernel_rfl) (by kernel_rfl) rfl ?_ ?_
   · rw [hv]
   · rfl
  | false =>
   have hv:Z1n Yd=(Z1G Yd):=by unfold Z1n;rw [h0,cond_false,h1,cond_false]
   refine fnS E0Ok Zc (c:=X5 f126) [] (.f .f64 (Z1G Yd)) [] func126 (p (sB h1<|sL (mR false [0,1,1,7,1,5,17]) 0 (Xl (Z3c Yd) (x:=(Z2l Yd)) (Z5u Yd (eIx 4622945017495814144 + Yd + 1) 4607182418800017408 4622945017495814144 (show 4622945017495814144∈X3p from (by decide +kernel)) (Nat.lt_succ_self _)) rfl)<|sL Z3P 0 (Xl (Z3d Yd) (x:=(Z1G Yd)) (Z5w Yd ((8 - 0:Int).toNat + Yd + 1) (Z2l Yd) 0 (show 0≤0 from (by decide +kernel)) (show 0≤0 from (by decide +kernel)) (show 0≤8 from (by decide +kernel)) (Nat.lt_succ_self _)) rfl)<|sK [] sN)) rfl (by kernel_rfl) (by kernel_rfl) rfl ?_ ?_
   · rw [hv]
   · rfl
theorem Z7Z (y:Nat):∀ (j:Nat),j < 13→∀ (m n p:Nat),j < m→j < n→Z13 y m p (X4 .f64 (j:Int))=ZT y n p (j:Int):=by
  intro j
  induction j with
  | zero =>
    intro hj m n p hm hn
    obtain ⟨m,rfl⟩:∃ k,m=k + 1:=⟨m - 1,by omega⟩
    obtain ⟨n,rfl⟩:∃ k,n=k + 1:=⟨n - 1,by omega⟩
    rw [Z13,ZT,(eTab 0 hj).1,decide_eq_false (by omega),cond_false,cond_false]
  | succ j ih =>
    intro hj m n p hm hn
    obtain ⟨m,rfl⟩:∃ k,m=k + 1:=⟨m - 1,by omega⟩
    obtain ⟨n,rfl⟩:∃ k,n=k + 1:=⟨n - 1,by omega⟩
    have g:=eTab (j + 1) hj
    have g2:=g.2.1 (by omega)
    rw [Nat.add_sub_cancel] at g2
    rw [Z13,ZT,g.1,decide_eq_true (by omega),cond_true,cond_true,g2,show ((j + 1:Nat):Int) - 1=(j:Int) from by omega]
    exact ih (by omega) m n _ (by omega) (by omega)
theorem Z80 (y:Nat):∀ (m p:Nat) (k:Int),Z19 y m p k=Z1b y m p k:=by
  intro m
  induction m with
  | zero=>intro p k;rfl
  | succ m ih=>intro p k;rw [Z19,Z1b,ih]
theorem Z7y (y:Nat):Z1G y=Z1J y:=by
  have h:Z2l y=Z3n y:=by
    have h:=Z7Z y 12 (by omega) (eIx 4622945017495814144 + y + 1) ((12:Int).toNat + y + 1) 4607182418800017408 (by rw [show eIx 4622945017495814144=12 from by decide +kernel];omega) (by omega)
    rw [show X4 .f64 ((12:Nat):Int)=4622945017495814144 from by decide +kernel] at h
    exact h
  unfold Z1G
  rw [h,Z80]
  rfl
theorem Z4R {x:Nat} (h:X1E x):Z1n (fcv .f32 .f64 x)=Z2x (fcv .f32 .f64 x):=by
  rcases h with ⟨r,h,h1,h2⟩ | rfl | rfl | rfl
  · obtain ⟨c1,c2,c3⟩:=Z6n (XI h) h1 h2
    rw [(Z3Z (XI h) h1 h2).1]
    unfold Z1n
    rw [c2,cond_false,c3,cond_false,Z7y]
  · decide +kernel
  · decide +kernel
  · decide +kernel
def Z1Z (Yd:Nat):Nat:=(Z1n (fcv .f32 .f64 Yd))
theorem Z6o (Yd:Nat)   : Fn prog 113 [.f .f32 Yd] (.f .f64 (Z1Z Yd)) []:=by
 refine fnS E0Ok Zc (c:=X5 f113) [] (.f .f64 (Z1n (fcv .f32 .f64 Yd))) [] func113 (sC (Xb Yd)<|sF (Z64 (fcv .f32 .f64 Yd))<|sK [] sN) rfl (by kernel_rfl) (by kernel_rfl) rfl ?_ ?_
 · rfl
 · rfl
theorem Z6S {x:Nat} (h:X1E x):XG .f64 .f32 (Z1Z x)=true:=by
  unfold Z1Z
  rw [Z4R h]
  exact Z6z h
def ZW (Yd:Nat):Nat:=(fcv .f64 .f32 (Z1Z Yd))
theorem Z5J (Yd:Nat) (hp0:X1E Yd)  : Fn prog 72 [.f .f32 Yd] (.f .f32 (ZW Yd)) []:=by
 have y0:XG .f64 .f32 (Z1Z Yd)=true:=(by exact Z6S hp0)
 refine fnS E0Ok Zc (c:=X5 f72) [] (.f .f32 (fcv .f64 .f32 (Z1Z Yd))) [] func72 (sF (Z6o Yd)<|sC y0<|sK [] sN) rfl (by kernel_rfl) (by kernel_rfl) rfl ?_ ?_
 · rfl
 · rfl
def Z1f (Y7:Gm):Nat→Int→(List (List Int))→(List (List Int))
  | 0,_,_=>default
  | k + 1,Y6,YK=>(cond (decide (Y6 < (Y7.Tr.length:Int)))
    (Z1f Y7 k (Y6 + 1) (YK ++ [(([]:List Int) ++ (Y7.Tr.getD Y6.toNat default))]))
    YK)
def Z35 (Y7:Gm) (r:(List (List Int))):Ex × St:=((.exit 0),⟨.agg [.sl (Y7.Pq.map Gv.c), .sl (Y7.Tr.map (cL (cI .i64)))] :: .ptr 0 0 0 :: .ptr 1 0 0 :: .ptr 2 0 0 :: .any :: .any :: .any :: .ptr 0 0 0 :: .sl (Y7.Pq.map Gv.c) :: .own 3 :: .agg [.own 3, .nils] :: .ptr 0 0 1 :: .sl (Y7.Tr.map (cL (cI .i64))) :: an 15 [],[.box 27 [.sl (Y7.Pq.map Gv.c), .sl (Y7.Tr.map (cL (cI .i64)))], .box 27 [.nils, .nils], .box 27 [.own 3, .own 4], .vec 32 3 (([]:List (List AV)) ++ (Y7.Pq.map Gv.c)) false, .nest 60 (r.map fun l=>l.map (cI .i64)) false]⟩)
def Z36 (Y7:Gm) (Y6:Int) (YK:(List (List Int))):St:=⟨.agg [.sl (Y7.Pq.map Gv.c), .sl (Y7.Tr.map (cL (cI .i64)))] :: .ptr 0 0 0 :: .ptr 1 0 0 :: .ptr 3 0 0 :: .any :: .any :: .any :: .ptr 0 0 0 :: .sl (Y7.Pq.map Gv.c) :: .own 2 :: .agg [.own 2, .nils] :: .ptr 0 0 1 :: .sl (Y7.Tr.map (cL (cI .i64))) :: .i .i64 (Y7.Tr.length:Int) :: .i .i64 Y6 :: an 13 [],[.box 27 [.sl (Y7.Pq.map Gv.c), .sl (Y7.Tr.map (cL (cI .i64)))], .box 27 [.nils, .nils], .vec 32 3 (([]:List (List AV)) ++ (Y7.Pq.map Gv.c)) false, .box 27 [.own 2, .own 4], .nest 60 (YK.map fun l=>l.map (cI .i64)) false]⟩
theorem Z5h (Y7:Gm) (hp0:Y7.Pq.length≤1073741824) (hp1:Y7.Tr.length≤1073741824) (hp2:∀ t∈Y7.Tr,t.length≤1073741824) (hp3:Xs Y7.Pq.length Y7.Tr):∀ (k:Nat) (Y6:Int) (YK:(List (List Int))) (Z2G:0≤Y6) (Z3D:(YK.length:Int)=Y6) (hk:((Y7.Tr.length:Int) - Y6).toNat < k),Lp prog 0 (sub (X5 f91) [1,1,0,1,0,0]) (Z36 Y7 Y6 YK) (Z35 Y7 (Z1f Y7 k Y6 YK)).1 (Z35 Y7 (Z1f Y7 k Y6 YK)).2:=by
 intro k
 induction k with
 | zero=>intro Y6 YK Z2G Z3D hk;exact absurd hk (Nat.not_lt_zero _)
 | succ k ih =>
  intro Y6 YK Z2G Z3D hk
  cases Yk:(decide (Y6 < (Y7.Tr.length:Int))) with
  | true =>
   have YL:=odt Yk
   have Yy:(0:Int)≤Y6:=(by assumption)
   have YV:Y6 < (Y7.Tr.length:Int):=(by assumption)
   have YZ:([]:List Int).length + (Y7.Tr.getD Y6.toNat default).length≤1073741824:=(by simp_all<;>omega)
   have y_3:YK.length + [(([]:List Int) ++ (Y7.Tr.getD Y6.toNat default))].length≤1073741824:=(by simp_all<;>omega)
   have y_4:(-9223372036854775808:Int)≤(Y6 + 1):=(by omega)
   have y_5:(Y6 + 1)≤(9223372036854775807:Int):=(by omega)
   have e:Z1f Y7 (k + 1) Y6 YK=(Z1f Y7 k (Y6 + 1) (YK ++ [(([]:List Int) ++ (Y7.Tr.getD Y6.toNat default))])):=by simp only [Z1f,Yk,cond_true]
   rw [e]
   exact X2D E0Ok Zc [] (mR false [0,4,3,8,13]) [0,1,2,3,4] (⟨.agg [.sl (Y7.Pq.map Gv.c), .sl (Y7.Tr.map (cL (cI .i64)))] :: .ptr 0 0 0 :: .ptr 1 0 0 :: .ptr 3 0 0 :: .any :: .any :: .any :: .ptr 0 0 0 :: .sl (Y7.Pq.map Gv.c) :: .own 2 :: .agg [.own 2, .nils] :: .ptr 0 0 1 :: .sl (Y7.Tr.map (cL (cI .i64))) :: .i .i64 (Y7.Tr.length:Int) :: .i .i64 (Y6 + 1) :: an 13 [],[.box 27 [.sl (Y7.Pq.map Gv.c), .sl (Y7.Tr.map (cL (cI .i64)))], .box 27 [.nils, .nils], .vec 32 3 (([]:List (List AV)) ++ (Y7.Pq.map Gv.c)) false, .box 27 [.own 2, .own 4], .nest 60 ((YK.map fun l=>l.map (cI .i64)) ++ [(([]:List (List AV)) ++ ((Y7.Tr.getD Y6.toNat default).map (cI .i64)))]) false]⟩) (sB Yk<|sG (cL (cI .i64)) Y7.Tr Y6 Yy YV<|sK [6,6]<|sC (show ((Y7.Tr.getD Y6.toNat default).map (cI .i64))≠[] from (by have q:=(Xs.at hp3 Z2G (odt (by assumption))).1;have q2:(Y7.Tr.getD Y6.toNat default)≠[]:=(by intro hq;rw [hq] at q;simp at q);simpa using q2))<|sC (show ([]:List (List AV)).length + ((Y7.Tr.getD Y6.toNat default).map (cI .i64)).length≤1073741824 from (by simpa using YZ))<|sC (show ((Y7.Tr.getD Y6.toNat default).map (cI .i64)).all (fun cs=>cs.length == 1 && cs.all isS)=true from (X4Z (fun _=>rfl)))<|sC (show (YK.map fun l=>l.map (cI .i64)).length + [(([]:List (List AV)) ++ ((Y7.Tr.getD Y6.toNat default).map (cI .i64)))].length≤1073741824 from (by simpa using y_3))<|sI (Y6 + 1) y_4 y_5<|sN) (by kernel_rfl) (by simp [Z36,Gv.c,cL,cI]) (ih (Y6 + 1) (YK ++ [(([]:List Int) ++ (Y7.Tr.getD Y6.toNat default))]) (show 0≤(Y6 + 1) from (by omega)) (show ((YK ++ [(([]:List Int) ++ (Y7.Tr.getD Y6.toNat default))]).length:Int)=(Y6 + 1) from (by simp_all<;>omega)) (by omega))
  | false =>
   have YL:=odf Yk
   have e:Z1f Y7 (k + 1) Y6 YK=YK:=by simp only [Z1f,Yk,cond_false]
   rw [e]
   exact outR (e:=(.exit 0)) E0Ok Zc [] (mR false [0,4,3,6,15]) [0,1,3,2,4] (sB Yk<|sN) (by kernel_rfl) (by intro h;cases h)
def Z2d (Y7:Gm):(List (List Int)):=(Z1f Y7 (((Y7.Tr.length:Int) - 0).toNat + 1) 0 ([]:List (List Int)))
def Z2u (Y7:Gm):Gm:=(⟨(([]:List Gv) ++ Y7.Pq),(Z2d Y7)⟩:Gm)
theorem Z5R (Y7:Gm) (hp0:Y7.Pq.length≤1073741824) (hp1:Y7.Tr.length≤1073741824) (hp2:∀ t∈Y7.Tr,t.length≤1073741824) (hp3:Xs Y7.Pq.length Y7.Tr)  : Fn prog 91 [.agg [.sl (Y7.Pq.map Gv.c), .sl (Y7.Tr.map (cL (cI .i64)))]] (.agg [.own 0, .own 1]) [.vec 32 3 (((Z2u Y7).Pq).map Gv.c) false, .nest 60 (((Z2u Y7).Tr).map fun l=>l.map (cI .i64)) false]:=by
 have y0:([]:List Gv).length + Y7.Pq.length≤1073741824:=(by simp_all<;>omega)
 refine fnS E0Ok Zc (c:=X5 f91) [] (.agg [.own 0, .own 1]) [.vec 32 3 (([]:List (List AV)) ++ (Y7.Pq.map Gv.c)) false, .nest 60 ((Z2d Y7).map fun l=>l.map (cI .i64)) false] func91 (sC (show ([]:List (List AV)).length + (Y7.Pq.map Gv.c).length≤1073741824 from (by simpa using y0))<|sC (show (Y7.Pq.map Gv.c).all (fun cs=>cs.length == 3 && cs.all isS)=true from (X4Z (fun _=>rfl)))<|sZ (cL (cI .i64)) Y7.Tr<|sL (mR false [0,4,3,8,13]) 4 (Lp.nil (st:=⟨.agg [.sl (Y7.Pq.map Gv.c), .sl (Y7.Tr.map (cL (cI .i64)))] :: .ptr 0 0 0 :: .ptr 1 0 0 :: .ptr 3 0 0 :: .any :: .any :: .any :: .ptr 0 0 0 :: .sl (Y7.Pq.map Gv.c) :: .own 2 :: .agg [.own 2, .nils] :: .ptr 0 0 1 :: .sl (Y7.Tr.map (cL (cI .i64))) :: .i .i64 (Y7.Tr.length:Int) :: .i .i64 0 :: an 13 [],[.box 27 [.sl (Y7.Pq.map Gv.c), .sl (Y7.Tr.map (cL (cI .i64)))], .box 27 [.nils, .nils], .vec 32 3 (([]:List (List AV)) ++ (Y7.Pq.map Gv.c)) false, .box 27 [.own 2, .nils]]⟩) (st2:=⟨.agg [.sl (Y7.Pq.map Gv.c), .sl (Y7.Tr.map (cL (cI .i64)))] :: .ptr 0 0 0 :: .ptr 1 0 0 :: .ptr 3 0 0 :: .any :: .any :: .any :: .ptr 0 0 0 :: .sl (Y7.Pq.map Gv.c) :: .own 2 :: .agg [.own 2, .nils] :: .ptr 0 0 1 :: .sl (Y7.Tr.map (cL (cI .i64))) :: .i .i64 (Y7.Tr.length:Int) :: .i .i64 0 :: an 13 [],[.box 27 [.sl (Y7.Pq.map Gv.c), .sl (Y7.Tr.map (cL (cI .i64)))], .box 27 [.nils, .nils], .vec 32 3 (([]:List (List AV)) ++ (Y7.Pq.map Gv.c)) false, .box 27 [.own 2, .own 4], .nest 60 [] false]⟩) (ps:=[(.row 3 1, .nest 60 [] false)]) rfl (X3l (st2:=⟨.agg [.sl (Y7.Pq.map Gv.c), .sl (Y7.Tr.map (cL (cI .i64)))] :: .ptr 0 0 0 :: .ptr 1 0 0 :: .ptr 3 0 0 :: .any :: .any :: .any :: .ptr 0 0 0 :: .sl (Y7.Pq.map Gv.c) :: .own 2 :: .agg [.own 2, .nils] :: .ptr 0 0 1 :: .sl (Y7.Tr.map (cL (cI .i64))) :: .i .i64 (Y7.Tr.length:Int) :: .i .i64 0 :: an 13 [],[.box 27 [.sl (Y7.Pq.map Gv.c), .sl (Y7.Tr.map (cL (cI .i64)))], .box 27 [.nils, .nils], .vec 32 3 (([]:List (List AV)) ++ (Y7.Pq.map Gv.c)) false, .box 27 [.own 2, .own 4], .nest 60 [] false]⟩) (Xl (Z35 Y7) (x:=(Z2d Y7)) (Z5h Y7 hp0 hp1 hp2 hp3 (((Y7.Tr.length:Int) - 0).toNat + 1) 0 ([]:List (List Int)) (show 0≤0 from (by omega)) (show (([]:List (List Int)).length:Int)=0 from (by simp)) (Nat.lt_succ_self _)) rfl) (by simp [Z36,Gv.c,cL,cI])))<|sK [3,4] sN) rfl (by kernel_rfl) (by kernel_rfl) rfl ?_ ?_
 · rfl
 · simp [Z2u,Gv.c]
@[simp] theorem Z6A (m:Gm):Z2u m=m:=by
  unfold Z2u Z2d
  rw [X7d (f:=fun i=>(m.Tr.getD i.toNat default)) (n:=(m.Tr.length:Int)) (lo:=Z1f m) (fun k i r=>rfl) _ _ _ (Nat.lt_succ_self _)]
  simp [X4q]
theorem Z5S (Y7:Gm) (hp0:Y7.Pq.length≤1073741824) (hp1:Y7.Tr.length≤1073741824) (hp2:∀ t∈Y7.Tr,t.length≤1073741824) (hp3:Xs Y7.Pq.length Y7.Tr):Fn prog 91 [.agg [.sl (Y7.Pq.map Gv.c), .sl (Y7.Tr.map (cL (cI .i64)))]] (.agg [.own 0, .own 1]) [.vec 32 3 (Y7.Pq.map Gv.c) false, .nest 60 (Y7.Tr.map fun l=>l.map (cI .i64)) false]:=by
 simpa only [Z6A] using Z5R  Y7 hp0 hp1 hp2 hp3
def ZU (Yq:Gv) (Yr:Gv):Gv:=(⟨(fop .sub .f32 Yq.X Yr.X),(fop .sub .f32 Yq.Y Yr.Y),(fop .sub .f32 Yq.Z Yr.Z)⟩:Gv)
theorem Z4a (Yq:Gv) (Yr:Gv)   : Fn prog 78 [.agg [.f .f32 Yq.X, .f .f32 Yq.Y, .f .f32 Yq.Z], .agg [.f .f32 Yr.X, .f .f32 Yr.Y, .f .f32 Yr.Z]] (.agg [.f .f32 ((ZU Yq Yr).X), .f .f32 ((ZU Yq Yr).Y), .f .f32 ((ZU Yq Yr).Z)]) []:=by
 refine fnS E0Ok Zc (c:=X5 f78) [] (.agg [.f .f32 (fop .sub .f32 Yq.X Yr.X), .f .f32 (fop .sub .f32 Yq.Y Yr.Y), .f .f32 (fop .sub .f32 Yq.Z Yr.Z)]) [] func78 (sK [] sN) rfl (by kernel_rfl) (by kernel_rfl) rfl ?_ ?_
 · rfl
 · rfl
def ZG (YC:Gv) (Y5:Gv) (p_2:Nat):Gv:=(ZC Y5 (ZX (ZU YC Y5) p_2))
theorem Z56 (YC:Gv) (Y5:Gv) (p_2:Nat)   : Fn prog 76 [.agg [.f .f32 YC.X, .f .f32 YC.Y, .f .f32 YC.Z], .ref [.f .f32 Y5.X, .f .f32 Y5.Y, .f .f32 Y5.Z] 0, .ref [.f .f32 p_2] 0] (.agg [.f .f32 ((ZG YC Y5 p_2).X), .f .f32 ((ZG YC Y5 p_2).Y), .f .f32 ((ZG YC Y5 p_2).Z)]) []:=by
 refine fnS E0Ok Zc (c:=X5 f76) [] (.agg [.f .f32 ((ZC Y5 (ZX (ZU YC Y5) p_2)).X), .f .f32 ((ZC Y5 (ZX (ZU YC Y5) p_2)).Y), .f .f32 ((ZC Y5 (ZX (ZU YC Y5) p_2)).Z)]) [] func76 (sK [6,6]<|sF (Z4a YC Y5)<|sF (Z49 (ZU YC Y5) p_2)<|sF (Z4j Y5 (ZX (ZU YC Y5) p_2))<|sK [] sN) rfl (by kernel_rfl) (by kernel_rfl) rfl ?_ ?_
 · rfl
 · rfl
def Zk (Y7:Gm) (change_1_c0:Gv) (change_1_c1:Nat):Nat→Int→(List Gv)→(List Gv)
  | 0,_,_=>default
  | k + 1,Y6,Y8=>(cond (decide (Y6 < (Y7.Pq.length:Int)))
    (Zk Y7 change_1_c0 change_1_c1 k (Y6 + 1) (Y8.set Y6.toNat (ZG (Y8.getD Y6.toNat default) change_1_c0 change_1_c1)))
    Y8)
def Z1v (Y7:Gm) (change_1_c0:Gv) (change_1_c1:Nat) (r:(List Gv)):Ex × St:=((.exit 0),⟨.agg [.sl (Y7.Pq.map Gv.c), .sl (Y7.Tr.map (cL (cI .i64)))] :: .any :: .ptr 0 0 0 :: .any :: .ptr 1 0 0 :: .b false :: .ptr 2 0 0 :: .any :: .any :: .agg [.sl (Y7.Pq.map Gv.c), .sl (Y7.Tr.map (cL (cI .i64)))] :: .b (Zm Y7) :: .b (!(Zm Y7)) :: .any :: .agg [.sl (Y7.Pq.map Gv.c), .sl (Y7.Tr.map (cL (cI .i64)))] :: .agg [.own 3, .own 4] :: .ptr 2 0 0 :: .own 3 :: an 15 [],[.box 27 [.sl (Y7.Pq.map Gv.c), .sl (Y7.Tr.map (cL (cI .i64)))], .box 27 [.nils, .nils], .box 27 [.own 3, .own 4], .vec 32 3 (r.map Gv.c) false, .nest 60 (Y7.Tr.map fun l=>l.map (cI .i64)) false]⟩)
def Z1Q (Y7:Gm) (change_1_c0:Gv) (change_1_c1:Nat) (Y6:Int) (Y8:(List Gv)):St:=⟨.agg [.sl (Y7.Pq.map Gv.c), .sl (Y7.Tr.map (cL (cI .i64)))] :: .fn 76 [.ref [.f .f32 change_1_c0.X, .f .f32 change_1_c0.Y, .f .f32 change_1_c0.Z] 0, .ref [.f .f32 change_1_c1] 0] :: .ptr 0 0 0 :: .any :: .ptr 1 0 0 :: .b false :: .ptr 4 0 0 :: .any :: .any :: .agg [.sl (Y7.Pq.map Gv.c), .sl (Y7.Tr.map (cL (cI .i64)))] :: .b (Zm Y7) :: .b (!(Zm Y7)) :: .any :: .agg [.sl (Y7.Pq.map Gv.c), .sl (Y7.Tr.map (cL (cI .i64)))] :: .agg [.own 2, .own 3] :: .ptr 4 0 0 :: .own 2 :: .i .i64 (Y7.Pq.length:Int) :: .i .i64 Y6 :: an 13 [],[.box 27 [.sl (Y7.Pq.map Gv.c), .sl (Y7.Tr.map (cL (cI .i64)))], .box 27 [.nils, .nils], .vec 32 3 (Y8.map Gv.c) false, .nest 60 (Y7.Tr.map fun l=>l.map (cI .i64)) false, .box 27 [.own 2, .own 3]]⟩
def Z2v:List Bool:=(mR false [0,1,1,1,1,3,2,3,1,4,15])
theorem Z2B (Y7:Gm) (change_1_c0:Gv) (change_1_c1:Nat) (hp0:Y7.Pq.length≤1073741824) (hp1:Y7.Tr.length≤1073741824) (hp2:∀ t∈Y7.Tr,t.length≤1073741824) (Z4y:(Zm Y7)=true):∀ (k:Nat) (Y6:Int) (Y8:(List Gv)) (Z1K:0≤Y6) (Z1L:Y8.length=Y7.Pq.length) (hk:((Y7.Pq.length:Int) - Y6).toNat < k),Lp prog 0 (sub (X5 f75) [1,1,1,0,1,0,0]) (Z1Q Y7 change_1_c0 change_1_c1 Y6 Y8) (Z1v Y7 change_1_c0 change_1_c1 (Zk Y7 change_1_c0 change_1_c1 k Y6 Y8)).1 (Z1v Y7 change_1_c0 change_1_c1 (Zk Y7 change_1_c0 change_1_c1 k Y6 Y8)).2:=by
 intro k
 induction k with
 | zero=>intro Y6 Y8 Z1K Z1L hk;exact absurd hk (Nat.not_lt_zero _)
 | succ k ih =>
  intro Y6 Y8 Z1K Z1L hk
  cases Yk:(decide (Y6 < (Y7.Pq.length:Int))) with
  | true =>
   have YL:=odt Yk
   have Yy:(0:Int)≤Y6:=(by assumption)
   have YV:Y6 < (Y8.length:Int):=(by omega)
   have YZ:Y6.toNat < Y8.length:=(by omega)
   have y_3:(-9223372036854775808:Int)≤(Y6 + 1):=(by omega)
   have y_4:(Y6 + 1)≤(9223372036854775807:Int):=(by omega)
   have e:Zk Y7 change_1_c0 change_1_c1 (k + 1) Y6 Y8=(Zk Y7 change_1_c0 change_1_c1 k (Y6 + 1) (Y8.set Y6.toNat (ZG (Y8.getD Y6.toNat default) change_1_c0 change_1_c1))):=by simp only [Zk,Yk,cond_true]
   rw [e]
   exact X2D E0Ok Zc [] (mR false [0,3,1,3,2,3,1,6,13]) [0,1,2,3,4] (⟨.agg [.sl (Y7.Pq.map Gv.c), .sl (Y7.Tr.map (cL (cI .i64)))] :: .fn 76 [.ref [.f .f32 change_1_c0.X, .f .f32 change_1_c0.Y, .f .f32 change_1_c0.Z] 0, .ref [.f .f32 change_1_c1] 0] :: .ptr 0 0 0 :: .any :: .ptr 1 0 0 :: .b false :: .ptr 4 0 0 :: .any :: .any :: .agg [.sl (Y7.Pq.map Gv.c), .sl (Y7.Tr.map (cL (cI .i64)))] :: .b (Zm Y7) :: .b (!(Zm Y7)) :: .any :: .agg [.sl (Y7.Pq.map Gv.c), .sl (Y7.Tr.map (cL (cI .i64)))] :: .agg [.own 2, .own 3] :: .ptr 4 0 0 :: .own 2 :: .i .i64 (Y7.Pq.length:Int) :: .i .i64 (Y6 + 1) :: an 13 [],[.box 27 [.sl (Y7.Pq.map Gv.c), .sl (Y7.Tr.map (cL (cI .i64)))], .box 27 [.nils, .nils], .vec 32 3 ((Y8.map Gv.c).set Y6.toNat [.f .f32 ((ZG (Y8.getD Y6.toNat default) change_1_c0 change_1_c1).X), .f .f32 ((ZG (Y8.getD Y6.toNat default) change_1_c0 change_1_c1).Y), .f .f32 ((ZG (Y8.getD Y6.toNat default) change_1_c0 change_1_c1).Z)]) false, .nest 60 (Y7.Tr.map fun l=>l.map (cI .i64)) false, .box 27 [.own 2, .own 3]]⟩) (sB Yk<|sX Gv.c Y8 Y6 Yy YV<|sV Gv.c Y8 Y6.toNat YZ<|sK [6,6]<|sF (Z56 (Y8.getD Y6.toNat default) change_1_c0 change_1_c1)<|sX Gv.c Y8 Y6 Yy YV<|sC (X8x (c:=Gv.c) (l:=Y8) YZ)<|sI (Y6 + 1) y_3 y_4<|sN) (by kernel_rfl) (by simp [Z1Q,List.map_set,Gv.c]) (ih (Y6 + 1) (Y8.set Y6.toNat (ZG (Y8.getD Y6.toNat default) change_1_c0 change_1_c1)) (show 0≤(Y6 + 1) from (by omega)) (show (Y8.set Y6.toNat (ZG (Y8.getD Y6.toNat default) change_1_c0 change_1_c1)).length=Y7.Pq.length from (by simp_all<;>omega)) (by omega))
  | false =>
   have YL:=odf Yk
   have e:Zk Y7 change_1_c0 change_1_c1 (k + 1) Y6 Y8=Y8:=by simp only [Zk,Yk,cond_false]
   rw [e]
   exact outR (e:=(.exit 0)) E0Ok Zc [] Z2v [0,1,4,2,3] (sB Yk<|sN) (by kernel_rfl) (by intro h;cases h)
theorem Z2w (Y7:Gm) (change_1_c0:Gv) (change_1_c1:Nat):∀ (k:Nat) (Y6:Int) (Y8:(List Gv)) (hk:((Y7.Pq.length:Int) - Y6).toNat < k),(Zk Y7 change_1_c0 change_1_c1 k Y6 Y8).length=Y8.length:=by
  intro k
  induction k with
  | zero=>intro Y6 Y8 hk;exact absurd hk (Nat.not_lt_zero _)
  | succ k ih =>
    intro Y6 Y8 hk
    cases Yk:(decide (Y6 < (Y7.Pq.length:Int))) with
    | true =>
      have e:Zk Y7 change_1_c0 change_1_c1 (k + 1) Y6 Y8=(Zk Y7 change_1_c0 change_1_c1 k (Y6 + 1) (Y8.set Y6.toNat (ZG (Y8.getD Y6.toNat default) change_1_c0 change_1_c1))):=by simp only [Zk,Yk,cond_true]
      rw [e,ih (Y6 + 1) (Y8.set Y6.toNat (ZG (Y8.getD Y6.toNat default) change_1_c0 change_1_c1)) (by simp_all<;>omega)]<;>simp
    | false =>
      have e:Zk Y7 change_1_c0 change_1_c1 (k + 1) Y6 Y8=Y8:=by simp only [Zk,Yk,cond_false]
      first | (rw [e];done) | (rw [e];rfl)
end Go.Ab
