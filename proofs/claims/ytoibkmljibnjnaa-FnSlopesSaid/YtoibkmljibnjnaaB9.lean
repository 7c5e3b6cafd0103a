/- The functions of this seat as plain Lean, and that the program's are these. Printed by a program of the prover's own. -/
import Derived.Test.YtoibkmljibnjnaaB8
set_option linter.unusedVariables false
set_option linter.unusedSimpArgs false
set_option maxRecDepth 100000
namespace Go.Ab
open Go.RowKit Go.Proofs.Try
theorem Z6n (Y6:Gb):∀ (k:Nat) (Y2:Int) (Y3:(List Nat)) (hk:(((Z8 Y6.Me).length:Int) - Y2).toNat < k),(ZU Y6 k Y2 Y3).length=Y3.length:=by
  intro k
  induction k with
  | zero=>intro Y2 Y3 hk;exact absurd hk (Nat.not_lt_zero _)
  | succ k ih =>
    intro Y2 Y3 hk
    cases Yk:(decide (Y2 < ((Z8 Y6.Me).length:Int))) with
    | true =>
      have e:ZU Y6 (k + 1) Y2 Y3=(ZU Y6 k (Y2 + 1) (Y3.set 2 (fop .add .f32 (Y3.getD 2 default) (fop .mul .f32 (fop .mul .f32 1056964608 Y6.Bend) (Z2a Y6 Y2))))):=by simp only [ZU,Yk,cond_true]
      rw [e,ih (Y2 + 1) (Y3.set 2 (fop .add .f32 (Y3.getD 2 default) (fop .mul .f32 (fop .mul .f32 1056964608 Y6.Bend) (Z2a Y6 Y2)))) (by simp_all<;>omega)]<;>simp
    | false =>
      have e:ZU Y6 (k + 1) Y2 Y3=Y3:=by simp only [ZU,Yk,cond_false]
      first | (rw [e];done) | (rw [e];rfl)
def Z18 (Y6:Gb):(List Nat):=(ZU Y6 ((((Z8 Y6.Me).length:Int) - 0).toNat + 1) 0 (Z17 Y6))
@[simp] theorem Z5z (Y6:Gb):(Z18 Y6).length=((Z17 Y6):(List Nat)).length:=Z6n Y6 ((((Z8 Y6.Me).length:Int) - 0).toNat + 1) 0 (Z17 Y6) (by exact Nat.lt_succ_self _)
def Z1Y (Y6:Gb) (Y2:Int) (Y3:(List Nat)):Nat:=(fop .add .f32 (Y3.getD 3 default) (fneg .f32 (fop .mul .f32 (Y6.We.getD Y2.toNat default) (Z1v Y6.Fall (Y6.Me.Pq.getD Y2.toNat default)))))
def ZM (Y6:Gb):Nat→Int→(List Nat)→(List Nat)
  | 0,_,_=>default
  | k + 1,Y2,Y3=>(cond (decide (Y2 < (Y6.Me.Pq.length:Int)))
    (ZM Y6 k (Y2 + 1) (Y3.set 3 (Z1Y Y6 Y2 Y3)))
    Y3)
def Z3Q (Y6:Gb) (r:(List Nat)):Ex × St:=((.exit 6),⟨.agg [.sl (Y6.Me.Pq.map Gv.c), .sl (Y6.Me.Tr.map (cL (cI .i64))), .sl (Y6.Sp.map Gs.c), .f .f32 Y6.Film, .f .f32 Y6.Bend, .sl (Y6.We.map (cF .f32)), .f .f32 Y6.Fall.X, .f .f32 Y6.Fall.Y, .f .f32 Y6.Fall.Z] :: .ptr 0 0 0 :: .nils :: .own 1 :: an 10 (.own 1 :: .ptr 0 0 2 :: .sl (Y6.Sp.map Gs.c) :: an 25 (.ptr 0 0 0 :: .ptr 0 0 1 :: .sl (Y6.Me.Tr.map (cL (cI .i64))) :: an 20 (.ptr 0 0 0 :: .agg [.sl (Y6.Me.Pq.map Gv.c), .sl (Y6.Me.Tr.map (cL (cI .i64)))] :: .own 2 :: an 22 (.ptr 0 0 0 :: .ptr 0 0 0 :: .sl (Y6.Me.Pq.map Gv.c) :: an 24 [])))),[.box 34 [.sl (Y6.Me.Pq.map Gv.c), .sl (Y6.Me.Tr.map (cL (cI .i64))), .sl (Y6.Sp.map Gs.c), .f .f32 Y6.Film, .f .f32 Y6.Bend, .sl (Y6.We.map (cF .f32)), .f .f32 Y6.Fall.X, .f .f32 Y6.Fall.Y, .f .f32 Y6.Fall.Z], .vec 29 1 (r.map (cF .f32)) false, .nest 60 ((Z8 Y6.Me).map fun l=>l.map (cI .i64)) false]⟩)
def Z5t (Y6:Gb) (Y2:Int) (Y3:(List Nat)):St:=⟨.agg [.sl (Y6.Me.Pq.map Gv.c), .sl (Y6.Me.Tr.map (cL (cI .i64))), .sl (Y6.Sp.map Gs.c), .f .f32 Y6.Film, .f .f32 Y6.Bend, .sl (Y6.We.map (cF .f32)), .f .f32 Y6.Fall.X, .f .f32 Y6.Fall.Y, .f .f32 Y6.Fall.Z] :: .ptr 0 0 0 :: .nils :: .own 1 :: an 10 (.own 1 :: .ptr 0 0 2 :: .sl (Y6.Sp.map Gs.c) :: an 25 (.ptr 0 0 0 :: .ptr 0 0 1 :: .sl (Y6.Me.Tr.map (cL (cI .i64))) :: an 20 (.ptr 0 0 0 :: .agg [.sl (Y6.Me.Pq.map Gv.c), .sl (Y6.Me.Tr.map (cL (cI .i64)))] :: .own 2 :: an 22 (.ptr 0 0 0 :: .ptr 0 0 0 :: .sl (Y6.Me.Pq.map Gv.c) :: .i .i64 (Y6.Me.Pq.length:Int) :: .i .i64 Y2 :: an 22 [])))),[.box 34 [.sl (Y6.Me.Pq.map Gv.c), .sl (Y6.Me.Tr.map (cL (cI .i64))), .sl (Y6.Sp.map Gs.c), .f .f32 Y6.Film, .f .f32 Y6.Bend, .sl (Y6.We.map (cF .f32)), .f .f32 Y6.Fall.X, .f .f32 Y6.Fall.Y, .f .f32 Y6.Fall.Z], .vec 29 1 (Y3.map (cF .f32)) false, .nest 60 ((Z8 Y6.Me).map fun l=>l.map (cI .i64)) false]⟩
def Z4Y:List Bool:=(mR false [0,4,10,3,25,3,20,3,22,5,22])
def Z6o:List Bool:=(mR false [0,4,10,3,25,3,20,3,22,3,24])
theorem Z70 (Y6:Gb) (hp0:Y6.Me.Pq.length≤1073741824) (hp1:Y6.Me.Tr.length≤1073741824) (hp2:∀ t∈Y6.Me.Tr,t.length≤1073741824) (hp3:Y6.Sp.length≤1073741824) (hp4:Y6.We.length≤1073741824) (hp5:OkBd Y6):∀ (k:Nat) (Y2:Int) (Y3:(List Nat)) (Z4Z:0≤Y2) (Z50:Y3.length=(Z18 Y6).length) (hk:((Y6.Me.Pq.length:Int) - Y2).toNat < k),Lp prog 0 (sub (X0 f89) [1,1,1,1,1,0,1,0,0]) (Z5t Y6 Y2 Y3) (Z3Q Y6 (ZM Y6 k Y2 Y3)).1 (Z3Q Y6 (ZM Y6 k Y2 Y3)).2:=by
 intro k
 induction k with
 | zero=>intro Y2 Y3 Z4Z Z50 hk;exact absurd hk (Nat.not_lt_zero _)
 | succ k ih =>
  intro Y2 Y3 Z4Z Z50 hk
  cases Yk:(decide (Y2 < (Y6.Me.Pq.length:Int))) with
  | true =>
   have YH:=odt Yk
   have YQ:(0:Int)≤Y2:=(by assumption)
   have YN:Y2 < (Y6.Me.Pq.length:Int):=(by assumption)
   have y_2:(0:Int)≤3:=(by omega)
   have YR:3 < (Y3.length:Int):=(by simp_all<;>omega)
   have y_4:3 < Y3.length:=(by omega)
   have y_5:Y2 < (Y6.We.length:Int):=(by have q:=hp5.w;omega)
   have y_6:(-9223372036854775808:Int)≤(Y2 + 1):=(by omega)
   have y_7:(Y2 + 1)≤(9223372036854775807:Int):=(by omega)
   have e:ZM Y6 (k + 1) Y2 Y3=(ZM Y6 k (Y2 + 1) (Y3.set 3 (Z1Y Y6 Y2 Y3))):=by simp only [ZM,Yk,cond_true]
   rw [e]
   exact X14 E0Ok Ze [] Z4Y [0,1,2] (⟨.agg [.sl (Y6.Me.Pq.map Gv.c), .sl (Y6.Me.Tr.map (cL (cI .i64))), .sl (Y6.Sp.map Gs.c), .f .f32 Y6.Film, .f .f32 Y6.Bend, .sl (Y6.We.map (cF .f32)), .f .f32 Y6.Fall.X, .f .f32 Y6.Fall.Y, .f .f32 Y6.Fall.Z] :: .ptr 0 0 0 :: .nils :: .own 1 :: an 10 (.own 1 :: .ptr 0 0 2 :: .sl (Y6.Sp.map Gs.c) :: an 25 (.ptr 0 0 0 :: .ptr 0 0 1 :: .sl (Y6.Me.Tr.map (cL (cI .i64))) :: an 20 (.ptr 0 0 0 :: .agg [.sl (Y6.Me.Pq.map Gv.c), .sl (Y6.Me.Tr.map (cL (cI .i64)))] :: .own 2 :: an 22 (.ptr 0 0 0 :: .ptr 0 0 0 :: .sl (Y6.Me.Pq.map Gv.c) :: .i .i64 (Y6.Me.Pq.length:Int) :: .i .i64 (Y2 + 1) :: an 22 [])))),[.box 34 [.sl (Y6.Me.Pq.map Gv.c), .sl (Y6.Me.Tr.map (cL (cI .i64))), .sl (Y6.Sp.map Gs.c), .f .f32 Y6.Film, .f .f32 Y6.Bend, .sl (Y6.We.map (cF .f32)), .f .f32 Y6.Fall.X, .f .f32 Y6.Fall.Y, .f .f32 Y6.Fall.Z], .vec 29 1 ((Y3.map (cF .f32)).set 3 [.f .f32 (Z1Y Y6 Y2 Y3)]) false, .nest 60 ((Z8 Y6.Me).map fun l=>l.map (cI .i64)) false]⟩) (sB Yk<|sG Gv.c Y6.Me.Pq Y2 YQ YN<|sK [14,14]<|sX (cF .f32) Y3 3 y_2 YR<|sV (cF .f32) Y3 3 y_4<|sG (cF .f32) Y6.We Y2 YQ y_5<|sF (Z51 Y6.Fall (Y6.Me.Pq.getD Y2.toNat default))<|sX (cF .f32) Y3 3 y_2 YR<|sC (X3B (c:=(cF .f32)) (l:=Y3) y_4)<|sI (Y2 + 1) y_6 y_7<|sN) (by kernel_rfl) (by simp [Z5t,List.map_set,cF]) (ih (Y2 + 1) (Y3.set 3 (Z1Y Y6 Y2 Y3)) (show 0≤(Y2 + 1) from (by omega)) (show (Y3.set 3 (Z1Y Y6 Y2 Y3)).length=(Z18 Y6).length from (by simp_all<;>omega)) (by omega))
  | false =>
   have YH:=odf Yk
   have e:ZM Y6 (k + 1) Y2 Y3=Y3:=by simp only [ZM,Yk,cond_false]
   rw [e]
   exact outR (e:=(.exit 6)) E0Ok Ze [] Z6o [0,1,2] (sB Yk<|sN) (by kernel_rfl) (by intro h;cases h)
theorem Z6p (Y6:Gb):∀ (k:Nat) (Y2:Int) (Y3:(List Nat)) (hk:((Y6.Me.Pq.length:Int) - Y2).toNat < k),(ZM Y6 k Y2 Y3).length=Y3.length:=by
  intro k
  induction k with
  | zero=>intro Y2 Y3 hk;exact absurd hk (Nat.not_lt_zero _)
  | succ k ih =>
    intro Y2 Y3 hk
    cases Yk:(decide (Y2 < (Y6.Me.Pq.length:Int))) with
    | true =>
      have e:ZM Y6 (k + 1) Y2 Y3=(ZM Y6 k (Y2 + 1) (Y3.set 3 (Z1Y Y6 Y2 Y3))):=by simp only [ZM,Yk,cond_true]
      rw [e,ih (Y2 + 1) (Y3.set 3 (Z1Y Y6 Y2 Y3)) (by simp_all<;>omega)]<;>simp
    | false =>
      have e:ZM Y6 (k + 1) Y2 Y3=Y3:=by simp only [ZM,Yk,cond_false]
      first | (rw [e];done) | (rw [e];rfl)
def Z2m (Y6:Gb):(List Nat):=(ZM Y6 (((Y6.Me.Pq.length:Int) - 0).toNat + 1) 0 (Z18 Y6))
@[simp] theorem Z5A (Y6:Gb):(Z2m Y6).length=((Z18 Y6):(List Nat)).length:=Z6p Y6 (((Y6.Me.Pq.length:Int) - 0).toNat + 1) 0 (Z18 Y6) (by exact Nat.lt_succ_self _)
def Zx (Y6:Gb):(List Nat):=(Z2m Y6)
theorem Z56 (b:Gb):(Zx b).length=4:=by
  unfold Zx
  rw [Z5A,Z5z,Z5y,Z5x];simp
theorem Z7M (Y6:Gb) (hp0:Y6.Me.Pq.length≤1073741824) (hp1:Y6.Me.Tr.length≤1073741824) (hp2:∀ t∈Y6.Me.Tr,t.length≤1073741824) (hp3:Y6.Sp.length≤1073741824) (hp4:Y6.We.length≤1073741824) (hp5:OkBd Y6)  : Fn prog 89 [.agg [.sl (Y6.Me.Pq.map Gv.c), .sl (Y6.Me.Tr.map (cL (cI .i64))), .sl (Y6.Sp.map Gs.c), .f .f32 Y6.Film, .f .f32 Y6.Bend, .sl (Y6.We.map (cF .f32)), .f .f32 Y6.Fall.X, .f .f32 Y6.Fall.Y, .f .f32 Y6.Fall.Z]] (.own 0) [.vec 29 1 ((Zx Y6).map (cF .f32)) false]:=by
 have y0:(0:Int)≤4:=(by omega)
 have y1:(4:Int)≤2147483648:=(by omega)
 have y2:OkE Y6.Me.Pq.length Y6.Me.Tr:=(by exact hp5.e)
 refine fnS E0Ok Ze (c:=X0 f89) [] (.own 0) [.vec 29 1 ((Z2m Y6).map (cF .f32)) false] func89 (sC (show (4:Int)=4 from rfl)<|sC y0<|sC y1<|sZ Gs.c Y6.Sp<|sL (mR false [0,4,10,5,98]) 2 (X1e (st2:=⟨.agg [.sl (Y6.Me.Pq.map Gv.c), .sl (Y6.Me.Tr.map (cL (cI .i64))), .sl (Y6.Sp.map Gs.c), .f .f32 Y6.Film, .f .f32 Y6.Bend, .sl (Y6.We.map (cF .f32)), .f .f32 Y6.Fall.X, .f .f32 Y6.Fall.Y, .f .f32 Y6.Fall.Z] :: .ptr 0 0 0 :: .nils :: .own 1 :: an 10 (.own 1 :: .ptr 0 0 2 :: .sl (Y6.Sp.map Gs.c) :: .i .i64 (Y6.Sp.length:Int) :: .i .i64 0 :: an 98 []),[.box 34 [.sl (Y6.Me.Pq.map Gv.c), .sl (Y6.Me.Tr.map (cL (cI .i64))), .sl (Y6.Sp.map Gs.c), .f .f32 Y6.Film, .f .f32 Y6.Bend, .sl (Y6.We.map (cF .f32)), .f .f32 Y6.Fall.X, .f .f32 Y6.Fall.Y, .f .f32 Y6.Fall.Z], .vec 29 1 (List.replicate (Int.toNat 4) [.f .f32 0]) false]⟩) (X9 (Z3M Y6) (x:=(Z16 Y6)) (Z6X Y6 hp0 hp1 hp2 hp3 hp4 hp5 (((Y6.Sp.length:Int) - 0).toNat + 1) 0 (List.replicate 4 0) (show 0≤0 from (by omega)) (show (List.replicate 4 0).length=4 from (by simp;done)) (Nat.lt_succ_self _)) rfl) (by simp [Z3N,cF]))<|sZ (cL (cI .i64)) Y6.Me.Tr<|sL (mR false [0,4,10,3,25,5,70]) 2 (X9 (Z3O Y6) (x:=(Z17 Y6)) (Z6Y Y6 hp0 hp1 hp2 hp3 hp4 hp5 (((Y6.Me.Tr.length:Int) - 0).toNat + 1) 0 (Z16 Y6) (show 0≤0 from (by omega)) (show (Z16 Y6).length=(Z16 Y6).length from (by omega)) (Nat.lt_succ_self _)) rfl)<|sF (Z5M Y6.Me hp0 hp1 hp2 y2)<|sM (X5o (l:=(Z8 Y6.Me)) (f:=fun l=>l.map (cI .i64)))<|sL Z4V 3 (X9 (Z3P Y6) (x:=(Z18 Y6)) (Z6Z Y6 hp0 hp1 hp2 hp3 hp4 hp5 ((((Z8 Y6.Me).length:Int) - 0).toNat + 1) 0 (Z17 Y6) (show 0≤0 from (by omega)) (show (Z17 Y6).length=(Z17 Y6).length from (by omega)) (Nat.lt_succ_self _)) rfl)<|sZ Gv.c Y6.Me.Pq<|sL Z4Y 3 (X9 (Z3Q Y6) (x:=(Z2m Y6)) (Z70 Y6 hp0 hp1 hp2 hp3 hp4 hp5 (((Y6.Me.Pq.length:Int) - 0).toNat + 1) 0 (Z18 Y6) (show 0≤0 from (by omega)) (show (Z18 Y6).length=(Z18 Y6).length from (by omega)) (Nat.lt_succ_self _)) rfl)<|sK [1] sN) rfl (by kernel_rfl) (by kernel_rfl) rfl ?_ ?_
 · rfl
 · simp [Zx]
def Z5h (Y6:Gb):Nat:=(fop .add .f32 (fop .add .f32 (fop .add .f32 ((Zx Y6).getD 0 default) ((Zx Y6).getD 1 default)) ((Zx Y6).getD 2 default)) ((Zx Y6).getD 3 default))
def ZO (Y6:Gb):Nat:=(Z5h Y6)
theorem Z4F (Y6:Gb) (hp0:Y6.Me.Pq.length≤1073741824) (hp1:Y6.Me.Tr.length≤1073741824) (hp2:∀ t∈Y6.Me.Tr,t.length≤1073741824) (hp3:Y6.Sp.length≤1073741824) (hp4:Y6.We.length≤1073741824) (hp5:OkBd Y6)  : Fn prog 90 [.agg [.sl (Y6.Me.Pq.map Gv.c), .sl (Y6.Me.Tr.map (cL (cI .i64))), .sl (Y6.Sp.map Gs.c), .f .f32 Y6.Film, .f .f32 Y6.Bend, .sl (Y6.We.map (cF .f32)), .f .f32 Y6.Fall.X, .f .f32 Y6.Fall.Y, .f .f32 Y6.Fall.Z]] (.f .f32 (ZO Y6)) []:=by
 have y0:(0:Int)≤0:=(by omega)
 have y1:0 < ((Zx Y6).length:Int):=(by have q:=Z56 Y6;omega)
 have y2:0 < (Zx Y6).length:=(by omega)
 have y3:(0:Int)≤1:=(by omega)
 have y4:1 < ((Zx Y6).length:Int):=(by have q:=Z56 Y6;omega)
 have y5:1 < (Zx Y6).length:=(by omega)
 have y6:(0:Int)≤2:=(by omega)
 have y7:2 < ((Zx Y6).length:Int):=(by have q:=Z56 Y6;omega)
 have y8:2 < (Zx Y6).length:=(by omega)
 have y9:(0:Int)≤3:=(by omega)
 have y10:3 < ((Zx Y6).length:Int):=(by have q:=Z56 Y6;omega)
 have y11:3 < (Zx Y6).length:=(by omega)
 refine fnS E0Ok Ze (c:=X0 f90) [] (.f .f32 (Z5h Y6)) [] func90 (sF (Z7M Y6 hp0 hp1 hp2 hp3 hp4 hp5)<|sK [14,14]<|sX (cF .f32) (Zx Y6) 0 y0 y1<|sV (cF .f32) (Zx Y6) 0 y2<|sX (cF .f32) (Zx Y6) 1 y3 y4<|sV (cF .f32) (Zx Y6) 1 y5<|sX (cF .f32) (Zx Y6) 2 y6 y7<|sV (cF .f32) (Zx Y6) 2 y8<|sX (cF .f32) (Zx Y6) 3 y9 y10<|sV (cF .f32) (Zx Y6) 3 y11<|sK [] sN) rfl (by kernel_rfl) (by kernel_rfl) rfl ?_ ?_
 · rfl
 · rfl
theorem Z7c {b:Gb} (h:OkBd b) (i:Nat) (v:Gv) (f d:Nat) (g:Gv):OkBd ⟨⟨b.Me.Pq.set i v,b.Me.Tr⟩,b.Sp,f,d,b.We,g⟩ :=
  ⟨by rw [List.length_set];exact h.e,by rw [List.length_set];exact h.w,by rw [List.length_set];exact h.a,by rw [List.length_set];exact h.b⟩
def Z3R (Y6:Gb) (Yb:Int) (Yq:Nat):Nat:=(ZO (⟨(⟨(Y6.Me.Pq.set Yb.toNat (⟨(fop .add .f32 ((Y6.Me.Pq.getD Yb.toNat default).X) Yq),(Y6.Me.Pq.getD Yb.toNat default).Y,(Y6.Me.Pq.getD Yb.toNat default).Z⟩:Gv)),Y6.Me.Tr⟩:Gm),Y6.Sp,Y6.Film,Y6.Bend,Y6.We,Y6.Fall⟩:Gb))
def Z3S (Y6:Gb) (Yb:Int) (Yq:Nat):Nat:=(ZO (⟨(⟨(Y6.Me.Pq.set Yb.toNat (⟨(Y6.Me.Pq.getD Yb.toNat default).X,(fop .add .f32 ((Y6.Me.Pq.getD Yb.toNat default).Y) Yq),(Y6.Me.Pq.getD Yb.toNat default).Z⟩:Gv)),Y6.Me.Tr⟩:Gm),Y6.Sp,Y6.Film,Y6.Bend,Y6.We,Y6.Fall⟩:Gb))
def Z3T (Y6:Gb) (Yb:Int) (Yq:Nat):Nat:=(ZO (⟨(⟨(Y6.Me.Pq.set Yb.toNat (⟨(Y6.Me.Pq.getD Yb.toNat default).X,(Y6.Me.Pq.getD Yb.toNat default).Y,(fop .add .f32 ((Y6.Me.Pq.getD Yb.toNat default).Z) Yq)⟩:Gv)),Y6.Me.Tr⟩:Gm),Y6.Sp,Y6.Film,Y6.Bend,Y6.We,Y6.Fall⟩:Gb))
def Z26 (Y6:Gb) (Yb:Int) (YG:Int) (Yq:Nat):Nat:=(cond (YG == 0)
  (Z3R Y6 Yb Yq)
  (cond (YG == 1)
    (Z3S Y6 Yb Yq)
    (Z3T Y6 Yb Yq)))
set_option maxHeartbeats 1000000 in
theorem Z5T (Y6:Gb) (Yb:Int) (YG:Int) (Yq:Nat) (hp0:Y6.Me.Pq.length≤1073741824) (hp1:Y6.Me.Tr.length≤1073741824) (hp2:∀ t∈Y6.Me.Tr,t.length≤1073741824) (hp3:Y6.Sp.length≤1073741824) (hp4:Y6.We.length≤1073741824) (hp5:OkBd Y6) (hp6:0≤Yb) (hp7:Yb < (Y6.Me.Pq.length:Int))  : Fn prog 66 [.agg [.sl (Y6.Me.Pq.map Gv.c), .sl (Y6.Me.Tr.map (cL (cI .i64))), .sl (Y6.Sp.map Gs.c), .f .f32 Y6.Film, .f .f32 Y6.Bend, .sl (Y6.We.map (cF .f32)), .f .f32 Y6.Fall.X, .f .f32 Y6.Fall.Y, .f .f32 Y6.Fall.Z], .i .i64 Yb, .i .i64 YG, .f .f32 Yq] (.f .f32 (Z26 Y6 Yb YG Yq)) []:=by
 have y0:XP Y6.Me.Pq.length Y6.Me.Tr:=(by exact hp5.e.tris)
 have y1:(0:Int)≤Yb:=(by assumption)
 have p {a C} (s:Scr a C):=sF (Z7x Y6 hp0 hp1 hp2 hp3 hp4 y0)<|sX Gv.c Y6.Me.Pq Yb y1 hp7<|s
 cases h0:(YG == 0) with
 | true =>
  have gh0:=eq_of_beq h0
  have y2:Yb.toNat < Y6.Me.Pq.length:=by clear p;exact (by omega)
  have y3:(⟨(⟨(Y6.Me.Pq.set Yb.toNat (⟨(fop .add .f32 ((Y6.Me.Pq.getD Yb.toNat default).X) Yq),(Y6.Me.Pq.getD Yb.toNat default).Y,(Y6.Me.Pq.getD Yb.toNat default).Z⟩:Gv)),Y6.Me.Tr⟩:Gm),Y6.Sp,Y6.Film,Y6.Bend,Y6.We,Y6.Fall⟩:Gb).Me.Pq.length≤1073741824:=by clear p;exact (by simp;omega)
  have y4:(⟨(⟨(Y6.Me.Pq.set Yb.toNat (⟨(fop .add .f32 ((Y6.Me.Pq.getD Yb.toNat default).X) Yq),(Y6.Me.Pq.getD Yb.toNat default).Y,(Y6.Me.Pq.getD Yb.toNat default).Z⟩:Gv)),Y6.Me.Tr⟩:Gm),Y6.Sp,Y6.Film,Y6.Bend,Y6.We,Y6.Fall⟩:Gb).Me.Tr.length≤1073741824:=by clear p;exact (by assumption)
  have y5:∀ t∈(⟨(⟨(Y6.Me.Pq.set Yb.toNat (⟨(fop .add .f32 ((Y6.Me.Pq.getD Yb.toNat default).X) Yq),(Y6.Me.Pq.getD Yb.toNat default).Y,(Y6.Me.Pq.getD Yb.toNat default).Z⟩:Gv)),Y6.Me.Tr⟩:Gm),Y6.Sp,Y6.Film,Y6.Bend,Y6.We,Y6.Fall⟩:Gb).Me.Tr,t.length≤1073741824:=by clear p;exact (by assumption)
  have y6:(⟨(⟨(Y6.Me.Pq.set Yb.toNat (⟨(fop .add .f32 ((Y6.Me.Pq.getD Yb.toNat default).X) Yq),(Y6.Me.Pq.getD Yb.toNat default).Y,(Y6.Me.Pq.getD Yb.toNat default).Z⟩:Gv)),Y6.Me.Tr⟩:Gm),Y6.Sp,Y6.Film,Y6.Bend,Y6.We,Y6.Fall⟩:Gb).Sp.length≤1073741824:=by clear p;exact (by assumption)
  have y7:(⟨(⟨(Y6.Me.Pq.set Yb.toNat (⟨(fop .add .f32 ((Y6.Me.Pq.getD Yb.toNat default).X) Yq),(Y6.Me.Pq.getD Yb.toNat default).Y,(Y6.Me.Pq.getD Yb.toNat default).Z⟩:Gv)),Y6.Me.Tr⟩:Gm),Y6.Sp,Y6.Film,Y6.Bend,Y6.We,Y6.Fall⟩:Gb).We.length≤1073741824:=by clear p;exact (by assumption)
  have y8:OkBd (⟨(⟨(Y6.Me.Pq.set Yb.toNat (⟨(fop .add .f32 ((Y6.Me.Pq.getD Yb.toNat default).X) Yq),(Y6.Me.Pq.getD Yb.toNat default).Y,(Y6.Me.Pq.getD Yb.toNat default).Z⟩:Gv)),Y6.Me.Tr⟩:Gm),Y6.Sp,Y6.Film,Y6.Bend,Y6.We,Y6.Fall⟩:Gb):=by clear p;exact (by exact Z7c hp5 _ _ _ _ _)
  refine fnS E0Ok Ze (c:=X0 f66) [] (.f .f32 (Z3R Y6 Yb Yq)) [] func66 (p (sB h0<|sV Gv.c Y6.Me.Pq Yb.toNat y2<|sV Gv.c Y6.Me.Pq Yb.toNat y2<|sF (Fn.castA (args':=[.agg [.sl ((Y6.Me.Pq.map Gv.c).set Yb.toNat [.f .f32 (fop .add .f32 ((Y6.Me.Pq.getD Yb.toNat default).X) Yq), .f .f32 ((Y6.Me.Pq.getD Yb.toNat default).Y), .f .f32 ((Y6.Me.Pq.getD Yb.toNat default).Z)]), .sl ((Y6.Me.Tr.map fun l=>l.map (cI .i64)).map fun l => [.sl l]), .sl (Y6.Sp.map Gs.c), .f .f32 Y6.Film, .f .f32 Y6.Bend, .sl (Y6.We.map (cF .f32)), .f .f32 Y6.Fall.X, .f .f32 Y6.Fall.Y, .f .f32 Y6.Fall.Z]]) (Z4F (⟨(⟨(Y6.Me.Pq.set Yb.toNat (⟨(fop .add .f32 ((Y6.Me.Pq.getD Yb.toNat default).X) Yq),(Y6.Me.Pq.getD Yb.toNat default).Y,(Y6.Me.Pq.getD Yb.toNat default).Z⟩:Gv)),Y6.Me.Tr⟩:Gm),Y6.Sp,Y6.Film,Y6.Bend,Y6.We,Y6.Fall⟩:Gb) y3 y4 y5 y6 y7 y8) (by simp [Gv.c,cL,Function.comp_def];done))<|sK [] sN)) rfl (by kernel_rfl) (by kernel_rfl) rfl ?_ ?_
  · simp only [Z26,h0,cond_true]
  · rfl
 | false =>
  have gh0:=ne_of_beq_false h0
  have q {a C} (s:Scr a C):=p (sB h0<|s)
  clear p
  cases h1:(YG == 1) with
  | true =>
   have gh1:=eq_of_beq h1
   have y2:Yb.toNat < Y6.Me.Pq.length:=by clear q;exact (by omega)
   have y3:(⟨(⟨(Y6.Me.Pq.set Yb.toNat (⟨(Y6.Me.Pq.getD Yb.toNat default).X,(fop .add .f32 ((Y6.Me.Pq.getD Yb.toNat default).Y) Yq),(Y6.Me.Pq.getD Yb.toNat default).Z⟩:Gv)),Y6.Me.Tr⟩:Gm),Y6.Sp,Y6.Film,Y6.Bend,Y6.We,Y6.Fall⟩:Gb).Me.Pq.length≤1073741824:=by clear q;exact (by simp;omega)
   have y4:(⟨(⟨(Y6.Me.Pq.set Yb.toNat (⟨(Y6.Me.Pq.getD Yb.toNat default).X,(fop .add .f32 ((Y6.Me.Pq.getD Yb.toNat default).Y) Yq),(Y6.Me.Pq.getD Yb.toNat default).Z⟩:Gv)),Y6.Me.Tr⟩:Gm),Y6.Sp,Y6.Film,Y6.Bend,Y6.We,Y6.Fall⟩:Gb).Me.Tr.length≤1073741824:=by clear q;exact (by assumption)
   have y5:∀ t∈(⟨(⟨(Y6.Me.Pq.set Yb.toNat (⟨(Y6.Me.Pq.getD Yb.toNat default).X,(fop .add .f32 ((Y6.Me.Pq.getD Yb.toNat default).Y) Yq),(Y6.Me.Pq.getD Yb.toNat default).Z⟩:Gv)),Y6.Me.Tr⟩:Gm),Y6.Sp,Y6.Film,Y6.Bend,Y6.We,Y6.Fall⟩:Gb).Me.Tr,t.length≤1073741824:=by clear q;exact (by assumption)
   have y6:(⟨(⟨(Y6.Me.Pq.set Yb.toNat (⟨(Y6.Me.Pq.getD Yb.toNat default).X,(fop .add .f32 ((Y6.Me.Pq.getD Yb.toNat default).Y) Yq),(Y6.Me.Pq.getD Yb.toNat default).Z⟩:Gv)),Y6.Me.Tr⟩:Gm),Y6.Sp,Y6.Film,Y6.Bend,Y6.We,Y6.Fall⟩:Gb).Sp.length≤1073741824:=by clear q;exact (by assumption)
   have y7:(⟨(⟨(Y6.Me.Pq.set Yb.toNat (⟨(Y6.Me.Pq.getD Yb.toNat default).X,(fop .add .f32 ((Y6.Me.Pq.getD Yb.toNat default).Y) Yq),(Y6.Me.Pq.getD Yb.toNat default).Z⟩:Gv)),Y6.Me.Tr⟩:Gm),Y6.Sp,Y6.Film,Y6.Bend,Y6.We,Y6.Fall⟩:Gb).We.length≤1073741824:=by clear q;exact (by assumption)
   have y8:OkBd (⟨(⟨(Y6.Me.Pq.set Yb.toNat (⟨(Y6.Me.Pq.getD Yb.toNat default).X,(fop .add .f32 ((Y6.Me.Pq.getD Yb.toNat default).Y) Yq),(Y6.Me.Pq.getD Yb.toNat default).Z⟩:Gv)),Y6.Me.Tr⟩:Gm),Y6.Sp,Y6.Film,Y6.Bend,Y6.We,Y6.Fall⟩:Gb):=by clear q;exact (by exact Z7c hp5 _ _ _ _ _)
   refine fnS E0Ok Ze (c:=X0 f66) [] (.f .f32 (Z3S Y6 Yb Yq)) [] func66 (q (sB h1<|sV Gv.c Y6.Me.Pq Yb.toNat y2<|sV Gv.c Y6.Me.Pq Yb.toNat y2<|sF (Fn.castA (args':=[.agg [.sl ((Y6.Me.Pq.map Gv.c).set Yb.toNat [.f .f32 ((Y6.Me.Pq.getD Yb.toNat default).X), .f .f32 (fop .add .f32 ((Y6.Me.Pq.getD Yb.toNat default).Y) Yq), .f .f32 ((Y6.Me.Pq.getD Yb.toNat default).Z)]), .sl ((Y6.Me.Tr.map fun l=>l.map (cI .i64)).map fun l => [.sl l]), .sl (Y6.Sp.map Gs.c), .f .f32 Y6.Film, .f .f32 Y6.Bend, .sl (Y6.We.map (cF .f32)), .f .f32 Y6.Fall.X, .f .f32 Y6.Fall.Y, .f .f32 Y6.Fall.Z]]) (Z4F (⟨(⟨(Y6.Me.Pq.set Yb.toNat (⟨(Y6.Me.Pq.getD Yb.toNat default).X,(fop .add .f32 ((Y6.Me.Pq.getD Yb.toNat default).Y) Yq),(Y6.Me.Pq.getD Yb.toNat default).Z⟩:Gv)),Y6.Me.Tr⟩:Gm),Y6.Sp,Y6.Film,Y6.Bend,Y6.We,Y6.Fall⟩:Gb) y3 y4 y5 y6 y7 y8) (by simp [Gv.c,cL,Function.comp_def];done))<|sK [] sN)) rfl (by kernel_rfl) (by kernel_rfl) rfl ?_ ?_
   · simp only [Z26,h0,h1,cond_true,cond_false]
   · rfl
  | false =>
   have gh1:=ne_of_beq_false h1
   have y2:Yb.toNat < Y6.Me.Pq.length:=by clear q;exact (by omega)
   have y3:(⟨(⟨(Y6.Me.Pq.set Yb.toNat (⟨(Y6.Me.Pq.getD Yb.toNat default).X,(Y6.Me.Pq.getD Yb.toNat default).Y,(fop .add .f32 ((Y6.Me.Pq.getD Yb.toNat default).Z) Yq)⟩:Gv)),Y6.Me.Tr⟩:Gm),Y6.Sp,Y6.Film,Y6.Bend,Y6.We,Y6.Fall⟩:Gb).Me.Pq.length≤1073741824:=by clear q;exact (by simp;omega)
   have y4:(⟨(⟨(Y6.Me.Pq.set Yb.toNat (⟨(Y6.Me.Pq.getD Yb.toNat default).X,(Y6.Me.Pq.getD Yb.toNat default).Y,(fop .add .f32 ((Y6.Me.Pq.getD Yb.toNat default).Z) Yq)⟩:Gv)),Y6.Me.Tr⟩:Gm),Y6.Sp,Y6.Film,Y6.Bend,Y6.We,Y6.Fall⟩:Gb).Me.Tr.length≤1073741824:=by clear q;exact (by assumption)
   have y5:∀ t∈(⟨(⟨(Y6.Me.Pq.set Yb.toNat (⟨(Y6.Me.Pq.getD Yb.toNat default).X,(Y6.Me.Pq.getD Yb.toNat default).Y,(fop .add .f32 ((Y6.Me.Pq.getD Yb.toNat default).Z) Yq)⟩:Gv)),Y6.Me.Tr⟩:Gm),Y6.Sp,Y6.Film,Y6.Bend,Y6.We,Y6.Fall⟩:Gb).Me.Tr,t.length≤1073741824:=by clear q;exact (by assumption)
   have y6:(⟨(⟨(Y6.Me.Pq.set Yb.toNat (⟨(Y6.Me.Pq.getD Yb.toNat default).X,(Y6.Me.Pq.getD Yb.toNat default).Y,(fop .add .f32 ((Y6.Me.Pq.getD Yb.toNat default).Z) Yq)⟩:Gv)),Y6.Me.Tr⟩:Gm),Y6.Sp,Y6.Film,Y6.Bend,Y6.We,Y6.Fall⟩:Gb).Sp.length≤1073741824:=by clear q;exact (by assumption)
   have y7:(⟨(⟨(Y6.Me.Pq.set Yb.toNat (⟨(Y6.Me.Pq.getD Yb.toNat default).X,(Y6.Me.Pq.getD Yb.toNat default).Y,(fop .add .f32 ((Y6.Me.Pq.getD Yb.toNat default).Z) Yq)⟩:Gv)),Y6.Me.Tr⟩:Gm),Y6.Sp,Y6.Film,Y6.Bend,Y6.We,Y6.Fall⟩:Gb).We.length≤1073741824:=by clear q;exact (by assumption)
   have y8:OkBd (⟨(⟨(Y6.Me.Pq.set Yb.toNat (⟨(Y6.Me.Pq.getD Yb.toNat default).X,(Y6.Me.Pq.getD Yb.toNat default).Y,(fop .add .f32 ((Y6.Me.Pq.getD Yb.toNat default).Z) Yq)⟩:Gv)),Y6.Me.Tr⟩:Gm),Y6.Sp,Y6.Film,Y6.Bend,Y6.We,Y6.Fall⟩:Gb):=by clear q;exact (by exact Z7c hp5 _ _ _ _ _)
   refine fnS E0Ok Ze (c:=X0 f66) [] (.f .f32 (Z3T Y6 Yb Yq)) [] func66 (q (sB h1<|sV Gv.c Y6.Me.Pq Yb.toNat y2<|sV Gv.c Y6.Me.Pq Yb.toNat y2<|sF (Fn.castA (args':=[.agg [.sl ((Y6.Me.Pq.map Gv.c).set Yb.toNat [.f .f32 ((Y6.Me.Pq.getD Yb.toNat default).X), .f .f32 ((Y6.Me.Pq.getD Yb.toNat default).Y), .f .f32 (fop .add .f32 ((Y6.Me.Pq.getD Yb.toNat default).Z) Yq)]), .sl ((Y6.Me.Tr.map fun l=>l.map (cI .i64)).map fun l => [.sl l]), .sl (Y6.Sp.map Gs.c), .f .f32 Y6.Film, .f .f32 Y6.Bend, .sl (Y6.We.map (cF .f32)), .f .f32 Y6.Fall.X, .f .f32 Y6.Fall.Y, .f .f32 Y6.Fall.Z]]) (Z4F (⟨(⟨(Y6.Me.Pq.set Yb.toNat (⟨(Y6.Me.Pq.getD Yb.toNat default).X,(Y6.Me.Pq.getD Yb.toNat default).Y,(fop .add .f32 ((Y6.Me.Pq.getD Yb.toNat default).Z) Yq)⟩:Gv)),Y6.Me.Tr⟩:Gm),Y6.Sp,Y6.Film,Y6.Bend,Y6.We,Y6.Fall⟩:Gb) y3 y4 y5 y6 y7 y8) (by simp [Gv.c,cL,Function.comp_def];done))<|sK [] sN)) rfl (by kernel_rfl) (by kernel_rfl) rfl ?_ ?_
   · simp only [Z26,h0,h1,cond_false]
   · rfl
theorem Z8Y {x:Int} {n:Nat} (hn:n≤9223372036854775807) (h:Zq x 0 (IntKind.wrap .i64 ((n:Int) - 1))=true):0≤x∧x < (n:Int):=by
  unfold Zq at h
  rw [Xt (n:=(n:Int) - 1) (by omega) (by omega)] at h
  by_cases h1:0≤x
  · rw [decide_eq_true h1,cond_true] at h
    have:=odt h
    omega
  · rw [decide_eq_false h1,cond_false] at h
    cases h
def Z1F (Y6:Gb) (Yb:Int) (YG:Int) (Yq:Nat):Nat:=(fop .quo .f32 (fop .sub .f32 (Z26 Y6 Yb YG Yq) (Z26 Y6 Yb YG (fneg .f32 Yq))) (fop .mul .f32 1073741824 Yq))
def Zn (Y6:Gb) (Yb:Int) (YG:Int) (Yq:Nat):Nat × Bool:=(cond (ZB Y6)
  (cond (Zq Yb 0 (IntKind.wrap .i64 ((Y6.Me.Pq.length:Int) - 1)))
    (cond (Zq YG 0 2)
      (cond (Z2t Yq)
        ((Z1F Y6 Yb YG Yq),true)
        (0,false))
      (0,false))
    (0,false))
  (0,false))
theorem Z55 (Y6:Gb) (Yb:Int) (YG:Int) (Yq:Nat) (hp0:Y6.Me.Pq.length≤1073741824) (hp1:Y6.Me.Tr.length≤1073741824) (hp2:∀ t∈Y6.Me.Tr,t.length≤1073741824) (hp3:Y6.Sp.length≤1073741824) (hp4:Y6.We.length≤1073741824)  : Fn prog 15 [.agg [.sl (Y6.Me.Pq.map Gv.c), .sl (Y6.Me.Tr.map (cL (cI .i64))), .sl (Y6.Sp.map Gs.c), .f .f32 Y6.Film, .f .f32 Y6.Bend, .sl (Y6.We.map (cF .f32)), .f .f32 Y6.Fall.X, .f .f32 Y6.Fall.Y, .f .f32 Y6.Fall.Z], .i .i64 Yb, .i .i64 YG, .f .f32 Yq] (.tup [.f .f32 ((Zn Y6 Yb YG Yq).1), .b ((Zn Y6 Yb YG Yq).2)]) []:=by
 have p {a C} (s:Scr a C):=sF (Z41 Y6 hp0 hp1 hp2 hp3 hp4)<|s
 cases h0:(ZB Y6) with
 | true =>
  have q {a C} (s:Scr a C):=p (sB' h0<|sB' h0<|sB' h0<|sB' h0<|sB' h0<|sZ Gv.c Y6.Me.Pq<|sB' h0<|sW .i64 ((Y6.Me.Pq.length:Int) - 1)<|sB' h0<|sF (Z37 Yb 0 (IntKind.wrap .i64 ((Y6.Me.Pq.length:Int) - 1)))<|sB' h0<|sB' h0<|s)
  clear p
  cases h1:(Zq Yb 0 (IntKind.wrap .i64 ((Y6.Me.Pq.length:Int) - 1))) with
  | true =>
   have p {a C} (s:Scr a C):=q (sB' h1<|sB' h1<|sF (Z37 YG 0 2)<|sB' h1<|sB' h1<|s)
   clear q
   cases h2:(Zq YG 0 2) with
   | true =>
    have q {a C} (s:Scr a C):=p (sB' h2<|sB' h2<|sF (Z8a Yq)<|sB' h2<|sB' h2<|s)
    clear p
    cases h3:(Z2t Yq) with
    | true =>
     have y0:OkBd Y6:=by clear q;exact (by exact Z7R _ (by assumption))
     have y1:0≤Yb:=by clear q;exact (by (have q:=Z8Y (n:=Y6.Me.Pq.length) (by omega) (by assumption:Zq Yb 0 (IntKind.wrap .i64 ((Y6.Me.Pq.length:Int) - 1))=true);omega))
     have y2:Yb < (Y6.Me.Pq.length:Int):=by clear q;exact (by (have q:=Z8Y (n:=Y6.Me.Pq.length) (by omega) (by assumption:Zq Yb 0 (IntKind.wrap .i64 ((Y6.Me.Pq.length:Int) - 1))=true);omega))
     refine fnS E0Ok Ze (c:=X0 f15) [] (.tup [.f .f32 (Z1F Y6 Yb YG Yq), .b true]) [] func15 (q (sB' h3<|sK [14,14]<|sF (Z5T Y6 Yb YG Yq hp0 hp1 hp2 hp3 hp4 y0 y1 y2)<|sF (Z5T Y6 Yb YG (fneg .f32 Yq) hp0 hp1 hp2 hp3 hp4 y0 y1 y2)<|sK [] sN)) rfl (by kernel_rfl) (by kernel_rfl) rfl ?_ ?_
     · simp only [Zn,h0,h1,h2,h3,cond_true]
     · rfl
    | false =>
     refine fnS E0Ok Ze (c:=X0 f15) [] (.tup [.f .f32 0, .b false]) [] func15 (q (sB' h3<|sK [] sN)) rfl (by kernel_rfl) (by kernel_rfl) rfl ?_ ?_
     · simp only [Zn,h0,h1,h2,h3,cond_true,cond_false]
     · rfl
   | false =>
    refine fnS E0Ok Ze (c:=X0 f15) [] (.tup [.f .f32 0, .b false]) [] func15 (p (sB' h2<|sB' h2<|sB' h2<|sB' h2<|sB (show true=true from rfl)<|sK [] sN)) rfl (by kernel_rfl) (by kernel_rfl) rfl ?_ ?_
    · simp only [Zn,h0,h1,h2,cond_true,cond_false]
    · rfl
  | false =>
   refine fnS E0Ok Ze (c:=X0 f15) [] (.tup [.f .f32 0, .b false]) [] func15 (q (sB' h1<|sB' h1<|sB' h1<|sB' h1<|sB (show true=true from rfl)<|sB (show true=true from rfl)<|sB (show true=true from rfl)<|sB (show true=true from rfl)<|sB (show true=true from rfl)<|sK [] sN)) rfl (by kernel_rfl) (by kernel_rfl) rfl ?_ ?_
   · simp only [Zn,h0,h1,cond_true,cond_false]
   · rfl
 | false =>
  refine fnS E0Ok Ze (c:=X0 f15) [] (.tup [.f .f32 0, .b false]) [] func15 (p (sB' h0<|sB' h0<|sB' h0<|sB' h0<|sB' h0<|sB' h0<|sB' h0<|sB' h0<|sB' h0<|sB (show true=true from rfl)<|sB (show true=true from rfl)<|sB (show true=true from rfl)<|sB (show true=true from rfl)<|sB (show true=true from rfl)<|sB (show true=true from rfl)<|sB (show true=true from rfl)<|sB (show true=true from rfl)<|sB (show true=true from rfl)<|sK [] sN)) rfl (by kernel_rfl) (by kernel_rfl) rfl ?_ ?_
  · simp only [Zn,h0,cond_false]
  · rfl
def Z1s (Yw:Nat) (Yx:Nat):Nat:=(cond (fcmp .lss .f64 Yw Yx)
  (fop .sub .f64 Yx Yw)
  (fop .sub .f64 Yw Yx))
theorem Z5k (Yw:Nat) (Yx:Nat)   : Fn prog 16 [.f .f64 Yw, .f .f64 Yx] (.f .f64 (Z1s Yw Yx)) []:=by
 cases h0:(fcmp .lss .f64 Yw Yx) with
 | true =>
  refine fnS E0Ok Ze (c:=X0 f16) [] (.f .f64 (fop .sub .f64 Yx Yw)) [] func16 (sB h0<|sK [] sN) rfl (by kernel_rfl) (by kernel_rfl) rfl ?_ ?_
  · simp only [Z1s,h0,cond_true]
  · rfl
 | false =>
  refine fnS E0Ok Ze (c:=X0 f16) [] (.f .f64 (fop .sub .f64 Yw Yx)) [] func16 (sB h0<|sK [] sN) rfl (by kernel_rfl) (by kernel_rfl) rfl ?_ ?_
  · simp only [Z1s,h0,cond_false]
  · rfl
def gd11:Gm:=⟨[⟨0,0,0⟩,⟨1065353216,0,0⟩,⟨0,1065353216,0⟩,⟨1065353216,1065353216,0⟩],[[0,1,3],[0,3,2]]⟩
def ge11:List (List Int):=[[0,1],[0,2],[0,3],[1,3],[2,3]]
theorem Zaj:Z5 1 1 1065353216=gd11:=by kernel_rfl
theorem Z9L (ps:List Gv) (h:ps.length=gd11.Pq.length):Zc ⟨ps,gd11.Tr⟩=ge11:=by
  match ps,h with
  | [a0,a1,a2,a3],_=>show _=_;kernel_rfl
def gd12:Gm:=⟨[⟨0,0,0⟩,⟨1065353216,0,0⟩,⟨0,1065353216,0⟩,⟨1065353216,1065353216,0⟩,⟨0,1073741824,0⟩,⟨1065353216,1073741824,0⟩],[[0,1,3],[0,3,2],[2,3,5],[2,5,4]]⟩
def ge12:List (List Int):=[[0,1],[0,2],[0,3],[1,3],[2,3],[2,4],[2,5],[3,5],[4,5]]
theorem Zak:Z5 1 2 1065353216=gd12:=by kernel_rfl
theorem Z9M (ps:List Gv) (h:ps.length=gd12.Pq.length):Zc ⟨ps,gd12.Tr⟩=ge12:=by
  match ps,h with
  | [a0,a1,a2,a3,a4,a5],_=>show _=_;kernel_rfl
def gd21:Gm:=⟨[⟨0,0,0⟩,⟨1065353216,0,0⟩,⟨1073741824,0,0⟩,⟨0,1065353216,0⟩,⟨1065353216,1065353216,0⟩,⟨1073741824,1065353216,0⟩],[[0,1,4],[0,4,3],[1,2,5],[1,5,4]]⟩
def ge21:List (List Int):=[[0,1],[0,3],[0,4],[1,2],[1,4],[1,5],[2,5],[3,4],[4,5]]
theorem Zal:Z5 2 1 1065353216=gd21:=by kernel_rfl
theorem Z9N (ps:List Gv) (h:ps.length=gd21.Pq.length):Zc ⟨ps,gd21.Tr⟩=ge21:=by
  match ps,h with
  | [a0,a1,a2,a3,a4,a5],_=>show _=_;kernel_rfl
def gd22:Gm:=⟨[⟨0,0,0⟩,⟨1065353216,0,0⟩,⟨1073741824,0,0⟩,⟨0,1065353216,0⟩,⟨1065353216,1065353216,0⟩,⟨1073741824,1065353216,0⟩,⟨0,1073741824,0⟩,⟨1065353216,1073741824,0⟩,⟨1073741824,1073741824,0⟩],[[0,1,4],[0,4,3],[1,2,5],[1,5,4],[3,4,7],[3,7,6],[4,5,8],[4,8,7]]⟩
def ge22:List (List Int):=[[0,1],[0,3],[0,4],[1,2],[1,4],[1,5],[2,5],[3,4],[3,6],[3,7],[4,5],[4,7],[4,8],[5,8],[6,7],[7,8]]
theorem Zam:Z5 2 2 1065353216=gd22:=by kernel_rfl
theorem Z9O (ps:List Gv) (h:ps.length=gd22.Pq.length):Zc ⟨ps,gd22.Tr⟩=ge22:=by
  match ps,h with
  | [a0,a1,a2,a3,a4,a5,a6,a7,a8],_=>show _=_;kernel_rfl
def gd31:Gm:=⟨[⟨0,0,0⟩,⟨1065353216,0,0⟩,⟨1073741824,0,0⟩,⟨1077936128,0,0⟩,⟨0,1065353216,0⟩,⟨1065353216,1065353216,0⟩,⟨1073741824,1065353216,0⟩,⟨1077936128,1065353216,0⟩],[[0,1,5],[0,5,4],[1,2,6],[1,6,5],[2,3,7],[2,7,6]]⟩
def ge31:List (List Int):=[[0,1],[0,4],[0,5],[1,2],[1,5],[1,6],[2,3],[2,6],[2,7],[3,7],[4,5],[5,6],[6,7]]
theorem Zan:Z5 3 1 1065353216=gd31:=by kernel_rfl
theorem Z9P (ps:List Gv) (h:ps.length=gd31.Pq.length):Zc ⟨ps,gd31.Tr⟩=ge31:=by
  match ps,h with
  | [a0,a1,a2,a3,a4,a5,a6,a7],_=>show _=_;kernel_rfl
def gd32:Gm:=⟨[⟨0,0,0⟩,⟨1065353216,0,0⟩,⟨1073741824,0,0⟩,⟨1077936128,0,0⟩,⟨0,1065353216,0⟩,⟨1065353216,1065353216,0⟩,⟨1073741824,1065353216,0⟩,⟨1077936128,1065353216,0⟩,⟨0,1073741824,0⟩,⟨1065353216,1073741824,0⟩,⟨1073741824,1073741824,0⟩,⟨1077936128,1073741824,0⟩],[[0,1,5],[0,5,4],[1,2,6],[1,6,5],[2,3,7],[2,7,6],[4,5,9],[4,9,8],[5,6,10],[5,10,9],[6,7,11],[6,11,10]]⟩
def ge32:List (List Int):=[[0,1],[0,4],[0,5],[1,2],[1,5],[1,6],[2,3],[2,6],[2,7],[3,7],[4,5],[4,8],[4,9],[5,6],[5,9],[5,10],[6,7],[6,10],[6,11],[7,11],[8,9],[9,10],[10,11]]
theorem Zao:Z5 3 2 1065353216=gd32:=by kernel_rfl
theorem Z9Q (ps:List Gv) (h:ps.length=gd32.Pq.length):Zc ⟨ps,gd32.Tr⟩=ge32:=by
  match ps,h with
  | [a0,a1,a2,a3,a4,a5,a6,a7,a8,a9,a10,a11],_=>show _=_;kernel_rfl
inductive GD:Gm→List (List Int)→Prop
  | g11:GD gd11 ge11
  | g12:GD gd12 ge12
  | g21:GD gd21 ge21
  | g22:GD gd22 ge22
  | g31:GD gd31 ge31
  | g32:GD gd32 ge32
def d16 (x:Int):Nat:=fop .quo .f32 (X1 .f32 (IntKind.wrap .i64 (x - 2))) 1098907648
def lngW (x:Int):Nat:=fop .quo .f32 (X1 .f32 (IntKind.wrap .i64 (2 + x))) 1082130432
def stfW (x:Int):Nat:=fop .quo .f32 (X1 .f32 (IntKind.wrap .i64 (1 + x))) 1073741824
def Mv5 (b v:Gv):Prop:=∃ x y z:Nat,x < 5∧y < 5∧z < 5∧v=⟨fop .add .f32 b.X (d16 (x:Int)),fop .add .f32 b.Y (d16 (y:Int)),fop .add .f32 b.Z (d16 (z:Int))⟩
def SpO (E:List (List Int)) (j:Nat) (s:Gs):Prop:=∃ x y:Nat,x < 5∧y < 4∧s=⟨(E.getD j default).getD 0 default,(E.getD j default).getD 1 default,lngW (x:Int),stfW (y:Int)⟩
theorem Z7S {l:List Gv} {i:Nat} {v:Gv} (h:i < l.length):(l.set i v).getD i default=v:=by
  rw [List.getD_eq_getElem?_getD,List.getElem?_set_self h];rfl
theorem Z7N {l:List Gv} {i j:Nat} {v:Gv} (h:i≠j):(l.set i v).getD j default=l.getD j default:=by
  rw [List.getD_eq_getElem?_getD,List.getElem?_set_ne h,← List.getD_eq_getElem?_getD]
theorem Z9R (c:List Int) (hc:OkB c):∃ G E,GD G E∧(Z5 (IntKind.wrap .i64 (1 + (Z0 (Z1 c) 3).1)) (IntKind.wrap .i64 (1 + (Z0 (⟨(Z1 c).code,(Z0 (Z1 c) 3).2.1,(Z0 (Z1 c) 3).2.2⟩:Gl00Src) 2).1)) 1065353216)=G:=by
  obtain ⟨w,h,-⟩:=Z1d c hc
  generalize IntKind.wrap .i64 (1 + (Z0 (Z1 c) 3).1)=W at *
  generalize IntKind.wrap .i64 (1 + (Z0 (⟨(Z1 c).code,(Z0 (Z1 c) 3).2.1,(Z0 (Z1 c) 3).2.2⟩:Gl00Src) 2).1)=H at *
  have hw:W=1∨W=2∨W=3:=by omega
  have hh:H=1∨H=2:=by omega
  rcases hw with rfl | rfl | rfl<;>rcases hh with rfl | rfl
  · exact ⟨_,_, .g11,Zaj⟩
  · exact ⟨_,_, .g12,Zak⟩
  · exact ⟨_,_, .g21,Zal⟩
  · exact ⟨_,_, .g22,Zam⟩
  · exact ⟨_,_, .g31,Zan⟩
  · exact ⟨_,_, .g32,Zao⟩
theorem Z8h {G:Gm} {E:List (List Int)} (h:GD G E):4≤G.Pq.length∧G.Pq.length≤12∧G.Tr.length≤12∧E.length≤23∧∀ ps:List Gv,ps.length=G.Pq.length→Zc ⟨ps,G.Tr⟩=E:=by
  cases h
  · exact ⟨by decide,by decide,by decide,by decide,Z9L⟩
  · exact ⟨by decide,by decide,by decide,by decide,Z9M⟩
  · exact ⟨by decide,by decide,by decide,by decide,Z9N⟩
  · exact ⟨by decide,by decide,by decide,by decide,Z9O⟩
  · exact ⟨by decide,by decide,by decide,by decide,Z9P⟩
  · exact ⟨by decide,by decide,by decide,by decide,Z9Q⟩
theorem Z9d (c:List Int) (hc:OkB c) {G:Gm} (hG:(Z5 (IntKind.wrap .i64 (1 + (Z0 (Z1 c) 3).1)) (IntKind.wrap .i64 (1 + (Z0 (⟨(Z1 c).code,(Z0 (Z1 c) 3).2.1,(Z0 (Z1 c) 3).2.2⟩:Gl00Src) 2).1)) 1065353216)=G) (hn:G.Pq.length≤12):∀ (k:Nat) (i s1 s2:Int) (l:List Gv),0≤i→i≤(l.length:Int)→0≤s1→s1≤4 + 6 * i→((l.length:Int) - i).toNat < k→l.length=G.Pq.length →
    (∀ j,j < i.toNat→Mv5 (G.Pq.getD j default) (l.getD j default))→(∀ j,i.toNat≤j→l.getD j default=G.Pq.getD j default)→(Zz c k i s1 s2 l).2.2.length=G.Pq.length∧∀ j,j < G.Pq.length→Mv5 (G.Pq.getD j default) ((Zz c k i s1 s2 l).2.2.getD j default):=by
  intro k
  induction k with
  | zero=>intro i s1 s2 l _ _ _ _ hk;exact absurd hk (Nat.not_lt_zero _)
  | succ k ih =>
    intro i s1 s2 l h0 hil hs1 hs2 hk hl hd hr
    rw [Zz,hG]
    by_cases hi:i < (G.Pq.length:Int)
    · rw [decide_eq_true hi,cond_true]
      have q1:=Z1u (⟨(Z1 c).code,s1,s2⟩:Gl00Src) 5 ⟨hs1,by show s1≤_;omega⟩
      have b1:=Z45 (⟨(Z1 c).code,s1,s2⟩:Gl00Src) 5 hc hs1 (by omega) (by omega)
      generalize Z0 (⟨(Z1 c).code,s1,s2⟩:Gl00Src) 5=r1 at *
      have q1:s1≤r1.2.1∧r1.2.1≤s1 + 2:=q1
      have q2:=Z1u (⟨(Z1 c).code,r1.2.1,r1.2.2⟩:Gl00Src) 5 ⟨by show 0≤r1.2.1;omega,by show r1.2.1≤_;omega⟩
      have b2:=Z45 (⟨(Z1 c).code,r1.2.1,r1.2.2⟩:Gl00Src) 5 hc (by show 0≤r1.2.1;omega) (by omega) (by omega)
      generalize Z0 (⟨(Z1 c).code,r1.2.1,r1.2.2⟩:Gl00Src) 5=r2 at *
      have q2:r1.2.1≤r2.2.1∧r2.2.1≤r1.2.1 + 2:=q2
      have q3:=Z1u (⟨(Z1 c).code,r2.2.1,r2.2.2⟩:Gl00Src) 5 ⟨by show 0≤r2.2.1;omega,by show r2.2.1≤_;omega⟩
      have b3:=Z45 (⟨(Z1 c).code,r2.2.1,r2.2.2⟩:Gl00Src) 5 hc (by show 0≤r2.2.1;omega) (by omega) (by omega)
      generalize Z0 (⟨(Z1 c).code,r2.2.1,r2.2.2⟩:Gl00Src) 5=r3 at *
      have q3:r2.2.1≤r3.2.1∧r3.2.1≤r2.2.1 + 2:=q3
      refine ih (i + 1) _ _ _ (by omega) (by rw [List.length_set];omega) (by omega) (by omega) (by rw [List.length_set];omega) (by rw [List.length_set];exact hl) ?_ ?_
      · intro j' hj'
        by_cases hji:j'=i.toNat
        · subst hji
          have e:l.getD i.toNat default=G.Pq.getD i.toNat default:=hr _ (Nat.le_refl _)
          rw [Z7S (by omega),e]
          refine ⟨r1.1.toNat,r2.1.toNat,r3.1.toNat,by omega,by omega,by omega,?_⟩
          rw [Int.toNat_of_nonneg b1.1,Int.toNat_of_nonneg b2.1,Int.toNat_of_nonneg b3.1]
          rfl
        · rw [Z7N (fun h=>hji h.symm)]
          exact hd j' (by omega)
      · intro j' hj'
        rw [Z7N (by omega)]
        exact hr j' (by omega)
    · rw [decide_eq_false hi,cond_false]
      exact ⟨hl,fun j hj=>hd j (by omega)⟩
theorem Z9e (c:List Int) (hc:OkB c) {E:List (List Int)} (hE:Zc (⟨(Z3 c).2.2,(Z5 (IntKind.wrap .i64 (1 + (Z0 (Z1 c) 3).1)) (IntKind.wrap .i64 (1 + (Z0 (⟨(Z1 c).code,(Z0 (Z1 c) 3).2.1,(Z0 (Z1 c) 3).2.2⟩:Gl00Src) 2).1)) 1065353216).Tr⟩:Gm)=E) (hn:E.length≤23):∀ (k:Nat) (i s1 s2:Int) (l:List Gs),0≤i→i≤(E.length:Int)→0≤s1→s1≤200 + 4 * i→((E.length:Int) - i).toNat < k→(l.length:Int)=i →
    (∀ j,j < l.length→SpO E j (l.getD j default))→(ZG c k i s1 s2 l).2.2.length=E.length∧(0≤(ZG c k i s1 s2 l).1∧(ZG c k i s1 s2 l).1≤300)∧∀ j,j < E.length→SpO E j ((ZG c k i s1 s2 l).2.2.getD j default):=by
  intro k
  induction k with
  | zero=>intro i s1 s2 l _ _ _ _ hk;exact absurd hk (Nat.not_lt_zero _)
  | succ k ih =>
    intro i s1 s2 l h0 hil hs1 hs2 hk hl hd
    rw [ZG,hE]
    by_cases hi:i < (E.length:Int)
    · rw [decide_eq_true hi,cond_true]
      have q1:=Z1u (⟨(Z1 c).code,s1,s2⟩:Gl00Src) 5 ⟨hs1,by show s1≤_;omega⟩
      have b1:=Z45 (⟨(Z1 c).code,s1,s2⟩:Gl00Src) 5 hc hs1 (by omega) (by omega)
      generalize Z0 (⟨(Z1 c).code,s1,s2⟩:Gl00Src) 5=r1 at *
      have q1:s1≤r1.2.1∧r1.2.1≤s1 + 2:=q1
      have q2:=Z1u (⟨(Z1 c).code,r1.2.1,r1.2.2⟩:Gl00Src) 4 ⟨by show 0≤r1.2.1;omega,by show r1.2.1≤_;omega⟩
      have b2:=Z45 (⟨(Z1 c).code,r1.2.1,r1.2.2⟩:Gl00Src) 4 hc (by show 0≤r1.2.1;omega) (by omega) (by omega)
      generalize Z0 (⟨(Z1 c).code,r1.2.1,r1.2.2⟩:Gl00Src) 4=r2 at *
      have q2:r1.2.1≤r2.2.1∧r2.2.1≤r1.2.1 + 2:=q2
      refine ih (i + 1) _ _ _ (by omega) (by omega) (by omega) (by omega) (by omega) (by rw [List.length_append];simp only [List.length_cons,List.length_nil];omega) ?_
      intro j hj
      rw [List.length_append] at hj
      simp only [List.length_cons,List.length_nil] at hj
      by_cases hjl:j < l.length
      · rw [List.getD_eq_getElem?_getD,List.getElem?_append_left hjl,← List.getD_eq_getElem?_getD];exact hd j hjl
      · have ej:j=l.length:=by omega
        have ei:i.toNat=l.length:=by omega
        rw [List.getD_eq_getElem?_getD,List.getElem?_append_right (by omega),ej,Nat.sub_self]
        refine ⟨r1.1.toNat,r2.1.toNat,by omega,by omega,?_⟩
        rw [Int.toNat_of_nonneg b1.1,Int.toNat_of_nonneg b2.1,ei]
        rfl
    · rw [decide_eq_false hi,cond_false]
      have:l.length=E.length:=by omega
      exact ⟨this,⟨hs1,by omega⟩,fun j hj=>hd j (by omega)⟩
structure Smth (b:Gb) (G:Gm) (E:List (List Int)):Prop where
  gd:GD G E
  tri:b.Me.Tr=G.Tr
  len:b.Me.Pq.length=G.Pq.length
  plc:∀ j,j < G.Pq.length→Mv5 (G.Pq.getD j default) (b.Me.Pq.getD j default)
  slen:b.Sp.length=E.length
  spr:∀ j,j < E.length→SpO E j (b.Sp.getD j default)
  film:∃ x:Nat,x < 5∧b.Film=fop .quo .f32 (X1 .f32 (x:Int)) 1073741824
  bend:∃ x:Nat,x < 5∧b.Bend=fop .quo .f32 (X1 .f32 (x:Int)) 1082130432
  wts:b.We=List.replicate G.Pq.length 0
  fall:b.Fall=⟨0,0,0⟩
theorem Z7O (c:List Int) (hc:OkB c):∃ G E,Smth (Z6 c) G E:=by
  obtain ⟨G,E,hgd,hG⟩:=Z9R c hc
  obtain ⟨n1,n2,n3,n4,hed⟩:=Z8h hgd
  have s0:=Z1u (Z1 c) 3 ⟨Int.le_refl 0,by show (0:Int)≤_;omega⟩
  have s0:(0:Int)≤(Z0 (Z1 c) 3).2.1∧(Z0 (Z1 c) 3).2.1≤0 + 2:=s0
  have s1:=Z1u (⟨(Z1 c).code,(Z0 (Z1 c) 3).2.1,(Z0 (Z1 c) 3).2.2⟩:Gl00Src) 2 ⟨s0.1,by show (Z0 (Z1 c) 3).2.1≤_;omega⟩
  have s1:(Z0 (Z1 c) 3).2.1≤(Z0 (⟨(Z1 c).code,(Z0 (Z1 c) 3).2.1,(Z0 (Z1 c) 3).2.2⟩:Gl00Src) 2).2.1∧(Z0 (⟨(Z1 c).code,(Z0 (Z1 c) 3).2.1,(Z0 (Z1 c) 3).2.2⟩:Gl00Src) 2).2.1≤(Z0 (Z1 c) 3).2.1 + 2:=s1
  have h1:(Z3 c).2.2.length=G.Pq.length∧∀ j,j < G.Pq.length→Mv5 (G.Pq.getD j default) ((Z3 c).2.2.getD j default):=by
    unfold Z3
    rw [hG]
    exact Z9d c hc hG n2 _ 0 _ _ _ (Int.le_refl 0) (by omega) (by omega) (by omega) (by omega) rfl (fun j h=>absurd h (Nat.not_lt_zero _)) (fun j _=>rfl)
  have hE:Zc (⟨(Z3 c).2.2,(Z5 (IntKind.wrap .i64 (1 + (Z0 (Z1 c) 3).1)) (IntKind.wrap .i64 (1 + (Z0 (⟨(Z1 c).code,(Z0 (Z1 c) 3).2.1,(Z0 (Z1 c) 3).2.2⟩:Gl00Src) 2).1)) 1065353216).Tr⟩:Gm)=E:=by
    rw [hG];exact hed _ h1.1
  have a1:=Z7k c hc
  have h2:(Za c).2.2.length=E.length∧(0≤(Za c).1∧(Za c).1≤300)∧∀ j,j < E.length→SpO E j ((Za c).2.2.getD j default):=by
    unfold Za
    rw [hE]
    exact Z9e c hc hE n4 _ 0 _ _ _ (Int.le_refl 0) (by omega) a1.1 (by omega) (by omega) rfl (fun j h=>absurd h (Nat.not_lt_zero _))
  have p1:=Z1u (⟨(Z1 c).code,(Za c).1,(Za c).2.1⟩:Gl00Src) 5 ⟨h2.2.1.1,by show (Za c).1≤_;omega⟩
  have p1:(Za c).1≤_∧_≤(Za c).1 + 2:=p1
  have b1:=Z45 (⟨(Z1 c).code,(Za c).1,(Za c).2.1⟩:Gl00Src) 5 hc h2.2.1.1 (by omega) (by omega)
  have b2:=Z45 (⟨(Z1 c).code,(Z0 (⟨(Z1 c).code,(Za c).1,(Za c).2.1⟩:Gl00Src) 5).2.1,(Z0 (⟨(Z1 c).code,(Za c).1,(Za c).2.1⟩:Gl00Src) 5).2.2⟩:Gl00Src) 5 hc (by show 0≤(Z0 (⟨(Z1 c).code,(Za c).1,(Za c).2.1⟩:Gl00Src) 5).2.1;omega) (by omega) (by omega)
  have hf:∃ x:Nat,x < 5∧(Z6 c).Film=fop .quo .f32 (X1 .f32 (x:Int)) 1073741824:=⟨(Z0 (⟨(Z1 c).code,(Za c).1,(Za c).2.1⟩:Gl00Src) 5).1.toNat,by omega,by rw [Int.toNat_of_nonneg b1.1];rfl⟩
  have hb:∃ x:Nat,x < 5∧(Z6 c).Bend=fop .quo .f32 (X1 .f32 (x:Int)) 1082130432:=⟨(Z0 (⟨(Z1 c).code,(Z0 (⟨(Z1 c).code,(Za c).1,(Za c).2.1⟩:Gl00Src) 5).2.1,(Z0 (⟨(Z1 c).code,(Za c).1,(Za c).2.1⟩:Gl00Src) 5).2.2⟩:Gl00Src) 5).1.toNat,by omega,by rw [Int.toNat_of_nonneg b2.1];rfl⟩
  refine ⟨G,E,hgd,?_,h1.1,h1.2,h2.1,h2.2.2,hf,hb,?_,rfl⟩
  · show (Z5 (IntKind.wrap .i64 (1 + (Z0 (Z1 c) 3).1)) (IntKind.wrap .i64 (1 + (Z0 (⟨(Z1 c).code,(Z0 (Z1 c) 3).2.1,(Z0 (Z1 c) 3).2.2⟩:Gl00Src) 2).1)) 1065353216).Tr=_
    rw [hG]
  · show List.replicate ((Z3 c).2.2.length:Int).toNat 0=_
    rw [h1.1,Int.toNat_natCast]
theorem Z8Z {p:Gm→List (List Int)→Bool} (h:(p gd11 ge11 && (p gd12 ge12 && (p gd21 ge21 && (p gd22 ge22 && (p gd31 ge31 && p gd32 ge32)))))=true) {G:Gm} {E:List (List Int)} (hg:GD G E):p G E=true:=by
  simp only [Bool.and_eq_true] at h
  cases hg
  · exact h.1
  · exact h.2.1
  · exact h.2.2.1
  · exact h.2.2.2.1
  · exact h.2.2.2.2.1
  · exact h.2.2.2.2.2
theorem Z43 {G:Gm} {E:List (List Int)} (hg:GD G E):Zo G=true:=Z8Z (p:=fun G _=>Zo G) (by decide +kernel) hg
theorem Z9S {G:Gm} {E:List (List Int)} (hg:GD G E) {j:Nat} (hj:j < E.length):0≤(E.getD j default).getD 0 default∧(E.getD j default).getD 0 default < (G.Pq.length:Int)∧0≤(E.getD j default).getD 1 default∧(E.getD j default).getD 1 default < (G.Pq.length:Int)∧(E.getD j default).getD 0 default≠(E.getD j default).getD 1 default:=by
  have h:=Z8Z (p:=fun G E=>(List.range E.length).all fun j=>decide (0≤(E.getD j default).getD 0 default∧(E.getD j default).getD 0 default < (G.Pq.length:Int)∧0≤(E.getD j default).getD 1 default∧(E.getD j default).getD 1 default < (G.Pq.length:Int)∧(E.getD j default).getD 0 default≠(E.getD j default).getD 1 default)) (by decide +kernel) hg
  exact odt (List.all_eq_true.1 h j (List.mem_range.2 hj))
theorem Z9T:((List.range 5).all fun x=>fcmp .geq .f32 (lngW (x:Int)) 0)=true:=by decide +kernel
theorem Z5N {x n:Int} (h0:0≤x) (h1:x < n) (hn:n≤1073741824):Zq x 0 (IntKind.wrap .i64 (n - 1))=true:=by
  rw [Xt (by omega) (by omega)]
  unfold Zq
  rw [decide_eq_true h0,cond_true]
  exact decide_eq_true (by omega)
theorem Z2U {m m':Gm} (h:m.Pq.length=m'.Pq.length) (h2:m.Tr=m'.Tr):Zo m=Zo m':=by
  rw [Z79,Z79,h,h2]
theorem Z9U {b:Gb} {G:Gm} {E:List (List Int)} (S:Smth b G E):Zo b.Me=true:=by
  rw [Z2U S.len S.tri];exact Z43 S.gd
theorem Z90 {b:Gb} {G:Gm} {E:List (List Int)} (S:Smth b G E) {s:Gs} (hs:s∈b.Sp):∃ j,j < E.length∧SpO E j s:=by
  obtain ⟨j,hj,e⟩:=List.getElem_of_mem hs
  have hj2:j < E.length:=by have:=S.slen;omega
  refine ⟨j,hj2,?_⟩
  have h:=S.spr j hj2
  rw [List.getD_eq_getElem?_getD,List.getElem?_eq_getElem hj] at h
  rw [← e];exact h
theorem Z9f {b:Gb} {G:Gm} {E:List (List Int)} (S:Smth b G E):ZB b=true:=by
  obtain ⟨n1,n2,n3,n4,-⟩:=Z8h S.gd
  have hl:=S.len
  have hsl:=S.slen
  rw [Z7m,Z9U S,cond_true,decide_eq_false (by omega),cond_false,S.wts,List.length_replicate,S.len,bne_self_eq_false,cond_false,List.all_eq_true]
  intro s hs
  obtain ⟨j,hj,x,y,hx,hy,e⟩:=Z90 S hs
  obtain ⟨e1,e2,e3,e4,e5⟩:=Z9S S.gd hj
  subst e
  unfold sprI
  simp only
  rw [Z5N e1 e2 (by omega),Z5N e3 e4 (by omega),cond_true,cond_true,beq_eq_false_iff_ne.2 e5,cond_false]
  exact List.all_eq_true.1 Z9T x (List.mem_range.2 hx)
theorem sk0 {a:List Int} (h:OkB a):ZB (Z6 a)=true:=by
  obtain ⟨G,E,S⟩:=Z7O a h
  exact Z9f S
theorem sk1 {a:List Int} (h:OkB a):(Zb (Z6 a)).2=true:=by
  unfold Zb
  rw [sk0 h,cond_true]
theorem skf {a:List Int} (h:OkB a):(Zb (Z6 a)).1=Zu (Z6 a):=by
  unfold Zb
  rw [sk0 h,cond_true]
theorem skl {a:List Int} (h:OkB a):((Zb (Z6 a)).1).length=(Z6 a).Me.Pq.length:=by
  rw [skf h];simp
theorem sk2 {a:List Int} (h:OkB a):((((Zb (Z6 a)).1).length:Int) != (((Z6 a).Me.Pq).length:Int))=false:=by
  rw [skl h];simp
theorem skn {a:List Int} (h:OkB a):4≤(Z6 a).Me.Pq.length∧(Z6 a).Me.Pq.length≤12:=by
  obtain ⟨G,E,S⟩:=Z7O a h
  obtain ⟨n1,n2,-⟩:=Z8h S.gd
  rw [S.len];exact ⟨n1,n2⟩
theorem sk3 {a:List Int} (h:OkB a):(Z11 ((Zb (Z6 a)).1)).2=true:=by
  have:=skn h
  unfold Z11
  rw [skl h,decide_eq_false (by omega),cond_false]
theorem Z9g {m:List Int} (hm:OkB m) {n:Int} (h1:1 < n) (h2:n≤1000):0≤Zh m 0 n∧Zh m 0 n < n:=by
  unfold Zh
  rw [decide_eq_false (by omega),cond_false]
  cases hc:decide ((0:Int) < (m.length:Int)) with
  | true =>
    rw [cond_true]
    have hc:=odt hc
    have hx:0≤m.getD (0:Int).toNat default∧m.getD (0:Int).toNat default < 256:=by
      rw [List.getD_eq_getElem?_getD,List.getElem?_eq_getElem (by simp;omega)]
      exact hm _ (List.getElem_mem _)
    rw [Xt (by omega) (by omega)]
    rw [Int.tmod_eq_emod_of_nonneg hx.1]
    exact ⟨Int.emod_nonneg _ (by omega),Int.emod_lt_of_pos _ (by omega)⟩
  | false =>
    rw [cond_false]
    rw [show IntKind.wrap .i64 (IntKind.wrap .i64 (0 * 37) + 11)=11 from by decide +kernel]
    rw [Int.tmod_eq_emod_of_nonneg (by omega)]
    exact ⟨Int.emod_nonneg _ (by omega),Int.emod_lt_of_pos _ (by omega)⟩
theorem sk7 {a m:List Int} (h:OkB a) (hm:OkB m):0≤Zh m 0 (((Zb (Z6 a)).1).length:Int)∧Zh m 0 (((Zb (Z6 a)).1).length:Int) < (((Z6 a).Me.Pq).length:Int):=by
  have:=skn h
  rw [skl h]
  exact Z9g hm (by omega) (by omega)
theorem skw {a m:List Int} (h:OkB a) (hm:OkB m) (x:Int) (hx:Zq x 0 2=true):(Zn (Z6 a) (Zh m 0 (((Zb (Z6 a)).1).length:Int)) x 1015021568).2=true:=by
  have h7:=sk7 h hm
  have hn:=skn h
  unfold Zn
  rw [sk0 h,cond_true,Z5N h7.1 h7.2 (by omega),cond_true,hx,cond_true,show Z2t 1015021568=true from by decide +kernel,cond_true]
theorem sk4 {a m:List Int} (h:OkB a) (hm:OkB m):(Zn (Z6 a) (Zh m 0 (((Zb (Z6 a)).1).length:Int)) 0 1015021568).2=true:=skw h hm 0 (by decide)
theorem sk5 {a m:List Int} (h:OkB a) (hm:OkB m):(Zn (Z6 a) (Zh m 0 (((Zb (Z6 a)).1).length:Int)) 1 1015021568).2=true:=skw h hm 1 (by decide)
theorem sk6 {a m:List Int} (h:OkB a) (hm:OkB m):(Zn (Z6 a) (Zh m 0 (((Zb (Z6 a)).1).length:Int)) 2 1015021568).2=true:=skw h hm 2 (by decide)
theorem Z3E {c:List Int} (hc:OkB c):(Z6 c).Me.Pq.length≤64∧(Z6 c).Me.Tr.length≤128∧(Z6 c).Sp.length≤4096∧(Z6 c).We.length≤64∧(∀ t∈(Z6 c).Me.Tr,t.length≤1073741824):=by
  have h:=Z2n c hc
  have h2:=Z7l c hc
  refine ⟨h.1,h.2.1,h2.2.2,?_,fun t ht => ?_⟩
  · show (List.replicate ((Z3 c).2.2.length:Int).toNat 0).length≤64
    rw [List.length_replicate]
    have:=h.1
    omega
  · have q:=(h.tris t ht).1
    omega
def Z2p (Y0:(List Int)) (Yh:(List Int)):Nat:=(fcv .f32 .f64 ((Zn (Z6 Y0) (Zh Yh 0 (((Zb (Z6 Y0)).1).length:Int)) 0 1015021568).1))
def Z2q (Y0:(List Int)) (Yh:(List Int)):Nat:=(fcv .f32 .f64 ((((Zb (Z6 Y0)).1).getD ((Zh Yh 0 (((Zb (Z6 Y0)).1).length:Int)).toNat) default).X))
def Z2r (Y0:(List Int)) (Yh:(List Int)):Nat:=(fcv .f32 .f64 ((Zn (Z6 Y0) (Zh Yh 0 (((Zb (Z6 Y0)).1).length:Int)) 1 1015021568).1))
def Z2s (Y0:(List Int)) (Yh:(List Int)):Nat:=(fcv .f32 .f64 ((((Zb (Z6 Y0)).1).getD ((Zh Yh 0 (((Zb (Z6 Y0)).1).length:Int)).toNat) default).Y))
def Z2j (Y0:(List Int)) (Yh:(List Int)):Nat:=(fcv .f32 .f64 ((Zn (Z6 Y0) (Zh Yh 0 (((Zb (Z6 Y0)).1).length:Int)) 2 1015021568).1))
def Z2k (Y0:(List Int)) (Yh:(List Int)):Nat:=(fcv .f32 .f64 ((((Zb (Z6 Y0)).1).getD ((Zh Yh 0 (((Zb (Z6 Y0)).1).length:Int)).toNat) default).Z))
def Z1g (Y0:(List Int)) (Yh:(List Int)):Bool:=(cond (Z2c Y0 Yh)
  true
  (cond (fcmp .lss .f32 (Z39 ((Z11 ((Zb (Z6 Y0)).1)).1)) 1008981770)
    (cond (fcmp .lss .f64 (Z1s (Z2p Y0 Yh) (fneg .f64 (Z2q Y0 Yh))) 4591870180066957722)
      (cond (fcmp .lss .f64 (Z1s (Z2r Y0 Yh) (fneg .f64 (Z2s Y0 Yh))) 4591870180066957722)
        (fcmp .lss .f64 (Z1s (Z2j Y0 Yh) (fneg .f64 (Z2k Y0 Yh))) 4591870180066957722)
        false)
      false)
    false))
set_option maxHeartbeats 1000000 in
theorem Z7y (Y0:(List Int)) (Yh:(List Int)) (hp0:Y0.length≤9223372036854775807) (hp1:Yh.length≤9223372036854775807) (hp2:OkB Y0) (hp3:OkB Yh)  : Fn prog 3 [.sl (Y0.map (cI .u8)), .sl (Yh.map (cI .u8))] (.b (Z1g Y0 Yh)) []:=by
 have p {a C} (s:Scr a C):=sF (Z7F Y0 Yh hp0 hp1)<|s
 cases h0:(Z2c Y0 Yh) with
 | true =>
  have hv:Z1g Y0 Yh=true:=by unfold Z1g;rw [h0,cond_true]
  refine fnS E0Ok Ze (c:=X0 f3) [] (.b true) [] func3 (p (sB h0<|sK [] sN)) rfl (by kernel_rfl) (by kernel_rfl) rfl ?_ ?_
  · rw [hv]
  · rfl
 | false =>
  have y0:Y0.length≤1073741824:=by clear p;exact (by have q:=Z7i h0;omega)
  have y1:(Z6 Y0).Me.Pq.length≤1073741824:=by clear p;exact (by obtain ⟨q1,q2,q3,q4,_⟩:=Z3E hp2;omega)
  have y2:(Z6 Y0).Me.Tr.length≤1073741824:=by clear p;exact (by obtain ⟨q1,q2,q3,q4,_⟩:=Z3E hp2;omega)
  have y3:∀ t∈(Z6 Y0).Me.Tr,t.length≤1073741824:=by clear p;exact (by obtain ⟨q1,q2,q3,q4,_⟩:=Z3E hp2;omega)
  have y4:(Z6 Y0).Sp.length≤1073741824:=by clear p;exact (by obtain ⟨q1,q2,q3,q4,_⟩:=Z3E hp2;omega)
  have y5:(Z6 Y0).We.length≤1073741824:=by clear p;exact (by obtain ⟨q1,q2,q3,q4,_⟩:=Z3E hp2;omega)
  have l1:=(Z6a (Z6 Y0))
  have y6:((Zb (Z6 Y0)).1).length≤1073741824:=by clear p;exact (by omega)
  have q {a C} (s:Scr a C):=p (sB h0<|sF (Z78 Y0 y0 hp2)<|sF (Fn.castA (args':=[.agg [.sl (((Z6 Y0).Me.Pq).map Gv.c), .sl ((((Z6 Y0).Me.Tr).map fun l=>l.map (cI .i64)).map fun l => [.sl l]), .sl (((Z6 Y0).Sp).map Gs.c), .f .f32 ((Z6 Y0).Film), .f .f32 ((Z6 Y0).Bend), .sl (((Z6 Y0).We).map (cF .f32)), .f .f32 ((Z6 Y0).Fall.X), .f .f32 ((Z6 Y0).Fall.Y), .f .f32 ((Z6 Y0).Fall.Z)]]) (Z7p (Z6 Y0) y1 y2 y3 y4 y5) (by simp [cL,Function.comp_def];done))<|sB (show (!(Zb (Z6 Y0)).2)=false from (congrArg not (sk1 hp2)))<|sB (show (!(Zb (Z6 Y0)).2)=false from (congrArg not (sk1 hp2)))<|sF (Fn.castA (args':=[.agg [.sl (((Z6 Y0).Me.Pq).map Gv.c), .sl ((((Z6 Y0).Me.Tr).map fun l=>l.map (cI .i64)).map fun l => [.sl l]), .sl (((Z6 Y0).Sp).map Gs.c), .f .f32 ((Z6 Y0).Film), .f .f32 ((Z6 Y0).Bend), .sl (((Z6 Y0).We).map (cF .f32)), .f .f32 ((Z6 Y0).Fall.X), .f .f32 ((Z6 Y0).Fall.Y), .f .f32 ((Z6 Y0).Fall.Z)]]) (Z41 (Z6 Y0) y1 y2 y3 y4 y5) (by simp [cL,Function.comp_def];done))<|sB (show (!(Zb (Z6 Y0)).2)=false from (congrArg not (sk1 hp2)))<|sB (show (!(Zb (Z6 Y0)).2)=false from (congrArg not (sk1 hp2)))<|sB (show (!(ZB (Z6 Y0)))=false from (congrArg not (sk0 hp2)))<|sB (show (!(ZB (Z6 Y0)))=false from (congrArg not (sk0 hp2)))<|sZ Gv.c ((Zb (Z6 Y0)).1)<|sB (show (!(ZB (Z6 Y0)))=false from (congrArg not (sk0 hp2)))<|sB (show (!(ZB (Z6 Y0)))=false from (congrArg not (sk0 hp2)))<|sB (show (!(ZB (Z6 Y0)))=false from (congrArg not (sk0 hp2)))<|sB (show (!(ZB (Z6 Y0)))=false from (congrArg not (sk0 hp2)))<|sZ Gv.c ((Z6 Y0).Me.Pq)<|sB (show (!(ZB (Z6 Y0)))=false from (congrArg not (sk0 hp2)))<|sB (show (!(ZB (Z6 Y0)))=false from (congrArg not (sk0 hp2)))<|sB (show ((((Zb (Z6 Y0)).1).length:Int) != (((Z6 Y0).Me.Pq).length:Int))=false from (sk2 hp2))<|sF (Z7J ((Zb (Z6 Y0)).1) y6)<|sB (show (!(Z11 ((Zb (Z6 Y0)).1)).2)=false from (congrArg not (sk3 hp2)))<|sB (show (!(Z11 ((Zb (Z6 Y0)).1)).2)=false from (congrArg not (sk3 hp2)))<|sF (Z89 ((Z11 ((Zb (Z6 Y0)).1)).1))<|sB (show (!(Z11 ((Zb (Z6 Y0)).1)).2)=false from (congrArg not (sk3 hp2)))<|sB (show (!(Z11 ((Zb (Z6 Y0)).1)).2)=false from (congrArg not (sk3 hp2)))<|sB (show (!(Z11 ((Zb (Z6 Y0)).1)).2)=false from (congrArg not (sk3 hp2)))<|s)
  clear p
  cases h1:(fcmp .lss .f32 (Z39 ((Z11 ((Zb (Z6 Y0)).1)).1)) 1008981770) with
  | true =>
   have y7:Yh.length≤1073741824:=by clear q;exact (by have q:=Z7i h0;omega)
   have y8:(0:Int)≤0:=by clear q;exact (by omega)
   have y9:(0:Int)≤(Zh Yh 0 (((Zb (Z6 Y0)).1).length:Int)):=by clear q;exact (by ((have q5:=sk7 hp2 hp3;obtain ⟨q1,q2,q3,q4,_⟩:=Z3E hp2;have q9:=bne_eq_false_iff_eq.1 (sk2 hp2);omega)))
   have y10:(Zh Yh 0 (((Zb (Z6 Y0)).1).length:Int)) < (((Zb (Z6 Y0)).1).length:Int):=by clear q;exact (by ((have q5:=sk7 hp2 hp3;obtain ⟨q1,q2,q3,q4,_⟩:=Z3E hp2;have q9:=bne_eq_false_iff_eq.1 (sk2 hp2);omega)))
   have y11:(Zh Yh 0 (((Zb (Z6 Y0)).1).length:Int)).toNat < ((Zb (Z6 Y0)).1).length:=by clear q;exact (by omega)
   have p {a C} (s:Scr a C):=q (sB' h1<|sZ Gv.c ((Zb (Z6 Y0)).1)<|sF (Z8g Yh 0 (((Zb (Z6 Y0)).1).length:Int) y7 y8)<|sF (Fn.castA (args':=[.agg [.sl (((Z6 Y0).Me.Pq).map Gv.c), .sl ((((Z6 Y0).Me.Tr).map fun l=>l.map (cI .i64)).map fun l => [.sl l]), .sl (((Z6 Y0).Sp).map Gs.c), .f .f32 ((Z6 Y0).Film), .f .f32 ((Z6 Y0).Bend), .sl (((Z6 Y0).We).map (cF .f32)), .f .f32 ((Z6 Y0).Fall.X), .f .f32 ((Z6 Y0).Fall.Y), .f .f32 ((Z6 Y0).Fall.Z)], .i .i64 (Zh Yh 0 (((Zb (Z6 Y0)).1).length:Int)), .i .i64 0, .f .f32 1015021568]) (Z55 (Z6 Y0) (Zh Yh 0 (((Zb (Z6 Y0)).1).length:Int)) 0 1015021568 y1 y2 y3 y4 y5) (by simp [cL,Function.comp_def];done))<|sF (Fn.castA (args':=[.agg [.sl (((Z6 Y0).Me.Pq).map Gv.c), .sl ((((Z6 Y0).Me.Tr).map fun l=>l.map (cI .i64)).map fun l => [.sl l]), .sl (((Z6 Y0).Sp).map Gs.c), .f .f32 ((Z6 Y0).Film), .f .f32 ((Z6 Y0).Bend), .sl (((Z6 Y0).We).map (cF .f32)), .f .f32 ((Z6 Y0).Fall.X), .f .f32 ((Z6 Y0).Fall.Y), .f .f32 ((Z6 Y0).Fall.Z)], .i .i64 (Zh Yh 0 (((Zb (Z6 Y0)).1).length:Int)), .i .i64 1, .f .f32 1015021568]) (Z55 (Z6 Y0) (Zh Yh 0 (((Zb (Z6 Y0)).1).length:Int)) 1 1015021568 y1 y2 y3 y4 y5) (by simp [cL,Function.comp_def];done))<|sF (Fn.castA (args':=[.agg [.sl (((Z6 Y0).Me.Pq).map Gv.c), .sl ((((Z6 Y0).Me.Tr).map fun l=>l.map (cI .i64)).map fun l => [.sl l]), .sl (((Z6 Y0).Sp).map Gs.c), .f .f32 ((Z6 Y0).Film), .f .f32 ((Z6 Y0).Bend), .sl (((Z6 Y0).We).map (cF .f32)), .f .f32 ((Z6 Y0).Fall.X), .f .f32 ((Z6 Y0).Fall.Y), .f .f32 ((Z6 Y0).Fall.Z)], .i .i64 (Zh Yh 0 (((Zb (Z6 Y0)).1).length:Int)), .i .i64 2, .f .f32 1015021568]) (Z55 (Z6 Y0) (Zh Yh 0 (((Zb (Z6 Y0)).1).length:Int)) 2 1015021568 y1 y2 y3 y4 y5) (by simp [cL,Function.comp_def];done))<|sB (show (Zn (Z6 Y0) (Zh Yh 0 (((Zb (Z6 Y0)).1).length:Int)) 0 1015021568).2=true from (sk4 hp2 hp3))<|sB (show (Zn (Z6 Y0) (Zh Yh 0 (((Zb (Z6 Y0)).1).length:Int)) 0 1015021568).2=true from (sk4 hp2 hp3))<|sB (show (Zn (Z6 Y0) (Zh Yh 0 (((Zb (Z6 Y0)).1).length:Int)) 1 1015021568).2=true from (sk5 hp2 hp3))<|sB (show (Zn (Z6 Y0) (Zh Yh 0 (((Zb (Z6 Y0)).1).length:Int)) 1 1015021568).2=true from (sk5 hp2 hp3))<|sB (show (Zn (Z6 Y0) (Zh Yh 0 (((Zb (Z6 Y0)).1).length:Int)) 2 1015021568).2=true from (sk6 hp2 hp3))<|sB (show (Zn (Z6 Y0) (Zh Yh 0 (((Zb (Z6 Y0)).1).length:Int)) 2 1015021568).2=true from (sk6 hp2 hp3))<|sC (X1N ((Zn (Z6 Y0) (Zh Yh 0 (((Zb (Z6 Y0)).1).length:Int)) 0 1015021568).1))<|sB (show (Zn (Z6 Y0) (Zh Yh 0 (((Zb (Z6 Y0)).1).length:Int)) 2 1015021568).2=true from (sk6 hp2 hp3))<|sB (show (Zn (Z6 Y0) (Zh Yh 0 (((Zb (Z6 Y0)).1).length:Int)) 2 1015021568).2=true from (sk6 hp2 hp3))<|sB (show (Zn (Z6 Y0) (Zh Yh 0 (((Zb (Z6 Y0)).1).length:Int)) 2 1015021568).2=true from (sk6 hp2 hp3))<|sX Gv.c ((Zb (Z6 Y0)).1) (Zh Yh 0 (((Zb (Z6 Y0)).1).length:Int)) y9 y10<|sB (show (Zn (Z6 Y0) (Zh Yh 0 (((Zb (Z6 Y0)).1).length:Int)) 2 1015021568).2=true from (sk6 hp2 hp3))<|sB (show (Zn (Z6 Y0) (Zh Yh 0 (((Zb (Z6 Y0)).1).length:Int)) 2 1015021568).2=true from (sk6 hp2 hp3))<|sV Gv.c ((Zb (Z6 Y0)).1) ((Zh Yh 0 (((Zb (Z6 Y0)).1).length:Int)).toNat) y11<|sB (show (Zn (Z6 Y0) (Zh Yh 0 (((Zb (Z6 Y0)).1).length:Int)) 2 1015021568).2=true from (sk6 hp2 hp3))<|sC (X1N ((((Zb (Z6 Y0)).1).getD ((Zh Yh 0 (((Zb (Z6 Y0)).1).length:Int)).toNat) default).X))<|sB (show (Zn (Z6 Y0) (Zh Yh 0 (((Zb (Z6 Y0)).1).length:Int)) 2 1015021568).2=true from (sk6 hp2 hp3))<|sB (show (Zn (Z6 Y0) (Zh Yh 0 (((Zb (Z6 Y0)).1).length:Int)) 2 1015021568).2=true from (sk6 hp2 hp3))<|sF (Z5k (Z2p Y0 Yh) (fneg .f64 (Z2q Y0 Yh)))<|sB (show (Zn (Z6 Y0) (Zh Yh 0 (((Zb (Z6 Y0)).1).length:Int)) 2 1015021568).2=true from (sk6 hp2 hp3))<|sB (show (Zn (Z6 Y0) (Zh Yh 0 (((Zb (Z6 Y0)).1).length:Int)) 2 1015021568).2=true from (sk6 hp2 hp3))<|s)
   clear q
   cases h2:(fcmp .lss .f64 (Z1s (Z2p Y0 Yh) (fneg .f64 (Z2q Y0 Yh))) 4591870180066957722) with
   | true =>
    have q {a C} (s:Scr a C):=p (sB h2<|sB h2<|sC (X1N ((Zn (Z6 Y0) (Zh Yh 0 (((Zb (Z6 Y0)).1).length:Int)) 1 1015021568).1))<|sB h2<|sB h2<|sB h2<|sX Gv.c ((Zb (Z6 Y0)).1) (Zh Yh 0 (((Zb (Z6 Y0)).1).length:Int)) y9 y10<|sB h2<|sB h2<|sV Gv.c ((Zb (Z6 Y0)).1) ((Zh Yh 0 (((Zb (Z6 Y0)).1).length:Int)).toNat) y11<|sB h2<|sC (X1N ((((Zb (Z6 Y0)).1).getD ((Zh Yh 0 (((Zb (Z6 Y0)).1).length:Int)).toNat) default).Y))<|sB h2<|sB h2<|sF (Z5k (Z2r Y0 Yh) (fneg .f64 (Z2s Y0 Yh)))<|sB h2<|sB h2<|s)
    clear p
    cases h3:(fcmp .lss .f64 (Z1s (Z2r Y0 Yh) (fneg .f64 (Z2s Y0 Yh))) 4591870180066957722) with
    | true =>
     have hv:Z1g Y0 Yh=(fcmp .lss .f64 (Z1s (Z2j Y0 Yh) (fneg .f64 (Z2k Y0 Yh))) 4591870180066957722):=by unfold Z1g;rw [h0,cond_false,h1,cond_true,h2,cond_true,h3,cond_true]
     refine fnS E0Ok Ze (c:=X0 f3) [] (.b (fcmp .lss .f64 (Z1s (Z2j Y0 Yh) (fneg .f64 (Z2k Y0 Yh))) 4591870180066957722)) [] func3 (q (sB h3<|sB h3<|sC (X1N ((Zn (Z6 Y0) (Zh Yh 0 (((Zb (Z6 Y0)).1).length:Int)) 2 1015021568).1))<|sB h3<|sB h3<|sB h3<|sX Gv.c ((Zb (Z6 Y0)).1) (Zh Yh 0 (((Zb (Z6 Y0)).1).length:Int)) y9 y10<|sB h3<|sB h3<|sV Gv.c ((Zb (Z6 Y0)).1) ((Zh Yh 0 (((Zb (Z6 Y0)).1).length:Int)).toNat) y11<|sB h3<|sC (X1N ((((Zb (Z6 Y0)).1).getD ((Zh Yh 0 (((Zb (Z6 Y0)).1).length:Int)).toNat) default).Z))<|sB h3<|sB h3<|sF (Z5k (Z2j Y0 Yh) (fneg .f64 (Z2k Y0 Yh)))<|sB h3<|sB h3<|sK [] sN)) rfl (by kernel_rfl) (by kernel_rfl) rfl ?_ ?_
     · rw [hv]
     · rfl
    | false =>
     have hv:Z1g Y0 Yh=false:=by unfold Z1g;rw [h0,cond_false,h1,cond_true,h2,cond_true,h3,cond_false]
     refine fnS E0Ok Ze (c:=X0 f3) [] (.b false) [] func3 (q (sB h3<|sB h3<|sB h3<|sB h3<|sB h3<|sB h3<|sB h3<|sB h3<|sB h3<|sB h3<|sB h3<|sB h3<|sK [] sN)) rfl (by kernel_rfl) (by kernel_rfl) rfl ?_ ?_
     · rw [hv]
     · rfl
   | false =>
    have hv:Z1g Y0 Yh=false:=by unfold Z1g;rw [h0,cond_false,h1,cond_true,h2,cond_false]
    refine fnS E0Ok Ze (c:=X0 f3) [] (.b false) [] func3 (p (sB h2<|sB h2<|sB h2<|sB h2<|sB h2<|sB h2<|sB h2<|sB h2<|sB h2<|sB h2<|sB h2<|sB h2<|sB (show false=false from rfl)<|sB (show false=false from rfl)<|sB (show false=false from rfl)<|sB (show false=false from rfl)<|sB (show false=false from rfl)<|sB (show false=false from rfl)<|sB (show false=false from rfl)<|sB (show false=false from rfl)<|sB (show false=false from rfl)<|sB (show false=false from rfl)<|sB (show false=false from rfl)<|sB (show false=false from rfl)<|sK [] sN)) rfl (by kernel_rfl) (by kernel_rfl) rfl ?_ ?_
    · rw [hv]
    · rfl
  | false =>
   have hv:Z1g Y0 Yh=false:=by unfold Z1g;rw [h0,cond_false,h1,cond_false]
   refine fnS E0Ok Ze (c:=X0 f3) [] (.b false) [] func3 (q (sB' h1<|sK [] sN)) rfl (by kernel_rfl) (by kernel_rfl) rfl ?_ ?_
   · rw [hv]
   · rfl
def Z3F:List Nat:=[0,1065353216,1073741824,1077936128]
def crdB (b x:Nat):Bool:=match vl (Ieee.single.read (fop .add .f32 b (d16 (x:Int)))) with
  | some q=>decide (-(1 / 8)≤q) && (decide (q≤25 / 8) && decide (((q * 16).num:Rat)=q * 16))
  | none=>false
def shW (v:Nat):Nat:=X1 .f32 (IntKind.wrap .i64 ((v:Int) - 3))
def shB (b x b' x' v:Nat):Bool:=Nat.beq (fop .sub .f32 (fop .add .f32 (fop .add .f32 b (d16 (x:Int))) (fop .mul .f32 (shW v) 1065353216)) (fop .add .f32 (fop .add .f32 b' (d16 (x':Int))) (fop .mul .f32 (shW v) 1065353216))) (fop .sub .f32 (fop .add .f32 b (d16 (x:Int))) (fop .add .f32 b' (d16 (x':Int))))
theorem Z9V:(Z3F.all fun b=>(List.range 5).all fun x=>(List.range 5).all fun x'=>(List.range 7).all fun v=>shB b x 0 x' v)=true:=by decide +kernel
theorem Z9W:(Z3F.all fun b=>(List.range 5).all fun x=>(List.range 5).all fun x'=>(List.range 7).all fun v=>shB b x 1065353216 x' v)=true:=by decide +kernel
theorem Z9X:(Z3F.all fun b=>(List.range 5).all fun x=>(List.range 5).all fun x'=>(List.range 7).all fun v=>shB b x 1073741824 x' v)=true:=by decide +kernel
theorem Z9Y:(Z3F.all fun b=>(List.range 5).all fun x=>(List.range 5).all fun x'=>(List.range 7).all fun v=>shB b x 1077936128 x' v)=true:=by decide +kernel
theorem Zb3 {b b' x x' v:Nat} (hb:b∈Z3F) (hb':b'∈Z3F) (hx:x < 5) (hx':x' < 5) (hv:v < 7):fop .sub .f32 (fop .add .f32 (fop .add .f32 b (d16 (x:Int))) (fop .mul .f32 (shW v) 1065353216)) (fop .add .f32 (fop .add .f32 b' (d16 (x':Int))) (fop .mul .f32 (shW v) 1065353216))=fop .sub .f32 (fop .add .f32 b (d16 (x:Int))) (fop .add .f32 b' (d16 (x':Int))):=by
  have key:∀ {c:Nat},(Z3F.all fun b=>(List.range 5).all fun x=>(List.range 5).all fun x'=>(List.range 7).all fun v=>shB b x c x' v)=true→shB b x c x' v=true:=fun h =>
    List.all_eq_true.1 (List.all_eq_true.1 (List.all_eq_true.1 (List.all_eq_true.1 h b hb) x (List.mem_range.2 hx)) x' (List.mem_range.2 hx')) v (List.mem_range.2 hv)
  simp only [Z3F,List.mem_cons,List.not_mem_nil,or_false] at hb'
  rcases hb' with rfl | rfl | rfl | rfl
  · exact Nat.eq_of_beq_eq_true (key Z9V)
  · exact Nat.eq_of_beq_eq_true (key Z9W)
  · exact Nat.eq_of_beq_eq_true (key Z9X)
  · exact Nat.eq_of_beq_eq_true (key Z9Y)
def gh11:List (List Int):=[[0,3,1,2]]
theorem ZaN:hgL 4 gd11.Tr=gh11:=by kernel_rfl
theorem Z9h (ps:List Gv) (h:ps.length=gd11.Pq.length):Z8 ⟨ps,gd11.Tr⟩=gh11:=by
  have hv:Zo ⟨ps,gd11.Tr⟩=true:=by rw [Z2U (m:=⟨ps,gd11.Tr⟩) (m':=gd11) h rfl];exact Z43 .g11
  rw [Z22 _ (Z40 _ hv)]
  show hgL ps.length _=_
  rw [h];exact ZaN
def gh12:List (List Int):=[[0,3,1,2],[2,3,0,5],[2,5,3,4]]
theorem ZaO:hgL 6 gd12.Tr=gh12:=by kernel_rfl
theorem Z9i (ps:List Gv) (h:ps.length=gd12.Pq.length):Z8 ⟨ps,gd12.Tr⟩=gh12:=by
  have hv:Zo ⟨ps,gd12.Tr⟩=true:=by rw [Z2U (m:=⟨ps,gd12.Tr⟩) (m':=gd12) h rfl];exact Z43 .g12
  rw [Z22 _ (Z40 _ hv)]
  show hgL ps.length _=_
  rw [h];exact ZaO
def gh21:List (List Int):=[[0,4,1,3],[1,4,0,5],[1,5,2,4]]
theorem ZaP:hgL 6 gd21.Tr=gh21:=by kernel_rfl
theorem Z9j (ps:List Gv) (h:ps.length=gd21.Pq.length):Z8 ⟨ps,gd21.Tr⟩=gh21:=by
  have hv:Zo ⟨ps,gd21.Tr⟩=true:=by rw [Z2U (m:=⟨ps,gd21.Tr⟩) (m':=gd21) h rfl];exact Z43 .g21
  rw [Z22 _ (Z40 _ hv)]
  show hgL ps.length _=_
  rw [h];exact ZaP
def gh22:List (List Int):=[[0,4,1,3],[1,4,0,5],[1,5,2,4],[3,4,0,7],[3,7,4,6],[4,5,1,8],[4,7,3,8],[4,8,5,7]]
theorem ZaQ:hgL 9 gd22.Tr=gh22:=by kernel_rfl
theorem Z9k (ps:List Gv) (h:ps.length=gd22.Pq.length):Z8 ⟨ps,gd22.Tr⟩=gh22:=by
  have hv:Zo ⟨ps,gd22.Tr⟩=true:=by rw [Z2U (m:=⟨ps,gd22.Tr⟩) (m':=gd22) h rfl];exact Z43 .g22
  rw [Z22 _ (Z40 _ hv)]
  show hgL ps.length _=_
  rw [h];exact ZaQ
def gh31:List (List Int):=[[0,5,1,4],[1,5,0,6],[1,6,2,5],[2,6,1,7],[2,7,3,6]]
theorem ZaR:hgL 8 gd31.Tr=gh31:=by kernel_rfl
theorem Z9l (ps:List Gv) (h:ps.length=gd31.Pq.length):Z8 ⟨ps,gd31.Tr⟩=gh31:=by
  have hv:Zo ⟨ps,gd31.Tr⟩=true:=by rw [Z2U (m:=⟨ps,gd31.Tr⟩) (m':=gd31) h rfl];exact Z43 .g31
  rw [Z22 _ (Z40 _ hv)]
  show hgL ps.length _=_
  rw [h];exact ZaR
def gh32:List (List Int):=[[0,5,1,4],[1,5,0,6],[1,6,2,5],[2,6,1,7],[2,7,3,6],[4,5,0,9],[4,9,5,8],[5,6,1,10],[5,9,4,10],[5,10,6,9],[6,7,2,11],[6,10,5,11],[6,11,7,10]]
theorem ZaS:hgL 12 gd32.Tr=gh32:=by kernel_rfl
theorem Z9m (ps:List Gv) (h:ps.length=gd32.Pq.length):Z8 ⟨ps,gd32.Tr⟩=gh32:=by
  have hv:Zo ⟨ps,gd32.Tr⟩=true:=by rw [Z2U (m:=⟨ps,gd32.Tr⟩) (m':=gd32) h rfl];exact Z43 .g32
  rw [Z22 _ (Z40 _ hv)]
  show hgL ps.length _=_
  rw [h];exact ZaS
def bz (w:Nat):Int:=if w=0 then 0 else if w=1065353216 then 64 else if w=1073741824 then 128 else 192
theorem Z8K (w:Nat):0≤bz w∧bz w≤192:=by unfold bz;split<;>(try split)<;>(try split)<;>omega
def gX (G:Gm) (k:Int):Int:=bz (G.Pq.getD k.toNat default).X
def gY (G:Gm) (k:Int):Int:=bz (G.Pq.getD k.toNat default).Y
def gZ (G:Gm) (k:Int):Int:=bz (G.Pq.getD k.toNat default).Z
abbrev InR (n:Nat) (k:Int):Prop:=0≤k∧k < (n:Int)
abbrev EdP (G:Gm) (e:List Int):Prop:=InR G.Pq.length (e.getD 0 default)∧InR G.Pq.length (e.getD 1 default)∧e.getD 0 default≠e.getD 1 default ∧
  (0≤gX G (e.getD 1 default) - gX G (e.getD 0 default)∧gX G (e.getD 1 default) - gX G (e.getD 0 default)≤64)∧(0≤gY G (e.getD 1 default) - gY G (e.getD 0 default)∧gY G (e.getD 1 default) - gY G (e.getD 0 default)≤64) ∧
  (gX G (e.getD 1 default) - gX G (e.getD 0 default)=64∨gY G (e.getD 1 default) - gY G (e.getD 0 default)=64)∧gZ G (e.getD 1 default) - gZ G (e.getD 0 default)=0
abbrev TrP (G:Gm) (t:List Int):Prop:=t.length=3∧InR G.Pq.length (t.getD 0 default)∧InR G.Pq.length (t.getD 1 default)∧InR G.Pq.length (t.getD 2 default)∧(t.getD 0 default≠t.getD 1 default∧t.getD 1 default≠t.getD 2 default∧t.getD 0 default≠t.getD 2 default) ∧
  ((gX G (t.getD 1 default) - gX G (t.getD 0 default)=64∧gY G (t.getD 1 default) - gY G (t.getD 0 default)=0∧gX G (t.getD 2 default) - gX G (t.getD 0 default)=64∧gY G (t.getD 2 default) - gY G (t.getD 0 default)=64) ∨
   (gX G (t.getD 1 default) - gX G (t.getD 0 default)=64∧gY G (t.getD 1 default) - gY G (t.getD 0 default)=64∧gX G (t.getD 2 default) - gX G (t.getD 0 default)=0∧gY G (t.getD 2 default) - gY G (t.getD 0 default)=64)) ∧
  gZ G (t.getD 1 default) - gZ G (t.getD 0 default)=0∧gZ G (t.getD 2 default) - gZ G (t.getD 0 default)=0
abbrev HiP (G:Gm) (h:List Int):Prop:=h.length=4∧(InR G.Pq.length (h.getD 0 default)∧InR G.Pq.length (h.getD 1 default)∧InR G.Pq.length (h.getD 2 default)∧InR G.Pq.length (h.getD 3 default)) ∧
  (h.getD 0 default≠h.getD 1 default∧h.getD 0 default≠h.getD 2 default∧h.getD 0 default≠h.getD 3 default∧h.getD 1 default≠h.getD 2 default∧h.getD 1 default≠h.getD 3 default∧h.getD 2 default≠h.getD 3 default) ∧
  gX G (h.getD 2 default) + gX G (h.getD 3 default) - (gX G (h.getD 0 default) + gX G (h.getD 1 default))=0∧gY G (h.getD 2 default) + gY G (h.getD 3 default) - (gY G (h.getD 0 default) + gY G (h.getD 1 default))=0∧gZ G (h.getD 2 default) + gZ G (h.getD 3 default) - (gZ G (h.getD 0 default) + gZ G (h.getD 1 default))=0
def tchE (i:Nat) (e:List Int):Bool:=e.getD 0 default == (i:Int) || e.getD 1 default == (i:Int)
def tchT (i:Nat) (t:List Int):Bool:=t.getD 0 default == (i:Int) || (t.getD 1 default == (i:Int) || t.getD 2 default == (i:Int))
def pshL (G:Gm) (E H:List (List Int)):List Nat:=E.flatMap (fun e => [(e.getD 0 default).toNat,(e.getD 1 default).toNat]) ++ (G.Tr.flatMap (fun t => [(t.getD 0 default).toNat,(t.getD 1 default).toNat,(t.getD 2 default).toNat]) ++ (H.flatMap (fun h => [(h.getD 0 default).toNat,(h.getD 1 default).toNat,(h.getD 2 default).toNat,(h.getD 3 default).toNat]) ++ List.range G.Pq.length))
structure GT (G:Gm) (E H:List (List Int)):Prop where
  n1:G.Pq.length≤12
  ne:E.length≤23
  nt:G.Tr.length≤12
  nh:H.length≤13
  pl:∀ p∈G.Pq,p.X∈Z3F∧p.Y∈Z3F∧p.Z∈Z3F
  ed:∀ e∈E,EdP G e
  tr:∀ t∈G.Tr,TrP G t
  hi:∀ h∈H,HiP G h
  cE:∀ i∈List.range G.Pq.length,(E.filter (tchE i)).length≤6
  cT:∀ i∈List.range G.Pq.length,(G.Tr.filter (tchT i)).length≤6
  cP:∀ i∈List.range G.Pq.length,((pshL G E H).filter (· == i)).length≤22
theorem Zap:GT gd11 ge11 gh11:=⟨by decide +kernel,by decide +kernel,by decide +kernel,by decide +kernel,by decide +kernel,by decide +kernel,by decide +kernel,by decide +kernel,by decide +kernel,by decide +kernel,by decide +kernel⟩
theorem Zaq:GT gd12 ge12 gh12:=⟨by decide +kernel,by decide +kernel,by decide +kernel,by decide +kernel,by decide +kernel,by decide +kernel,by decide +kernel,by decide +kernel,by decide +kernel,by decide +kernel,by decide +kernel⟩
theorem Zar:GT gd21 ge21 gh21:=⟨by decide +kernel,by decide +kernel,by decide +kernel,by decide +kernel,by decide +kernel,by decide +kernel,by decide +kernel,by decide +kernel,by decide +kernel,by decide +kernel,by decide +kernel⟩
theorem Zas:GT gd22 ge22 gh22:=⟨by decide +kernel,by decide +kernel,by decide +kernel,by decide +kernel,by decide +kernel,by decide +kernel,by decide +kernel,by decide +kernel,by decide +kernel,by decide +kernel,by decide +kernel⟩
theorem Zat:GT gd31 ge31 gh31:=⟨by decide +kernel,by decide +kernel,by decide +kernel,by decide +kernel,by decide +kernel,by decide +kernel,by decide +kernel,by decide +kernel,by decide +kernel,by decide +kernel,by decide +kernel⟩
theorem Zau:GT gd32 ge32 gh32:=⟨by decide +kernel,by decide +kernel,by decide +kernel,by decide +kernel,by decide +kernel,by decide +kernel,by decide +kernel,by decide +kernel,by decide +kernel,by decide +kernel,by decide +kernel⟩
theorem Z91 {G:Gm} {E:List (List Int)} (h:GD G E):∃ H,(∀ ps:List Gv,ps.length=G.Pq.length→Z8 ⟨ps,G.Tr⟩=H)∧GT G E H:=by
  cases h
  · exact ⟨_,Z9h,Zap⟩
  · exact ⟨_,Z9i,Zaq⟩
  · exact ⟨_,Z9j,Zar⟩
  · exact ⟨_,Z9k,Zas⟩
  · exact ⟨_,Z9l,Zat⟩
  · exact ⟨_,Z9m,Zau⟩
def nI (w:Nat):Int:=(vW w * 64).num
theorem Z6O {w:Nat} {n:Int} (h:I6 w n):nI w=n:=by
  unfold nI;rw [XB h]
  have e:(n:Rat) / 64 * 64=(n:Rat):=by grind
  rw [e];exact Rat.num_intCast n
def cX (P:List Gv) (k:Int):Int:=nI (P.getD k.toNat default).X
def cY (P:List Gv) (k:Int):Int:=nI (P.getD k.toNat default).Y
def cZ (P:List Gv) (k:Int):Int:=nI (P.getD k.toNat default).Z
structure Pl (G:Gm) (P:List Gv) (r:Int):Prop where
  len:P.length=G.Pq.length
  wx:∀ k:Int,InR G.Pq.length k→I6 (P.getD k.toNat default).X (cX P k)∧gX G k - r≤cX P k∧cX P k≤gX G k + r
  wy:∀ k:Int,InR G.Pq.length k→I6 (P.getD k.toNat default).Y (cY P k)∧gY G k - r≤cY P k∧cY P k≤gY G k + r
  wz:∀ k:Int,InR G.Pq.length k→I6 (P.getD k.toNat default).Z (cZ P k)∧gZ G k - r≤cZ P k∧cZ P k≤gZ G k + r
def crI (b x:Nat):Bool:=decide (vl (Ieee.single.read (fop .add .f32 b (d16 (x:Int))))=some (((bz b + 4 * ((x:Int) - 2):Int):Rat) / 64))
theorem Z9Z:(Z3F.all fun b=>(List.range 5).all fun x=>crI b x)=true:=by decide +kernel
theorem Z8i {b x:Nat} (hb:b∈Z3F) (hx:x < 5):I6 (fop .add .f32 b (d16 (x:Int))) (bz b + 4 * ((x:Int) - 2)):=by
  have h:=List.all_eq_true.1 (List.all_eq_true.1 Z9Z b hb) x (List.mem_range.2 hx)
  unfold crI at h
  have h:=odt h
  exact h
structure Bod (b:Gb) (G:Gm) (E H:List (List Int)) (r:Int):Prop where
  tab:GT G E H
  pl:Pl G b.Me.Pq r
  tri:b.Me.Tr=G.Tr
  hin:Z8 b.Me=H
  slen:b.Sp.length=E.length
  spr:∀ s∈b.Sp,∃ j,j < E.length∧SpO E j s
  film:∃ x:Nat,x < 5∧b.Film=fop .quo .f32 (X1 .f32 (x:Int)) 1073741824
  bend:∃ x:Nat,x < 5∧b.Bend=fop .quo .f32 (X1 .f32 (x:Int)) 1082130432
  wts:b.We=List.replicate G.Pq.length 0
  fall:b.Fall=⟨0,0,0⟩
theorem Zav {b:Gb} {G:Gm} {E:List (List Int)} (S:Smth b G E):∃ H,Bod b G E H 8:=by
  obtain ⟨H,h1,T⟩:=Z91 S.gd
  have hm:∀ k:Int,InR G.Pq.length k→G.Pq.getD k.toNat default∈G.Pq:=by
    intro k hk
    rw [List.getD_eq_getElem?_getD,List.getElem?_eq_getElem (by omega)];exact List.getElem_mem _
  refine ⟨H,T,⟨S.len,?_,?_,?_⟩,S.tri,?_,S.slen,fun s hs=>Z90 S hs,S.film,S.bend,S.wts,S.fall⟩
  · intro k hk
    obtain ⟨x,y,z,hx,hy,hz,e⟩:=S.plc k.toNat (by omega)
    have h:=Z8i (T.pl _ (hm k hk)).1 hx
    unfold cX gX;rw [e]
    rw [Z6O h];exact ⟨h,by omega,by omega⟩
  · intro k hk
    obtain ⟨x,y,z,hx,hy,hz,e⟩:=S.plc k.toNat (by omega)
    have h:=Z8i (T.pl _ (hm k hk)).2.1 hy
    unfold cY gY;rw [e]
    rw [Z6O h];exact ⟨h,by omega,by omega⟩
  · intro k hk
    obtain ⟨x,y,z,hx,hy,hz,e⟩:=S.plc k.toNat (by omega)
    have h:=Z8i (T.pl _ (hm k hk)).2.2 hz
    unfold cZ gZ;rw [e]
    rw [Z6O h];exact ⟨h,by omega,by omega⟩
  · have e:b.Me=⟨b.Me.Pq,G.Tr⟩:=by rw [← S.tri]
    rw [e];exact h1 _ S.len
def dW (P:List Gv) (A B:Int):Gv:=ZW (P.getD B.toNat default) (P.getD A.toNat default)
theorem Z8b (G:Gm) (k:Int):0≤gX G k∧gX G k≤192:=Z8K _
theorem Z8c (G:Gm) (k:Int):0≤gY G k∧gY G k≤192:=Z8K _
theorem Z8d (G:Gm) (k:Int):0≤gZ G k∧gZ G k≤192:=Z8K _
theorem dW_I {G:Gm} {P:List Gv} {r:Int} (h:Pl G P r) (hr:r≤9) {A B:Int} (hA:InR G.Pq.length A) (hB:InR G.Pq.length B) :
    I6 (dW P A B).X (cX P B - cX P A)∧I6 (dW P A B).Y (cY P B - cY P A)∧I6 (dW P A B).Z (cZ P B - cZ P A) ∧
    (gX G B - gX G A - 2 * r≤cX P B - cX P A∧cX P B - cX P A≤gX G B - gX G A + 2 * r)∧(gY G B - gY G A - 2 * r≤cY P B - cY P A∧cY P B - cY P A≤gY G B - gY G A + 2 * r)∧(gZ G B - gZ G A - 2 * r≤cZ P B - cZ P A∧cZ P B - cZ P A≤gZ G B - gZ G A + 2 * r):=by
  have x1:=h.wx A hA
  have x2:=h.wx B hB
  have y1:=h.wy A hA
  have y2:=h.wy B hB
  have z1:=h.wz A hA
  have z2:=h.wz B hB
  have b1:=Z8b G A
  have b2:=Z8b G B
  have b3:=Z8c G A
  have b4:=Z8c G B
  have b5:=Z8d G A
  have b6:=Z8d G B
  exact ⟨sub6 x2.1 x1.1 (by omega) (by omega),sub6 y2.1 y1.1 (by omega) (by omega),sub6 z2.1 z1.1 (by omega) (by omega),by omega,by omega,by omega⟩
def dQ (P:List Gv) (A B:Int):Int:=(cX P B - cX P A) * (cX P B - cX P A) + (cY P B - cY P A) * (cY P B - cY P A) + (cZ P B - cZ P A) * (cZ P B - cZ P A)
theorem Za0 {a b c ρ:Int} (h0:0≤ρ) (h1:ρ≤18) (a1:-ρ≤a) (a2:a≤64 + ρ) (b1:-ρ≤b) (b2:b≤64 + ρ) (c1:-ρ≤c) (c2:c≤ρ) (h:64 - ρ≤a∨64 - ρ≤b):(64 - ρ) * (64 - ρ)≤a * a + b * b + c * c∧a * a + b * b + c * c≤2 * ((64 + ρ) * (64 + ρ)) + ρ * ρ:=by
  have ha:=XA (a:=a) (A:=64 + ρ) (by omega) a2
  have hb:=XA (a:=b) (A:=64 + ρ) (by omega) b2
  have hc:=XA c1 c2
  refine ⟨?_,by omega⟩
  rcases h with h | h
  · have:=X3H (a:=a) (A:=64 - ρ) (by omega) (.inl h);omega
  · have:=X3H (a:=b) (A:=64 - ρ) (by omega) (.inl h);omega
theorem Z8L {G:Gm} {P:List Gv} {r:Int} (h:Pl G P r) (h0:0≤r) (hr:r≤9) {e:List Int} (he:EdP G e) :
    (64 - 2 * r) * (64 - 2 * r)≤dQ P (e.getD 0 default) (e.getD 1 default)∧dQ P (e.getD 0 default) (e.getD 1 default)≤2 * ((64 + 2 * r) * (64 + 2 * r)) + 2 * r * (2 * r):=by
  obtain ⟨hA,hB,hn,hx,hy,hd,hz⟩:=he
  obtain ⟨-,-,-,q1,q2,q3⟩:=dW_I h hr hA hB
  exact Za0 (ρ:=2 * r) (by omega) (by omega) (by omega) (by omega) (by omega) (by omega) (by omega) (by omega) (by omega)
theorem Z8C (v:Gv):Zg v=lenW v.X v.Y v.Z:=rfl
theorem Zaw {G:Gm} {P:List Gv} {r:Int} (h:Pl G P r) (h0:0≤r) (hr:r≤9) {e:List Int} (he:EdP G e) {D:Rat} (hD:D=((dQ P (e.getD 0 default) (e.getD 1 default):Int):Rat) / 4096) :
    ∃ l,Vl .f32 (Zg (dW P (e.getD 0 default) (e.getD 1 default))) l∧0≤l∧D - D / 3000000≤l * l∧l * l≤D + D / 3000000:=by
  have hq:=Z8L h h0 hr he
  obtain ⟨hA,hB,hn,hx,hy,hd,hz⟩:=he
  obtain ⟨i1,i2,i3,q1,q2,q3⟩:=dW_I h hr hA hB
  rw [Z8C]
  have hs:(46:Int) * 46≤(64 - 2 * r) * (64 - 2 * r):=by
    have:=X3H (a:=64 - 2 * r) (A:=46) (by omega) (.inl (by omega));omega
  exact len6 i1 i2 i3 (by omega) (by omega) (by omega) (by omega) (by omega) (by omega) hD (by unfold dQ at hq;omega)
theorem Zax {D l:Rat} (h0:0≤l) (d0:2116 / 4096≤D) (d1:D≤13300 / 4096) (l1:D - D / 3000000≤l * l) (l2:l * l≤D + D / 3000000):7 / 10≤l∧l≤183 / 100:=by
  constructor
  · refine XR h0 ?_;grind
  · refine XR (by decide +kernel) ?_;grind
def lngB (x:Nat):Bool:=match vl (Ieee.single.read (lngW (x:Int))) with
  | some q=>decide (1 / 2≤q) && decide (q≤3 / 2)
  | none=>false
def stfB (x:Nat):Bool:=match vl (Ieee.single.read (stfW (x:Int))) with
  | some q=>decide (1 / 2≤q) && decide (q≤2)
  | none=>false
theorem Z9n:((List.range 5).all lngB)=true:=by decide +kernel
theorem Z9o:((List.range 4).all stfB)=true:=by decide +kernel
theorem Z8M {x:Nat} (h:x < 5):∃ L,Vl .f32 (lngW (x:Int)) L∧1 / 2≤L∧L≤3 / 2:=by
  have:=List.all_eq_true.1 Z9n x (List.mem_range.2 h)
  unfold lngB at this
  split at this
  · rename_i q hq
    rw [Bool.and_eq_true] at this
    exact ⟨q,hq,odt this.1,odt this.2⟩
  · cases this
theorem Z8N {x:Nat} (h:x < 4):∃ L,Vl .f32 (stfW (x:Int)) L∧1 / 2≤L∧L≤2:=by
  have:=List.all_eq_true.1 Z9o x (List.mem_range.2 h)
  unfold stfB at this
  split at this
  · rename_i q hq
    rw [Bool.and_eq_true] at this
    exact ⟨q,hq,odt this.1,odt this.2⟩
  · cases this
def flmB (x:Nat):Bool:=match vl (Ieee.single.read (fop .quo .f32 (X1 .f32 (x:Int)) 1073741824)) with
  | some q=>decide (0≤q) && decide (q≤2)
  | none=>false
theorem Z9p:((List.range 5).all flmB)=true:=by decide +kernel
theorem Z9v {x:Nat} (h:x < 5):∃ L,Vl .f32 (fop .quo .f32 (X1 .f32 (x:Int)) 1073741824) L∧0≤L∧L≤2:=by
  have:=List.all_eq_true.1 Z9p x (List.mem_range.2 h)
  unfold flmB at this
  split at this
  · rename_i q hq
    rw [Bool.and_eq_true] at this
    exact ⟨q,hq,odt this.1,odt this.2⟩
  · cases this
def bndB (x:Nat):Bool:=decide (vl (Ieee.single.read (fop .quo .f32 (X1 .f32 (x:Int)) 1082130432))=some ((x:Rat) / 4)) && decide (vl (Ieee.single.read (fop .mul .f32 X35 (fop .quo .f32 (X1 .f32 (x:Int)) 1082130432)))=some ((x:Rat) / 8))
theorem Z9q:((List.range 5).all bndB)=true:=by decide +kernel
theorem Z8O {x:Nat} (h:x < 5):Vl .f32 (fop .quo .f32 (X1 .f32 (x:Int)) 1082130432) ((x:Rat) / 4)∧Vl .f32 (fop .mul .f32 X35 (fop .quo .f32 (X1 .f32 (x:Int)) 1082130432)) ((x:Rat) / 8):=by
  have:=List.all_eq_true.1 Z9q x (List.mem_range.2 h)
  unfold bndB at this
  rw [Bool.and_eq_true] at this
  have h1:=odt this.1
  have h2:=odt this.2
  exact ⟨h1,h2⟩
def tS (P:List Gv) (s:Gs):Nat:=sprW (Zg (dW P s.A s.B)) s.Long s.Stiff
theorem Z6P {b:Gb} {G:Gm} {E H:List (List Int)} {r:Int} (B:Bod b G E H r) {s:Gs} (hs:s∈b.Sp):∃ e x y,e∈E∧EdP G e∧x < 5∧y < 4∧s=⟨e.getD 0 default,e.getD 1 default,lngW (x:Nat),stfW (y:Nat)⟩:=by
  obtain ⟨j,hj,x,y,hx,hy,e⟩:=B.spr s hs
  have hm:E.getD j default∈E:=by rw [List.getD_eq_getElem?_getD,List.getElem?_eq_getElem hj];exact List.getElem_mem _
  exact ⟨_,x,y,hm,B.tab.ed _ hm,hx,hy,e⟩
theorem Z8j {G:Gm} {P:List Gv} {r:Int} (h:Pl G P r) (h0:0≤r) (hr:r≤8) {e:List Int} (he:EdP G e):2304≤dQ P (e.getD 0 default) (e.getD 1 default)∧dQ P (e.getD 0 default) (e.getD 1 default)≤13056:=by
  have hq:=Z8L h h0 (by omega) he
  have h1:=X3H (a:=64 - 2 * r) (A:=48) (by omega) (.inl (by omega))
  have h2:=XA (a:=64 + 2 * r) (A:=80) (by omega) (by omega)
  have h3:=XA (a:=2 * r) (A:=16) (by omega) (by omega)
  omega
theorem Z6K {G:Gm} {P:List Gv} (h:Pl G P 9) {e:List Int} (he:EdP G e) (hq:dQ P (e.getD 0 default) (e.getD 1 default)≤13300) {D:Rat} (hD:D=((dQ P (e.getD 0 default) (e.getD 1 default):Int):Rat) / 4096) :
    ∃ l,Vl .f32 (Zg (dW P (e.getD 0 default) (e.getD 1 default))) l∧0≤l∧D - D / 3000000≤l * l∧l * l≤D + D / 3000000∧7 / 10≤l∧l≤183 / 100:=by
  obtain ⟨l,V,l0,l1,l2⟩:=Zaw h (by decide) (by decide) he hD
  have hq2:=(Z8L h (by decide) (by decide) he).1
  have g1:=Rat.intCast_le_intCast.2 (show (2116:Int)≤dQ P (e.getD 0 default) (e.getD 1 default) by omega)
  have g2:=Rat.intCast_le_intCast.2 hq
  have e1:((2116:Int):Rat)=2116:=rfl
  have e2:((13300:Int):Rat)=13300:=rfl
  rw [e1] at g1
  rw [e2] at g2
  have:=Zax l0 (by grind) (by grind) l1 l2
  exact ⟨l,V,l0,l1,l2,this⟩
theorem Z7P {G:Gm} {P:List Gv} {r r':Int} (h:Pl G P r) (hr:r≤r'):Pl G P r' :=
  ⟨h.len,fun k hk=>by have:=h.wx k hk;exact ⟨this.1,by omega,by omega⟩,fun k hk=>by have:=h.wy k hk;exact ⟨this.1,by omega,by omega⟩,fun k hk=>by have:=h.wz k hk;exact ⟨this.1,by omega,by omega⟩⟩
theorem ZaT {G:Gm} {P:List Gv} (h:Pl G P 9) {e:List Int} (he:EdP G e) (hq:dQ P (e.getD 0 default) (e.getD 1 default)≤13300) {x y:Nat} (hx:x < 5) (hy:y < 4):Fw (tS P ⟨e.getD 0 default,e.getD 1 default,lngW (x:Int),stfW (y:Int)⟩) (226 / 100)∧0≤vW (tS P ⟨e.getD 0 default,e.getD 1 default,lngW (x:Int),stfW (y:Int)⟩):=by
  obtain ⟨l,V,-,-,-,l0,l1⟩:=Z6K h he hq rfl
  obtain ⟨L,VL,L0,L1⟩:=Z8M hx
  obtain ⟨s,Vs,s0,s1⟩:=Z8N hy
  obtain ⟨q,W,-,q0,q1⟩:=X4B V l0 l1 VL L0 L1 Vs s0 s1
  have W:Vl .f32 (tS P ⟨e.getD 0 default,e.getD 1 default,lngW (x:Int),stfW (y:Int)⟩) q:=W
  exact ⟨X36 W ⟨by grind,q1⟩,by rw [XB W];exact q0⟩
theorem Z2l {a b A B:Int} (h1:-A≤a) (h2:a≤A) (h3:-B≤b) (h4:b≤B):-(A * B)≤a * b∧a * b≤A * B:=by
  have x1:=Int.mul_nonneg (show 0≤A - a by omega) (show 0≤B - b by omega)
  have x2:=Int.mul_nonneg (show 0≤A - a by omega) (show 0≤B + b by omega)
  have x3:=Int.mul_nonneg (show 0≤A + a by omega) (show 0≤B - b by omega)
  have x4:=Int.mul_nonneg (show 0≤A + a by omega) (show 0≤B + b by omega)
  constructor<;>grind
theorem Z9w {a b A B:Int} (hA:0≤A) (h1:A≤a) (hB:0≤B) (h2:B≤b):A * B≤a * b:=by
  have x1:=Int.mul_nonneg (show 0≤a - A by omega) (show 0≤b - B by omega)
  have x2:=Int.mul_nonneg (show 0≤a - A by omega) hB
  have x3:=Int.mul_nonneg hA (show 0≤b - B by omega)
  grind
structure TrI (a1 a2 a3 b1 b2 b3 ρ:Int):Prop where
  x1:-(64 + ρ)≤a1∧a1≤64 + ρ
  x2:-(64 + ρ)≤a2∧a2≤64 + ρ
  x3:-ρ≤a3∧a3≤ρ
  y1:-(64 + ρ)≤b1∧b1≤64 + ρ
  y2:-(64 + ρ)≤b2∧b2≤64 + ρ
  y3:-ρ≤b3∧b3≤ρ
  c:(64 - ρ≤a1∧a1≤64 + ρ∧-ρ≤a2∧a2≤ρ∧64 - ρ≤b2 - a2∧b2 - a2≤64 + ρ∧-ρ≤b1 - a1∧b1 - a1≤ρ)∨(64 - ρ≤b2∧b2≤64 + ρ∧-ρ≤b1∧b1≤ρ∧64 - ρ≤a1 - b1∧a1 - b1≤64 + ρ∧-ρ≤a2 - b2∧a2 - b2≤ρ)
theorem Z8D {a1 a2 a3 b1 b2 b3 ρ:Int} (h0:0≤ρ) (h1:ρ≤18) (t:TrI a1 a2 a3 b1 b2 b3 ρ) :
    (-(2 * ((64 + ρ) * ρ))≤a2 * b3 - a3 * b2∧a2 * b3 - a3 * b2≤2 * ((64 + ρ) * ρ))∧(-(2 * ((64 + ρ) * ρ))≤a3 * b1 - a1 * b3∧a3 * b1 - a1 * b3≤2 * ((64 + ρ) * ρ)) ∧
    (64 - ρ) * (64 - ρ) - ρ * ρ≤a1 * b2 - a2 * b1∧a1 * b2 - a2 * b1≤(64 + ρ) * (64 + ρ) + ρ * ρ:=by
  have p1:=Z2l t.x2.1 t.x2.2 t.y3.1 t.y3.2
  have p2:=Z2l t.y2.1 t.y2.2 t.x3.1 t.x3.2
  have p3:=Z2l t.y1.1 t.y1.2 t.x3.1 t.x3.2
  have p4:=Z2l t.x1.1 t.x1.2 t.y3.1 t.y3.2
  have c1:a3 * b2=b2 * a3:=Int.mul_comm _ _
  have c2:a3 * b1=b1 * a3:=Int.mul_comm _ _
  refine ⟨by omega,by omega,?_⟩
  rcases t.c with ⟨q1,q2,q3,q4,q5,q6,q7,q8⟩ | ⟨q1,q2,q3,q4,q5,q6,q7,q8⟩
  · have l:=Z9w (a:=a1) (b:=b2 - a2) (A:=64 - ρ) (B:=64 - ρ) (by omega) q1 (by omega) q5
    have u:=Z2l (a:=a1) (b:=b2 - a2) (A:=64 + ρ) (B:=64 + ρ) (by omega) q2 (by omega) q6
    have v:=Z2l q3 q4 q7 q8
    have e:a1 * b2 - a2 * b1=a1 * (b2 - a2) - a2 * (b1 - a1):=by grind
    rw [e];omega
  · have l:=Z9w (a:=a1 - b1) (b:=b2) (A:=64 - ρ) (B:=64 - ρ) (by omega) q5 (by omega) q1
    have u:=Z2l (a:=a1 - b1) (b:=b2) (A:=64 + ρ) (B:=64 + ρ) (by omega) q6 (by omega) q2
    have v:=Z2l q7 q8 q3 q4
    have e:a1 * b2 - a2 * b1=(a1 - b1) * b2 - (a2 - b2) * b1:=by grind
    rw [e];omega
def nW (P:List Gv) (t:List Int):Gv:=Zw (dW P (t.getD 0 default) (t.getD 1 default)) (dW P (t.getD 0 default) (t.getD 2 default))
def dx (P:List Gv) (A B:Int):Int:=cX P B - cX P A
def dy (P:List Gv) (A B:Int):Int:=cY P B - cY P A
def dz (P:List Gv) (A B:Int):Int:=cZ P B - cZ P A
theorem tr_I {G:Gm} {P:List Gv} {r:Int} (h:Pl G P r) (h0:0≤r) (hr:r≤9) {t:List Int} (ht:TrP G t):TrI (dx P (t.getD 0 default) (t.getD 1 default)) (dy P (t.getD 0 default) (t.getD 1 default)) (dz P (t.getD 0 default) (t.getD 1 default)) (dx P (t.getD 0 default) (t.getD 2 default)) (dy P (t.getD 0 default) (t.getD 2 default)) (dz P (t.getD 0 default) (t.getD 2 default)) (2 * r):=by
  obtain ⟨-,hA,hB,hC,-,hd,hz,hz2⟩:=ht
  obtain ⟨-,-,-,q1,q2,q3⟩:=dW_I h hr hA hB
  obtain ⟨-,-,-,q4,q5,q6⟩:=dW_I h hr hA hC
  obtain ⟨-,-,-,q7,q8,q9⟩:=dW_I h hr hB hC
  unfold dx dy dz
  constructor
  · omega
  · omega
  · omega
  · omega
  · omega
  · omega
  · rcases hd with ⟨d1,d2,d3,d4⟩ | ⟨d1,d2,d3,d4⟩
    · left;omega
    · right;omega
def nx (P:List Gv) (t:List Int):Int:=dy P (t.getD 0 default) (t.getD 1 default) * dz P (t.getD 0 default) (t.getD 2 default) - dz P (t.getD 0 default) (t.getD 1 default) * dy P (t.getD 0 default) (t.getD 2 default)
def ny (P:List Gv) (t:List Int):Int:=dz P (t.getD 0 default) (t.getD 1 default) * dx P (t.getD 0 default) (t.getD 2 default) - dx P (t.getD 0 default) (t.getD 1 default) * dz P (t.getD 0 default) (t.getD 2 default)
def nz (P:List Gv) (t:List Int):Int:=dx P (t.getD 0 default) (t.getD 1 default) * dy P (t.getD 0 default) (t.getD 2 default) - dy P (t.getD 0 default) (t.getD 1 default) * dx P (t.getD 0 default) (t.getD 2 default)
theorem Zay {x1 y1 z1 x2 y2 z2:Nat} {a1 a2 a3 b1 b2 b3:Int} (h1:I6 x1 a1) (h2:I6 y1 a2) (h3:I6 z1 a3) (h4:I6 x2 b1) (h5:I6 y2 b2) (h6:I6 z2 b3) (ha1:-90≤a1∧a1≤90) (ha2:-90≤a2∧a2≤90) (ha3:-90≤a3∧a3≤90) (hb1:-90≤b1∧b1≤90) (hb2:-90≤b2∧b2≤90) (hb3:-90≤b3∧b3≤90) :
    I12 (Zw ⟨x1,y1,z1⟩ ⟨x2,y2,z2⟩).X (a2 * b3 - a3 * b2)∧I12 (Zw ⟨x1,y1,z1⟩ ⟨x2,y2,z2⟩).Y (a3 * b1 - a1 * b3)∧I12 (Zw ⟨x1,y1,z1⟩ ⟨x2,y2,z2⟩).Z (a1 * b2 - a2 * b1):=by
  have p1:=Z2l ha2.1 ha2.2 hb3.1 hb3.2
  have p2:=Z2l ha3.1 ha3.2 hb2.1 hb2.2
  have p3:=Z2l ha3.1 ha3.2 hb1.1 hb1.2
  have p4:=Z2l ha1.1 ha1.2 hb3.1 hb3.2
  have p5:=Z2l ha1.1 ha1.2 hb2.1 hb2.2
  have p6:=Z2l ha2.1 ha2.2 hb1.1 hb1.2
  exact ⟨X8N (mul6 h2 h6 (by omega) (by omega)) (mul6 h3 h5 (by omega) (by omega)) (by omega) (by omega),X8N (mul6 h3 h4 (by omega) (by omega)) (mul6 h1 h6 (by omega) (by omega)) (by omega) (by omega),X8N (mul6 h1 h5 (by omega) (by omega)) (mul6 h2 h4 (by omega) (by omega)) (by omega) (by omega)⟩
theorem nW_I {G:Gm} {P:List Gv} {r:Int} (h:Pl G P r) (h0:0≤r) (hr:r≤9) {t:List Int} (ht:TrP G t):I12 (nW P t).X (nx P t)∧I12 (nW P t).Y (ny P t)∧I12 (nW P t).Z (nz P t):=by
  have hi:=tr_I h h0 hr ht
  obtain ⟨-,hA,hB,hC,-⟩:=ht
  obtain ⟨i1,i2,i3,-⟩:=dW_I h hr hA hB
  obtain ⟨j1,j2,j3,-⟩:=dW_I h hr hA hC
  have k1:=hi.x1
  have k2:=hi.x2
  have k3:=hi.x3
  have k4:=hi.y1
  have k5:=hi.y2
  have k6:=hi.y3
  exact Zay i1 i2 i3 j1 j2 j3 (by omega) (by omega) (by omega) (by omega) (by omega) (by omega)
def nQ (P:List Gv) (t:List Int):Int:=nx P t * nx P t + ny P t * ny P t + nz P t * nz P t
theorem nb18 {ρ:Int} (h0:0≤ρ) (h1:ρ≤18):(64 + ρ) * ρ≤1476∧1792≤(64 - ρ) * (64 - ρ) - ρ * ρ∧(64 + ρ) * (64 + ρ) + ρ * ρ≤7048:=by
  have p1:=Z2l (a:=64 + ρ) (A:=82) (b:=ρ) (B:=18) (by omega) (by omega) (by omega) h1
  have e1:(64 - ρ) * (64 - ρ) - ρ * ρ=4096 - 128 * ρ:=by grind
  have p3:=XA (a:=64 + ρ) (A:=82) (by omega) (by omega)
  have p4:=XA (a:=ρ) (A:=18) (by omega) h1
  omega
theorem n_bd {G:Gm} {P:List Gv} {r:Int} (h:Pl G P r) (h0:0≤r) (hr:r≤9) {t:List Int} (ht:TrP G t):(-2952≤nx P t∧nx P t≤2952)∧(-2952≤ny P t∧ny P t≤2952)∧(1792≤nz P t∧nz P t≤7048):=by
  obtain ⟨b1,b2,b3,b4⟩:=Z8D (by omega) (by omega) (tr_I h h0 hr ht)
  obtain ⟨c1,c2,c3⟩:=nb18 (ρ:=2 * r) (by omega) (by omega)
  unfold nx ny nz
  omega
theorem Z9x {G:Gm} {P:List Gv} {r:Int} (h:Pl G P r) (h0:0≤r) (hr:r≤9) {t:List Int} (ht:TrP G t):nQ P t≤67102912:=by
  obtain ⟨b1,b2,b3⟩:=n_bd h h0 hr ht
  have s1:=XA b1.1 b1.2
  have s2:=XA b2.1 b2.2
  have s3:=XA (a:=nz P t) (A:=7048) (by omega) b3.2
  unfold nQ;omega
theorem ZaU {G:Gm} {P:List Gv} {r:Int} (h:Pl G P r) (h0:0≤r) (hr:r≤8) {t:List Int} (ht:TrP G t):4194304≤nQ P t:=by
  obtain ⟨b1,b2,b3,b4⟩:=Z8D (by omega) (by omega) (tr_I h h0 (by omega) ht)
  have e1:(64 - 2 * r) * (64 - 2 * r) - 2 * r * (2 * r)=4096 - 256 * r:=by grind
  have hz:2048≤nz P t:=by unfold nz;omega
  have s3:=X3H (a:=nz P t) (A:=2048) (by omega) (.inl hz)
  have sqnn:∀ a:Int,0≤a * a:=by
    intro a
    rcases Int.le_total 0 a with h | h
    · exact Int.mul_nonneg h h
    · have:=Int.mul_nonneg (show 0≤-a by omega) (show 0≤-a by omega)
      grind
  have:=sqnn (nx P t)
  have:=sqnn (ny P t)
  unfold nQ;omega
theorem Z7z {G:Gm} {P:List Gv} (h:Pl G P 9) {t:List Int} (ht:TrP G t) {D:Rat} (hD:D=((nQ P t:Int):Rat) / 16777216) :
    ∃ N,Vl .f32 (Zg (nW P t)) N∧0≤N∧D - 24 / 10000000≤N * N∧N * N≤D + 24 / 10000000∧4 / 10≤N∧N≤211 / 100:=by
  obtain ⟨i1,i2,i3⟩:=nW_I h (by decide) (by decide) ht
  obtain ⟨b1,b2,b3⟩:=n_bd h (by decide) (by decide) ht
  rw [Z8C]
  refine Xar i1 i2 i3 (by omega) (by omega) (by omega) (by omega) (by omega) (by omega) hD ?_
  have g:=Rat.intCast_le_intCast.2 (Z9x h (by decide) (by decide) ht)
  have e:((67102912:Int):Rat)=67102912:=rfl
  rw [e] at g
  grind
def tT (F:Nat) (P:List Gv) (t:List Int):Nat:=filW F (Zg (nW P t))
theorem ZaV {G:Gm} {P:List Gv} (h:Pl G P 9) {t:List Int} (ht:TrP G t) {x:Nat} (hx:x < 5):Fw (tT (fop .quo .f32 (X1 .f32 (x:Int)) 1073741824) P t) (24 / 10)∧0≤vW (tT (fop .quo .f32 (X1 .f32 (x:Int)) 1073741824) P t):=by
  obtain ⟨N,V,-,-,-,n0,n1⟩:=Z7z h ht rfl
  obtain ⟨F,VF,f0,f1⟩:=Z9v hx
  obtain ⟨q,W,-,q0,q1⟩:=X4C V n0 n1 VF f0 f1
  have W:Vl .f32 (tT (fop .quo .f32 (X1 .f32 (x:Int)) 1073741824) P t) q:=W
  exact ⟨X36 W ⟨by grind,q1⟩,by rw [XB W];exact q0⟩
def hW (P:List Gv) (h:List Int):Gv:=ZW (Zj (P.getD (h.getD 2 default).toNat default) (P.getD (h.getD 3 default).toNat default)) (Zj (P.getD (h.getD 0 default).toNat default) (P.getD (h.getD 1 default).toNat default))
def hx (P:List Gv) (h:List Int):Int:=cX P (h.getD 2 default) + cX P (h.getD 3 default) - (cX P (h.getD 0 default) + cX P (h.getD 1 default))
def hy (P:List Gv) (h:List Int):Int:=cY P (h.getD 2 default) + cY P (h.getD 3 default) - (cY P (h.getD 0 default) + cY P (h.getD 1 default))
def hz (P:List Gv) (h:List Int):Int:=cZ P (h.getD 2 default) + cZ P (h.getD 3 default) - (cZ P (h.getD 0 default) + cZ P (h.getD 1 default))
structure Wh (n:Nat) (P:List Gv):Prop where
  wx:∀ k:Int,InR n k→I6 (P.getD k.toNat default).X (cX P k)∧-1000≤cX P k∧cX P k≤1000
  wy:∀ k:Int,InR n k→I6 (P.getD k.toNat default).Y (cY P k)∧-1000≤cY P k∧cY P k≤1000
  wz:∀ k:Int,InR n k→I6 (P.getD k.toNat default).Z (cZ P k)∧-1000≤cZ P k∧cZ P k≤1000
theorem Z7A {G:Gm} {P:List Gv} {r:Int} (h:Pl G P r) (hr:r≤9):Wh G.Pq.length P :=
  ⟨fun k hk=>by have:=h.wx k hk;have:=Z8b G k;exact ⟨(h.wx k hk).1,by omega,by omega⟩,fun k hk=>by have:=h.wy k hk;have:=Z8c G k;exact ⟨(h.wy k hk).1,by omega,by omega⟩,fun k hk=>by have:=h.wz k hk;have:=Z8d G k;exact ⟨(h.wz k hk).1,by omega,by omega⟩⟩
theorem hW_I {G:Gm} {P:List Gv} (w:Wh G.Pq.length P) {h:List Int} (hh:HiP G h):I6 (hW P h).X (hx P h)∧I6 (hW P h).Y (hy P h)∧I6 (hW P h).Z (hz P h):=by
  obtain ⟨-,⟨h0,h1,h2,h3⟩,-⟩:=hh
  have x0:=w.wx _ h0
  have x1:=w.wx _ h1
  have x2:=w.wx _ h2
  have x3:=w.wx _ h3
  have y0:=w.wy _ h0
  have y1:=w.wy _ h1
  have y2:=w.wy _ h2
  have y3:=w.wy _ h3
  have z0:=w.wz _ h0
  have z1:=w.wz _ h1
  have z2:=w.wz _ h2
  have z3:=w.wz _ h3
  exact ⟨sub6 (add6 x2.1 x3.1 (by omega) (by omega)) (add6 x0.1 x1.1 (by omega) (by omega)) (by omega) (by omega),sub6 (add6 y2.1 y3.1 (by omega) (by omega)) (add6 y0.1 y1.1 (by omega) (by omega)) (by omega) (by omega),sub6 (add6 z2.1 z3.1 (by omega) (by omega)) (add6 z0.1 z1.1 (by omega) (by omega)) (by omega) (by omega)⟩
def tH (Bd:Nat) (P:List Gv) (h:List Int):Nat:=fop .mul .f32 (fop .mul .f32 X35 Bd) (Z1v (hW P h) (hW P h))
def hQ (P:List Gv) (h:List Int):Int:=hx P h * hx P h + hy P h * hy P h + hz P h * hz P h
theorem tH_v {G:Gm} {P:List Gv} (w:Wh G.Pq.length P) {h:List Int} (hh:HiP G h) (bx:-40≤hx P h∧hx P h≤40) (by_:-40≤hy P h∧hy P h≤40) (bz:-40≤hz P h∧hz P h≤40) {x:Nat} (hx5:x < 5) :
    Vl .f32 (tH (fop .quo .f32 (X1 .f32 (x:Int)) 1082130432) P h) ((x:Rat) / 8 * (((hQ P h:Int):Rat) / 4096))∧0≤hQ P h∧hQ P h≤4800:=by
  obtain ⟨i1,i2,i3⟩:=hW_I w hh
  have s:=sqs6 i1 i2 i3 (by omega) (by omega) (by omega) (by omega) (by omega) (by omega)
  have q1:=XA bx.1 bx.2
  have q2:=XA by_.1 by_.2
  have q3:=XA bz.1 bz.2
  have hq:0≤hQ P h∧hQ P h≤4800:=by unfold hQ;omega
  have p:=Z2l (a:=(x:Int)) (A:=4) (b:=hQ P h) (B:=4800) (by omega) (by omega) (by omega) (by omega)
  refine ⟨X7y (Z8O hx5).2 s (n:=(x:Int) * hQ P h) (s:=15) ?_ (by omega) (by omega) (by decide),hq⟩
  have e:(2:Rat)^((15:Nat):Int)=32768:=by decide +kernel
  rw [e,Rat.intCast_mul]
  have e2:((x:Int):Rat)=(x:Rat):=Rat.intCast_natCast x
  rw [e2]
  show (x:Rat) / 8 * (((hQ P h:Int):Rat) / 4096) * 32768=_
  grind
theorem h_bd {G:Gm} {P:List Gv} {r:Int} (p:Pl G P r) (hr:r≤9) {h:List Int} (hh:HiP G h):(-40≤hx P h∧hx P h≤40)∧(-40≤hy P h∧hy P h≤40)∧(-40≤hz P h∧hz P h≤40):=by
  obtain ⟨-,⟨h0,h1,h2,h3⟩,-,e1,e2,e3⟩:=hh
  have x0:=p.wx _ h0
  have x1:=p.wx _ h1
  have x2:=p.wx _ h2
  have x3:=p.wx _ h3
  have y0:=p.wy _ h0
  have y1:=p.wy _ h1
  have y2:=p.wy _ h2
  have y3:=p.wy _ h3
  have z0:=p.wz _ h0
  have z1:=p.wz _ h1
  have z2:=p.wz _ h2
  have z3:=p.wz _ h3
  unfold hx hy hz
  omega
theorem ZaW {w:Nat} {x:Nat} {q:Int} (hx5:x < 5) (h:Vl .f32 w ((x:Rat) / 8 * (((q:Int):Rat) / 4096))) (q0:0≤q) (q1:q≤4800):Fw w (6 / 10)∧0≤vW w:=by
  have g0:=Rat.intCast_le_intCast.2 q0
  have g1:=Rat.intCast_le_intCast.2 q1
  have e0:((0:Int):Rat)=0:=rfl
  have e1:((4800:Int):Rat)=4800:=rfl
  rw [e0] at g0
  rw [e1] at g1
  have x0:(0:Rat)≤(x:Rat):=Rat.natCast_nonneg
  have x1:(x:Rat)≤4:=by have:=Rat.natCast_le_natCast.2 (show x≤4 by omega);exact this
  have m:=Rat.mul_nonneg (show (0:Rat)≤(x:Rat) / 8 by grind) (show (0:Rat)≤(q:Rat) / 4096 by grind)
  have m2:=Xx (x:=(x:Rat) / 8) (A:=1 / 2) (y:=(q:Rat) / 4096) (B:=4800 / 4096) (by unfold Ab;grind) (by unfold Ab;grind)
  unfold Ab at m2
  have e2:(1 / 2:Rat) * (4800 / 4096)≤6 / 10:=by decide +kernel
  exact ⟨X36 h (by unfold Ab;grind),by rw [XB h];exact m⟩
theorem fs0 {α:Type} (f:α→Nat):∀ (l:List α) (x y z u:Nat),l.foldl (fun r a=>r.set 0 (fop .add .f32 (r.getD 0 default) (f a))) [x,y,z,u]=[l.foldl (fun w a=>fop .add .f32 w (f a)) x,y,z,u]
  | [],_,_,_,_=>rfl
  | a :: l,x,y,z,u=>fs0 f l (fop .add .f32 x (f a)) y z u
theorem fs1 {α:Type} (f:α→Nat):∀ (l:List α) (x y z u:Nat),l.foldl (fun r a=>r.set 1 (fop .add .f32 (r.getD 1 default) (f a))) [x,y,z,u]=[x,l.foldl (fun w a=>fop .add .f32 w (f a)) y,z,u]
  | [],_,_,_,_=>rfl
  | a :: l,x,y,z,u=>fs1 f l x (fop .add .f32 y (f a)) z u
theorem fs2 {α:Type} (f:α→Nat):∀ (l:List α) (x y z u:Nat),l.foldl (fun r a=>r.set 2 (fop .add .f32 (r.getD 2 default) (f a))) [x,y,z,u]=[x,y,l.foldl (fun w a=>fop .add .f32 w (f a)) z,u]
  | [],_,_,_,_=>rfl
  | a :: l,x,y,z,u=>fs2 f l x y (fop .add .f32 z (f a)) u
theorem fs3 {α:Type} (f:α→Nat):∀ (l:List α) (x y z u:Nat),l.foldl (fun r a=>r.set 3 (fop .add .f32 (r.getD 3 default) (f a))) [x,y,z,u]=[x,y,z,l.foldl (fun w a=>fop .add .f32 w (f a)) u]
  | [],_,_,_,_=>rfl
  | a :: l,x,y,z,u=>fs3 f l x y z (fop .add .f32 u (f a))
theorem Z6L (n i:Nat):(List.replicate n (0:Nat)).getD i default=0:=by
  rw [List.getD_eq_getElem?_getD,List.getElem?_replicate]
  split<;>rfl
theorem Z9r (b:Gb) {n:Nat} (hw:b.We=List.replicate n 0):Zx b=[b.Sp.foldl (fun w s=>fop .add .f32 w (tS b.Me.Pq s)) 0,b.Me.Tr.foldl (fun w t=>fop .add .f32 w (tT b.Film b.Me.Pq t)) 0,(Z8 b.Me).foldl (fun w h=>fop .add .f32 w (tH b.Bend b.Me.Pq h)) 0,b.Me.Pq.foldl (fun w p=>fop .add .f32 w (fneg .f32 (fop .mul .f32 0 (Z1v b.Fall p)))) 0]:=by
  have h1:Z16 b=b.Sp.foldl (fun r s=>r.set 0 (fop .add .f32 (r.getD 0 default) (tS b.Me.Pq s))) [0,0,0,0] :=
    XZ (a:=b.Sp) (lo:=fun k s i=>ZS b k i s) (fun k s i=>rfl) _
  have h2:Z17 b=b.Me.Tr.foldl (fun r s=>r.set 1 (fop .add .f32 (r.getD 1 default) (tT b.Film b.Me.Pq s))) (Z16 b) :=
    XZ (a:=b.Me.Tr) (lo:=fun k s i=>ZT b k i s) (fun k s i=>rfl) _
  have h3:Z18 b=(Z8 b.Me).foldl (fun r s=>r.set 2 (fop .add .f32 (r.getD 2 default) (tH b.Bend b.Me.Pq s))) (Z17 b) :=
    XZ (a:=Z8 b.Me) (lo:=fun k s i=>ZU b k i s) (fun k s i=>rfl) _
  have h4:Z2m b=b.Me.Pq.foldl (fun r p=>r.set 3 (fop .add .f32 (r.getD 3 default) (fneg .f32 (fop .mul .f32 0 (Z1v b.Fall p))))) (Z18 b):=by
    refine XZ (a:=b.Me.Pq) (lo:=fun k s i=>ZM b k i s) (fun k s i => ?_) _
    show ZM b (k + 1) i s=_
    rw [ZM]
    unfold Z1Y
    rw [hw,Z6L]
  unfold Zx
  rw [h4,h3,h2,h1,fs0,fs1,fs2,fs3]
theorem Z8E {α:Type} {f:α→Nat}:∀ (l:List α),(∀ a∈l,f a=0∨f a=2147483648)→l.foldl (fun w a=>fop .add .f32 w (f a)) 0=0
  | [],_=>rfl
  | a :: l,h=>by
    rw [List.foldl_cons,XaP (h a List.mem_cons_self)]
    exact Z8E l fun b hb=>h b (List.mem_cons_of_mem _ hb)
theorem Z92 {a b:Nat} (ha:a=0∨a=2147483648) (hb:b=0∨b=2147483648):fop .add .f32 a b=0∨fop .add .f32 a b=2147483648:=by
  rcases ha with rfl | rfl<;>rcases hb with rfl | rfl
  · left;decide +kernel
  · left;decide +kernel
  · left;decide +kernel
  · right;decide +kernel
theorem Za1 {n:Nat} {P:List Gv} (w:Wh n P) (hl:P.length=n):P.foldl (fun w p=>fop .add .f32 w (fneg .f32 (fop .mul .f32 0 (Z1v ⟨0,0,0⟩ p)))) 0=0:=by
  refine Z8E P fun p hp => ?_
  obtain ⟨i,hi,e⟩:=List.getElem_of_mem hp
  have hk:InR n (i:Int):=⟨by omega,by omega⟩
  have e2:P.getD (i:Int).toNat default=p:=by
    rw [Int.toNat_natCast,List.getD_eq_getElem?_getD,List.getElem?_eq_getElem hi,← e];rfl
  have x:=(w.wx _ hk).1
  have y:=(w.wy _ hk).1
  have z:=(w.wz _ hk).1
  rw [e2] at x y z
  have hin:Z1v ⟨0,0,0⟩ p=0∨Z1v ⟨0,0,0⟩ p=2147483648:=Z92 (Z92 (X7z x (.inl rfl)) (X7z y (.inl rfl))) (X7z z (.inl rfl))
  refine XaQ ?_
  rcases hin with h | h<;>rw [h]
  · left;decide +kernel
  · right;decide +kernel
theorem nle {a b:Nat} (h:a≤b):(a:Rat)≤(b:Rat):=Rat.natCast_le_natCast.2 h
structure Prt (b:Gb) (H:List (List Int)) (p0 p1 p2:Rat):Prop where
  v0:Vl .f32 (b.Sp.foldl (fun w s=>fop .add .f32 w (tS b.Me.Pq s)) 0) p0
  v1:Vl .f32 (b.Me.Tr.foldl (fun w t=>fop .add .f32 w (tT b.Film b.Me.Pq t)) 0) p1
  v2:Vl .f32 (H.foldl (fun w h=>fop .add .f32 w (tH b.Bend b.Me.Pq h)) 0) p2
  n0:Ab (p0 - rsum (fun s=>vW (tS b.Me.Pq s)) b.Sp) (8 / 100000)
  n1:Ab (p1 - rsum (fun t=>vW (tT b.Film b.Me.Pq t)) b.Me.Tr) (3 / 100000)
  n2:Ab (p2 - rsum (fun h=>vW (tH b.Bend b.Me.Pq h)) H) (1 / 100000)
  b0:0≤p0∧p0≤53
  b1:0≤p1∧p1≤29
  b2:0≤p2∧p2≤8
theorem Zaz {b:Gb} {H:List (List Int)} (l0:b.Sp.length≤23) (l1:b.Me.Tr.length≤12) (l2:H.length≤13)
    (h0:∀ s∈b.Sp,Fw (tS b.Me.Pq s) (226 / 100)∧0≤vW (tS b.Me.Pq s)) (h1:∀ t∈b.Me.Tr,Fw (tT b.Film b.Me.Pq t) (24 / 10)∧0≤vW (tT b.Film b.Me.Pq t)) (h2:∀ h∈H,Fw (tH b.Bend b.Me.Pq h) (6 / 10)∧0≤vW (tH b.Bend b.Me.Pq h)) :
    ∃ p0 p1 p2,Prt b H p0 p1 p2:=by
  have c0:=nle l0
  have c1:=nle l1
  have c2:=nle l2
  have e0:((23:Nat):Rat)=23:=rfl
  have e1:((12:Nat):Rat)=12:=rfl
  have e2:((13:Nat):Rat)=13:=rfl
  rw [e0] at c0
  rw [e1] at c1
  rw [e2] at c2
  obtain ⟨p0,V0,N0,B0,z0⟩:=X3l (f:=fun s=>tS b.Me.Pq s) (B:=226 / 100) (S:=53) (by decide +kernel) (by decide +kernel) (by decide +kernel) (l:=b.Sp) (fun a ha=>(h0 a ha).1) (by grind)
  obtain ⟨p1,V1,N1,B1,z1⟩:=X3l (f:=fun s=>tT b.Film b.Me.Pq s) (B:=24 / 10) (S:=29) (by decide +kernel) (by decide +kernel) (by decide +kernel) (l:=b.Me.Tr) (fun a ha=>(h1 a ha).1) (by grind)
  obtain ⟨p2,V2,N2,B2,z2⟩:=X3l (f:=fun s=>tH b.Bend b.Me.Pq s) (B:=6 / 10) (S:=8) (by decide +kernel) (by decide +kernel) (by decide +kernel) (l:=H) (fun a ha=>(h2 a ha).1) (by grind)
  have z0:=z0 fun a ha=>(h0 a ha).2
  have z1:=z1 fun a ha=>(h1 a ha).2
  have z2:=z2 fun a ha=>(h2 a ha).2
  unfold Ab at *
  exact ⟨p0,p1,p2,V0,V1,V2,by unfold Ab;grind,by unfold Ab;grind,by unfold Ab;grind,⟨z0,B0.2⟩,⟨z1,B1.2⟩,⟨z2,B2.2⟩⟩
theorem Z93 (b:Gb):ZO b=fop .add .f32 (fop .add .f32 (fop .add .f32 ((Zx b).getD 0 default) ((Zx b).getD 1 default)) ((Zx b).getD 2 default)) ((Zx b).getD 3 default):=rfl
theorem Za2 {b:Gb} {H:List (List Int)} {n:Nat} {p0 p1 p2:Rat} (hp:Prt b H p0 p1 p2) (hw:b.We=List.replicate n 0) (hf:b.Fall=⟨0,0,0⟩) (hh:Z8 b.Me=H) (w:Wh n b.Me.Pq) (hl:b.Me.Pq.length=n) :
    ∃ q,Vl .f32 (ZO b) q∧Ab (q - (p0 + p1 + p2)) (2 / 100000)∧Ab q 100:=by
  have t:=X2a .f32
  have u:uK .f32=1 / 16777216:=rfl
  have top:(100:Rat) < (2:Rat)^(topE .f32):=by decide +kernel
  obtain ⟨a,V,N⟩:=addV hp.v0 hp.v1 (B:=82) (by have:=hp.b0;have:=hp.b1;grind) (by have:=hp.b0;have:=hp.b1;grind) (by grind)
  rw [u] at N
  unfold Nr at N
  have b0:=hp.b0
  have b1:=hp.b1
  have b2:=hp.b2
  obtain ⟨c,V2,N2⟩:=addV V hp.v2 (B:=91) (by grind) (by grind) (by grind)
  rw [u] at N2
  unfold Nr at N2
  obtain ⟨d,V3,N3⟩:=addV V2 X3I (B:=92) (by grind) (by grind) (by grind)
  rw [u] at N3
  unfold Nr at N3
  refine ⟨d,?_,by unfold Ab;grind,by unfold Ab;grind⟩
  rw [Z93,Z9r b hw,hh,hf]
  rw [Za1 w hl]
  exact V3
theorem Z94 (v:Gv):Z39 v=lenW v.X v.Y v.Z:=rfl
theorem Za3 {b:Gb} {G:Gm} {E H:List (List Int)} (B:Bod b G E H 9) (hq:∀ e∈E,dQ b.Me.Pq (e.getD 0 default) (e.getD 1 default)≤13300):∃ p0 p1 p2,Prt b H p0 p1 p2:=by
  have h1:=B.tab.ne
  have h2:=B.tab.nt
  refine Zaz (by have:=B.slen;omega) (by rw [B.tri];exact h2) B.tab.nh (fun s hs => ?_) (fun t ht => ?_) (fun h hh => ?_)
  · obtain ⟨e,x,y,he,hE,hx,hy,es⟩:=Z6P B hs
    rw [es];exact ZaT B.pl hE (hq e he) hx hy
  · obtain ⟨x,hx,ef⟩:=B.film
    rw [B.tri] at ht
    rw [ef];exact ZaV B.pl (B.tab.tr t ht) hx
  · obtain ⟨x,hx,eb⟩:=B.bend
    have bd:=h_bd B.pl (by decide) (B.tab.hi h hh)
    obtain ⟨v,q0,q1⟩:=tH_v (Z7A B.pl (by decide)) (B.tab.hi h hh) bd.1 bd.2.1 bd.2.2 hx
    rw [eb];exact ZaW hx v q0 q1
theorem Z9y {b:Gb} {G:Gm} {E H:List (List Int)} (B:Bod b G E H 8):∀ e∈E,dQ b.Me.Pq (e.getD 0 default) (e.getD 1 default)≤13300:=fun e he=>by
  have:=(Z8j B.pl (by decide) (by decide) (B.tab.ed e he)).2
  omega
theorem Z7T {d:Gv} {s:Gs} {l:Rat} (hl:Vl .f32 (Zg d) l) (h0:7 / 10≤l):ZZ d s=pulW (Zg d) s.Long s.Stiff:=by
  unfold ZZ
  rw [gtrV hl X3I,decide_eq_true (by grind),cond_true];rfl
theorem Z9s {b:Gb} {G:Gm} {E H:List (List Int)} (S:Smth b G E) (B:Bod b G E H 8) {P':List Gv} (hl:P'.length=b.Me.Pq.length):Z8 ⟨P',b.Me.Tr⟩=H:=by
  obtain ⟨H',hH',-⟩:=Z91 S.gd
  have e1:=hH' b.Me.Pq S.len
  have e2:=hH' P' (hl.trans S.len)
  have e3:(⟨b.Me.Pq,G.Tr⟩:Gm)=b.Me:=by rw [← S.tri]
  rw [e3] at e1
  rw [S.tri,e2,← e1];exact B.hin
def pS (P:List Gv) (s:Gs):List (Nat × Gv):=[(s.A.toNat,Zt (dW P s.A s.B) (ZZ (dW P s.A s.B) s)),(s.B.toNat,Zt (dW P s.A s.B) (fneg .f32 (ZZ (dW P s.A s.B) s)))]
def fcT (F:Nat) (P:List Gv) (t:List Int):Nat:=cond (fcmp .gtr .f32 (Zg (nW P t)) 0) (fop .quo .f32 (fneg .f32 (fop .mul .f32 1056964608 F)) (Zg (nW P t))) 0
def pTf (f:Nat) (P:List Gv) (t:List Int):List (Nat × Gv):=[((t.getD 0 default).toNat,Zt (Zw (nW P t) (dW P (t.getD 1 default) (t.getD 2 default))) f),((t.getD 1 default).toNat,Zt (Zw (nW P t) (dW P (t.getD 2 default) (t.getD 0 default))) f),((t.getD 2 default).toNat,Zt (Zw (nW P t) (dW P (t.getD 0 default) (t.getD 1 default))) f)]
def pT (F:Nat) (P:List Gv) (t:List Int):List (Nat × Gv):=pTf (fcT F P t) P t
def pH (Bd:Nat) (P:List Gv) (h:List Int):List (Nat × Gv):=[((h.getD 0 default).toNat,Zt (hW P h) Bd),((h.getD 1 default).toNat,Zt (hW P h) Bd),((h.getD 2 default).toNat,Zt (hW P h) (fneg .f32 Bd)),((h.getD 3 default).toNat,Zt (hW P h) (fneg .f32 Bd))]
def pWt (b:Gb):List (Nat × Gv):=(List.range b.We.length).map fun j=>(j,Zt b.Fall (b.We.getD j default))
def pA (b:Gb):List (Nat × Gv):=b.Sp.flatMap (pS b.Me.Pq) ++ (b.Me.Tr.flatMap (pT b.Film b.Me.Pq) ++ ((Z8 b.Me).flatMap (pH b.Bend b.Me.Pq) ++ pWt b))
def psh (o:List Gv) (p:Nat × Gv):List Gv:=o.set p.1 (Zj (o.getD p.1 default) p.2)
theorem Z5B {α β γ:Type} (f:γ→β→γ) (h:α→List β):∀ (l:List α) (o:γ),(l.flatMap h).foldl f o=l.foldl (fun o a=>(h a).foldl f o) o
  | [],_=>rfl
  | a :: l,o=>by rw [List.flatMap_cons,List.foldl_append,List.foldl_cons,Z5B f h l]
theorem fr31 (b:Gb) (i:Int) (r:List Gv):Z1l b i r=(pTf (fop .quo .f32 (fneg .f32 (fop .mul .f32 1056964608 b.Film)) (Zg (nW b.Me.Pq (b.Me.Tr.getD i.toNat default)))) b.Me.Pq (b.Me.Tr.getD i.toNat default)).foldl psh r:=by kernel_rfl
theorem fr42 (b:Gb) (i:Int) (r:List Gv):Z1m b i r=(pTf 0 b.Me.Pq (b.Me.Tr.getD i.toNat default)).foldl psh r:=by kernel_rfl
theorem Z95 (b:Gb):Zu b=(pA b).foldl psh (List.replicate b.Me.Pq.length ⟨0,0,0⟩):=by
  have h1:Z1k b=b.Sp.foldl (fun o s=>(pS b.Me.Pq s).foldl psh o) (List.replicate (b.Me.Pq.length:Int).toNat ⟨0,0,0⟩) :=
    XZ (a:=b.Sp) (lo:=fun k s i=>ZQ b k i s) (fun k s i=>rfl) _
  have h2:Z1n b=b.Me.Tr.foldl (fun o t=>(pT b.Film b.Me.Pq t).foldl psh o) (Z1k b):=by
    refine XZ (a:=b.Me.Tr) (lo:=fun k s i=>Zr b k i s) (fun k s i => ?_) _
    show Zr b (k + 1) i s=_
    rw [Zr,fr31,fr42]
    unfold pT fcT
    rw [show Zg (Zd b.Me (b.Me.Tr.getD i.toNat default))=Zg (nW b.Me.Pq (b.Me.Tr.getD i.toNat default)) from rfl]
    cases fcmp .gtr .f32 (Zg (nW b.Me.Pq (b.Me.Tr.getD i.toNat default))) 0 with
    | true=>rw [cond_true,cond_true]
    | false=>rw [cond_false,cond_false]
  have h5:Z1o b=(Z8 b.Me).foldl (fun o h=>(pH b.Bend b.Me.Pq h).foldl psh o) (Z1n b) :=
    XZ (a:=Z8 b.Me) (lo:=fun k s i=>ZR b k i s) (fun k s i=>rfl) _
  have h6:Z25 b=(pWt b).foldl psh (Z1o b):=by
    unfold pWt
    rw [List.foldl_map]
    have hl:(b.We.length:Int)=((List.range b.We.length).length:Int):=by rw [List.length_range]
    unfold Z25
    rw [hl]
    refine XZ (a:=List.range b.We.length) (lo:=fun k s i=>ZI b k i s) (f:=fun o j=>psh o (j,Zt b.Fall (b.We.getD j default))) (fun k s i => ?_) _
    show ZI b (k + 1) i s=_
    rw [ZI,← hl]
    by_cases hi:i < (b.We.length:Int)
    · rw [decide_eq_true hi,cond_true,cond_true]
      by_cases h0:i.toNat < b.We.length
      · rw [show (List.range b.We.length).getD i.toNat default=i.toNat from by rw [List.getD_eq_getElem?_getD,List.getElem?_range h0];rfl];rfl
      · rw [show (List.range b.We.length).getD i.toNat default=i.toNat from by rw [List.getD_eq_getElem?_getD,List.getElem?_eq_none (by rw [List.length_range];omega)];show (0:Nat)=i.toNat;omega];rfl
    · rw [decide_eq_false hi,cond_false,cond_false]
  unfold Zu pA
  rw [h6,h5,h2,h1,List.foldl_append,List.foldl_append,List.foldl_append,Z5B,Z5B,Z5B,Int.toNat_natCast]
inductive Ax | x | y | z
def Ax.c:Ax→Gv→Nat
  | .x,v=>v.X
  | .y,v=>v.Y
  | .z,v=>v.Z
def Ax.up:Ax→Gv→Nat→Gv
  | .x,v,s=>⟨fop .add .f32 v.X s,v.Y,v.Z⟩
  | .y,v,s=>⟨v.X,fop .add .f32 v.Y s,v.Z⟩
  | .z,v,s=>⟨v.X,v.Y,fop .add .f32 v.Z s⟩
def Ax.e1:Ax→Int
  | .x=>1
  | _=>0
def Ax.e2:Ax→Int
  | .y=>1
  | _=>0
def Ax.e3:Ax→Int
  | .z=>1
  | _=>0
def Ax.m (ax:Ax) (a b c:Int):Int:=ax.e1 * a + ax.e2 * b + ax.e3 * c
theorem Ax.c_add (ax:Ax) (a b:Gv):ax.c (Zj a b)=fop .add .f32 (ax.c a) (ax.c b):=by cases ax<;>rfl
theorem Ax.c_scale (ax:Ax) (a:Gv) (w:Nat):ax.c (Zt a w)=fop .mul .f32 (ax.c a) w:=by cases ax<;>rfl
theorem Ax.m_x (a b c:Int):Ax.x.m a b c=a:=by show 1 * a + 0 * b + 0 * c=a;omega
theorem Ax.m_y (a b c:Int):Ax.y.m a b c=b:=by show 0 * a + 1 * b + 0 * c=b;omega
theorem Ax.m_z (a b c:Int):Ax.z.m a b c=c:=by show 0 * a + 0 * b + 1 * c=c;omega
def shP (ax:Ax) (P:List Gv) (i:Nat) (s:Nat):List Gv:=P.set i (ax.up (P.getD i default) s)
def dl (k:Int) (i:Nat):Int:=if k=(i:Int) then 1 else 0
theorem Z44 (k:Int) (i:Nat):(k=(i:Int)∧dl k i=1)∨(k≠(i:Int)∧dl k i=0):=by
  unfold dl
  by_cases h:k=(i:Int)
  · left;exact ⟨h,if_pos h⟩
  · right;exact ⟨h,if_neg h⟩
theorem Z8F {ax:Ax} {P:List Gv} {i:Nat} {s:Nat} {k:Int} (hk:0≤k) (hi:i < P.length):(shP ax P i s).getD k.toNat default=if k=(i:Int) then ax.up (P.getD i default) s else P.getD k.toNat default:=by
  unfold shP
  by_cases h:k=(i:Int)
  · rw [if_pos h,h,Int.toNat_natCast,Z7S hi]
  · rw [if_neg h,Z7N (by omega)]
theorem sh_w {ax:Ax} {G:Gm} {P:List Gv} {i:Nat} {s:Nat} {t:Int} (p:Pl G P 8) (hs:I6 s t) (ht:t=1∨t=-1) (hi:i < P.length) {k:Int} (hk:InR G.Pq.length k) :
    I6 ((shP ax P i s).getD k.toNat default).X (cX P k + t * ax.e1 * dl k i)∧I6 ((shP ax P i s).getD k.toNat default).Y (cY P k + t * ax.e2 * dl k i)∧I6 ((shP ax P i s).getD k.toNat default).Z (cZ P k + t * ax.e3 * dl k i):=by
  have x1:=p.wx k hk
  have y1:=p.wy k hk
  have z1:=p.wz k hk
  have g1:=Z8b G k
  have g2:=Z8c G k
  have g3:=Z8d G k
  rw [Z8F hk.1 hi]
  rcases Z44 k i with ⟨h,e⟩ | ⟨h,e⟩
  · have ek:P.getD i default=P.getD k.toNat default:=by rw [h,Int.toNat_natCast]
    rw [if_pos h,e,ek]
    cases ax
    · simp only [Ax.up,Ax.e1,Ax.e2,Ax.e3,Int.mul_one,Int.mul_zero,Int.add_zero]
      exact ⟨add6 x1.1 hs (by omega) (by omega),y1.1,z1.1⟩
    · simp only [Ax.up,Ax.e1,Ax.e2,Ax.e3,Int.mul_one,Int.mul_zero,Int.zero_mul,Int.add_zero]
      exact ⟨x1.1,add6 y1.1 hs (by omega) (by omega),z1.1⟩
    · simp only [Ax.up,Ax.e1,Ax.e2,Ax.e3,Int.mul_one,Int.mul_zero,Int.zero_mul,Int.add_zero]
      exact ⟨x1.1,y1.1,add6 z1.1 hs (by omega) (by omega)⟩
  · rw [if_neg h,e]
    simp only [Int.mul_zero,Int.add_zero]
    exact ⟨x1.1,y1.1,z1.1⟩
theorem sh_c {ax:Ax} {G:Gm} {P:List Gv} {i:Nat} {s:Nat} {t:Int} (p:Pl G P 8) (hs:I6 s t) (ht:t=1∨t=-1) (hi:i < P.length) {k:Int} (hk:InR G.Pq.length k) :
    cX (shP ax P i s) k=cX P k + t * ax.e1 * dl k i∧cY (shP ax P i s) k=cY P k + t * ax.e2 * dl k i∧cZ (shP ax P i s) k=cZ P k + t * ax.e3 * dl k i:=by
  obtain ⟨h1,h2,h3⟩:=sh_w (ax:=ax) p hs ht hi hk
  exact ⟨Z6O h1,Z6O h2,Z6O h3⟩
theorem Z8P {ax:Ax} {t k:Int} {i:Nat} (ht:t=1∨t=-1):(-1≤t * ax.e1 * dl k i∧t * ax.e1 * dl k i≤1)∧(-1≤t * ax.e2 * dl k i∧t * ax.e2 * dl k i≤1)∧(-1≤t * ax.e3 * dl k i∧t * ax.e3 * dl k i≤1):=by
  rcases ht with rfl | rfl<;>rcases Z44 k i with ⟨_,e⟩ | ⟨_,e⟩<;>rw [e]<;>cases ax<;>decide
theorem Z6b {ax:Ax} {G:Gm} {P:List Gv} {i:Nat} {s:Nat} {t:Int} (p:Pl G P 8) (hs:I6 s t) (ht:t=1∨t=-1) (hi:i < P.length):Pl G (shP ax P i s) 9:=by
  refine ⟨by unfold shP;rw [List.length_set];exact p.len,fun k hk => ?_,fun k hk => ?_,fun k hk => ?_⟩
  · obtain ⟨h1,h2,h3⟩:=sh_w (ax:=ax) p hs ht hi hk
    have b:=(Z8P (ax:=ax) (k:=k) (i:=i) ht).1
    have q:=p.wx k hk
    rw [(sh_c (ax:=ax) p hs ht hi hk).1]
    exact ⟨h1,by omega,by omega⟩
  · obtain ⟨h1,h2,h3⟩:=sh_w (ax:=ax) p hs ht hi hk
    have b:=(Z8P (ax:=ax) (k:=k) (i:=i) ht).2.1
    have q:=p.wy k hk
    rw [(sh_c (ax:=ax) p hs ht hi hk).2.1]
    exact ⟨h2,by omega,by omega⟩
  · obtain ⟨h1,h2,h3⟩:=sh_w (ax:=ax) p hs ht hi hk
    have b:=(Z8P (ax:=ax) (k:=k) (i:=i) ht).2.2
    have q:=p.wz k hk
    rw [(sh_c (ax:=ax) p hs ht hi hk).2.2]
    exact ⟨h3,by omega,by omega⟩
theorem sh_d {ax:Ax} {G:Gm} {P:List Gv} {i:Nat} {s:Nat} {t:Int} (p:Pl G P 8) (hs:I6 s t) (ht:t=1∨t=-1) (hi:i < P.length) {A B:Int} (hA:InR G.Pq.length A) (hB:InR G.Pq.length B) :
    dx (shP ax P i s) A B=dx P A B + t * ax.e1 * (dl B i - dl A i)∧dy (shP ax P i s) A B=dy P A B + t * ax.e2 * (dl B i - dl A i)∧dz (shP ax P i s) A B=dz P A B + t * ax.e3 * (dl B i - dl A i):=by
  obtain ⟨a1,a2,a3⟩:=sh_c (ax:=ax) p hs ht hi hA
  obtain ⟨b1,b2,b3⟩:=sh_c (ax:=ax) p hs ht hi hB
  unfold dx dy dz
  rw [a1,a2,a3,b1,b2,b3]
  refine ⟨?_,?_,?_⟩<;>grind
theorem Z6M {ax:Ax} {P:List Gv} {i:Nat} {s:Nat} {k:Int} (hk:0≤k) (hi:i < P.length) (h:k≠(i:Int)):(shP ax P i s).getD k.toNat default=P.getD k.toNat default:=by
  rw [Z8F hk hi,if_neg h]
def stp:Nat:=1015021568
theorem Z6c:I6 stp 1:=by unfold I6 Vl stp;decide +kernel
theorem Z5J:I6 (fneg .f32 stp) (-1):=by unfold I6 Vl stp;decide +kernel
theorem dQ_d (P:List Gv) (A B:Int):dQ P A B=dx P A B * dx P A B + dy P A B * dy P A B + dz P A B * dz P A B:=rfl
theorem Z8Q {ax:Ax} {G:Gm} {P:List Gv} {i:Nat} {s:Nat} {t:Int} (p:Pl G P 8) (hs:I6 s t) (ht:t=1∨t=-1) (hi:i < P.length) {A B:Int} (hA:InR G.Pq.length A) (hB:InR G.Pq.length B) :
    dQ (shP ax P i s) A B=dQ P A B + 2 * (t * (dl B i - dl A i)) * ax.m (dx P A B) (dy P A B) (dz P A B) + (dl B i - dl A i) * (dl B i - dl A i):=by
  obtain ⟨h1,h2,h3⟩:=sh_d (ax:=ax) p hs ht hi hA hB
  have htt:t * t=1:=by rcases ht with rfl | rfl<;>decide
  rw [dQ_d,dQ_d,h1,h2,h3]
  generalize dl B i - dl A i=σ
  cases ax
  · rw [Ax.m_x];simp only [Ax.e1,Ax.e2,Ax.e3];grind
  · rw [Ax.m_y];simp only [Ax.e1,Ax.e2,Ax.e3];grind
  · rw [Ax.m_z];simp only [Ax.e1,Ax.e2,Ax.e3];grind
theorem m_sq (ax:Ax) (a b c:Int):ax.m a b c * ax.m a b c≤a * a + b * b + c * c:=by
  have nn:∀ a:Int,0≤a * a:=by
    intro a
    rcases Int.le_total 0 a with h | h
    · exact Int.mul_nonneg h h
    · have:=Int.mul_nonneg (show 0≤-a by omega) (show 0≤-a by omega)
      grind
  have h1:=nn a
  have h2:=nn b
  have h3:=nn c
  cases ax
  · rw [Ax.m_x];omega
  · rw [Ax.m_y];omega
  · rw [Ax.m_z];omega
theorem m_bd (ax:Ax) {a b c B:Int} (ha:-B≤a∧a≤B) (hb:-B≤b∧b≤B) (hc:-B≤c∧c≤B):-B≤ax.m a b c∧ax.m a b c≤B:=by
  cases ax
  · rw [Ax.m_x];omega
  · rw [Ax.m_y];omega
  · rw [Ax.m_z];omega
theorem dW_m {ax:Ax} {G:Gm} {P:List Gv} {r:Int} (h:Pl G P r) (hr:r≤9) {A B:Int} (hA:InR G.Pq.length A) (hB:InR G.Pq.length B):I6 (ax.c (dW P A B)) (ax.m (dx P A B) (dy P A B) (dz P A B)):=by
  obtain ⟨i1,i2,i3,-⟩:=dW_I h hr hA hB
  cases ax
  · rw [Ax.m_x];exact i1
  · rw [Ax.m_y];exact i2
  · rw [Ax.m_z];exact i3
def xS (ax:Ax) (P:List Gv) (i:Nat) (s:Gs):Rat:=vW (tS (shP ax P i stp) s) - vW (tS (shP ax P i (fneg .f32 stp)) s) + 1 / 32 * rsum (fun p=>vW (ax.c p.2)) ((pS P s).filter fun p=>p.1 == i)
theorem ZaA {ax:Ax} {P:List Gv} {i:Nat} {s:Gs} (hi:i < P.length) (hA:0≤s.A) (hB:0≤s.B) (nA:s.A≠(i:Int)) (nB:s.B≠(i:Int)):xS ax P i s=0:=by
  have e:∀ w,tS (shP ax P i w) s=tS P s:=by
    intro w
    unfold tS dW
    rw [Z6M hA hi nA,Z6M hB hi nB]
  have f:(pS P s).filter (fun p=>p.1 == i)=[]:=by
    unfold pS
    rw [List.filter_cons,if_neg (by simp only [beq_iff_eq];omega),List.filter_cons,if_neg (by simp only [beq_iff_eq];omega)];rfl
  unfold xS
  rw [e,e,f,Xe]
  grind
theorem Za4 {ax:Ax} {b:Gb} {G:Gm} {E H:List (List Int)} (B:Bod b G E H 8) {i:Nat} (hi:i < b.Me.Pq.length) {s:Gs} (hs:s∈b.Sp) (ht:s.A=(i:Int)∨s.B=(i:Int)):Ab (xS ax b.Me.Pq i s) (8 / 100000):=by
  obtain ⟨e,x,y,he,hE,hx,hy,es⟩:=Z6P B hs
  have p9:=Z7P B.pl (r':=9) (by decide)
  have pp:=Z6b (ax:=ax) B.pl Z6c (.inl rfl) hi
  have pm:=Z6b (ax:=ax) B.pl Z5J (.inr rfl) hi
  have eA:s.A=e.getD 0 default:=by rw [es]
  have eB:s.B=e.getD 1 default:=by rw [es]
  have hA:=hE.1
  have hB:=hE.2.1
  have hAB:=hE.2.2.1
  rw [← eA] at hA
  rw [← eB] at hB
  rw [← eA,← eB] at hAB
  have q:=Z8j B.pl (by decide) (by decide) hE
  rw [← eA,← eB] at q
  have qp:=Z8Q (ax:=ax) B.pl Z6c (.inl rfl) hi hA hB
  have qm:=Z8Q (ax:=ax) B.pl Z5J (.inr rfl) hi hA hB
  have hm:=dW_m (ax:=ax) p9 (by decide) hA hB
  have msq:=m_sq ax (dx b.Me.Pq s.A s.B) (dy b.Me.Pq s.A s.B) (dz b.Me.Pq s.A s.B)
  rw [← dQ_d] at msq
  have mb:-81≤ax.m (dx b.Me.Pq s.A s.B) (dy b.Me.Pq s.A s.B) (dz b.Me.Pq s.A s.B)∧ax.m (dx b.Me.Pq s.A s.B) (dy b.Me.Pq s.A s.B) (dz b.Me.Pq s.A s.B)≤81:=by
    obtain ⟨-,-,-,b1,b2,b3⟩:=dW_I B.pl (by decide) hE.1 hE.2.1
    obtain ⟨-,-,-,g1,g2,-,g3⟩:=hE
    rw [← eA,← eB] at b1 b2 b3 g1 g2 g3
    refine m_bd ax ?_ ?_ ?_
    · unfold dx;omega
    · unfold dy;omega
    · unfold dz;omega
  generalize ax.m (dx b.Me.Pq s.A s.B) (dy b.Me.Pq s.A s.B) (dz b.Me.Pq s.A s.B)=m at *
  have hσ:∃ σ:Int,dl s.B i - dl s.A i=σ∧((σ=-1∧s.A=(i:Int)∧s.B≠(i:Int))∨(σ=1∧s.B=(i:Int)∧s.A≠(i:Int))):=by
    rcases Z44 s.A i with ⟨h1,e1⟩ | ⟨h1,e1⟩<;>rcases Z44 s.B i with ⟨h2,e2⟩ | ⟨h2,e2⟩
    · exact absurd (h1.trans h2.symm) hAB
    · exact ⟨-1,by omega, .inl ⟨rfl,h1,h2⟩⟩
    · exact ⟨1,by omega, .inr ⟨rfl,h2,h1⟩⟩
    · rcases ht with h | h
      · exact absurd h h1
      · exact absurd h h2
  obtain ⟨σ,eσ,hσ⟩:=hσ
  rw [eσ] at qp qm
  have hσ2:σ * σ=1:=by rcases hσ with ⟨h,-⟩ | ⟨h,-⟩<;>rw [h]<;>decide
  rw [hσ2] at qp qm
  have ebd:-81≤σ * m∧σ * m≤81:=by rcases hσ with ⟨h,-⟩ | ⟨h,-⟩<;>rw [h]<;>omega
  have e2p:2 * (1 * σ) * m=2 * (σ * m):=by grind
  have e2m:2 * (-1 * σ) * m=-(2 * (σ * m)):=by grind
  rw [e2p] at qp
  rw [e2m] at qm
  obtain ⟨l,V,l0,d1,d2,l1,l2⟩:=Z6K p9 hE (Z9y B e he) rfl
  obtain ⟨lp,Vp,lp0,dp1,dp2,lp1,lp2⟩:=Z6K pp hE (by rw [← eA,← eB,qp];omega) rfl
  obtain ⟨lm,Vm,lm0,dm1,dm2,lm1,lm2⟩:=Z6K pm hE (by rw [← eA,← eB,qm];omega) rfl
  obtain ⟨L,VL,L0,L1⟩:=Z8M hx
  obtain ⟨k,Vk,k0,k1⟩:=Z8N hy
  rw [← eA,← eB] at V Vp Vm d1 d2 dp1 dp2 dm1 dm2
  rw [qp] at dp1 dp2
  rw [qm] at dm1 dm2
  obtain ⟨g,Vg,Ng,Bg⟩:=X7w V l1 l2 VL L0 L1 Vk k0 k1
  obtain ⟨Tp,VTp,NTp,-⟩:=X4B Vp lp1 lp2 VL L0 L1 Vk k0 k1
  obtain ⟨Tm,VTm,NTm,-⟩:=X4B Vm lm1 lm2 VL L0 L1 Vk k0 k1
  have eL:s.Long=lngW (x:Int):=by rw [es]
  have eK:s.Stiff=stfW (y:Int):=by rw [es]
  have tp:vW (tS (shP ax b.Me.Pq i stp) s)=Tp:=by
    refine XB ?_
    unfold tS;rw [eL,eK];exact VTp
  have tm:vW (tS (shP ax b.Me.Pq i (fneg .f32 stp)) s)=Tm:=by
    refine XB ?_
    unfold tS;rw [eL,eK];exact VTm
  have hpw:ZZ (dW b.Me.Pq s.A s.B) s=pulW (Zg (dW b.Me.Pq s.A s.B)) (lngW (x:Int)) (stfW (y:Int)):=by rw [Z7T V l1,eL,eK]
  have Vg:Vl .f32 (ZZ (dW b.Me.Pq s.A s.B) s) g:=by rw [hpw];exact Vg
  have gm0:=Rat.intCast_le_intCast.2 mb.1
  have gm1:=Rat.intCast_le_intCast.2 mb.2
  have c81:((81:Int):Rat)=81:=rfl
  have cm81:((-81:Int):Rat)=-81:=rfl
  rw [cm81] at gm0
  rw [c81] at gm1
  have hpush:∃ w,rsum (fun p=>vW (ax.c p.2)) ((pS b.Me.Pq s).filter fun p=>p.1 == i)=w∧Ab (w - -(σ:Rat) * ((m:Rat) / 64 * g)) (1 / 1000000):=by
    rcases hσ with ⟨h,hA2,hB2⟩ | ⟨h,hB2,hA2⟩
    · have f:(pS b.Me.Pq s).filter (fun p=>p.1 == i)=[(s.A.toNat,Zt (dW b.Me.Pq s.A s.B) (ZZ (dW b.Me.Pq s.A s.B) s))]:=by
        unfold pS
        have g1:=hB.1
        rw [List.filter_cons,if_pos (by simp only [beq_iff_eq];omega),List.filter_cons,if_neg (by simp only [beq_iff_eq];omega)];rfl
      obtain ⟨w,Vw,Nw,-⟩:=X2L hm Vg (A:=81 / 64) (B:=4) (by unfold Ab;grind) Bg (by decide +kernel)
      refine ⟨w,?_,?_⟩
      · rw [f,X3,Xe]
        simp only
        rw [Ax.c_scale,XB Vw];grind
      · rw [h];unfold Nr at Nw;unfold Ab
        have:((-1:Int):Rat)=-1:=rfl
        rw [this];grind
    · have f:(pS b.Me.Pq s).filter (fun p=>p.1 == i)=[(s.B.toNat,Zt (dW b.Me.Pq s.A s.B) (fneg .f32 (ZZ (dW b.Me.Pq s.A s.B) s)))]:=by
        unfold pS
        have g1:=hA.1
        rw [List.filter_cons,if_neg (by simp only [beq_iff_eq];omega),List.filter_cons,if_pos (by simp only [beq_iff_eq];omega)];rfl
      obtain ⟨w,Vw,Nw,-⟩:=X2L hm (negV Vg) (A:=81 / 64) (B:=4) (by unfold Ab;grind) (by unfold Ab at *;grind) (by decide +kernel)
      refine ⟨w,?_,?_⟩
      · rw [f,X3,Xe]
        simp only
        rw [Ax.c_scale,XB Vw];grind
      · rw [h];unfold Nr at Nw;unfold Ab
        have:((1:Int):Rat)=1:=rfl
        rw [this];grind
  obtain ⟨w,ew,Nw⟩:=hpush
  unfold xS
  rw [tp,tm,ew]
  have cq:=Rat.intCast_le_intCast.2 q.1
  have cq2:=Rat.intCast_le_intCast.2 q.2
  have c1:((2304:Int):Rat)=2304:=rfl
  have c2:((13056:Int):Rat)=13056:=rfl
  rw [c1] at cq
  rw [c2] at cq2
  have ce0:=Rat.intCast_le_intCast.2 ebd.1
  have ce1:=Rat.intCast_le_intCast.2 ebd.2
  rw [cm81] at ce0
  rw [c81] at ce1
  have hsm:((σ * m:Int):Rat) * ((σ * m:Int):Rat)≤((dQ b.Me.Pq s.A s.B:Int):Rat):=by
    rw [← Rat.intCast_mul]
    refine Rat.intCast_le_intCast.2 ?_
    have e:σ * m * (σ * m)=m * m:=by
      have:σ * m * (σ * m)=(σ * σ) * (m * m):=by grind
      rw [this,hσ2];omega
    rw [e];exact msq
  have cp:((dQ b.Me.Pq s.A s.B + 2 * (σ * m) + 1:Int):Rat) / 4096=((dQ b.Me.Pq s.A s.B:Int):Rat) / 4096 + 2 * (((σ * m:Int):Rat) / 4096) + 1 / 4096:=by
    rw [Rat.intCast_add,Rat.intCast_add,Rat.intCast_mul 2]
    have:((1:Int):Rat)=1:=rfl
    have h2:((2:Int):Rat)=2:=rfl
    rw [this,h2];grind
  have cm:((dQ b.Me.Pq s.A s.B + -(2 * (σ * m)) + 1:Int):Rat) / 4096=((dQ b.Me.Pq s.A s.B:Int):Rat) / 4096 - 2 * (((σ * m:Int):Rat) / 4096) + 1 / 4096:=by
    rw [Rat.intCast_add,Rat.intCast_add,Rat.intCast_neg,Rat.intCast_mul 2]
    have:((1:Int):Rat)=1:=rfl
    have h2:((2:Int):Rat)=2:=rfl
    rw [this,h2];grind
  rw [cp] at dp1 dp2
  rw [cm] at dm1 dm2
  have ek:-(σ:Rat) * ((m:Rat) / 64 * g) * (1 / 32)=-(2 * g * (((σ * m:Int):Rat) / 4096)):=by rw [Rat.intCast_mul];grind
  generalize ((σ * m:Int):Rat)=M at *
  generalize ((dQ b.Me.Pq s.A s.B:Int):Rat)=Q at *
  have hX:=X9l (s:=k) (L:=L) (N:=l) (lp:=lp) (lm:=lm) (D:=Q / 4096) (k:=M / 4096) (c:=1 / 4096) (g:=g) k0 k1 L0 L1 l0 (by grind) (by grind) d1 d2 lp0 dp1 dp2 (by grind) lm0 dm1 dm2 (by grind) (by grind) (by decide +kernel) (by decide +kernel) Ng
  generalize -(σ:Rat) * ((m:Rat) / 64 * g)=R at *
  unfold Nr at NTp NTm
  unfold Ab at *
  generalize k / 2 * ((lp - L) * (lp - L))=T1 at *
  generalize k / 2 * ((lm - L) * (lm - L))=T2 at *
  generalize 2 * g * (M / 4096)=K at *
  grind
def I18 (w:Nat) (n:Int):Prop:=Vl .f32 w ((n:Rat) / 262144)
theorem p18:(2:Rat)^((18:Nat):Int)=262144:=by decide +kernel
theorem Z6Q {x y:Nat} {a b:Int} (hx:I12 x a) (hy:I6 y b) (h1:-16777216 < a * b) (h2:a * b < 16777216):I18 (fop .mul .f32 x y) (a * b):=by
  have e:((a * b:Int):Rat) / 262144=(a:Rat) / 4096 * ((b:Rat) / 64):=by rw [Rat.intCast_mul];grind
  unfold I18;rw [e]
  refine mulX hx hy (X34 (n:=a * b) (s:=18) ?_ h1 h2 (by decide))
  rw [p18,Rat.intCast_mul];grind
theorem Z8R {x y:Nat} {a b:Int} (hx:I18 x a) (hy:I18 y b) (h1:-16777216 < a - b) (h2:a - b < 16777216):I18 (fop .sub .f32 x y) (a - b):=by
  have e:((a - b:Int):Rat) / 262144=(a:Rat) / 262144 - (b:Rat) / 262144:=by rw [Rat.intCast_sub];grind
  unfold I18;rw [e]
  refine subX hx hy (X34 (n:=a - b) (s:=18) ?_ h1 h2 (by decide))
  rw [p18,Rat.intCast_sub];grind
theorem Za5 (ax:Ax) {u v:Gv} {a1 a2 a3 b1 b2 b3:Int} (h1:I12 u.X a1) (h2:I12 u.Y a2) (h3:I12 u.Z a3) (h4:I6 v.X b1) (h5:I6 v.Y b2) (h6:I6 v.Z b3) (ha1:-7048≤a1∧a1≤7048) (ha2:-7048≤a2∧a2≤7048) (ha3:-7048≤a3∧a3≤7048) (hb1:-82≤b1∧b1≤82) (hb2:-82≤b2∧b2≤82) (hb3:-82≤b3∧b3≤82) :
    I18 (ax.c (Zw u v)) (ax.m (a2 * b3 - a3 * b2) (a3 * b1 - a1 * b3) (a1 * b2 - a2 * b1)):=by
  have p1:=Z2l ha2.1 ha2.2 hb3.1 hb3.2
  have p2:=Z2l ha3.1 ha3.2 hb2.1 hb2.2
  have p3:=Z2l ha3.1 ha3.2 hb1.1 hb1.2
  have p4:=Z2l ha1.1 ha1.2 hb3.1 hb3.2
  have p5:=Z2l ha1.1 ha1.2 hb2.1 hb2.2
  have p6:=Z2l ha2.1 ha2.2 hb1.1 hb1.2
  cases ax
  · rw [Ax.m_x];exact Z8R (Z6Q h2 h6 (by omega) (by omega)) (Z6Q h3 h5 (by omega) (by omega)) (by omega) (by omega)
  · rw [Ax.m_y];exact Z8R (Z6Q h3 h4 (by omega) (by omega)) (Z6Q h1 h6 (by omega) (by omega)) (by omega) (by omega)
  · rw [Ax.m_z];exact Z8R (Z6Q h1 h5 (by omega) (by omega)) (Z6Q h2 h4 (by omega) (by omega)) (by omega) (by omega)
def wx (ax:Ax) (o1 o2 o3:Int):Int:=o2 * ax.e3 - o3 * ax.e2
def wy (ax:Ax) (o1 o2 o3:Int):Int:=o3 * ax.e1 - o1 * ax.e3
def wz (ax:Ax) (o1 o2 o3:Int):Int:=o1 * ax.e2 - o2 * ax.e1
theorem w_sq (ax:Ax) {o1 o2 o3:Int} (h1:-80≤o1∧o1≤80) (h2:-80≤o2∧o2≤80) (h3:-80≤o3∧o3≤80):0≤wx ax o1 o2 o3 * wx ax o1 o2 o3 + wy ax o1 o2 o3 * wy ax o1 o2 o3 + wz ax o1 o2 o3 * wz ax o1 o2 o3∧wx ax o1 o2 o3 * wx ax o1 o2 o3 + wy ax o1 o2 o3 * wy ax o1 o2 o3 + wz ax o1 o2 o3 * wz ax o1 o2 o3≤12800:=by
  have s1:=XA h1.1 h1.2
  have s2:=XA h2.1 h2.2
  have s3:=XA h3.1 h3.2
  have n1:-o1 * -o1=o1 * o1:=by grind
  have n2:-o2 * -o2=o2 * o2:=by grind
  have n3:-o3 * -o3=o3 * o3:=by grind
  cases ax<;>simp only [wx,wy,wz,Ax.e1,Ax.e2,Ax.e3,Int.mul_one,Int.mul_zero,Int.sub_zero,Int.zero_sub]<;>omega
theorem w_in (ax:Ax) (a b c o1 o2 o3:Int):a * wx ax o1 o2 o3 + b * wy ax o1 o2 o3 + c * wz ax o1 o2 o3=ax.m (b * o3 - c * o2) (c * o1 - a * o3) (a * o2 - b * o1):=by
  cases ax
  · rw [Ax.m_x];simp only [wx,wy,wz,Ax.e1,Ax.e2,Ax.e3];grind
  · rw [Ax.m_y];simp only [wx,wy,wz,Ax.e1,Ax.e2,Ax.e3];grind
  · rw [Ax.m_z];simp only [wx,wy,wz,Ax.e1,Ax.e2,Ax.e3];grind
theorem ZaB (a b c x y z:Int):(a * x + b * y + c * z) * (a * x + b * y + c * z)≤(a * a + b * b + c * c) * (x * x + y * y + z * z):=by
  have nn:∀ a:Int,0≤a * a:=by
    intro a
    rcases Int.le_total 0 a with h | h
    · exact Int.mul_nonneg h h
    · have:=Int.mul_nonneg (show 0≤-a by omega) (show 0≤-a by omega)
      grind
  have h1:=nn (a * y - b * x)
  have h2:=nn (b * z - c * y)
  have h3:=nn (a * z - c * x)
  grind
def oA (t:List Int) (q:Nat):Int:=if q=0 then t.getD 1 default else if q=1 then t.getD 2 default else t.getD 0 default
def oB (t:List Int) (q:Nat):Int:=if q=0 then t.getD 2 default else if q=1 then t.getD 0 default else t.getD 1 default
theorem Z96 (P:List Gv) (A B:Int):dx P A B=-dx P B A∧dy P A B=-dy P B A∧dz P A B=-dz P B A:=by unfold dx dy dz;omega
theorem Z9z (P:List Gv) (A B C:Int):dx P A B=dx P C B - dx P C A∧dy P A B=dy P C B - dy P C A∧dz P A B=dz P C B - dz P C A:=by unfold dx dy dz;omega
theorem n_sh {ax:Ax} {G:Gm} {P:List Gv} {i:Nat} {s:Nat} {t:Int} (p:Pl G P 8) (hs:I6 s t) (ht:t=1∨t=-1) (hi:i < P.length) {T:List Int} (hT:TrP G T) {q:Nat} (hq:q < 3) (hqi:T.getD q default=(i:Int)) :
    nx (shP ax P i s) T=nx P T + t * wx ax (dx P (oA T q) (oB T q)) (dy P (oA T q) (oB T q)) (dz P (oA T q) (oB T q)) ∧
    ny (shP ax P i s) T=ny P T + t * wy ax (dx P (oA T q) (oB T q)) (dy P (oA T q) (oB T q)) (dz P (oA T q) (oB T q)) ∧
    nz (shP ax P i s) T=nz P T + t * wz ax (dx P (oA T q) (oB T q)) (dy P (oA T q) (oB T q)) (dz P (oA T q) (oB T q)):=by
  obtain ⟨-,h0,h1,h2,⟨n01,n12,n02⟩,-⟩:=hT
  obtain ⟨a1,a2,a3⟩:=sh_d (ax:=ax) p hs ht hi h0 h1
  obtain ⟨b1,b2,b3⟩:=sh_d (ax:=ax) p hs ht hi h0 h2
  unfold nx ny nz
  rw [a1,a2,a3,b1,b2,b3]
  have hc:q=0∨q=1∨q=2:=by omega
  rcases hc with rfl | rfl | rfl
  · have e0:dl (T.getD 0 default) i=1:=if_pos hqi
    have e1:dl (T.getD 1 default) i=0:=if_neg (by omega)
    have e2:dl (T.getD 2 default) i=0:=if_neg (by omega)
    have o1:oA T 0=T.getD 1 default:=rfl
    have o2:oB T 0=T.getD 2 default:=rfl
    obtain ⟨c1,c2,c3⟩:=Z9z P (T.getD 1 default) (T.getD 2 default) (T.getD 0 default)
    rw [e0,e1,e2,o1,o2,c1,c2,c3]
    generalize dx P (T.getD 0 default) (T.getD 1 default)=A1
    generalize dy P (T.getD 0 default) (T.getD 1 default)=A2
    generalize dz P (T.getD 0 default) (T.getD 1 default)=A3
    generalize dx P (T.getD 0 default) (T.getD 2 default)=B1
    generalize dy P (T.getD 0 default) (T.getD 2 default)=B2
    generalize dz P (T.getD 0 default) (T.getD 2 default)=B3
    cases ax<;>simp only [wx,wy,wz,Ax.e1,Ax.e2,Ax.e3]<;>refine ⟨?_,?_,?_⟩<;>grind
  · have e0:dl (T.getD 0 default) i=0:=if_neg (by omega)
    have e1:dl (T.getD 1 default) i=1:=if_pos hqi
    have e2:dl (T.getD 2 default) i=0:=if_neg (by omega)
    have o1:oA T 1=T.getD 2 default:=rfl
    have o2:oB T 1=T.getD 0 default:=rfl
    obtain ⟨c1,c2,c3⟩:=Z96 P (T.getD 2 default) (T.getD 0 default)
    rw [e0,e1,e2,o1,o2,c1,c2,c3]
    generalize dx P (T.getD 0 default) (T.getD 1 default)=A1
    generalize dy P (T.getD 0 default) (T.getD 1 default)=A2
    generalize dz P (T.getD 0 default) (T.getD 1 default)=A3
    generalize dx P (T.getD 0 default) (T.getD 2 default)=B1
    generalize dy P (T.getD 0 default) (T.getD 2 default)=B2
    generalize dz P (T.getD 0 default) (T.getD 2 default)=B3
    cases ax<;>simp only [wx,wy,wz,Ax.e1,Ax.e2,Ax.e3]<;>refine ⟨?_,?_,?_⟩<;>grind
  · have e0:dl (T.getD 0 default) i=0:=if_neg (by omega)
    have e1:dl (T.getD 1 default) i=0:=if_neg (by omega)
    have e2:dl (T.getD 2 default) i=1:=if_pos hqi
    have o1:oA T 2=T.getD 0 default:=rfl
    have o2:oB T 2=T.getD 1 default:=rfl
    rw [e0,e1,e2,o1,o2]
    generalize dx P (T.getD 0 default) (T.getD 1 default)=A1
    generalize dy P (T.getD 0 default) (T.getD 1 default)=A2
    generalize dz P (T.getD 0 default) (T.getD 1 default)=A3
    generalize dx P (T.getD 0 default) (T.getD 2 default)=B1
    generalize dy P (T.getD 0 default) (T.getD 2 default)=B2
    generalize dz P (T.getD 0 default) (T.getD 2 default)=B3
    cases ax<;>simp only [wx,wy,wz,Ax.e1,Ax.e2,Ax.e3]<;>refine ⟨?_,?_,?_⟩<;>grind
theorem Za6 {a B:Int} (hB:0≤B) (h:a * a≤B * B):-B≤a∧a≤B:=by
  constructor
  · refine Int.not_lt.1 fun hl => ?_
    have:=X3H (a:=a) (A:=B + 1) (by omega) (.inr (by omega))
    grind
  · refine Int.not_lt.1 fun hl => ?_
    have:=X3H (a:=a) (A:=B + 1) (by omega) (.inl (by omega))
    grind
def Mq (ax:Ax) (P:List Gv) (T:List Int) (q:Nat):Int:=nx P T * wx ax (dx P (oA T q) (oB T q)) (dy P (oA T q) (oB T q)) (dz P (oA T q) (oB T q)) + ny P T * wy ax (dx P (oA T q) (oB T q)) (dy P (oA T q) (oB T q)) (dz P (oA T q) (oB T q)) + nz P T * wz ax (dx P (oA T q) (oB T q)) (dy P (oA T q) (oB T q)) (dz P (oA T q) (oB T q))
def Wq (ax:Ax) (P:List Gv) (T:List Int) (q:Nat):Int:=wx ax (dx P (oA T q) (oB T q)) (dy P (oA T q) (oB T q)) (dz P (oA T q) (oB T q)) * wx ax (dx P (oA T q) (oB T q)) (dy P (oA T q) (oB T q)) (dz P (oA T q) (oB T q)) + wy ax (dx P (oA T q) (oB T q)) (dy P (oA T q) (oB T q)) (dz P (oA T q) (oB T q)) * wy ax (dx P (oA T q) (oB T q)) (dy P (oA T q) (oB T q)) (dz P (oA T q) (oB T q)) + wz ax (dx P (oA T q) (oB T q)) (dy P (oA T q) (oB T q)) (dz P (oA T q) (oB T q)) * wz ax (dx P (oA T q) (oB T q)) (dy P (oA T q) (oB T q)) (dz P (oA T q) (oB T q))
theorem o_I {G:Gm} {P:List Gv} (p:Pl G P 8) {T:List Int} (hT:TrP G T) {q:Nat} (hq:q < 3):(I6 (dW P (oA T q) (oB T q)).X (dx P (oA T q) (oB T q))∧I6 (dW P (oA T q) (oB T q)).Y (dy P (oA T q) (oB T q))∧I6 (dW P (oA T q) (oB T q)).Z (dz P (oA T q) (oB T q))) ∧
    (-80≤dx P (oA T q) (oB T q)∧dx P (oA T q) (oB T q)≤80)∧(-80≤dy P (oA T q) (oB T q)∧dy P (oA T q) (oB T q)≤80)∧(-80≤dz P (oA T q) (oB T q)∧dz P (oA T q) (oB T q)≤80):=by
  obtain ⟨-,h0,h1,h2,-,hd,hz1,hz2⟩:=hT
  have hc:q=0∨q=1∨q=2:=by omega
  rcases hc with rfl | rfl | rfl
  · have o1:oA T 0=T.getD 1 default:=rfl
    have o2:oB T 0=T.getD 2 default:=rfl
    rw [o1,o2]
    obtain ⟨i1,i2,i3,b1,b2,b3⟩:=dW_I p (by decide) h1 h2
    refine ⟨⟨i1,i2,i3⟩,?_,?_,?_⟩
    · unfold dx;omega
    · unfold dy;omega
    · unfold dz;omega
  · have o1:oA T 1=T.getD 2 default:=rfl
    have o2:oB T 1=T.getD 0 default:=rfl
    rw [o1,o2]
    obtain ⟨i1,i2,i3,b1,b2,b3⟩:=dW_I p (by decide) h2 h0
    refine ⟨⟨i1,i2,i3⟩,?_,?_,?_⟩
    · unfold dx;omega
    · unfold dy;omega
    · unfold dz;omega
  · have o1:oA T 2=T.getD 0 default:=rfl
    have o2:oB T 2=T.getD 1 default:=rfl
    rw [o1,o2]
    obtain ⟨i1,i2,i3,b1,b2,b3⟩:=dW_I p (by decide) h0 h1
    refine ⟨⟨i1,i2,i3⟩,?_,?_,?_⟩
    · unfold dx;omega
    · unfold dy;omega
    · unfold dz;omega
theorem Z9A {G:Gm} {P:List Gv} (p:Pl G P 8) {T:List Int} (hT:TrP G T):4194304≤nQ P T∧nQ P T≤67102912:=⟨ZaU p (by decide) (by decide) hT,Z9x p (by decide) (by decide) hT⟩
theorem Z9B {ax:Ax} {G:Gm} {P:List Gv} (p:Pl G P 8) {T:List Int} (hT:TrP G T) {q:Nat} (hq:q < 3):Mq ax P T q * Mq ax P T q≤nQ P T * 12800∧(-927000≤Mq ax P T q∧Mq ax P T q≤927000)∧0≤Wq ax P T q∧Wq ax P T q≤12800:=by
  obtain ⟨-,b1,b2,b3⟩:=o_I p hT hq
  have ws:=w_sq ax b1 b2 b3
  have c:=ZaB (nx P T) (ny P T) (nz P T) (wx ax (dx P (oA T q) (oB T q)) (dy P (oA T q) (oB T q)) (dz P (oA T q) (oB T q))) (wy ax (dx P (oA T q) (oB T q)) (dy P (oA T q) (oB T q)) (dz P (oA T q) (oB T q))) (wz ax (dx P (oA T q) (oB T q)) (dy P (oA T q) (oB T q)) (dz P (oA T q) (oB T q)))
  have hn:=Z9A p hT
  have c:Mq ax P T q * Mq ax P T q≤nQ P T * Wq ax P T q:=c
  have ws:0≤Wq ax P T q∧Wq ax P T q≤12800:=ws
  have m:=Int.mul_le_mul_of_nonneg_left ws.2 (show 0≤nQ P T by omega)
  refine ⟨by omega,Za6 (by decide) (by omega),ws⟩
theorem pT_v {ax:Ax} {G:Gm} {P:List Gv} (p:Pl G P 8) {T:List Int} (hT:TrP G T) {x:Nat} (hx:x < 5):∃ N F f,Vl .f32 (Zg (nW P T)) N∧0≤N∧((nQ P T:Int):Rat) / 16777216 - 24 / 10000000≤N * N∧N * N≤((nQ P T:Int):Rat) / 16777216 + 24 / 10000000∧Vl .f32 (fop .quo .f32 (X1 .f32 (x:Int)) 1073741824) F∧0≤F∧F≤2 ∧
    Vl .f32 (fcT (fop .quo .f32 (X1 .f32 (x:Int)) 1073741824) P T) f∧Nr (f * N) (-(F / 2)) (3 / 1000000)∧Ab f (26 / 10) ∧
    ∀ q,q < 3→Wn (fop .mul .f32 (ax.c (Zw (nW P T) (dW P (oA T q) (oB T q)))) (fcT (fop .quo .f32 (X1 .f32 (x:Int)) 1073741824) P T)) (((Mq ax P T q:Int):Rat) / 262144 * f) (1 / 1000000) (92 / 10):=by
  have p9:=Z7P p (r':=9) (by decide)
  obtain ⟨N,V,N0,D1,D2,n0,n1⟩:=Z7z p9 hT rfl
  obtain ⟨F,VF,f0,f1⟩:=Z9v hx
  obtain ⟨f,Vf,Nf,Bf⟩:=X9M V n0 n1 VF f0 f1
  have hf:fcT (fop .quo .f32 (X1 .f32 (x:Int)) 1073741824) P T=frcW (fop .quo .f32 (X1 .f32 (x:Int)) 1073741824) (Zg (nW P T)):=by
    unfold fcT
    rw [gtrV V X3I,decide_eq_true (by grind),cond_true];rfl
  have Vf:Vl .f32 (fcT (fop .quo .f32 (X1 .f32 (x:Int)) 1073741824) P T) f:=by rw [hf];exact Vf
  refine ⟨N,F,f,V,N0,D1,D2,VF,f0,f1,Vf,Nf,Bf,fun q hq => ?_⟩
  obtain ⟨⟨i1,i2,i3⟩,b1,b2,b3⟩:=o_I p hT hq
  obtain ⟨j1,j2,j3⟩:=nW_I p (by decide) (by decide) hT
  obtain ⟨m1,m2,m3⟩:=n_bd p (by decide) (by decide) hT
  have hc:=Za5 ax j1 j2 j3 i1 i2 i3 (by omega) (by omega) (by omega) (by omega) (by omega) (by omega)
  rw [← w_in] at hc
  have hb:=(Z9B (ax:=ax) p hT hq).2.1
  have g0:=Rat.intCast_le_intCast.2 hb.1
  have g1:=Rat.intCast_le_intCast.2 hb.2
  have c0:((-927000:Int):Rat)=-927000:=rfl
  have c1:((927000:Int):Rat)=927000:=rfl
  rw [c0] at g0
  rw [c1] at g1
  obtain ⟨w,W,Nw,w0,w1⟩:=X2L (a:=((Mq ax P T q:Int):Rat) / 262144) (A:=927000 / 262144) hc Vf (by unfold Ab;grind) Bf (by decide +kernel)
  have e:(927000 / 262144:Rat) * (26 / 10) + 1 / 1000000≤92 / 10:=by decide +kernel
  exact ⟨w,W,Nw,by grind,by grind⟩
theorem Z9C {ax:Ax} {G:Gm} {P:List Gv} {i:Nat} {s:Nat} {t:Int} (p:Pl G P 8) (hs:I6 s t) (ht:t=1∨t=-1) (hi:i < P.length) {T:List Int} (hT:TrP G T) {q:Nat} (hq:q < 3) (hqi:T.getD q default=(i:Int)) :
    nQ (shP ax P i s) T=nQ P T + 2 * t * Mq ax P T q + Wq ax P T q:=by
  obtain ⟨h1,h2,h3⟩:=n_sh (ax:=ax) p hs ht hi hT hq hqi
  have htt:t * t=1:=by rcases ht with rfl | rfl<;>decide
  unfold nQ Mq Wq
  rw [h1,h2,h3]
  generalize wx ax (dx P (oA T q) (oB T q)) (dy P (oA T q) (oB T q)) (dz P (oA T q) (oB T q))=W1
  generalize wy ax (dx P (oA T q) (oB T q)) (dy P (oA T q) (oB T q)) (dz P (oA T q) (oB T q))=W2
  generalize wz ax (dx P (oA T q) (oB T q)) (dy P (oA T q) (oB T q)) (dz P (oA T q) (oB T q))=W3
  grind
def xT (ax:Ax) (F:Nat) (P:List Gv) (i:Nat) (T:List Int):Rat:=vW (tT F (shP ax P i stp) T) - vW (tT F (shP ax P i (fneg .f32 stp)) T) + 1 / 32 * rsum (fun p=>vW (ax.c p.2)) ((pT F P T).filter fun p=>p.1 == i)
theorem ZaC {ax:Ax} {F:Nat} {P:List Gv} {i:Nat} {T:List Int} (hi:i < P.length) (h0:0≤T.getD 0 default) (h1:0≤T.getD 1 default) (h2:0≤T.getD 2 default) (n0:T.getD 0 default≠(i:Int)) (n1:T.getD 1 default≠(i:Int)) (n2:T.getD 2 default≠(i:Int)):xT ax F P i T=0:=by
  have e:∀ w,tT F (shP ax P i w) T=tT F P T:=by
    intro w
    unfold tT nW dW
    rw [Z6M h0 hi n0,Z6M h1 hi n1,Z6M h2 hi n2]
  have f:(pT F P T).filter (fun p=>p.1 == i)=[]:=by
    unfold pT pTf
    rw [List.filter_cons,if_neg (by simp only [beq_iff_eq];omega),List.filter_cons,if_neg (by simp only [beq_iff_eq];omega),List.filter_cons,if_neg (by simp only [beq_iff_eq];omega)];rfl
  unfold xT
  rw [e,e,f,Xe]
  grind
theorem Za7 {F:Nat} {P:List Gv} {i:Nat} {G:Gm} {T:List Int} (hT:TrP G T) {q:Nat} (hq:q < 3) (hqi:T.getD q default=(i:Int)):(pT F P T).filter (fun p=>p.1 == i)=[(i,Zt (Zw (nW P T) (dW P (oA T q) (oB T q))) (fcT F P T))]:=by
  obtain ⟨-,h0,h1,h2,⟨n01,n12,n02⟩,-⟩:=hT
  have hc:q=0∨q=1∨q=2:=by omega
  unfold pT pTf
  rcases hc with rfl | rfl | rfl
  · have ei:(T.getD 0 default).toNat=i:=by omega
    rw [List.filter_cons,if_pos (by simp only [beq_iff_eq];omega),List.filter_cons,if_neg (by simp only [beq_iff_eq];omega),List.filter_cons,if_neg (by simp only [beq_iff_eq];omega),ei];rfl
  · have ei:(T.getD 1 default).toNat=i:=by omega
    rw [List.filter_cons,if_neg (by simp only [beq_iff_eq];omega),List.filter_cons,if_pos (by simp only [beq_iff_eq];omega),List.filter_cons,if_neg (by simp only [beq_iff_eq];omega),ei];rfl
  · have ei:(T.getD 2 default).toNat=i:=by omega
    rw [List.filter_cons,if_neg (by simp only [beq_iff_eq];omega),List.filter_cons,if_neg (by simp only [beq_iff_eq];omega),List.filter_cons,if_pos (by simp only [beq_iff_eq];omega),ei];rfl
theorem Z7Q {ax:Ax} {b:Gb} {G:Gm} {E H:List (List Int)} (B:Bod b G E H 8) {i:Nat} (hi:i < b.Me.Pq.length) {T:List Int} (hT:TrP G T) {q:Nat} (hq:q < 3) (hqi:T.getD q default=(i:Int)):Ab (xT ax b.Film b.Me.Pq i T) (17 / 100000):=by
  obtain ⟨x,hx,eF⟩:=B.film
  rw [eF]
  have pp:=Z6b (ax:=ax) B.pl Z6c (.inl rfl) hi
  have pm:=Z6b (ax:=ax) B.pl Z5J (.inr rfl) hi
  have qp:=Z9C (ax:=ax) B.pl Z6c (.inl rfl) hi hT hq hqi
  have qm:=Z9C (ax:=ax) B.pl Z5J (.inr rfl) hi hT hq hqi
  obtain ⟨M2,-,W0,W1⟩:=Z9B (ax:=ax) B.pl hT hq
  have hn:=Z9A B.pl hT
  obtain ⟨N,F,f,V,N0,D1,D2,VF,f0,f1,Vf,Nf,Bf,hP⟩:=pT_v (ax:=ax) B.pl hT hx
  obtain ⟨lp,Vp,lp0,dp1,dp2,lp1,lp2⟩:=Z7z pp hT rfl
  obtain ⟨lm,Vm,lm0,dm1,dm2,lm1,lm2⟩:=Z7z pm hT rfl
  obtain ⟨Tp,VTp,NTp,-⟩:=X4C Vp lp1 lp2 VF f0 f1
  obtain ⟨Tm,VTm,NTm,-⟩:=X4C Vm lm1 lm2 VF f0 f1
  have tp:vW (tT (fop .quo .f32 (X1 .f32 (x:Int)) 1073741824) (shP ax b.Me.Pq i stp) T)=Tp:=XB VTp
  have tm:vW (tT (fop .quo .f32 (X1 .f32 (x:Int)) 1073741824) (shP ax b.Me.Pq i (fneg .f32 stp)) T)=Tm:=XB VTm
  obtain ⟨w,Vw,Nw,-⟩:=hP q hq
  have ew:rsum (fun p=>vW (ax.c p.2)) ((pT (fop .quo .f32 (X1 .f32 (x:Int)) 1073741824) b.Me.Pq T).filter fun p=>p.1 == i)=w:=by
    rw [Za7 hT hq hqi,X3,Xe]
    simp only
    rw [Ax.c_scale,XB Vw];grind
  unfold xT
  rw [tp,tm,ew]
  have cq:=Rat.intCast_le_intCast.2 hn.1
  have cq2:=Rat.intCast_le_intCast.2 hn.2
  have c1:((4194304:Int):Rat)=4194304:=rfl
  have c2:((67102912:Int):Rat)=67102912:=rfl
  rw [c1] at cq
  rw [c2] at cq2
  have cw0:=Rat.intCast_le_intCast.2 W0
  have cw1:=Rat.intCast_le_intCast.2 W1
  have c3:((0:Int):Rat)=0:=rfl
  have c4:((12800:Int):Rat)=12800:=rfl
  rw [c3] at cw0
  rw [c4] at cw1
  have hM:=Rat.intCast_le_intCast.2 M2
  rw [Rat.intCast_mul,Rat.intCast_mul,c4] at hM
  have cp:((nQ b.Me.Pq T + 2 * 1 * Mq ax b.Me.Pq T q + Wq ax b.Me.Pq T q:Int):Rat) / 16777216=((nQ b.Me.Pq T:Int):Rat) / 16777216 + 2 * (((Mq ax b.Me.Pq T q:Int):Rat) / 16777216) + ((Wq ax b.Me.Pq T q:Int):Rat) / 16777216:=by
    rw [Rat.intCast_add,Rat.intCast_add,Rat.intCast_mul,Rat.intCast_mul]
    have h1:((1:Int):Rat)=1:=rfl
    have h2:((2:Int):Rat)=2:=rfl
    rw [h1,h2];grind
  have cm:((nQ b.Me.Pq T + 2 * -1 * Mq ax b.Me.Pq T q + Wq ax b.Me.Pq T q:Int):Rat) / 16777216=((nQ b.Me.Pq T:Int):Rat) / 16777216 - 2 * (((Mq ax b.Me.Pq T q:Int):Rat) / 16777216) + ((Wq ax b.Me.Pq T q:Int):Rat) / 16777216:=by
    rw [Rat.intCast_add,Rat.intCast_add,Rat.intCast_mul,Rat.intCast_mul]
    have h1:((-1:Int):Rat)=-1:=rfl
    have h2:((2:Int):Rat)=2:=rfl
    rw [h1,h2];grind
  rw [qp,cp] at dp1 dp2
  rw [qm,cm] at dm1 dm2
  generalize ((Mq ax b.Me.Pq T q:Int):Rat)=M at *
  generalize ((Wq ax b.Me.Pq T q:Int):Rat)=W at *
  generalize ((nQ b.Me.Pq T:Int):Rat)=Q at *
  have kq:(12800 / 16777216:Rat)≤1769 / 64000 * (1769 / 64000):=by decide +kernel
  have hk:M / 16777216 * (M / 16777216)≤1769 / 64000 * (1769 / 64000) * (Q / 16777216):=by
    have:=Rat.mul_le_mul_of_nonneg_right kq (show 0≤Q / 16777216 by grind)
    grind
  have hX:=X9m (F:=F) (N:=N) (lp:=lp) (lm:=lm) (D:=Q / 16777216) (k:=M / 16777216) (c:=W / 16777216) (f:=f) f0 f1 N0 (by grind) (by grind) D1 D2 lp0 dp1 dp2 lm0 dm1 dm2 hk (by grind) (by grind) Nf
  have ek:M / 262144 * f * (1 / 32)=2 * f * (M / 16777216):=by grind
  generalize M / 262144 * f=R at *
  unfold Nr at NTp NTm Nw
  unfold Ab at *
  generalize 2 * f * (M / 16777216)=K at *
  generalize F / 2 * lp=T1 at *
  generalize F / 2 * lm=T2 at *
  grind
theorem ZaX {ax:Ax} {G:Gm} {P:List Gv} {i:Nat} {s:Nat} {t:Int} (p:Pl G P 8) (hs:I6 s t) (ht:t=1∨t=-1) (hi:i < P.length) {h:List Int} (hh:HiP G h) :
    hx (shP ax P i s) h=hx P h + t * ax.e1 * (dl (h.getD 2 default) i + dl (h.getD 3 default) i - (dl (h.getD 0 default) i + dl (h.getD 1 default) i)) ∧
    hy (shP ax P i s) h=hy P h + t * ax.e2 * (dl (h.getD 2 default) i + dl (h.getD 3 default) i - (dl (h.getD 0 default) i + dl (h.getD 1 default) i)) ∧
    hz (shP ax P i s) h=hz P h + t * ax.e3 * (dl (h.getD 2 default) i + dl (h.getD 3 default) i - (dl (h.getD 0 default) i + dl (h.getD 1 default) i)):=by
  obtain ⟨-,⟨h0,h1,h2,h3⟩,-⟩:=hh
  obtain ⟨a1,a2,a3⟩:=sh_c (ax:=ax) p hs ht hi h0
  obtain ⟨b1,b2,b3⟩:=sh_c (ax:=ax) p hs ht hi h1
  obtain ⟨c1,c2,c3⟩:=sh_c (ax:=ax) p hs ht hi h2
  obtain ⟨d1,d2,d3⟩:=sh_c (ax:=ax) p hs ht hi h3
  unfold hx hy hz
  rw [a1,a2,a3,b1,b2,b3,c1,c2,c3,d1,d2,d3]
  refine ⟨?_,?_,?_⟩<;>grind
theorem Z9D {ax:Ax} {G:Gm} {P:List Gv} {i:Nat} {s:Nat} {t:Int} (p:Pl G P 8) (hs:I6 s t) (ht:t=1∨t=-1) (hi:i < P.length) {h:List Int} (hh:HiP G h) {τ:Int} (hτ:dl (h.getD 2 default) i + dl (h.getD 3 default) i - (dl (h.getD 0 default) i + dl (h.getD 1 default) i)=τ) :
    hQ (shP ax P i s) h=hQ P h + 2 * t * (τ * ax.m (hx P h) (hy P h) (hz P h)) + τ * τ:=by
  obtain ⟨h1,h2,h3⟩:=ZaX (ax:=ax) p hs ht hi hh
  have htt:t * t=1:=by rcases ht with rfl | rfl<;>decide
  unfold hQ
  rw [h1,h2,h3,hτ]
  cases ax
  · rw [Ax.m_x];simp only [Ax.e1,Ax.e2,Ax.e3];grind
  · rw [Ax.m_y];simp only [Ax.e1,Ax.e2,Ax.e3];grind
  · rw [Ax.m_z];simp only [Ax.e1,Ax.e2,Ax.e3];grind
theorem hW_m {ax:Ax} {G:Gm} {P:List Gv} (w:Wh G.Pq.length P) {h:List Int} (hh:HiP G h):I6 (ax.c (hW P h)) (ax.m (hx P h) (hy P h) (hz P h)):=by
  obtain ⟨i1,i2,i3⟩:=hW_I w hh
  cases ax
  · rw [Ax.m_x];exact i1
  · rw [Ax.m_y];exact i2
  · rw [Ax.m_z];exact i3
theorem pH_v {ax:Ax} {G:Gm} {P:List Gv} (p:Pl G P 8) {h:List Int} (hh:HiP G h) {x:Nat} (hx5:x < 5) :
    (Vl .f32 (fop .mul .f32 (ax.c (hW P h)) (fop .quo .f32 (X1 .f32 (x:Int)) 1082130432)) (((ax.m (hx P h) (hy P h) (hz P h):Int):Rat) / 64 * ((x:Rat) / 4))∧Vl .f32 (fop .mul .f32 (ax.c (hW P h)) (fneg .f32 (fop .quo .f32 (X1 .f32 (x:Int)) 1082130432))) (-(((ax.m (hx P h) (hy P h) (hz P h):Int):Rat) / 64 * ((x:Rat) / 4))))∧Ab (((ax.m (hx P h) (hy P h) (hz P h):Int):Rat) / 64 * ((x:Rat) / 4)) 1:=by
  have hm:=hW_m (ax:=ax) (Z7A p (by decide)) hh
  obtain ⟨b1,b2,b3⟩:=h_bd p (by decide) hh
  have mb:=m_bd ax b1 b2 b3
  generalize ax.m (hx P h) (hy P h) (hz P h)=m at *
  have pr:=Z2l (a:=m) (A:=40) (b:=(x:Int)) (B:=4) mb.1 mb.2 (by omega) (by omega)
  have e8:(2:Rat)^((8:Nat):Int)=256:=by decide +kernel
  have ex:((x:Int):Rat)=(x:Rat):=Rat.intCast_natCast x
  have v1:=X7y (n:=m * (x:Int)) (s:=8) hm (Z8O hx5).1 (by rw [e8,Rat.intCast_mul,ex];grind) (by omega) (by omega) (by decide)
  have v2:=X7y (n:=-(m * (x:Int))) (s:=8) hm (negV (Z8O hx5).1) (by rw [e8,Rat.intCast_neg,Rat.intCast_mul,ex];grind) (by omega) (by omega) (by decide)
  have e2:(m:Rat) / 64 * -((x:Rat) / 4)=-((m:Rat) / 64 * ((x:Rat) / 4)):=by grind
  rw [e2] at v2
  refine ⟨⟨v1,v2⟩,?_⟩
  have g0:=Rat.intCast_le_intCast.2 mb.1
  have g1:=Rat.intCast_le_intCast.2 mb.2
  have c0:((-40:Int):Rat)=-40:=rfl
  have c1:((40:Int):Rat)=40:=rfl
  rw [c0] at g0
  rw [c1] at g1
  have x0:(0:Rat)≤(x:Rat):=Rat.natCast_nonneg
  have x1:(x:Rat)≤4:=by have:=Rat.natCast_le_natCast.2 (show x≤4 by omega);exact this
  have r:=Xx (x:=(m:Rat) / 64) (A:=40 / 64) (y:=(x:Rat) / 4) (B:=1) (by unfold Ab;grind) (by unfold Ab;grind)
  unfold Ab at *
  grind
def xH (ax:Ax) (Bd:Nat) (P:List Gv) (i:Nat) (h:List Int):Rat:=vW (tH Bd (shP ax P i stp) h) - vW (tH Bd (shP ax P i (fneg .f32 stp)) h) + 1 / 32 * rsum (fun p=>vW (ax.c p.2)) ((pH Bd P h).filter fun p=>p.1 == i)
theorem Z7B {k:Int} {i:Nat} (hk:0≤k) (v:Rat):(if (k.toNat == i)=true then v else 0)=((dl k i:Int):Rat) * v:=by
  rcases Z44 k i with ⟨h,e⟩ | ⟨h,e⟩
  · rw [e,if_pos (by simp only [beq_iff_eq];omega)]
    have:((1:Int):Rat)=1:=rfl
    rw [this];grind
  · rw [e,if_neg (by simp only [beq_iff_eq];omega)]
    have:((0:Int):Rat)=0:=rfl
    rw [this];grind
theorem xH_0 {ax:Ax} {b:Gb} {G:Gm} {E H:List (List Int)} (B:Bod b G E H 8) {i:Nat} (hi:i < b.Me.Pq.length) {h:List Int} (hm:h∈H):xH ax b.Bend b.Me.Pq i h=0:=by
  obtain ⟨x,hx5,eB⟩:=B.bend
  rw [eB]
  have hh:=B.tab.hi h hm
  have pp:=Z6b (ax:=ax) B.pl Z6c (.inl rfl) hi
  have pm:=Z6b (ax:=ax) B.pl Z5J (.inr rfl) hi
  obtain ⟨bp1,bp2,bp3⟩:=h_bd pp (by decide) hh
  obtain ⟨bm1,bm2,bm3⟩:=h_bd pm (by decide) hh
  obtain ⟨vp,-,-⟩:=tH_v (Z7A pp (by decide)) hh bp1 bp2 bp3 hx5
  obtain ⟨vm,-,-⟩:=tH_v (Z7A pm (by decide)) hh bm1 bm2 bm3 hx5
  generalize hτ:dl (h.getD 2 default) i + dl (h.getD 3 default) i - (dl (h.getD 0 default) i + dl (h.getD 1 default) i)=τ
  rw [Z9D (ax:=ax) B.pl Z6c (.inl rfl) hi hh hτ] at vp
  rw [Z9D (ax:=ax) B.pl Z5J (.inr rfl) hi hh hτ] at vm
  obtain ⟨⟨v1,v2⟩,-⟩:=pH_v (ax:=ax) B.pl hh hx5
  obtain ⟨-,⟨h0,h1,h2,h3⟩,-⟩:=hh
  unfold xH
  rw [XB vp,XB vm,X5P]
  unfold pH
  rw [X3,X3,X3,X3,Xe]
  simp only [Ax.c_scale]
  rw [XB v1,XB v2,Z7B h0.1,Z7B h1.1,Z7B h2.1,Z7B h3.1]
  have eτ:(τ:Rat)=((dl (h.getD 2 default) i:Int):Rat) + ((dl (h.getD 3 default) i:Int):Rat) - (((dl (h.getD 0 default) i:Int):Rat) + ((dl (h.getD 1 default) i:Int):Rat)):=by
    rw [← hτ,Rat.intCast_sub,Rat.intCast_add,Rat.intCast_add]
  generalize ax.m (hx b.Me.Pq h) (hy b.Me.Pq h) (hz b.Me.Pq h)=m at *
  rw [Rat.intCast_add,Rat.intCast_add,Rat.intCast_mul,Rat.intCast_mul 2 1,Rat.intCast_mul τ m,Rat.intCast_mul τ τ,Rat.intCast_add,Rat.intCast_add,Rat.intCast_mul (2 * -1),Rat.intCast_mul 2 (-1),Rat.intCast_mul τ m,Rat.intCast_mul τ τ]
  have k1:((1:Int):Rat)=1:=rfl
  have k2:((2:Int):Rat)=2:=rfl
  have k3:((-1:Int):Rat)=-1:=rfl
  rw [k1,k2,k3,eτ]
  generalize ((dl (h.getD 0 default) i:Int):Rat)=d0
  generalize ((dl (h.getD 1 default) i:Int):Rat)=d1
  generalize ((dl (h.getD 2 default) i:Int):Rat)=d2
  generalize ((dl (h.getD 3 default) i:Int):Rat)=d3
  grind
theorem Z8G {b:Gb} {G:Gm} {E:List (List Int)} (S:Smth b G E):b.Sp.map (fun s=>(s.A,s.B))=E.map (fun e=>(e.getD 0 default,e.getD 1 default)):=by
  apply List.ext_getElem?
  intro j
  rw [List.getElem?_map,List.getElem?_map]
  by_cases hj:j < E.length
  · have hs:j < b.Sp.length:=by rw [S.slen];exact hj
    obtain ⟨x,y,hx,hy,e⟩:=S.spr j hj
    have e1:b.Sp.getD j default=b.Sp[j]:=by rw [List.getD_eq_getElem?_getD,List.getElem?_eq_getElem hs];rfl
    have e2:E.getD j default=E[j]:=by rw [List.getD_eq_getElem?_getD,List.getElem?_eq_getElem hj];rfl
    rw [e1,e2] at e
    rw [List.getElem?_eq_getElem hj,List.getElem?_eq_getElem hs,Option.map_some,Option.map_some,e]
  · rw [List.getElem?_eq_none (by have:=S.slen;omega),List.getElem?_eq_none (by omega)];rfl
def tchS (i:Nat) (s:Gs):Bool:=s.A == (i:Int) || s.B == (i:Int)
theorem ZaY {b:Gb} {G:Gm} {E H:List (List Int)} (S:Smth b G E) (T:GT G E H) {i:Nat} (hi:i < G.Pq.length):(b.Sp.filter (tchS i)).length≤6:=by
  have h1:(b.Sp.filter (tchS i)).length=((b.Sp.map (fun s=>(s.A,s.B))).filter (fun p=>p.1 == (i:Int) || p.2 == (i:Int))).length:=by
    rw [List.filter_map,List.length_map];rfl
  have h2:(E.filter (tchE i)).length=((E.map (fun e=>(e.getD 0 default,e.getD 1 default))).filter (fun p=>p.1 == (i:Int) || p.2 == (i:Int))).length:=by
    rw [List.filter_map,List.length_map];rfl
  rw [h1,Z8G S,← h2]
  exact T.cE i (List.mem_range.2 hi)
theorem Z8H {b:Gb} {G:Gm} {E H:List (List Int)} (S:Smth b G E) (B:Bod b G E H 8):(pA b).map (fun p=>p.1)=pshL G E H:=by
  unfold pA pshL
  rw [List.map_append,List.map_append,List.map_append,B.hin,B.tri,List.map_flatMap,List.map_flatMap,List.map_flatMap]
  have h1:b.Sp.flatMap (fun s=>(pS b.Me.Pq s).map fun p=>p.1)=E.flatMap (fun e => [(e.getD 0 default).toNat,(e.getD 1 default).toNat]):=by
    have e1:b.Sp.flatMap (fun s=>(pS b.Me.Pq s).map fun p=>p.1)=(b.Sp.map (fun s=>(s.A,s.B))).flatMap (fun p => [p.1.toNat,p.2.toNat]):=by rw [List.flatMap_map];rfl
    have e2:E.flatMap (fun e => [(e.getD 0 default).toNat,(e.getD 1 default).toNat])=(E.map (fun e=>(e.getD 0 default,e.getD 1 default))).flatMap (fun p => [p.1.toNat,p.2.toNat]):=by rw [List.flatMap_map]
    rw [e1,e2,Z8G S]
  have h4:(pWt b).map (fun p=>p.1)=List.range G.Pq.length:=by
    unfold pWt
    rw [List.map_map,B.wts,List.length_replicate]
    exact List.map_id _
  rw [h1,h4];rfl
theorem ZaZ {b:Gb} {G:Gm} {E H:List (List Int)} (S:Smth b G E) (B:Bod b G E H 8) {i:Nat} (hi:i < G.Pq.length):((pA b).filter fun p=>p.1 == i).length≤22:=by
  have h1:((pA b).filter fun p=>p.1 == i).length=(((pA b).map (fun p=>p.1)).filter (· == i)).length:=by
    rw [List.filter_map,List.length_map];rfl
  rw [h1,Z8H S B]
  exact B.tab.cP i (List.mem_range.2 hi)
theorem m81 {ax:Ax} {b:Gb} {G:Gm} {E H:List (List Int)} (B:Bod b G E H 8) {e:List Int} (hE:EdP G e):-81≤ax.m (dx b.Me.Pq (e.getD 0 default) (e.getD 1 default)) (dy b.Me.Pq (e.getD 0 default) (e.getD 1 default)) (dz b.Me.Pq (e.getD 0 default) (e.getD 1 default))∧ax.m (dx b.Me.Pq (e.getD 0 default) (e.getD 1 default)) (dy b.Me.Pq (e.getD 0 default) (e.getD 1 default)) (dz b.Me.Pq (e.getD 0 default) (e.getD 1 default))≤81:=by
  obtain ⟨-,-,-,b1,b2,b3⟩:=dW_I B.pl (by decide) hE.1 hE.2.1
  obtain ⟨-,-,-,g1,g2,-,g3⟩:=hE
  refine m_bd ax ?_ ?_ ?_
  · unfold dx;omega
  · unfold dy;omega
  · unfold dz;omega
theorem pS_v {ax:Ax} {b:Gb} {G:Gm} {E H:List (List Int)} (B:Bod b G E H 8) {s:Gs} (hs:s∈b.Sp):∃ v,Wn (fop .mul .f32 (ax.c (dW b.Me.Pq s.A s.B)) (ZZ (dW b.Me.Pq s.A s.B) s)) v (1 / 1000000) (92 / 10)∧Wn (fop .mul .f32 (ax.c (dW b.Me.Pq s.A s.B)) (fneg .f32 (ZZ (dW b.Me.Pq s.A s.B) s))) (-v) (1 / 1000000) (92 / 10):=by
  obtain ⟨e,x,y,he,hE,hx,hy,es⟩:=Z6P B hs
  have p9:=Z7P B.pl (r':=9) (by decide)
  have eA:s.A=e.getD 0 default:=by rw [es]
  have eB:s.B=e.getD 1 default:=by rw [es]
  have hm:=dW_m (ax:=ax) p9 (by decide) hE.1 hE.2.1
  have mb:=m81 (ax:=ax) B hE
  obtain ⟨l,V,l0,d1,d2,l1,l2⟩:=Z6K p9 hE (Z9y B e he) rfl
  obtain ⟨L,VL,L0,L1⟩:=Z8M hx
  obtain ⟨k,Vk,k0,k1⟩:=Z8N hy
  rw [← eA,← eB] at V hm mb
  obtain ⟨g,Vg,Ng,Bg⟩:=X7w V l1 l2 VL L0 L1 Vk k0 k1
  have eL:s.Long=lngW (x:Int):=by rw [es]
  have eK:s.Stiff=stfW (y:Int):=by rw [es]
  have hpw:ZZ (dW b.Me.Pq s.A s.B) s=pulW (Zg (dW b.Me.Pq s.A s.B)) (lngW (x:Int)) (stfW (y:Int)):=by rw [Z7T V l1,eL,eK]
  have Vg:Vl .f32 (ZZ (dW b.Me.Pq s.A s.B) s) g:=by rw [hpw];exact Vg
  generalize ax.m (dx b.Me.Pq s.A s.B) (dy b.Me.Pq s.A s.B) (dz b.Me.Pq s.A s.B)=m at *
  have gm0:=Rat.intCast_le_intCast.2 mb.1
  have gm1:=Rat.intCast_le_intCast.2 mb.2
  have c81:((81:Int):Rat)=81:=rfl
  have cm81:((-81:Int):Rat)=-81:=rfl
  rw [cm81] at gm0
  rw [c81] at gm1
  have e1:(81 / 64:Rat) * 4 + 1 / 1000000≤92 / 10:=by decide +kernel
  obtain ⟨w,Vw,Nw,w0,w1⟩:=X2L hm Vg (A:=81 / 64) (B:=4) (by unfold Ab;grind) Bg (by decide +kernel)
  obtain ⟨w',Vw',Nw',w0',w1'⟩:=X2L hm (negV Vg) (A:=81 / 64) (B:=4) (by unfold Ab;grind) (by unfold Ab at *;grind) (by decide +kernel)
  refine ⟨(m:Rat) / 64 * g,⟨w,Vw,Nw,by grind,by grind⟩,⟨w',Vw',?_,by grind,by grind⟩⟩
  have e2:(m:Rat) / 64 * -g=-((m:Rat) / 64 * g):=by grind
  rw [← e2];exact Nw'
theorem Z7C {w:Nat} {v d B:Rat} (h:Wn w v d B):Fw w B:=by
  obtain ⟨q,V,-,b1,b2⟩:=h
  exact X36 V ⟨b1,b2⟩
theorem Z7D {w:Nat} {v d B:Rat} (h:Wn w v d B):Nr (vW w) v d:=by
  obtain ⟨q,V,N,-⟩:=h
  rw [XB V];exact N
theorem wt_0 {ax:Ax}:ax.c (Zt ⟨0,0,0⟩ 0)=0:=by
  have h:fop .mul .f32 0 0=0:=by decide +kernel
  cases ax<;>exact h
theorem Zb0 {ax:Ax} {b:Gb} {G:Gm} {E H:List (List Int)} (B:Bod b G E H 8):∀ p∈pA b,Fw (ax.c p.2) (92 / 10):=by
  intro p hp
  unfold pA at hp
  rw [B.hin,B.tri] at hp
  rcases List.mem_append.1 hp with hp | hp
  · obtain ⟨s,hs,hp⟩:=List.mem_flatMap.1 hp
    obtain ⟨v,h1,h2⟩:=pS_v (ax:=ax) B hs
    unfold pS at hp
    rcases List.mem_cons.1 hp with rfl | hp
    · rw [Ax.c_scale];exact Z7C h1
    · rcases List.mem_cons.1 hp with rfl | hp
      · rw [Ax.c_scale];exact Z7C h2
      · cases hp
  · rcases List.mem_append.1 hp with hp | hp
    · obtain ⟨t,ht,hp⟩:=List.mem_flatMap.1 hp
      obtain ⟨x,hx,eF⟩:=B.film
      obtain ⟨N,F,f,-,-,-,-,-,-,-,-,-,-,hq⟩:=pT_v (ax:=ax) B.pl (B.tab.tr t ht) hx
      rw [eF] at hp
      unfold pT pTf at hp
      rcases List.mem_cons.1 hp with rfl | hp
      · rw [Ax.c_scale];exact Z7C (hq 0 (by decide))
      · rcases List.mem_cons.1 hp with rfl | hp
        · rw [Ax.c_scale];exact Z7C (hq 1 (by decide))
        · rcases List.mem_cons.1 hp with rfl | hp
          · rw [Ax.c_scale];exact Z7C (hq 2 (by decide))
          · cases hp
    · rcases List.mem_append.1 hp with hp | hp
      · obtain ⟨h,hh,hp⟩:=List.mem_flatMap.1 hp
        obtain ⟨x,hx,eB⟩:=B.bend
        obtain ⟨⟨v1,v2⟩,hb⟩:=pH_v (ax:=ax) B.pl (B.tab.hi h hh) hx
        have f1:=X36 v1 (B:=92 / 10) (by unfold Ab at *;grind)
        have f2:=X36 v2 (B:=92 / 10) (by unfold Ab at *;grind)
        rw [eB] at hp
        unfold pH at hp
        rcases List.mem_cons.1 hp with rfl | hp
        · rw [Ax.c_scale];exact f1
        · rcases List.mem_cons.1 hp with rfl | hp
          · rw [Ax.c_scale];exact f1
          · rcases List.mem_cons.1 hp with rfl | hp
            · rw [Ax.c_scale];exact f2
            · rcases List.mem_cons.1 hp with rfl | hp
              · rw [Ax.c_scale];exact f2
              · cases hp
      · unfold pWt at hp
        obtain ⟨j,hj,rfl⟩:=List.mem_map.1 hp
        rw [B.fall,B.wts]
        simp only [Z6L]
        rw [wt_0]
        exact X36 X3I (by unfold Ab;decide +kernel)
theorem Z7d {α:Type} (f g:α→Rat):∀ l:List α,rsum (fun a=>f a - g a) l=rsum f l - rsum g l
  | []=>by rw [Xe,Xe,Xe];grind
  | a :: l=>by rw [X3,X3,X3,Z7d f g l];grind
theorem Z7e {α:Type} (f g h:α→Rat) (l:List α):rsum (fun a=>f a - g a + 1 / 32 * h a) l=rsum f l - rsum g l + 1 / 32 * rsum h l:=by
  rw [X4A (fun a=>f a - g a),Z7d,X7v]
theorem Z97 {ax:Ax} {b:Gb} {G:Gm} {E H:List (List Int)} (B:Bod b G E H 8) (q:Nat × Gv→Bool):rsum (fun p=>vW (ax.c p.2)) ((pWt b).filter q)=0:=by
  have h:∀ p∈(pWt b).filter q,vW (ax.c p.2)=0:=by
    intro p hp
    have hp:=(List.mem_filter.1 hp).1
    unfold pWt at hp
    obtain ⟨j,hj,rfl⟩:=List.mem_map.1 hp
    rw [B.fall,B.wts]
    simp only [Z6L]
    rw [wt_0]
    exact XB X3I
  have z:∀ l:List (Nat × Gv),(∀ p∈l,vW (ax.c p.2)=0)→rsum (fun p=>vW (ax.c p.2)) l=0:=by
    intro l
    induction l with
    | nil=>intro _;rfl
    | cons a l ih=>intro h;rw [X3,h a List.mem_cons_self,ih fun p hp=>h p (List.mem_cons_of_mem _ hp)];decide +kernel
  exact z _ h
def phi (ax:Ax) (b:Gb) (i:Nat):Rat:=rsum (fun p=>vW (ax.c p.2)) ((pA b).filter fun p=>p.1 == i)
theorem ZaD {ax:Ax} {b:Gb} {G:Gm} {E H:List (List Int)} (B:Bod b G E H 8) (i:Nat):phi ax b i=rsum (fun s=>rsum (fun p=>vW (ax.c p.2)) ((pS b.Me.Pq s).filter fun p=>p.1 == i)) b.Sp + rsum (fun t=>rsum (fun p=>vW (ax.c p.2)) ((pT b.Film b.Me.Pq t).filter fun p=>p.1 == i)) G.Tr + rsum (fun h=>rsum (fun p=>vW (ax.c p.2)) ((pH b.Bend b.Me.Pq h).filter fun p=>p.1 == i)) H:=by
  unfold phi pA
  rw [List.filter_append,List.filter_append,List.filter_append,X11,X11,X11,X37,X37,X37,Z97 B,B.hin,B.tri]
  generalize rsum _ b.Sp=a
  generalize rsum _ G.Tr=c
  generalize rsum _ H=d
  grind
theorem ZaE (ax:Ax) (P:List Gv) (i:Nat) (l:List Gs):rsum (xS ax P i) l=rsum (fun s=>vW (tS (shP ax P i stp) s)) l - rsum (fun s=>vW (tS (shP ax P i (fneg .f32 stp)) s)) l + 1 / 32 * rsum (fun s=>rsum (fun p=>vW (ax.c p.2)) ((pS P s).filter fun p=>p.1 == i)) l:=by
  show rsum (fun s=>xS ax P i s) l=_
  unfold xS
  rw [Z7e]
theorem ZaF (ax:Ax) (F:Nat) (P:List Gv) (i:Nat) (l:List (List Int)):rsum (xT ax F P i) l=rsum (fun s=>vW (tT F (shP ax P i stp) s)) l - rsum (fun s=>vW (tT F (shP ax P i (fneg .f32 stp)) s)) l + 1 / 32 * rsum (fun s=>rsum (fun p=>vW (ax.c p.2)) ((pT F P s).filter fun p=>p.1 == i)) l:=by
  show rsum (fun s=>xT ax F P i s) l=_
  unfold xT
  rw [Z7e]
theorem ZaG (ax:Ax) (F:Nat) (P:List Gv) (i:Nat) (l:List (List Int)):rsum (xH ax F P i) l=rsum (fun s=>vW (tH F (shP ax P i stp) s)) l - rsum (fun s=>vW (tH F (shP ax P i (fneg .f32 stp)) s)) l + 1 / 32 * rsum (fun s=>rsum (fun p=>vW (ax.c p.2)) ((pH F P s).filter fun p=>p.1 == i)) l:=by
  show rsum (fun s=>xH ax F P i s) l=_
  unfold xH
  rw [Z7e]
theorem ZaH {a1 a2 a3 b1 b2 b3 c1 c2 c3 n1 n2:Rat} (h1:n1≤6) (h2:n2≤6) (hs:Ab (a1 - a2 + 1 / 32 * a3) (n1 * (8 / 100000))) (ht:Ab (b1 - b2 + 1 / 32 * b3) (n2 * (17 / 100000))) (hc:c1 - c2 + 1 / 32 * c3=0):Ab ((a1 + b1 + c1) - (a2 + b2 + c2) + 1 / 32 * (a3 + b3 + c3)) (15 / 10000):=by
  unfold Ab at *
  grind
theorem Z98 {ax:Ax} {b:Gb} {G:Gm} {E H:List (List Int)} (S:Smth b G E) (B:Bod b G E H 8) {i:Nat} (hi:i < b.Me.Pq.length) :
    Ab ((rsum (fun s=>vW (tS (shP ax b.Me.Pq i stp) s)) b.Sp + rsum (fun t=>vW (tT b.Film (shP ax b.Me.Pq i stp) t)) G.Tr + rsum (fun h=>vW (tH b.Bend (shP ax b.Me.Pq i stp) h)) H) - (rsum (fun s=>vW (tS (shP ax b.Me.Pq i (fneg .f32 stp)) s)) b.Sp + rsum (fun t=>vW (tT b.Film (shP ax b.Me.Pq i (fneg .f32 stp)) t)) G.Tr + rsum (fun h=>vW (tH b.Bend (shP ax b.Me.Pq i (fneg .f32 stp)) h)) H) + 1 / 32 * phi ax b i) (15 / 10000):=by
  have hn:i < G.Pq.length:=by have:=B.pl.len;omega
  have s1:=X4D (g:=xS ax b.Me.Pq i) (p:=tchS i) (ε:=8 / 100000) (l:=b.Sp) (fun s hs hp=>by
    unfold tchS at hp
    rw [Bool.or_eq_true,beq_iff_eq,beq_iff_eq] at hp
    exact Za4 B hi hs hp) (fun s hs hp=>by
    obtain ⟨e,x,y,he,hE,-,-,es⟩:=Z6P B hs
    unfold tchS at hp
    rw [Bool.or_eq_false_iff,beq_eq_false_iff_ne,beq_eq_false_iff_ne] at hp
    exact ZaA hi (by rw [es];exact hE.1.1) (by rw [es];exact hE.2.1.1) hp.1 hp.2)
  have t1:=X4D (g:=xT ax b.Film b.Me.Pq i) (p:=tchT i) (ε:=17 / 100000) (l:=G.Tr) (fun t ht hp=>by
    unfold tchT at hp
    rw [Bool.or_eq_true,Bool.or_eq_true,beq_iff_eq,beq_iff_eq,beq_iff_eq] at hp
    rcases hp with h | h | h
    · exact Z7Q B hi (B.tab.tr t ht) (q:=0) (by decide) h
    · exact Z7Q B hi (B.tab.tr t ht) (q:=1) (by decide) h
    · exact Z7Q B hi (B.tab.tr t ht) (q:=2) (by decide) h) (fun t ht hp=>by
    obtain ⟨-,h0,h1,h2,-⟩:=B.tab.tr t ht
    unfold tchT at hp
    rw [Bool.or_eq_false_iff,Bool.or_eq_false_iff,beq_eq_false_iff_ne,beq_eq_false_iff_ne,beq_eq_false_iff_ne] at hp
    exact ZaC hi h0.1 h1.1 h2.1 hp.1 hp.2.1 hp.2.2)
  have h1:rsum (xH ax b.Bend b.Me.Pq i) H=rsum (fun _=>(0:Rat)) H:=X3G fun h hh=>xH_0 B hi hh
  have z:rsum (fun _=>(0:Rat)) H=0:=by
    have:=X2C (g:=fun _:List Int=>(0:Rat)) (ε:=0) (l:=H) (fun a _=>by decide +kernel)
    grind
  rw [z] at h1
  have c1:=nle (ZaY S B.tab hn)
  have c2:=nle (B.tab.cT i (List.mem_range.2 hn))
  have e6:((6:Nat):Rat)=6:=rfl
  rw [e6] at c1 c2
  rw [ZaD B]
  rw [ZaE] at s1
  rw [ZaF] at t1
  rw [ZaG] at h1
  exact ZaH c1 c2 s1 t1 h1
theorem ZaI {ax:Ax} {b:Gb} {G:Gm} {E H:List (List Int)} (S:Smth b G E) (B:Bod b G E H 8) {i:Nat} (hi:i < b.Me.Pq.length) {w:Nat} {t:Int} (hs:I6 w t) (ht:t=1∨t=-1):Bod ⟨⟨shP ax b.Me.Pq i w,b.Me.Tr⟩,b.Sp,b.Film,b.Bend,b.We,b.Fall⟩ G E H 9 :=
  ⟨B.tab,Z6b B.pl hs ht hi,B.tri,Z9s S B (by unfold shP;rw [List.length_set]),B.slen,B.spr,B.film,B.bend,B.wts,B.fall⟩
theorem q_sh {ax:Ax} {b:Gb} {G:Gm} {E H:List (List Int)} (B:Bod b G E H 8) {i:Nat} (hi:i < b.Me.Pq.length) {w:Nat} {t:Int} (hs:I6 w t) (ht:t=1∨t=-1):∀ e∈E,dQ (shP ax b.Me.Pq i w) (e.getD 0 default) (e.getD 1 default)≤13300:=by
  intro e he
  have hE:=B.tab.ed e he
  rw [Z8Q (ax:=ax) B.pl hs ht hi hE.1 hE.2.1]
  have q:=Z8j B.pl (by decide) (by decide) hE
  have m:=m81 (ax:=ax) B hE
  generalize ax.m _ _ _=M at *
  have d1:dl (e.getD 0 default) i=0∨dl (e.getD 0 default) i=1:=by rcases Z44 (e.getD 0 default) i with ⟨_,h⟩ | ⟨_,h⟩<;>omega
  have d2:dl (e.getD 1 default) i=0∨dl (e.getD 1 default) i=1:=by rcases Z44 (e.getD 1 default) i with ⟨_,h⟩ | ⟨_,h⟩<;>omega
  rcases ht with rfl | rfl<;>rcases d1 with h1 | h1<;>rcases d2 with h2 | h2<;>rw [h1,h2]<;>omega
theorem Z9E {ax:Ax} {b:Gb} {G:Gm} {E H:List (List Int)} (S:Smth b G E) (B:Bod b G E H 8) {i:Nat} (hi:i < b.Me.Pq.length) {w:Nat} {t:Int} (hs:I6 w t) (ht:t=1∨t=-1) :
    ∃ q,Vl .f32 (ZO ⟨⟨shP ax b.Me.Pq i w,b.Me.Tr⟩,b.Sp,b.Film,b.Bend,b.We,b.Fall⟩) q∧Ab (q - (rsum (fun s=>vW (tS (shP ax b.Me.Pq i w) s)) b.Sp + rsum (fun t=>vW (tT b.Film (shP ax b.Me.Pq i w) t)) G.Tr + rsum (fun h=>vW (tH b.Bend (shP ax b.Me.Pq i w) h)) H)) (14 / 100000)∧Ab q 100:=by
  have B':=ZaI (ax:=ax) S B hi hs ht
  obtain ⟨p0,p1,p2,R⟩:=Za3 B' (q_sh B hi hs ht)
  obtain ⟨q,V,N,Bq⟩:=Za2 R B.wts B.fall B'.hin (Z7A B'.pl (by decide)) B'.pl.len
  refine ⟨q,V,?_,Bq⟩
  have n0:Ab (p0 - rsum (fun s=>vW (tS (shP ax b.Me.Pq i w) s)) b.Sp) (8 / 100000):=R.n0
  have n1:Ab (p1 - rsum (fun t=>vW (tT b.Film (shP ax b.Me.Pq i w) t)) b.Me.Tr) (3 / 100000):=R.n1
  have n2:Ab (p2 - rsum (fun h=>vW (tH b.Bend (shP ax b.Me.Pq i w) h)) H) (1 / 100000):=R.n2
  rw [B.tri] at n1
  generalize rsum _ b.Sp=a at *
  generalize rsum _ G.Tr=c at *
  generalize rsum _ H=d at *
  unfold Ab at *
  grind
theorem Z8k {ax:Ax} {b:Gb} {G:Gm} {E H:List (List Int)} (S:Smth b G E) (B:Bod b G E H 8) {i:Nat} (hi:i < b.Me.Pq.length):∃ q,Vl .f32 (ax.c ((Zu b).getD i default)) q∧Ab (q - phi ax b i) (28 / 100000)∧Ab q 203:=by
  have hn:i < G.Pq.length:=by have:=B.pl.len;omega
  have c:=nle (ZaZ S B hn)
  have e:((22:Nat):Rat)=22:=rfl
  rw [e] at c
  have c0:(0:Rat)≤((((pA b).filter fun p=>p.1 == i).length:Nat):Rat):=Rat.natCast_nonneg
  have h0:ax.c ((List.replicate b.Me.Pq.length (⟨0,0,0⟩:Gv)).getD i default)=0:=by
    rw [List.getD_eq_getElem?_getD,List.getElem?_replicate,if_pos hi]
    cases ax<;>rfl
  obtain ⟨q,V,N,M⟩:=X9n Zj ax.c (Ax.c_add ax) (ps:=pA b) (o:=List.replicate b.Me.Pq.length (⟨0,0,0⟩:Gv)) (i:=i) (B:=92 / 10) (S:=203) (by rw [List.length_replicate];exact hi) h0 (by decide +kernel) (by decide +kernel) (by decide +kernel) (Zb0 B) (by grind)
  refine ⟨q,by rw [Z95];exact V,?_,M⟩
  unfold phi
  generalize rsum _ _=r at *
  unfold Ab at *
  grind
theorem Z7f {ax:Ax} {b:Gb} {G:Gm} {E H:List (List Int)} (S:Smth b G E) (B:Bod b G E H 8) {i:Nat} (hi:i < b.Me.Pq.length) :
    fcmp .lss .f64 (Z1s (fcv .f32 .f64 (fop .quo .f32 (fop .sub .f32 (ZO ⟨⟨shP ax b.Me.Pq i stp,b.Me.Tr⟩,b.Sp,b.Film,b.Bend,b.We,b.Fall⟩) (ZO ⟨⟨shP ax b.Me.Pq i (fneg .f32 stp),b.Me.Tr⟩,b.Sp,b.Film,b.Bend,b.We,b.Fall⟩)) (fop .mul .f32 1073741824 stp))) (fneg .f64 (fcv .f32 .f64 (ax.c ((Zu b).getD i default))))) 4591870180066957722=true:=by
  obtain ⟨q1,V1,N1,M1⟩:=Z9E (ax:=ax) S B hi Z6c (.inl rfl)
  obtain ⟨q2,V2,N2,M2⟩:=Z9E (ax:=ax) S B hi Z5J (.inr rfl)
  obtain ⟨f,Vf,Nf,Mf⟩:=Z8k (ax:=ax) S B hi
  have hs:=Z98 (ax:=ax) S B hi
  have u:uK .f32=1 / 16777216:=rfl
  have t:=X2a .f32
  have tp:(1000:Rat) < (2:Rat)^(topE .f32):=by decide +kernel
  generalize rsum _ b.Sp + rsum _ G.Tr + rsum _ H=A1 at *
  generalize rsum (fun s=>vW (tS (shP ax b.Me.Pq i (fneg .f32 stp)) s)) b.Sp + rsum (fun t=>vW (tT b.Film (shP ax b.Me.Pq i (fneg .f32 stp)) t)) G.Tr + rsum (fun h=>vW (tH b.Bend (shP ax b.Me.Pq i (fneg .f32 stp)) h)) H=A2 at *
  generalize phi ax b i=P at *
  unfold Ab at *
  obtain ⟨d,Vd,Nd⟩:=subV V1 V2 (B:=8) (by grind) (by grind) (by grind)
  unfold Nr at Nd
  rw [u] at Nd
  have h32:Vl .f32 (fop .mul .f32 1073741824 stp) (1 / 32):=by unfold Vl stp;decide +kernel
  obtain ⟨x,Vx,Nx⟩:=quoV Vd h32 (by decide +kernel) (w:=32 * d) (B:=300) (by grind) (by grind) (by grind) (by grind)
  unfold Nr at Nx
  rw [u] at Nx
  obtain ⟨g,Vg,hg⟩:=X9N (X7n Vx) (XaR (X7n Vf)) (e:=9 / 100) (by unfold Ab;grind) (by decide +kernel)
  have hc:Vl .f64 4591870180066957722 (3602879701896397 / 36028797018963968):=by unfold Vl;decide +kernel
  have h:fcmp .lss .f64 (gapW (fcv .f32 .f64 (fop .quo .f32 (fop .sub .f32 (ZO ⟨⟨shP ax b.Me.Pq i stp,b.Me.Tr⟩,b.Sp,b.Film,b.Bend,b.We,b.Fall⟩) (ZO ⟨⟨shP ax b.Me.Pq i (fneg .f32 stp),b.Me.Tr⟩,b.Sp,b.Film,b.Bend,b.We,b.Fall⟩)) (fop .mul .f32 1073741824 stp))) (fneg .f64 (fcv .f32 .f64 (ax.c ((Zu b).getD i default))))) 4591870180066957722=true:=by
    rw [lssV Vg hc]
    exact decide_eq_true (by grind)
  exact h
theorem Z9t (l:List Gv):Z1x l=l.foldl Zj ⟨0,0,0⟩:=by
  have h:Z1X l=l.foldl (fun s v=>((Zj ⟨s.1,s.2.1,s.2.2⟩ v).X,(Zj ⟨s.1,s.2.1,s.2.2⟩ v).Y,(Zj ⟨s.1,s.2.1,s.2.2⟩ v).Z)) (0,0,0) :=
    XZ (lo:=fun k s i=>Z1J l k i s.1 s.2.1 s.2.2) (fun k s i=>rfl) (0,0,0)
  have h2:∀ (l:List Gv) (a:Gv),l.foldl (fun s v=>((Zj ⟨s.1,s.2.1,s.2.2⟩ v).X,(Zj ⟨s.1,s.2.1,s.2.2⟩ v).Y,(Zj ⟨s.1,s.2.1,s.2.2⟩ v).Z)) (a.X,a.Y,a.Z)=((l.foldl Zj a).X,(l.foldl Zj a).Y,(l.foldl Zj a).Z):=by
    intro l
    induction l with
    | nil=>intro a;rfl
    | cons b l ih=>intro a;exact ih (Zj a b)
  unfold Z1x
  rw [h,h2 l ⟨0,0,0⟩]
theorem Z8l {α β:Type} (g:β→Rat) (f:α→β):∀ l:List α,rsum g (l.map f)=rsum (fun a=>g (f a)) l
  | []=>rfl
  | a :: l=>by rw [List.map_cons,X3,X3,Z8l g f l]
theorem Z7E (l:List Gv):l=(List.range l.length).map fun i=>l.getD i default:=by
  apply List.ext_getElem?
  intro i
  rw [List.getElem?_map]
  by_cases hi:i < l.length
  · rw [List.getElem?_range hi,List.getElem?_eq_getElem hi,Option.map_some,List.getD_eq_getElem?_getD,List.getElem?_eq_getElem hi];rfl
  · rw [List.getElem?_eq_none (by omega),List.getElem?_eq_none (by rw [List.length_range];omega)];rfl
theorem Z5C {α β:Type} (g:β→Rat) (h:α→List β):∀ l:List α,rsum g (l.flatMap h)=rsum (fun a=>rsum g (h a)) l
  | []=>rfl
  | a :: l=>by rw [List.flatMap_cons,X11,X3,Z5C g h l]
theorem ZaJ (ax:Ax) (P:List Gv) (T:List Int):Mq ax P T 0 + Mq ax P T 1 + Mq ax P T 2=0:=by
  have o1:oA T 0=T.getD 1 default:=rfl
  have o2:oB T 0=T.getD 2 default:=rfl
  have o3:oA T 1=T.getD 2 default:=rfl
  have o4:oB T 1=T.getD 0 default:=rfl
  have o5:oA T 2=T.getD 0 default:=rfl
  have o6:oB T 2=T.getD 1 default:=rfl
  unfold Mq
  rw [o1,o2,o3,o4,o5,o6]
  obtain ⟨c1,c2,c3⟩:=Z9z P (T.getD 1 default) (T.getD 2 default) (T.getD 0 default)
  obtain ⟨c4,c5,c6⟩:=Z96 P (T.getD 2 default) (T.getD 0 default)
  rw [c1,c2,c3,c4,c5,c6]
  generalize dx P (T.getD 0 default) (T.getD 1 default)=A1
  generalize dy P (T.getD 0 default) (T.getD 1 default)=A2
  generalize dz P (T.getD 0 default) (T.getD 1 default)=A3
  generalize dx P (T.getD 0 default) (T.getD 2 default)=B1
  generalize dy P (T.getD 0 default) (T.getD 2 default)=B2
  generalize dz P (T.getD 0 default) (T.getD 2 default)=B3
  generalize nx P T=N1
  generalize ny P T=N2
  generalize nz P T=N3
  cases ax<;>simp only [wx,wy,wz,Ax.e1,Ax.e2,Ax.e3]<;>grind
theorem Za8 {ax:Ax} {b:Gb} {G:Gm} {E H:List (List Int)} (B:Bod b G E H 8):Ab (rsum (fun p=>vW (ax.c p.2)) (pA b)) (9 / 100000):=by
  have h1:=X2C (g:=fun s=>rsum (fun p=>vW (ax.c p.2)) (pS b.Me.Pq s)) (ε:=2 / 1000000) (l:=b.Sp) (fun s hs=>by
    obtain ⟨v,w1,w2⟩:=pS_v (ax:=ax) B hs
    have n1:=Z7D w1
    have n2:=Z7D w2
    unfold pS
    rw [X3,X3,Xe]
    simp only [Ax.c_scale]
    unfold Nr at *
    grind)
  have h2:=X2C (g:=fun s=>rsum (fun p=>vW (ax.c p.2)) (pT b.Film b.Me.Pq s)) (ε:=3 / 1000000) (l:=G.Tr) (fun t ht=>by
    obtain ⟨x,hx,eF⟩:=B.film
    obtain ⟨N,F,f,-,-,-,-,-,-,-,-,-,-,hq⟩:=pT_v (ax:=ax) B.pl (B.tab.tr t ht) hx
    have n0:=Z7D (hq 0 (by decide))
    have n1:=Z7D (hq 1 (by decide))
    have n2:=Z7D (hq 2 (by decide))
    have hs:=congrArg (fun z:Int=>(z:Rat)) (ZaJ ax b.Me.Pq t)
    simp only [Rat.intCast_add] at hs
    have e0:((0:Int):Rat)=0:=rfl
    rw [e0] at hs
    rw [eF]
    unfold pT pTf
    rw [X3,X3,X3,Xe]
    simp only [Ax.c_scale]
    have ef:((Mq ax b.Me.Pq t 0:Int):Rat) / 262144 * f + ((Mq ax b.Me.Pq t 1:Int):Rat) / 262144 * f + ((Mq ax b.Me.Pq t 2:Int):Rat) / 262144 * f=0:=by
      have:((Mq ax b.Me.Pq t 0:Int):Rat) / 262144 * f + ((Mq ax b.Me.Pq t 1:Int):Rat) / 262144 * f + ((Mq ax b.Me.Pq t 2:Int):Rat) / 262144 * f=(((Mq ax b.Me.Pq t 0:Int):Rat) + ((Mq ax b.Me.Pq t 1:Int):Rat) + ((Mq ax b.Me.Pq t 2:Int):Rat)) * (f / 262144):=by grind
      rw [this,hs];grind
    have a0:vW (fop .mul .f32 (ax.c (Zw (nW b.Me.Pq t) (dW b.Me.Pq (t.getD 1 default) (t.getD 2 default)))) (fcT (fop .quo .f32 (X1 .f32 (x:Int)) 1073741824) b.Me.Pq t))=vW (fop .mul .f32 (ax.c (Zw (nW b.Me.Pq t) (dW b.Me.Pq (oA t 0) (oB t 0)))) (fcT (fop .quo .f32 (X1 .f32 (x:Int)) 1073741824) b.Me.Pq t)):=rfl
    have a1:vW (fop .mul .f32 (ax.c (Zw (nW b.Me.Pq t) (dW b.Me.Pq (t.getD 2 default) (t.getD 0 default)))) (fcT (fop .quo .f32 (X1 .f32 (x:Int)) 1073741824) b.Me.Pq t))=vW (fop .mul .f32 (ax.c (Zw (nW b.Me.Pq t) (dW b.Me.Pq (oA t 1) (oB t 1)))) (fcT (fop .quo .f32 (X1 .f32 (x:Int)) 1073741824) b.Me.Pq t)):=rfl
    have a2:vW (fop .mul .f32 (ax.c (Zw (nW b.Me.Pq t) (dW b.Me.Pq (t.getD 0 default) (t.getD 1 default)))) (fcT (fop .quo .f32 (X1 .f32 (x:Int)) 1073741824) b.Me.Pq t))=vW (fop .mul .f32 (ax.c (Zw (nW b.Me.Pq t) (dW b.Me.Pq (oA t 2) (oB t 2)))) (fcT (fop .quo .f32 (X1 .f32 (x:Int)) 1073741824) b.Me.Pq t)):=rfl
    rw [a0,a1,a2]
    generalize vW _=y0 at *
    generalize vW _=y1 at *
    generalize vW _=y2 at *
    generalize ((Mq ax b.Me.Pq t 0:Int):Rat) / 262144 * f=z0 at *
    generalize ((Mq ax b.Me.Pq t 1:Int):Rat) / 262144 * f=z1 at *
    generalize ((Mq ax b.Me.Pq t 2:Int):Rat) / 262144 * f=z2 at *
    unfold Nr at *
    grind)
  have h3:=X2C (g:=fun s=>rsum (fun p=>vW (ax.c p.2)) (pH b.Bend b.Me.Pq s)) (ε:=0) (l:=H) (fun h hh=>by
    obtain ⟨x,ux,eB⟩:=B.bend
    obtain ⟨⟨v1,v2⟩,-⟩:=pH_v (ax:=ax) B.pl (B.tab.hi h hh) ux
    rw [eB]
    unfold pH
    rw [X3,X3,X3,X3,Xe]
    simp only [Ax.c_scale]
    rw [XB v1,XB v2]
    generalize ((ax.m (hx b.Me.Pq h) (hy b.Me.Pq h) (hz b.Me.Pq h):Int):Rat) / 64 * ((x:Rat) / 4)=z
    grind)
  have h4:rsum (fun p=>vW (ax.c p.2)) (pWt b)=0:=by
    have:=Z97 (ax:=ax) B (fun _=>true)
    rw [List.filter_eq_self.2 (fun _ _=>rfl)] at this
    exact this
  have c1:=nle B.tab.ne
  have c2:=nle B.tab.nt
  rw [← B.slen] at c1
  have e1:((23:Nat):Rat)=23:=rfl
  have e2:((12:Nat):Rat)=12:=rfl
  rw [e1] at c1
  rw [e2] at c2
  unfold pA
  rw [X11,X11,X11,Z5C,Z5C,Z5C,h4,B.hin,B.tri]
  generalize rsum _ b.Sp=a at *
  generalize rsum _ G.Tr=c at *
  generalize rsum _ H=d at *
  unfold Ab
  grind
theorem ZaK {b:Gb} {G:Gm} {E H:List (List Int)} (S:Smth b G E) (B:Bod b G E H 8):∀ p∈pA b,p.1 < b.Me.Pq.length:=by
  intro p hp
  have hm:p.1∈pshL G E H:=by rw [← Z8H S B];exact List.mem_map.2 ⟨p,hp,rfl⟩
  rw [B.pl.len]
  generalize p.1=k at *
  unfold pshL at hm
  rcases List.mem_append.1 hm with hm | hm
  · obtain ⟨e,he,hm⟩:=List.mem_flatMap.1 hm
    obtain ⟨⟨a1,a2⟩,⟨b1,b2⟩,-⟩:=B.tab.ed e he
    simp only [List.mem_cons,List.not_mem_nil,or_false] at hm
    omega
  · rcases List.mem_append.1 hm with hm | hm
    · obtain ⟨t,ht,hm⟩:=List.mem_flatMap.1 hm
      obtain ⟨-,⟨a1,a2⟩,⟨b1,b2⟩,⟨c1,c2⟩,-⟩:=B.tab.tr t ht
      simp only [List.mem_cons,List.not_mem_nil,or_false] at hm
      omega
    · rcases List.mem_append.1 hm with hm | hm
      · obtain ⟨h,hh,hm⟩:=List.mem_flatMap.1 hm
        obtain ⟨-,⟨⟨a1,a2⟩,⟨b1,b2⟩,⟨c1,c2⟩,⟨d1,d2⟩⟩,-⟩:=B.tab.hi h hh
        simp only [List.mem_cons,List.not_mem_nil,or_false] at hm
        omega
      · exact List.mem_range.1 hm
theorem Z7g {ax:Ax} {b:Gb} {G:Gm} {E H:List (List Int)} (S:Smth b G E) (B:Bod b G E H 8) (hl:(Zu b).length=b.Me.Pq.length):∃ q,Vl .f32 (ax.c (Z1x (Zu b))) q∧Ab q (1 / 180):=by
  have hf:∀ i,i < b.Me.Pq.length→Fw (ax.c ((Zu b).getD i default)) 203∧Ab (vW (ax.c ((Zu b).getD i default)) - phi ax b i) (28 / 100000):=fun i hi=>by
    obtain ⟨q,V,N,M⟩:=Z8k (ax:=ax) S B hi
    exact ⟨X36 V M,by rw [XB V];exact N⟩
  have n1:=nle B.tab.n1
  have e12:((12:Nat):Rat)=12:=rfl
  rw [e12,← B.pl.len] at n1
  have n0:(0:Rat)≤((b.Me.Pq.length:Nat):Rat):=Rat.natCast_nonneg
  have h0:ax.c (⟨0,0,0⟩:Gv)=0:=by cases ax<;>rfl
  obtain ⟨q,V,N,-⟩:=X3l (f:=fun v=>ax.c v) (B:=203) (S:=2450) (l:=Zu b) (by decide +kernel) (by decide +kernel) (by decide +kernel) (fun v hv=>by
    rw [Z7E (Zu b)] at hv
    obtain ⟨i,hi,rfl⟩:=List.mem_map.1 hv
    rw [List.mem_range,hl] at hi
    exact (hf i hi).1) (by rw [hl];grind)
  refine ⟨q,by rw [Z9t,X42 Zj ax.c (Ax.c_add ax),h0];exact V,?_⟩
  rw [hl] at N
  have r1:rsum (fun v=>vW (ax.c v)) (Zu b)=rsum (fun i=>vW (ax.c ((Zu b).getD i default))) (List.range b.Me.Pq.length):=by
    have:=congrArg (rsum fun v=>vW (ax.c v)) (Z7E (Zu b))
    rw [Z8l,hl] at this
    exact this
  have r2:rsum (phi ax b) (List.range b.Me.Pq.length)=rsum (fun p=>vW (ax.c p.2)) (pA b):=X5Q (fun p=>vW (ax.c p.2)) b.Me.Pq.length (pA b) (ZaK S B)
  have r3:=X2C (g:=fun i=>vW (ax.c ((Zu b).getD i default)) - phi ax b i) (ε:=28 / 100000) (l:=List.range b.Me.Pq.length) (fun i hi=>(hf i (List.mem_range.1 hi)).2)
  rw [Z7d,List.length_range] at r3
  have r4:=Za8 (ax:=ax) B
  rw [← r2] at r4
  rw [r1] at N
  generalize rsum (fun i=>vW (ax.c ((Zu b).getD i default))) (List.range b.Me.Pq.length)=y1 at *
  have r3:-(((b.Me.Pq.length:Nat):Rat) * (28 / 100000))≤y1 - rsum (phi ax b) (List.range b.Me.Pq.length)∧y1 - rsum (phi ax b) (List.range b.Me.Pq.length)≤((b.Me.Pq.length:Nat):Rat) * (28 / 100000):=r3
  generalize rsum (phi ax b) (List.range b.Me.Pq.length)=y2 at *
  unfold Ab at *
  grind
theorem sh_x (b:Gb) (k:Int) (w:Nat):Z3R b k w=ZO ⟨⟨shP .x b.Me.Pq k.toNat w,b.Me.Tr⟩,b.Sp,b.Film,b.Bend,b.We,b.Fall⟩:=rfl
theorem sh_y (b:Gb) (k:Int) (w:Nat):Z3S b k w=ZO ⟨⟨shP .y b.Me.Pq k.toNat w,b.Me.Tr⟩,b.Sp,b.Film,b.Bend,b.We,b.Fall⟩:=rfl
theorem sh_z (b:Gb) (k:Int) (w:Nat):Z3T b k w=ZO ⟨⟨shP .z b.Me.Pq k.toNat w,b.Me.Tr⟩,b.Sp,b.Film,b.Bend,b.We,b.Fall⟩:=rfl
theorem Za9 (b:Gb) (k:Int):Z1F b k 0 1015021568=fop .quo .f32 (fop .sub .f32 (ZO ⟨⟨shP .x b.Me.Pq k.toNat stp,b.Me.Tr⟩,b.Sp,b.Film,b.Bend,b.We,b.Fall⟩) (ZO ⟨⟨shP .x b.Me.Pq k.toNat (fneg .f32 stp),b.Me.Tr⟩,b.Sp,b.Film,b.Bend,b.We,b.Fall⟩)) (fop .mul .f32 1073741824 stp):=by
  unfold Z1F Z26
  rw [show ((0:Int) == 0)=true from rfl,cond_true,cond_true,sh_x,sh_x]
  rfl
theorem Zaa (b:Gb) (k:Int):Z1F b k 1 1015021568=fop .quo .f32 (fop .sub .f32 (ZO ⟨⟨shP .y b.Me.Pq k.toNat stp,b.Me.Tr⟩,b.Sp,b.Film,b.Bend,b.We,b.Fall⟩) (ZO ⟨⟨shP .y b.Me.Pq k.toNat (fneg .f32 stp),b.Me.Tr⟩,b.Sp,b.Film,b.Bend,b.We,b.Fall⟩)) (fop .mul .f32 1073741824 stp):=by
  unfold Z1F Z26
  rw [show ((1:Int) == 0)=false from rfl,show ((1:Int) == 1)=true from rfl,cond_false,cond_true,cond_false,cond_true,sh_y,sh_y]
  rfl
theorem Zab (b:Gb) (k:Int):Z1F b k 2 1015021568=fop .quo .f32 (fop .sub .f32 (ZO ⟨⟨shP .z b.Me.Pq k.toNat stp,b.Me.Tr⟩,b.Sp,b.Film,b.Bend,b.We,b.Fall⟩) (ZO ⟨⟨shP .z b.Me.Pq k.toNat (fneg .f32 stp),b.Me.Tr⟩,b.Sp,b.Film,b.Bend,b.We,b.Fall⟩)) (fop .mul .f32 1073741824 stp):=by
  unfold Z1F Z26
  rw [show ((2:Int) == 0)=false from rfl,show ((2:Int) == 1)=false from rfl,cond_false,cond_false,cond_false,cond_false,sh_z,sh_z]
  rfl
set_option maxHeartbeats 1000000 in
theorem Z6N (a b:List Int) (h:a.length≤9223372036854775807) (h':b.length≤9223372036854775807) (b0:a.length≤9223372036854775807∧∀ x∈a,(Lit.int .u8 x).wf=true) (b1:b.length≤9223372036854775807∧∀ x∈b,(Lit.int .u8 x).wf=true):Z1g a b=true:=by
  have ha:=X58 b0.2
  have hb:=X58 b1.2
  obtain ⟨G,E,S⟩:=Z7O a ha
  obtain ⟨H,B⟩:=Zav S
  have hfl:(Zu (Z6 a)).length=(Z6 a).Me.Pq.length:=by rw [← skf ha];exact skl ha
  have h7:=sk7 ha hb
  have n12:=skn ha
  have hlong:fcmp .lss .f32 (Z39 ((Z11 ((Zb (Z6 a)).1)).1)) 1008981770=true:=by
    obtain ⟨x,Vx,Bx⟩:=Z7g (ax := .x) S B hfl
    obtain ⟨y,Vy,By⟩:=Z7g (ax := .y) S B hfl
    obtain ⟨z,Vz,Bz⟩:=Z7g (ax := .z) S B hfl
    obtain ⟨l,Vl',hl⟩:=XaO (D:=0) Vx Vy Vz Bx By Bz
    have e:(Z11 ((Zb (Z6 a)).1)).1=Z1x (Zu (Z6 a)):=by
      unfold Z11
      rw [skf ha,hfl,decide_eq_false (by omega),cond_false]
    have hc:Vl .f32 1008981770 (5368709 / 536870912):=by unfold Vl;decide +kernel
    have Vl':Vl .f32 (lenW (Z1x (Zu (Z6 a))).X (Z1x (Zu (Z6 a))).Y (Z1x (Zu (Z6 a))).Z) l:=Vl'
    rw [e,Z94,lssV Vl' hc]
    exact decide_eq_true (by grind)
  have hat:∀ x,Zq x 0 2=true→(Zn (Z6 a) (Zh b 0 (((Zb (Z6 a)).1).length:Int)) x 1015021568).1=Z1F (Z6 a) (Zh b 0 (((Zb (Z6 a)).1).length:Int)) x 1015021568:=by
    intro x hx
    unfold Zn
    rw [sk0 ha,cond_true,Z5N h7.1 h7.2 (by omega),cond_true,hx,cond_true,show Z2t 1015021568=true from by decide +kernel,cond_true]
  have hk:(Zh b 0 ((Zu (Z6 a)).length:Int)).toNat < (Z6 a).Me.Pq.length:=by
    rw [skf ha] at h7
    omega
  have n1:fcmp .lss .f64 (Z1s (Z2p a b) (fneg .f64 (Z2q a b))) 4591870180066957722=true:=by
    unfold Z2p Z2q
    rw [hat 0 (by decide),skf ha,Za9]
    exact Z7f (ax := .x) S B hk
  have n2:fcmp .lss .f64 (Z1s (Z2r a b) (fneg .f64 (Z2s a b))) 4591870180066957722=true:=by
    unfold Z2r Z2s
    rw [hat 1 (by decide),skf ha,Zaa]
    exact Z7f (ax := .y) S B hk
  have n3:fcmp .lss .f64 (Z1s (Z2j a b) (fneg .f64 (Z2k a b))) 4591870180066957722=true:=by
    unfold Z2j Z2k
    rw [hat 2 (by decide),skf ha,Zab]
    exact Z7f (ax := .z) S B hk
  unfold Z1g
  cases Z2c a b with
  | true=>rfl
  | false =>
    rw [cond_false,hlong,cond_true,n1,cond_true,n2,cond_true]
    exact n3
end Go.Ab
