/- The functions of this seat as plain Lean, and that the program's are these. Printed by a program of the prover's own. -/
import Derived.Test.YtoibkmljibnjnaaB7
set_option linter.unusedVariables false
set_option linter.unusedSimpArgs false
set_option maxRecDepth 100000
namespace Go.Ab
open Go.RowKit Go.Proofs.Try
def Z6D (Y1:Gb) (Y2:Int) (Ya:(List Gv)):St:=⟨.agg [.sl (Y1.Me.Pq.map Gv.c), .sl (Y1.Me.Tr.map (cL (cI .i64))), .sl (Y1.Sp.map Gs.c), .f .f32 Y1.Film, .f .f32 Y1.Bend, .sl (Y1.We.map (cF .f32)), .f .f32 Y1.Fall.X, .f .f32 Y1.Fall.Y, .f .f32 Y1.Fall.Z] :: .ptr 0 0 0 :: .nils :: .ptr 1 0 0 :: .fn 102 [.ptr 1 0 0] :: an 4 (.sl (Y1.Me.Pq.map Gv.c) :: an 13 (.ptr 0 0 0 :: .ptr 0 0 0 :: .sl (Y1.Me.Pq.map Gv.c) :: .i .i64 (Y1.Me.Pq.length:Int) :: .own 2 :: .fn 102 [.ptr 1 0 0] :: .ptr 0 0 2 :: .sl (Y1.Sp.map Gs.c) :: an 25 (.ptr 0 0 0 :: .ptr 0 0 0 :: .sl (Y1.Me.Pq.map Gv.c) :: .ptr 0 0 0 :: .ptr 0 0 1 :: .sl (Y1.Me.Tr.map (cL (cI .i64))) :: .i .i64 (Y1.Me.Tr.length:Int) :: .i .i64 Y2 :: an 115 []))),[.box 34 [.sl (Y1.Me.Pq.map Gv.c), .sl (Y1.Me.Tr.map (cL (cI .i64))), .sl (Y1.Sp.map Gs.c), .f .f32 Y1.Film, .f .f32 Y1.Bend, .sl (Y1.We.map (cF .f32)), .f .f32 Y1.Fall.X, .f .f32 Y1.Fall.Y, .f .f32 Y1.Fall.Z], .box 24 [.own 2], .vec 32 3 (Ya.map Gv.c) false]⟩
def Z33:List Bool:=(mR false [0,5,4,1,13,8,25,8,115])
theorem Z6E (Y1:Gb) (hp0:Y1.Me.Pq.length≤1073741824) (hp1:Y1.Me.Tr.length≤1073741824) (hp2:∀ t∈Y1.Me.Tr,t.length≤1073741824) (hp3:Y1.Sp.length≤1073741824) (hp4:Y1.We.length≤1073741824) (hp5:OkBd Y1):∀ (k:Nat) (Y2:Int) (Ya:(List Gv)) (Z23:0≤Y2) (Z24:Ya.length=Y1.Me.Pq.length) (hk:((Y1.Me.Tr.length:Int) - Y2).toNat < k),Lp prog 0 (sub (X0 f60) [1,1,1,1,1,0,1,0,0]) (Z6D Y1 Y2 Ya) (Z3z Y1 (Zr Y1 k Y2 Ya)).1 (Z3z Y1 (Zr Y1 k Y2 Ya)).2:=by
 intro k
 induction k with
 | zero=>intro Y2 Ya Z23 Z24 hk;exact absurd hk (Nat.not_lt_zero _)
 | succ k ih =>
  intro Y2 Ya Z23 Z24 hk
  cases Yk:(decide (Y2 < (Y1.Me.Tr.length:Int))) with
  | true =>
   have YH:=odt Yk
   have YQ:(0:Int)≤Y2:=(by assumption)
   have YN:Y2 < (Y1.Me.Tr.length:Int):=(by assumption)
   have y_2:(Y1.Me.Tr.getD Y2.toNat default).length≤1073741824:=(by exact X9T hp5.e (by assumption) Yk)
   have YR:(Y1.Me.Tr.getD Y2.toNat default).length=3∧∀ x∈(Y1.Me.Tr.getD Y2.toNat default),0≤x∧x < (Y1.Me.Pq.length:Int):=(by exact tri3 hp5.e (by assumption) Yk)
   have p {a C} (s:Scr a C):=sB Yk<|sG (cL (cI .i64)) Y1.Me.Tr Y2 YQ YN<|sF (Z5K Y1.Me (Y1.Me.Tr.getD Y2.toNat default) hp0 hp1 hp2 y_2 YR)<|sF (Z3X (Zd Y1.Me (Y1.Me.Tr.getD Y2.toNat default)))<|s
   cases YB:(fcmp .gtr .f32 (Zg (Zd Y1.Me (Y1.Me.Tr.getD Y2.toNat default))) 0) with
   | true =>
    have y_4:(-9223372036854775808:Int)≤(Y2 + 1):=by clear p;exact (by omega)
    have y_5:(Y2 + 1)≤(9223372036854775807:Int):=by clear p;exact (by omega)
    have e:Zr Y1 (k + 1) Y2 Ya=(Zr Y1 k (Y2 + 1) (Z1l Y1 Y2 Ya)):=by simp only [Zr,Yk,YB,cond_true]
    rw [e]
    exact XG E0Ok Ze [] Z33 [0,1,3] (ih (Y2 + 1) (Z1l Y1 Y2 Ya) (show 0≤(Y2 + 1) from (by omega)) (show (Z1l Y1 Y2 Ya).length=Y1.Me.Pq.length from (by simp_all<;>omega)) (by omega)) (p (sB YB<|sL Z4r 4 (X9 (Z3x Y1 Y2 Ya) (x:=(Z1l Y1 Y2 Ya)) (Z6A Y1 Y2 Ya hp0 hp1 hp2 hp3 hp4 hp5 Z23 Z24 Yk (((3:Int) - 0).toNat + 1) 0 Ya (show 0≤0 from (by omega)) (show Ya.length=Ya.length from (by omega)) (Nat.lt_succ_self _)) rfl)<|sI (Y2 + 1) y_4 y_5<|sN)) (by kernel_rfl)
   | false =>
    have y_4:(-9223372036854775808:Int)≤(Y2 + 1):=by clear p;exact (by omega)
    have y_5:(Y2 + 1)≤(9223372036854775807:Int):=by clear p;exact (by omega)
    have e:Zr Y1 (k + 1) Y2 Ya=(Zr Y1 k (Y2 + 1) (Z1m Y1 Y2 Ya)):=by simp only [Zr,Yk,YB,cond_true,cond_false]
    rw [e]
    exact XG E0Ok Ze [] Z33 [0,1,3] (ih (Y2 + 1) (Z1m Y1 Y2 Ya) (show 0≤(Y2 + 1) from (by omega)) (show (Z1m Y1 Y2 Ya).length=Y1.Me.Pq.length from (by simp_all<;>omega)) (by omega)) (p (sB YB<|sL Z4u 4 (X9 (Z3y Y1 Y2 Ya) (x:=(Z1m Y1 Y2 Ya)) (Z6C Y1 Y2 Ya hp0 hp1 hp2 hp3 hp4 hp5 Z23 Z24 Yk (((3:Int) - 0).toNat + 1) 0 Ya (show 0≤0 from (by omega)) (show Ya.length=Ya.length from (by omega)) (Nat.lt_succ_self _)) rfl)<|sI (Y2 + 1) y_4 y_5<|sN)) (by kernel_rfl)
  | false =>
   have YH:=odf Yk
   have e:Zr Y1 (k + 1) Y2 Ya=Ya:=by simp only [Zr,Yk,cond_false]
   rw [e]
   exact outR (e:=(.exit 2)) E0Ok Ze [] (mR false [0,5,18,8,25,6,117]) [0,1,2] (sB Yk<|sN) (by kernel_rfl) (by intro h;cases h)
theorem Z65 (Y1:Gb):∀ (k:Nat) (Y2:Int) (Ya:(List Gv)) (hk:((Y1.Me.Tr.length:Int) - Y2).toNat < k),(Zr Y1 k Y2 Ya).length=Ya.length:=by
  intro k
  induction k with
  | zero=>intro Y2 Ya hk;exact absurd hk (Nat.not_lt_zero _)
  | succ k ih =>
    intro Y2 Ya hk
    cases Yk:(decide (Y2 < (Y1.Me.Tr.length:Int))) with
    | true =>
      cases YB:(fcmp .gtr .f32 (Zg (Zd Y1.Me (Y1.Me.Tr.getD Y2.toNat default))) 0) with
      | true =>
        have e:Zr Y1 (k + 1) Y2 Ya=(Zr Y1 k (Y2 + 1) (Z1l Y1 Y2 Ya)):=by simp only [Zr,Yk,YB,cond_true]
        rw [e,ih (Y2 + 1) (Z1l Y1 Y2 Ya) (by simp_all<;>omega)]<;>simp
      | false =>
        have e:Zr Y1 (k + 1) Y2 Ya=(Zr Y1 k (Y2 + 1) (Z1m Y1 Y2 Ya)):=by simp only [Zr,Yk,YB,cond_true,cond_false]
        rw [e,ih (Y2 + 1) (Z1m Y1 Y2 Ya) (by simp_all<;>omega)]<;>simp
    | false =>
      have e:Zr Y1 (k + 1) Y2 Ya=Ya:=by simp only [Zr,Yk,cond_false]
      first | (rw [e];done) | (rw [e];rfl)
def Z1n (Y1:Gb):(List Gv):=(Zr Y1 (((Y1.Me.Tr.length:Int) - 0).toNat + 1) 0 (Z1k Y1))
@[simp] theorem Z86 (Y1:Gb):(Z1n Y1).length=((Z1k Y1):(List Gv)).length:=Z65 Y1 (((Y1.Me.Tr.length:Int) - 0).toNat + 1) 0 (Z1k Y1) (by exact Nat.lt_succ_self _)
def Z1S (Y1:Gb) (Y2:Int) (Ya:(List Gv)):(List Gv):=(Zp (((Z8 Y1.Me).getD Y2.toNat default).getD 0 default) (Zm Y1.Me ((Z8 Y1.Me).getD Y2.toNat default)) Y1.Bend Ya)
@[simp] theorem Z1W (Y1:Gb) (Y2:Int) (Ya:(List Gv)):(Z1S Y1 Y2 Ya).length=Ya.length:=by unfold Z1S;simp
def Z1z (Y1:Gb) (Y2:Int) (Ya:(List Gv)):(List Gv):=(Zp (((Z8 Y1.Me).getD Y2.toNat default).getD 1 default) (Zm Y1.Me ((Z8 Y1.Me).getD Y2.toNat default)) Y1.Bend (Z1S Y1 Y2 Ya))
@[simp] theorem Z1T (Y1:Gb) (Y2:Int) (Ya:(List Gv)):(Z1z Y1 Y2 Ya).length=(Z1S Y1 Y2 Ya).length:=by unfold Z1z;simp
def Z1A (Y1:Gb) (Y2:Int) (Ya:(List Gv)):(List Gv):=(Zp (((Z8 Y1.Me).getD Y2.toNat default).getD 2 default) (Zm Y1.Me ((Z8 Y1.Me).getD Y2.toNat default)) (fneg .f32 Y1.Bend) (Z1z Y1 Y2 Ya))
@[simp] theorem Z1U (Y1:Gb) (Y2:Int) (Ya:(List Gv)):(Z1A Y1 Y2 Ya).length=(Z1z Y1 Y2 Ya).length:=by unfold Z1A;simp
def Z1B (Y1:Gb) (Y2:Int) (Ya:(List Gv)):(List Gv):=(Zp (((Z8 Y1.Me).getD Y2.toNat default).getD 3 default) (Zm Y1.Me ((Z8 Y1.Me).getD Y2.toNat default)) (fneg .f32 Y1.Bend) (Z1A Y1 Y2 Ya))
@[simp] theorem Z8m (Y1:Gb) (Y2:Int) (Ya:(List Gv)):(Z1B Y1 Y2 Ya).length=(Z1A Y1 Y2 Ya).length:=by unfold Z1B;simp
def ZR (Y1:Gb):Nat→Int→(List Gv)→(List Gv)
  | 0,_,_=>default
  | k + 1,Y2,Ya=>(cond (decide (Y2 < ((Z8 Y1.Me).length:Int)))
    (ZR Y1 k (Y2 + 1) (Z1B Y1 Y2 Ya))
    Ya)
def Z3A (Y1:Gb) (r:(List Gv)):Ex × St:=((.exit 6),⟨.agg [.sl (Y1.Me.Pq.map Gv.c), .sl (Y1.Me.Tr.map (cL (cI .i64))), .sl (Y1.Sp.map Gs.c), .f .f32 Y1.Film, .f .f32 Y1.Bend, .sl (Y1.We.map (cF .f32)), .f .f32 Y1.Fall.X, .f .f32 Y1.Fall.Y, .f .f32 Y1.Fall.Z] :: .ptr 0 0 0 :: .nils :: .ptr 1 0 0 :: .fn 102 [.ptr 1 0 0] :: an 18 (.ptr 0 0 0 :: .ptr 0 0 0 :: .sl (Y1.Me.Pq.map Gv.c) :: .i .i64 (Y1.Me.Pq.length:Int) :: .own 2 :: .fn 102 [.ptr 1 0 0] :: .ptr 0 0 2 :: .sl (Y1.Sp.map Gs.c) :: an 25 (.ptr 0 0 0 :: .ptr 0 0 0 :: .sl (Y1.Me.Pq.map Gv.c) :: .ptr 0 0 0 :: .ptr 0 0 1 :: .sl (Y1.Me.Tr.map (cL (cI .i64))) :: an 54 (.ptr 0 0 0 :: .agg [.sl (Y1.Me.Pq.map Gv.c), .sl (Y1.Me.Tr.map (cL (cI .i64)))] :: .own 3 :: an 60 []))),[.box 34 [.sl (Y1.Me.Pq.map Gv.c), .sl (Y1.Me.Tr.map (cL (cI .i64))), .sl (Y1.Sp.map Gs.c), .f .f32 Y1.Film, .f .f32 Y1.Bend, .sl (Y1.We.map (cF .f32)), .f .f32 Y1.Fall.X, .f .f32 Y1.Fall.Y, .f .f32 Y1.Fall.Z], .box 24 [.own 2], .vec 32 3 (r.map Gv.c) false, .nest 60 ((Z8 Y1.Me).map fun l=>l.map (cI .i64)) false]⟩)
def Z6F (Y1:Gb) (Y2:Int) (Ya:(List Gv)):St:=⟨.agg [.sl (Y1.Me.Pq.map Gv.c), .sl (Y1.Me.Tr.map (cL (cI .i64))), .sl (Y1.Sp.map Gs.c), .f .f32 Y1.Film, .f .f32 Y1.Bend, .sl (Y1.We.map (cF .f32)), .f .f32 Y1.Fall.X, .f .f32 Y1.Fall.Y, .f .f32 Y1.Fall.Z] :: .ptr 0 0 0 :: .nils :: .ptr 1 0 0 :: .fn 102 [.ptr 1 0 0] :: an 18 (.ptr 0 0 0 :: .ptr 0 0 0 :: .sl (Y1.Me.Pq.map Gv.c) :: .i .i64 (Y1.Me.Pq.length:Int) :: .own 2 :: .fn 102 [.ptr 1 0 0] :: .ptr 0 0 2 :: .sl (Y1.Sp.map Gs.c) :: an 25 (.ptr 0 0 0 :: .ptr 0 0 0 :: .sl (Y1.Me.Pq.map Gv.c) :: .ptr 0 0 0 :: .ptr 0 0 1 :: .sl (Y1.Me.Tr.map (cL (cI .i64))) :: an 54 (.ptr 0 0 0 :: .agg [.sl (Y1.Me.Pq.map Gv.c), .sl (Y1.Me.Tr.map (cL (cI .i64)))] :: .own 3 :: .i .i64 ((Z8 Y1.Me).length:Int) :: .i .i64 Y2 :: an 58 []))),[.box 34 [.sl (Y1.Me.Pq.map Gv.c), .sl (Y1.Me.Tr.map (cL (cI .i64))), .sl (Y1.Sp.map Gs.c), .f .f32 Y1.Film, .f .f32 Y1.Bend, .sl (Y1.We.map (cF .f32)), .f .f32 Y1.Fall.X, .f .f32 Y1.Fall.Y, .f .f32 Y1.Fall.Z], .box 24 [.own 2], .vec 32 3 (Ya.map Gv.c) false, .nest 60 ((Z8 Y1.Me).map fun l=>l.map (cI .i64)) false]⟩
def Z4x:List Bool:=(mR false [0,5,18,8,25,6,54,5,58])
def Z66:List Bool:=(mR false [0,5,18,8,25,6,54,3,60])
set_option maxHeartbeats 1000000 in
theorem Z6G (Y1:Gb) (hp0:Y1.Me.Pq.length≤1073741824) (hp1:Y1.Me.Tr.length≤1073741824) (hp2:∀ t∈Y1.Me.Tr,t.length≤1073741824) (hp3:Y1.Sp.length≤1073741824) (hp4:Y1.We.length≤1073741824) (hp5:OkBd Y1):∀ (k:Nat) (Y2:Int) (Ya:(List Gv)) (Z4y:0≤Y2) (Z4z:Ya.length=Y1.Me.Pq.length) (hk:(((Z8 Y1.Me).length:Int) - Y2).toNat < k),Lp prog 0 (sub (X0 f60) [1,1,1,1,1,1,0,1,0,0]) (Z6F Y1 Y2 Ya) (Z3A Y1 (ZR Y1 k Y2 Ya)).1 (Z3A Y1 (ZR Y1 k Y2 Ya)).2:=by
 intro k
 induction k with
 | zero=>intro Y2 Ya Z4y Z4z hk;exact absurd hk (Nat.not_lt_zero _)
 | succ k ih =>
  intro Y2 Ya Z4y Z4z hk
  cases Yk:(decide (Y2 < ((Z8 Y1.Me).length:Int))) with
  | true =>
   have YH:=odt Yk
   have YQ:(0:Int)≤Y2:=(by assumption)
   have YN:Int.toNat Y2 < (Z8 Y1.Me).length:=(by omega)
   have y_2:Y2.toNat < (Z8 Y1.Me).length:=(by assumption)
   have YR:((Z8 Y1.Me).getD Y2.toNat default).length≤1073741824:=(by exact Z8X hp5.e (by assumption) Yk)
   have y_4:((Z8 Y1.Me).getD Y2.toNat default).length=4∧∀ x∈((Z8 Y1.Me).getD Y2.toNat default),0≤x∧x < (Y1.Me.Pq.length:Int):=(by exact Z3f hp5.e (by assumption) Yk)
   have y_5:(0:Int)≤0:=(by omega)
   have y_6:0 < (((Z8 Y1.Me).getD Y2.toNat default).length:Int):=(by omega)
   have y_7:0 < ((Z8 Y1.Me).getD Y2.toNat default).length:=(by omega)
   have y_8:Ya.length≤1073741824:=(by omega)
   have y_9:0≤(((Z8 Y1.Me).getD Y2.toNat default).getD 0 default):=(by (have q:=Okh.at (Z3f hp5.e (by assumption) Yk);omega))
   have Y1e:(((Z8 Y1.Me).getD Y2.toNat default).getD 0 default) < (Ya.length:Int):=(by (have q:=Okh.at (Z3f hp5.e (by assumption) Yk);omega))
   have Y1j:(0:Int)≤1:=(by omega)
   have Y1n:1 < (((Z8 Y1.Me).getD Y2.toNat default).length:Int):=(by omega)
   have Y1o:1 < ((Z8 Y1.Me).getD Y2.toNat default).length:=(by omega)
   have Y1x:(Z1S Y1 Y2 Ya).length≤1073741824:=(by (have q:=Okh.at (Z3f hp5.e (by assumption) Yk);(simp only [Z1W,Z1T,Z1U];omega)))
   have Y1y:0≤(((Z8 Y1.Me).getD Y2.toNat default).getD 1 default):=(by (have q:=Okh.at (Z3f hp5.e (by assumption) Yk);omega))
   have Y1z:(((Z8 Y1.Me).getD Y2.toNat default).getD 1 default) < ((Z1S Y1 Y2 Ya).length:Int):=(by (have q:=Okh.at (Z3f hp5.e (by assumption) Yk);(simp only [Z1W,Z1T,Z1U];omega)))
   have Y1A:(0:Int)≤2:=(by omega)
   have Y1E:2 < (((Z8 Y1.Me).getD Y2.toNat default).length:Int):=(by omega)
   have Y1F:2 < ((Z8 Y1.Me).getD Y2.toNat default).length:=(by omega)
   have y_20:(Z1z Y1 Y2 Ya).length≤1073741824:=(by (have q:=Okh.at (Z3f hp5.e (by assumption) Yk);(simp only [Z1W,Z1T,Z1U];omega)))
   have y_21:0≤(((Z8 Y1.Me).getD Y2.toNat default).getD 2 default):=(by (have q:=Okh.at (Z3f hp5.e (by assumption) Yk);omega))
   have y_22:(((Z8 Y1.Me).getD Y2.toNat default).getD 2 default) < ((Z1z Y1 Y2 Ya).length:Int):=(by (have q:=Okh.at (Z3f hp5.e (by assumption) Yk);(simp only [Z1W,Z1T,Z1U];omega)))
   have y_23:(0:Int)≤3:=(by omega)
   have y_24:3 < (((Z8 Y1.Me).getD Y2.toNat default).length:Int):=(by omega)
   have y_25:3 < ((Z8 Y1.Me).getD Y2.toNat default).length:=(by omega)
   have y_26:(Z1A Y1 Y2 Ya).length≤1073741824:=(by (have q:=Okh.at (Z3f hp5.e (by assumption) Yk);(simp only [Z1W,Z1T,Z1U];omega)))
   have y_27:0≤(((Z8 Y1.Me).getD Y2.toNat default).getD 3 default):=(by (have q:=Okh.at (Z3f hp5.e (by assumption) Yk);omega))
   have y_28:(((Z8 Y1.Me).getD Y2.toNat default).getD 3 default) < ((Z1A Y1 Y2 Ya).length:Int):=(by (have q:=Okh.at (Z3f hp5.e (by assumption) Yk);(simp only [Z1W,Z1T,Z1U];omega)))
   have y_29:(-9223372036854775808:Int)≤(Y2 + 1):=(by omega)
   have y_30:(Y2 + 1)≤(9223372036854775807:Int):=(by have q:=Z5p _ hp5.e;omega)
   have e:ZR Y1 (k + 1) Y2 Ya=(ZR Y1 k (Y2 + 1) (Z1B Y1 Y2 Ya)):=by simp only [ZR,Yk,cond_true]
   rw [e]
   exact XG E0Ok Ze [] Z4x [0,1,2,3] (ih (Y2 + 1) (Z1B Y1 Y2 Ya) (show 0≤(Y2 + 1) from (by omega)) (show (Z1B Y1 Y2 Ya).length=Y1.Me.Pq.length from (by simp_all<;>omega)) (by omega)) (sB Yk<|sC (X52 (c:=(cI .i64)) (l:=(Z8 Y1.Me)) (i:=Y2) YQ YN)<|sC (X51 (c:=(cI .i64)) (l:=(Z8 Y1.Me)) y_2)<|sF (Fn.castA (args':=[.agg [.sl (Y1.Me.Pq.map Gv.c), .sl (Y1.Me.Tr.map (cL (cI .i64)))], .sl (((Z8 Y1.Me).map fun l=>l.map (cI .i64)).getD Y2.toNat [])]) (Z6d Y1.Me ((Z8 Y1.Me).getD Y2.toNat default) hp0 hp1 hp2 YR y_4) (by simp [cI];done))<|sK [7,7]<|sC (X2A (c:=(cI .i64)) (l:=(Z8 Y1.Me)) (j:=Y2.toNat) (i:=0) y_5 y_6)<|sE (X2z (c:=(cI .i64)) (l:=(Z8 Y1.Me)) (j:=Y2.toNat) (k:=0) y_7)<|sS (X7.frame (Z13 (((Z8 Y1.Me).getD Y2.toNat default).getD 0 default) (Zm Y1.Me ((Z8 Y1.Me).getD Y2.toNat default)) Y1.Bend Ya y_8 y_9 Y1e) [1,2] (R:=[.box 34 [.sl (Y1.Me.Pq.map Gv.c), .sl (Y1.Me.Tr.map (cL (cI .i64))), .sl (Y1.Sp.map Gs.c), .f .f32 Y1.Film, .f .f32 Y1.Bend, .sl (Y1.We.map (cF .f32)), .f .f32 Y1.Fall.X, .f .f32 Y1.Fall.Y, .f .f32 Y1.Fall.Z], .box 24 [.own 2], .vec 32 3 (Ya.map Gv.c) false, .nest 60 ((Z8 Y1.Me).map fun l=>l.map (cI .i64)) false, .box 32 [.f .f32 ((Zm Y1.Me ((Z8 Y1.Me).getD Y2.toNat default)).X), .f .f32 ((Zm Y1.Me ((Z8 Y1.Me).getD Y2.toNat default)).Y), .f .f32 ((Zm Y1.Me ((Z8 Y1.Me).getD Y2.toNat default)).Z)]]) (args':=[.i .i64 (((Z8 Y1.Me).getD Y2.toNat default).getD 0 default), .agg [.f .f32 ((Zm Y1.Me ((Z8 Y1.Me).getD Y2.toNat default)).X), .f .f32 ((Zm Y1.Me ((Z8 Y1.Me).getD Y2.toNat default)).Y), .f .f32 ((Zm Y1.Me ((Z8 Y1.Me).getD Y2.toNat default)).Z)], .f .f32 Y1.Bend, .ptr 1 0 0]) rfl rfl rfl rfl rfl rfl)<|sK [7,7]<|sC (X2A (c:=(cI .i64)) (l:=(Z8 Y1.Me)) (j:=Y2.toNat) (i:=1) Y1j Y1n)<|sE (X2z (c:=(cI .i64)) (l:=(Z8 Y1.Me)) (j:=Y2.toNat) (k:=1) Y1o)<|sS (X7.frame (Z13 (((Z8 Y1.Me).getD Y2.toNat default).getD 1 default) (Zm Y1.Me ((Z8 Y1.Me).getD Y2.toNat default)) Y1.Bend (Z1S Y1 Y2 Ya) Y1x Y1y Y1z) [1,2] (R:=[.box 34 [.sl (Y1.Me.Pq.map Gv.c), .sl (Y1.Me.Tr.map (cL (cI .i64))), .sl (Y1.Sp.map Gs.c), .f .f32 Y1.Film, .f .f32 Y1.Bend, .sl (Y1.We.map (cF .f32)), .f .f32 Y1.Fall.X, .f .f32 Y1.Fall.Y, .f .f32 Y1.Fall.Z], .box 24 [.own 2], .vec 32 3 ((Z1S Y1 Y2 Ya).map Gv.c) false, .nest 60 ((Z8 Y1.Me).map fun l=>l.map (cI .i64)) false, .box 32 [.f .f32 ((Zm Y1.Me ((Z8 Y1.Me).getD Y2.toNat default)).X), .f .f32 ((Zm Y1.Me ((Z8 Y1.Me).getD Y2.toNat default)).Y), .f .f32 ((Zm Y1.Me ((Z8 Y1.Me).getD Y2.toNat default)).Z)]]) (args':=[.i .i64 (((Z8 Y1.Me).getD Y2.toNat default).getD 1 default), .agg [.f .f32 ((Zm Y1.Me ((Z8 Y1.Me).getD Y2.toNat default)).X), .f .f32 ((Zm Y1.Me ((Z8 Y1.Me).getD Y2.toNat default)).Y), .f .f32 ((Zm Y1.Me ((Z8 Y1.Me).getD Y2.toNat default)).Z)], .f .f32 Y1.Bend, .ptr 1 0 0]) rfl rfl rfl rfl rfl rfl)<|sK [8,8]<|sC (X2A (c:=(cI .i64)) (l:=(Z8 Y1.Me)) (j:=Y2.toNat) (i:=2) Y1A Y1E)<|sE (X2z (c:=(cI .i64)) (l:=(Z8 Y1.Me)) (j:=Y2.toNat) (k:=2) Y1F)<|sS (X7.frame (Z13 (((Z8 Y1.Me).getD Y2.toNat default).getD 2 default) (Zm Y1.Me ((Z8 Y1.Me).getD Y2.toNat default)) (fneg .f32 Y1.Bend) (Z1z Y1 Y2 Ya) y_20 y_21 y_22) [1,2] (R:=[.box 34 [.sl (Y1.Me.Pq.map Gv.c), .sl (Y1.Me.Tr.map (cL (cI .i64))), .sl (Y1.Sp.map Gs.c), .f .f32 Y1.Film, .f .f32 Y1.Bend, .sl (Y1.We.map (cF .f32)), .f .f32 Y1.Fall.X, .f .f32 Y1.Fall.Y, .f .f32 Y1.Fall.Z], .box 24 [.own 2], .vec 32 3 ((Z1z Y1 Y2 Ya).map Gv.c) false, .nest 60 ((Z8 Y1.Me).map fun l=>l.map (cI .i64)) false, .box 32 [.f .f32 ((Zm Y1.Me ((Z8 Y1.Me).getD Y2.toNat default)).X), .f .f32 ((Zm Y1.Me ((Z8 Y1.Me).getD Y2.toNat default)).Y), .f .f32 ((Zm Y1.Me ((Z8 Y1.Me).getD Y2.toNat default)).Z)]]) (args':=[.i .i64 (((Z8 Y1.Me).getD Y2.toNat default).getD 2 default), .agg [.f .f32 ((Zm Y1.Me ((Z8 Y1.Me).getD Y2.toNat default)).X), .f .f32 ((Zm Y1.Me ((Z8 Y1.Me).getD Y2.toNat default)).Y), .f .f32 ((Zm Y1.Me ((Z8 Y1.Me).getD Y2.toNat default)).Z)], .f .f32 (fneg .f32 Y1.Bend), .ptr 1 0 0]) rfl rfl rfl rfl rfl rfl)<|sK [8,8]<|sC (X2A (c:=(cI .i64)) (l:=(Z8 Y1.Me)) (j:=Y2.toNat) (i:=3) y_23 y_24)<|sE (X2z (c:=(cI .i64)) (l:=(Z8 Y1.Me)) (j:=Y2.toNat) (k:=3) y_25)<|sS (X7.frame (Z13 (((Z8 Y1.Me).getD Y2.toNat default).getD 3 default) (Zm Y1.Me ((Z8 Y1.Me).getD Y2.toNat default)) (fneg .f32 Y1.Bend) (Z1A Y1 Y2 Ya) y_26 y_27 y_28) [1,2] (R:=[.box 34 [.sl (Y1.Me.Pq.map Gv.c), .sl (Y1.Me.Tr.map (cL (cI .i64))), .sl (Y1.Sp.map Gs.c), .f .f32 Y1.Film, .f .f32 Y1.Bend, .sl (Y1.We.map (cF .f32)), .f .f32 Y1.Fall.X, .f .f32 Y1.Fall.Y, .f .f32 Y1.Fall.Z], .box 24 [.own 2], .vec 32 3 ((Z1A Y1 Y2 Ya).map Gv.c) false, .nest 60 ((Z8 Y1.Me).map fun l=>l.map (cI .i64)) false, .box 32 [.f .f32 ((Zm Y1.Me ((Z8 Y1.Me).getD Y2.toNat default)).X), .f .f32 ((Zm Y1.Me ((Z8 Y1.Me).getD Y2.toNat default)).Y), .f .f32 ((Zm Y1.Me ((Z8 Y1.Me).getD Y2.toNat default)).Z)]]) (args':=[.i .i64 (((Z8 Y1.Me).getD Y2.toNat default).getD 3 default), .agg [.f .f32 ((Zm Y1.Me ((Z8 Y1.Me).getD Y2.toNat default)).X), .f .f32 ((Zm Y1.Me ((Z8 Y1.Me).getD Y2.toNat default)).Y), .f .f32 ((Zm Y1.Me ((Z8 Y1.Me).getD Y2.toNat default)).Z)], .f .f32 (fneg .f32 Y1.Bend), .ptr 1 0 0]) rfl rfl rfl rfl rfl rfl)<|sI (Y2 + 1) y_29 y_30<|sN) (by kernel_rfl)
  | false =>
   have YH:=odf Yk
   have e:ZR Y1 (k + 1) Y2 Ya=Ya:=by simp only [ZR,Yk,cond_false]
   rw [e]
   exact outR (e:=(.exit 6)) E0Ok Ze [] Z66 [0,1,2,3] (sB Yk<|sN) (by kernel_rfl) (by intro h;cases h)
theorem Z67 (Y1:Gb):∀ (k:Nat) (Y2:Int) (Ya:(List Gv)) (hk:(((Z8 Y1.Me).length:Int) - Y2).toNat < k),(ZR Y1 k Y2 Ya).length=Ya.length:=by
  intro k
  induction k with
  | zero=>intro Y2 Ya hk;exact absurd hk (Nat.not_lt_zero _)
  | succ k ih =>
    intro Y2 Ya hk
    cases Yk:(decide (Y2 < ((Z8 Y1.Me).length:Int))) with
    | true =>
      have e:ZR Y1 (k + 1) Y2 Ya=(ZR Y1 k (Y2 + 1) (Z1B Y1 Y2 Ya)):=by simp only [ZR,Yk,cond_true]
      rw [e,ih (Y2 + 1) (Z1B Y1 Y2 Ya) (by simp_all<;>omega)]<;>simp
    | false =>
      have e:ZR Y1 (k + 1) Y2 Ya=Ya:=by simp only [ZR,Yk,cond_false]
      first | (rw [e];done) | (rw [e];rfl)
def Z1o (Y1:Gb):(List Gv):=(ZR Y1 ((((Z8 Y1.Me).length:Int) - 0).toNat + 1) 0 (Z1n Y1))
@[simp] theorem Z87 (Y1:Gb):(Z1o Y1).length=((Z1n Y1):(List Gv)).length:=Z67 Y1 ((((Z8 Y1.Me).length:Int) - 0).toNat + 1) 0 (Z1n Y1) (by exact Nat.lt_succ_self _)
def ZI (Y1:Gb):Nat→Int→(List Gv)→(List Gv)
  | 0,_,_=>default
  | k + 1,Y2,Ya=>(cond (decide (Y2 < (Y1.We.length:Int)))
    (ZI Y1 k (Y2 + 1) (Zp Y2 Y1.Fall (Y1.We.getD Y2.toNat default) Ya))
    Ya)
def Z3B (Y1:Gb) (r:(List Gv)):Ex × St:=((.exit 8),⟨.agg [.sl (Y1.Me.Pq.map Gv.c), .sl (Y1.Me.Tr.map (cL (cI .i64))), .sl (Y1.Sp.map Gs.c), .f .f32 Y1.Film, .f .f32 Y1.Bend, .sl (Y1.We.map (cF .f32)), .f .f32 Y1.Fall.X, .f .f32 Y1.Fall.Y, .f .f32 Y1.Fall.Z] :: .ptr 0 0 0 :: .nils :: .ptr 1 0 0 :: .fn 102 [.ptr 1 0 0] :: an 18 (.ptr 0 0 0 :: .ptr 0 0 0 :: .sl (Y1.Me.Pq.map Gv.c) :: .i .i64 (Y1.Me.Pq.length:Int) :: .own 2 :: .fn 102 [.ptr 1 0 0] :: .ptr 0 0 2 :: .sl (Y1.Sp.map Gs.c) :: an 25 (.ptr 0 0 0 :: .ptr 0 0 0 :: .sl (Y1.Me.Pq.map Gv.c) :: .ptr 0 0 0 :: .ptr 0 0 1 :: .sl (Y1.Me.Tr.map (cL (cI .i64))) :: an 54 (.ptr 0 0 0 :: .agg [.sl (Y1.Me.Pq.map Gv.c), .sl (Y1.Me.Tr.map (cL (cI .i64)))] :: .own 3 :: an 44 (.ptr 0 0 5 :: .sl (Y1.We.map (cF .f32)) :: an 14 [])))),[.box 34 [.sl (Y1.Me.Pq.map Gv.c), .sl (Y1.Me.Tr.map (cL (cI .i64))), .sl (Y1.Sp.map Gs.c), .f .f32 Y1.Film, .f .f32 Y1.Bend, .sl (Y1.We.map (cF .f32)), .f .f32 Y1.Fall.X, .f .f32 Y1.Fall.Y, .f .f32 Y1.Fall.Z], .box 24 [.own 2], .vec 32 3 (r.map Gv.c) false, .nest 60 ((Z8 Y1.Me).map fun l=>l.map (cI .i64)) false]⟩)
def Z6H (Y1:Gb) (Y2:Int) (Ya:(List Gv)):St:=⟨.agg [.sl (Y1.Me.Pq.map Gv.c), .sl (Y1.Me.Tr.map (cL (cI .i64))), .sl (Y1.Sp.map Gs.c), .f .f32 Y1.Film, .f .f32 Y1.Bend, .sl (Y1.We.map (cF .f32)), .f .f32 Y1.Fall.X, .f .f32 Y1.Fall.Y, .f .f32 Y1.Fall.Z] :: .ptr 0 0 0 :: .nils :: .ptr 1 0 0 :: .fn 102 [.ptr 1 0 0] :: an 18 (.ptr 0 0 0 :: .ptr 0 0 0 :: .sl (Y1.Me.Pq.map Gv.c) :: .i .i64 (Y1.Me.Pq.length:Int) :: .own 2 :: .fn 102 [.ptr 1 0 0] :: .ptr 0 0 2 :: .sl (Y1.Sp.map Gs.c) :: an 25 (.ptr 0 0 0 :: .ptr 0 0 0 :: .sl (Y1.Me.Pq.map Gv.c) :: .ptr 0 0 0 :: .ptr 0 0 1 :: .sl (Y1.Me.Tr.map (cL (cI .i64))) :: an 54 (.ptr 0 0 0 :: .agg [.sl (Y1.Me.Pq.map Gv.c), .sl (Y1.Me.Tr.map (cL (cI .i64)))] :: .own 3 :: an 44 (.ptr 0 0 5 :: .sl (Y1.We.map (cF .f32)) :: .i .i64 (Y1.We.length:Int) :: .i .i64 Y2 :: an 12 [])))),[.box 34 [.sl (Y1.Me.Pq.map Gv.c), .sl (Y1.Me.Tr.map (cL (cI .i64))), .sl (Y1.Sp.map Gs.c), .f .f32 Y1.Film, .f .f32 Y1.Bend, .sl (Y1.We.map (cF .f32)), .f .f32 Y1.Fall.X, .f .f32 Y1.Fall.Y, .f .f32 Y1.Fall.Z], .box 24 [.own 2], .vec 32 3 (Ya.map Gv.c) false, .nest 60 ((Z8 Y1.Me).map fun l=>l.map (cI .i64)) false]⟩
def Z4A:List Bool:=(mR false [0,5,18,8,25,6,54,3,44,4,12])
def Z68:List Bool:=(mR false [0,5,18,8,25,6,54,3,44,2,14])
theorem Z6I (Y1:Gb) (hp0:Y1.Me.Pq.length≤1073741824) (hp1:Y1.Me.Tr.length≤1073741824) (hp2:∀ t∈Y1.Me.Tr,t.length≤1073741824) (hp3:Y1.Sp.length≤1073741824) (hp4:Y1.We.length≤1073741824) (hp5:OkBd Y1):∀ (k:Nat) (Y2:Int) (Ya:(List Gv)) (Z34:0≤Y2) (Z4B:Ya.length=Y1.Me.Pq.length) (hk:((Y1.We.length:Int) - Y2).toNat < k),Lp prog 0 (sub (X0 f60) [1,1,1,1,1,1,1,0,1,0,0]) (Z6H Y1 Y2 Ya) (Z3B Y1 (ZI Y1 k Y2 Ya)).1 (Z3B Y1 (ZI Y1 k Y2 Ya)).2:=by
 intro k
 induction k with
 | zero=>intro Y2 Ya Z34 Z4B hk;exact absurd hk (Nat.not_lt_zero _)
 | succ k ih =>
  intro Y2 Ya Z34 Z4B hk
  cases Yk:(decide (Y2 < (Y1.We.length:Int))) with
  | true =>
   have YH:=odt Yk
   have YQ:(0:Int)≤Y2:=(by assumption)
   have YN:Y2 < (Y1.We.length:Int):=(by assumption)
   have y_2:Ya.length≤1073741824:=(by omega)
   have YR:Y2 < (Ya.length:Int):=(by have q:=hp5.w;omega)
   have y_4:(-9223372036854775808:Int)≤(Y2 + 1):=(by omega)
   have y_5:(Y2 + 1)≤(9223372036854775807:Int):=(by omega)
   have e:ZI Y1 (k + 1) Y2 Ya=(ZI Y1 k (Y2 + 1) (Zp Y2 Y1.Fall (Y1.We.getD Y2.toNat default) Ya)):=by simp only [ZI,Yk,cond_true]
   rw [e]
   exact XG E0Ok Ze [] Z4A [0,1,2,3] (ih (Y2 + 1) (Zp Y2 Y1.Fall (Y1.We.getD Y2.toNat default) Ya) (show 0≤(Y2 + 1) from (by omega)) (show (Zp Y2 Y1.Fall (Y1.We.getD Y2.toNat default) Ya).length=Y1.Me.Pq.length from (by simp_all<;>omega)) (by omega)) (sB Yk<|sG (cF .f32) Y1.We Y2 YQ YN<|sS (X7.frame (Z13 Y2 Y1.Fall (Y1.We.getD Y2.toNat default) Ya y_2 Z34 YR) [1,2] (R:=[.box 34 [.sl (Y1.Me.Pq.map Gv.c), .sl (Y1.Me.Tr.map (cL (cI .i64))), .sl (Y1.Sp.map Gs.c), .f .f32 Y1.Film, .f .f32 Y1.Bend, .sl (Y1.We.map (cF .f32)), .f .f32 Y1.Fall.X, .f .f32 Y1.Fall.Y, .f .f32 Y1.Fall.Z], .box 24 [.own 2], .vec 32 3 (Ya.map Gv.c) false, .nest 60 ((Z8 Y1.Me).map fun l=>l.map (cI .i64)) false]) (args':=[.i .i64 Y2, .agg [.f .f32 Y1.Fall.X, .f .f32 Y1.Fall.Y, .f .f32 Y1.Fall.Z], .f .f32 (Y1.We.getD Y2.toNat default), .ptr 1 0 0]) rfl rfl rfl rfl rfl rfl)<|sI (Y2 + 1) y_4 y_5<|sN) (by kernel_rfl)
  | false =>
   have YH:=odf Yk
   have e:ZI Y1 (k + 1) Y2 Ya=Ya:=by simp only [ZI,Yk,cond_false]
   rw [e]
   exact outR (e:=(.exit 8)) E0Ok Ze [] Z68 [0,1,2,3] (sB Yk<|sN) (by kernel_rfl) (by intro h;cases h)
theorem Z69 (Y1:Gb):∀ (k:Nat) (Y2:Int) (Ya:(List Gv)) (hk:((Y1.We.length:Int) - Y2).toNat < k),(ZI Y1 k Y2 Ya).length=Ya.length:=by
  intro k
  induction k with
  | zero=>intro Y2 Ya hk;exact absurd hk (Nat.not_lt_zero _)
  | succ k ih =>
    intro Y2 Ya hk
    cases Yk:(decide (Y2 < (Y1.We.length:Int))) with
    | true =>
      have e:ZI Y1 (k + 1) Y2 Ya=(ZI Y1 k (Y2 + 1) (Zp Y2 Y1.Fall (Y1.We.getD Y2.toNat default) Ya)):=by simp only [ZI,Yk,cond_true]
      rw [e,ih (Y2 + 1) (Zp Y2 Y1.Fall (Y1.We.getD Y2.toNat default) Ya) (by simp_all<;>omega)]<;>simp
    | false =>
      have e:ZI Y1 (k + 1) Y2 Ya=Ya:=by simp only [ZI,Yk,cond_false]
      first | (rw [e];done) | (rw [e];rfl)
def Z25 (Y1:Gb):(List Gv):=(ZI Y1 (((Y1.We.length:Int) - 0).toNat + 1) 0 (Z1o Y1))
@[simp] theorem Z88 (Y1:Gb):(Z25 Y1).length=((Z1o Y1):(List Gv)).length:=Z69 Y1 (((Y1.We.length:Int) - 0).toNat + 1) 0 (Z1o Y1) (by exact Nat.lt_succ_self _)
def Zu (Y1:Gb):(List Gv):=(Z25 Y1)
@[simp] theorem Z8B (Y1:Gb):(Zu Y1).length=Y1.Me.Pq.length:=by
  first | (simp [Zu];done)
theorem Z7o (Y1:Gb) (hp0:Y1.Me.Pq.length≤1073741824) (hp1:Y1.Me.Tr.length≤1073741824) (hp2:∀ t∈Y1.Me.Tr,t.length≤1073741824) (hp3:Y1.Sp.length≤1073741824) (hp4:Y1.We.length≤1073741824) (hp5:OkBd Y1)  : Fn prog 60 [.agg [.sl (Y1.Me.Pq.map Gv.c), .sl (Y1.Me.Tr.map (cL (cI .i64))), .sl (Y1.Sp.map Gs.c), .f .f32 Y1.Film, .f .f32 Y1.Bend, .sl (Y1.We.map (cF .f32)), .f .f32 Y1.Fall.X, .f .f32 Y1.Fall.Y, .f .f32 Y1.Fall.Z]] (.own 0) [.vec 32 3 ((Zu Y1).map Gv.c) false]:=by
 have y0:(0:Int)≤(Y1.Me.Pq.length:Int):=(by omega)
 have y1:((Y1.Me.Pq.length:Int):Int)≤2147483648:=(by omega)
 have y2:OkE Y1.Me.Pq.length Y1.Me.Tr:=(by exact hp5.e)
 refine fnS E0Ok Ze (c:=X0 f60) [] (.own 0) [.vec 32 3 ((Z25 Y1).map Gv.c) false] func60 (sZ Gv.c Y1.Me.Pq<|sC (show (Y1.Me.Pq.length:Int)=(Y1.Me.Pq.length:Int) from rfl)<|sC y0<|sC y1<|sZ Gs.c Y1.Sp<|sL (mR false [0,5,18,10,146]) 3 (X1e (st2:=⟨.agg [.sl (Y1.Me.Pq.map Gv.c), .sl (Y1.Me.Tr.map (cL (cI .i64))), .sl (Y1.Sp.map Gs.c), .f .f32 Y1.Film, .f .f32 Y1.Bend, .sl (Y1.We.map (cF .f32)), .f .f32 Y1.Fall.X, .f .f32 Y1.Fall.Y, .f .f32 Y1.Fall.Z] :: .ptr 0 0 0 :: .nils :: .ptr 2 0 0 :: .fn 102 [.ptr 2 0 0] :: an 18 (.ptr 0 0 0 :: .ptr 0 0 0 :: .sl (Y1.Me.Pq.map Gv.c) :: .i .i64 (Y1.Me.Pq.length:Int) :: .own 1 :: .fn 102 [.ptr 2 0 0] :: .ptr 0 0 2 :: .sl (Y1.Sp.map Gs.c) :: .i .i64 (Y1.Sp.length:Int) :: .i .i64 0 :: an 146 []),[.box 34 [.sl (Y1.Me.Pq.map Gv.c), .sl (Y1.Me.Tr.map (cL (cI .i64))), .sl (Y1.Sp.map Gs.c), .f .f32 Y1.Film, .f .f32 Y1.Bend, .sl (Y1.We.map (cF .f32)), .f .f32 Y1.Fall.X, .f .f32 Y1.Fall.Y, .f .f32 Y1.Fall.Z], .vec 32 3 (List.replicate (Int.toNat (Y1.Me.Pq.length:Int)) [.f .f32 0, .f .f32 0, .f .f32 0]) false, .box 24 [.own 1]]⟩) (X9 (Z3w Y1) (x:=(Z1k Y1)) (Z6y Y1 hp0 hp1 hp2 hp3 hp4 hp5 (((Y1.Sp.length:Int) - 0).toNat + 1) 0 (List.replicate (Y1.Me.Pq.length:Int).toNat (⟨0,0,0⟩:Gv)) (show 0≤0 from (by omega)) (show (List.replicate (Y1.Me.Pq.length:Int).toNat (⟨0,0,0⟩:Gv)).length=Y1.Me.Pq.length from (by simp;done)) (Nat.lt_succ_self _)) rfl) (by simp [Z5g,Gv.c]))<|sZ (cL (cI .i64)) Y1.Me.Tr<|sL Z33 3 (X9 (Z3z Y1) (x:=(Z1n Y1)) (Z6E Y1 hp0 hp1 hp2 hp3 hp4 hp5 (((Y1.Me.Tr.length:Int) - 0).toNat + 1) 0 (Z1k Y1) (show 0≤0 from (by omega)) (show (Z1k Y1).length=Y1.Me.Pq.length from (by simp;done)) (Nat.lt_succ_self _)) rfl)<|sF (Z5M Y1.Me hp0 hp1 hp2 y2)<|sM (X5o (l:=(Z8 Y1.Me)) (f:=fun l=>l.map (cI .i64)))<|sL Z4x 4 (X9 (Z3A Y1) (x:=(Z1o Y1)) (Z6G Y1 hp0 hp1 hp2 hp3 hp4 hp5 ((((Z8 Y1.Me).length:Int) - 0).toNat + 1) 0 (Z1n Y1) (show 0≤0 from (by omega)) (show (Z1n Y1).length=Y1.Me.Pq.length from (by simp;done)) (Nat.lt_succ_self _)) rfl)<|sZ (cF .f32) Y1.We<|sL Z4A 4 (X9 (Z3B Y1) (x:=(Z25 Y1)) (Z6I Y1 hp0 hp1 hp2 hp3 hp4 hp5 (((Y1.We.length:Int) - 0).toNat + 1) 0 (Z1o Y1) (show 0≤0 from (by omega)) (show (Z1o Y1).length=Y1.Me.Pq.length from (by simp;done)) (Nat.lt_succ_self _)) rfl)<|sK [2] sN) rfl (by kernel_rfl) (by kernel_rfl) rfl ?_ ?_
 · rfl
 · simp [Zu]
def Zb (Y6:Gb):(List Gv) × Bool:=(cond (ZB Y6)
  ((Zu Y6),true)
  (([]:List Gv),false))
theorem Z6a (Y6:Gb):(Zb Y6).1.length≤Y6.Me.Pq.length:=by
  cases h0:(ZB Y6) with
  | true =>
    first | (simp [Zb,h0];done)
  | false =>
    first | (simp [Zb,h0];done)
theorem Z7p (Y6:Gb) (hp0:Y6.Me.Pq.length≤1073741824) (hp1:Y6.Me.Tr.length≤1073741824) (hp2:∀ t∈Y6.Me.Tr,t.length≤1073741824) (hp3:Y6.Sp.length≤1073741824) (hp4:Y6.We.length≤1073741824)  : Fn prog 10 [.agg [.sl (Y6.Me.Pq.map Gv.c), .sl (Y6.Me.Tr.map (cL (cI .i64))), .sl (Y6.Sp.map Gs.c), .f .f32 Y6.Film, .f .f32 Y6.Bend, .sl (Y6.We.map (cF .f32)), .f .f32 Y6.Fall.X, .f .f32 Y6.Fall.Y, .f .f32 Y6.Fall.Z]] (.tup [.own 0, .b ((Zb Y6).2)]) [.vec 32 3 (((Zb Y6).1).map Gv.c) false]:=by
 have p {a C} (s:Scr a C):=sF (Z41 Y6 hp0 hp1 hp2 hp3 hp4)<|s
 cases h0:(ZB Y6) with
 | true =>
  have y0:OkBd Y6:=by clear p;exact (by exact Z7R _ (by assumption))
  refine fnS E0Ok Ze (c:=X0 f10) [] (.tup [.own 0, .b true]) [.vec 32 3 ((Zu Y6).map Gv.c) false] func10 (p (sB' h0<|sF (Z7o Y6 hp0 hp1 hp2 hp3 hp4 y0)<|sK [1] sN)) rfl (by kernel_rfl) (by kernel_rfl) rfl ?_ ?_
  · simp only [Zb,h0,cond_true]
  · simp [Zb,h0]
 | false =>
  refine fnS E0Ok Ze (c:=X0 f10) [(.tm 2, .vec 32 3 [] false)] (.tup [.own 0, .b false]) [.vec 32 3 [] false] func10 (p (sB' h0<|sK [1] sN)) rfl (by kernel_rfl) (by kernel_rfl) rfl ?_ ?_
  · simp only [Zb,h0,cond_false]
  · simp [Zb,h0,Gv.c]
def Z1J (Yi:(List Gv)):Nat→Int→Nat→Nat→Nat→Nat × Nat × Nat
  | 0,_,_,_,_=>default
  | k + 1,Y2,Y3,Y7,YK=>(cond (decide (Y2 < (Yi.length:Int)))
    (Z1J Yi k (Y2 + 1) ((Zj (⟨Y3,Y7,YK⟩:Gv) (Yi.getD Y2.toNat default)).X) ((Zj (⟨Y3,Y7,YK⟩:Gv) (Yi.getD Y2.toNat default)).Y) ((Zj (⟨Y3,Y7,YK⟩:Gv) (Yi.getD Y2.toNat default)).Z))
    (Y3,Y7,YK))
def Z4C (Yi:(List Gv)) (r:Nat × Nat × Nat):Ex × St:=((.exit 0),⟨.sl (Yi.map Gv.c) :: .any :: .ptr 0 0 0 :: .ptr 1 0 0 :: .any :: .any :: .agg [.f .f32 0, .f .f32 0, .f .f32 0] :: .sl (Yi.map Gv.c) :: an 10 [],[.box 32 [.f .f32 0, .f .f32 0, .f .f32 0], .box 32 [.f .f32 r.1, .f .f32 r.2.1, .f .f32 r.2.2]]⟩)
def Z7q (Yi:(List Gv)) (Y2:Int) (Y3:Nat) (Y7:Nat) (YK:Nat):St:=⟨.sl (Yi.map Gv.c) :: .any :: .ptr 0 0 0 :: .ptr 1 0 0 :: .any :: .any :: .agg [.f .f32 0, .f .f32 0, .f .f32 0] :: .sl (Yi.map Gv.c) :: .i .i64 (Yi.length:Int) :: .i .i64 Y2 :: an 8 [],[.box 32 [.f .f32 0, .f .f32 0, .f .f32 0], .box 32 [.f .f32 Y3, .f .f32 Y7, .f .f32 YK]]⟩
theorem Z7r (Yi:(List Gv)) (hp0:Yi.length≤1073741824):∀ (k:Nat) (Y2:Int) (Y3:Nat) (Y7:Nat) (YK:Nat) (Z5q:0≤Y2) (hk:((Yi.length:Int) - Y2).toNat < k),Lp prog 0 (sub (X0 f63) [1,1,0,1,0,0]) (Z7q Yi Y2 Y3 Y7 YK) (Z4C Yi (Z1J Yi k Y2 Y3 Y7 YK)).1 (Z4C Yi (Z1J Yi k Y2 Y3 Y7 YK)).2:=by
 intro k
 induction k with
 | zero=>intro Y2 Y3 Y7 YK Z5q hk;exact absurd hk (Nat.not_lt_zero _)
 | succ k ih =>
  intro Y2 Y3 Y7 YK Z5q hk
  cases Yk:(decide (Y2 < (Yi.length:Int))) with
  | true =>
   have YH:=odt Yk
   have YQ:(0:Int)≤Y2:=(by assumption)
   have YN:Y2 < (Yi.length:Int):=(by assumption)
   have y_2:(-9223372036854775808:Int)≤(Y2 + 1):=(by omega)
   have YR:(Y2 + 1)≤(9223372036854775807:Int):=(by omega)
   have e:Z1J Yi (k + 1) Y2 Y3 Y7 YK=(Z1J Yi k (Y2 + 1) ((Zj (⟨Y3,Y7,YK⟩:Gv) (Yi.getD Y2.toNat default)).X) ((Zj (⟨Y3,Y7,YK⟩:Gv) (Yi.getD Y2.toNat default)).Y) ((Zj (⟨Y3,Y7,YK⟩:Gv) (Yi.getD Y2.toNat default)).Z)):=by simp only [Z1J,Yk,cond_true]
   rw [e]
   exact XG E0Ok Ze [] (mR false [0,1,1,2,2,4,8]) [0,1] (ih (Y2 + 1) ((Zj (⟨Y3,Y7,YK⟩:Gv) (Yi.getD Y2.toNat default)).X) ((Zj (⟨Y3,Y7,YK⟩:Gv) (Yi.getD Y2.toNat default)).Y) ((Zj (⟨Y3,Y7,YK⟩:Gv) (Yi.getD Y2.toNat default)).Z) (show 0≤(Y2 + 1) from (by omega)) (by omega)) (sB Yk<|sG Gv.c Yi Y2 YQ YN<|sF (Z2V (⟨Y3,Y7,YK⟩:Gv) (Yi.getD Y2.toNat default))<|sI (Y2 + 1) y_2 YR<|sN) (by kernel_rfl)
  | false =>
   have YH:=odf Yk
   have e:Z1J Yi (k + 1) Y2 Y3 Y7 YK=(Y3,Y7,YK):=by simp only [Z1J,Yk,cond_false]
   rw [e]
   exact outR (e:=(.exit 0)) E0Ok Ze [] (mR false [0,1,1,2,2,2,10]) [0,1] (sB Yk<|sN) (by kernel_rfl) (by intro h;cases h)
def Z1X (Yi:(List Gv)):Nat × Nat × Nat:=(Z1J Yi (((Yi.length:Int) - 0).toNat + 1) 0 0 0 0)
def Z1x (Yi:(List Gv)):Gv:=(⟨(Z1X Yi).1,(Z1X Yi).2.1,(Z1X Yi).2.2⟩:Gv)
theorem Z8f (Yi:(List Gv)) (hp0:Yi.length≤1073741824)  : Fn prog 63 [.sl (Yi.map Gv.c)] (.agg [.f .f32 ((Z1x Yi).X), .f .f32 ((Z1x Yi).Y), .f .f32 ((Z1x Yi).Z)]) []:=by
 refine fnS E0Ok Ze (c:=X0 f63) [] (.agg [.f .f32 ((Z1X Yi).1), .f .f32 ((Z1X Yi).2.1), .f .f32 ((Z1X Yi).2.2)]) [] func63 (sZ Gv.c Yi<|sL (mR false [0,1,1,2,2,4,8]) 2 (X9 (Z4C Yi) (x:=(Z1X Yi)) (Z7r Yi hp0 (((Yi.length:Int) - 0).toNat + 1) 0 0 0 0 (show 0≤0 from (by omega)) (Nat.lt_succ_self _)) rfl)<|sK [] sN) rfl (by kernel_rfl) (by kernel_rfl) rfl ?_ ?_
 · rfl
 · rfl
def Z11 (Yi:(List Gv)):Gv × Bool:=(cond (decide ((Yi.length:Int) > 256))
  ((⟨0,0,0⟩:Gv),false)
  ((Z1x Yi),true))
theorem Z7J (Yi:(List Gv)) (hp0:Yi.length≤1073741824)  : Fn prog 12 [.sl (Yi.map Gv.c)] (.tup [.agg [.f .f32 ((Z11 Yi).1.X), .f .f32 ((Z11 Yi).1.Y), .f .f32 ((Z11 Yi).1.Z)], .b ((Z11 Yi).2)]) []:=by
 have p {a C} (s:Scr a C):=sZ Gv.c Yi<|s
 cases h0:(decide ((Yi.length:Int) > 256)) with
 | true =>
  have gh0:=odt h0
  refine fnS E0Ok Ze (c:=X0 f12) [] (.tup [.agg [.f .f32 0, .f .f32 0, .f .f32 0], .b false]) [] func12 (p (sB h0<|sK [] sN)) rfl (by kernel_rfl) (by kernel_rfl) rfl ?_ ?_
  · simp only [Z11,h0,cond_true]
  · rfl
 | false =>
  have gh0:=odf h0
  refine fnS E0Ok Ze (c:=X0 f12) [] (.tup [.agg [.f .f32 ((Z1x Yi).X), .f .f32 ((Z1x Yi).Y), .f .f32 ((Z1x Yi).Z)], .b true]) [] func12 (p (sB h0<|sF (Z8f Yi hp0)<|sK [] sN)) rfl (by kernel_rfl) (by kernel_rfl) rfl ?_ ?_
  · simp only [Z11,h0,cond_false]
  · rfl
def Z3g (Yw:Gv) (Yx:Gv):Nat:=(fop .add .f32 (fop .add .f32 (fop .mul .f32 Yw.X Yx.X) (fop .mul .f32 Yw.Y Yx.Y)) (fop .mul .f32 Yw.Z Yx.Z))
theorem Z7s (Yw:Gv) (Yx:Gv)   : Fn prog 106 [.agg [.f .f32 Yw.X, .f .f32 Yw.Y, .f .f32 Yw.Z], .agg [.f .f32 Yx.X, .f .f32 Yx.Y, .f .f32 Yx.Z]] (.f .f32 (Z3g Yw Yx)) []:=by
 refine fnS E0Ok Ze (c:=X0 f106) [] (.f .f32 (fop .add .f32 (fop .add .f32 (fop .mul .f32 Yw.X Yx.X) (fop .mul .f32 Yw.Y Yx.Y)) (fop .mul .f32 Yw.Z Yx.Z))) [] func106 (sK [] sN) rfl (by kernel_rfl) (by kernel_rfl) rfl ?_ ?_
 · rfl
 · rfl
def Z42 (YL:Nat):Nat:=(fcv .f64 .f32 YL)
theorem Z7b (YL:Nat) (hp0:X1Q .f64 .f32 YL=true)  : Fn prog 123 [.f .f64 YL] (.f .f32 (Z42 YL)) []:=by
 refine fnS E0Ok Ze (c:=X0 f123) [] (.f .f32 (fcv .f64 .f32 YL)) [] func123 (sC hp0<|sK [] sN) rfl (by kernel_rfl) (by kernel_rfl) rfl ?_ ?_
 · rfl
 · rfl
def Z53 (YL:Nat):Nat:=(Z42 (Z2E (fcv .f32 .f64 YL)))
theorem Z7K (YL:Nat)   : Fn prog 105 [.f .f32 YL] (.f .f32 (Z53 YL)) []:=by
 have y0:X1Q .f64 .f32 (Z2E (fcv .f32 .f64 YL))=true:=(X4l _)
 refine fnS E0Ok Ze (c:=X0 f105) [] (.f .f32 (Z42 (Z2E (fcv .f32 .f64 YL)))) [] func105 (sC (X1N YL)<|sF (Z72 (fcv .f32 .f64 YL))<|sF (Z7b (Z2E (fcv .f32 .f64 YL)) y0)<|sK [] sN) rfl (by kernel_rfl) (by kernel_rfl) rfl ?_ ?_
 · rfl
 · rfl
def Z54 (YP:Gv):Nat:=(Z53 (Z3g YP YP))
theorem Z7L (YP:Gv)   : Fn prog 64 [.agg [.f .f32 YP.X, .f .f32 YP.Y, .f .f32 YP.Z]] (.f .f32 (Z54 YP)) []:=by
 refine fnS E0Ok Ze (c:=X0 f64) [] (.f .f32 (Z53 (Z3g YP YP))) [] func64 (sF (Z7s YP YP)<|sF (Z7K (Z3g YP YP))<|sK [] sN) rfl (by kernel_rfl) (by kernel_rfl) rfl ?_ ?_
 · rfl
 · rfl
def Z39 (YP:Gv):Nat:=(Z54 YP)
theorem Z89 (YP:Gv)   : Fn prog 13 [.agg [.f .f32 YP.X, .f .f32 YP.Y, .f .f32 YP.Z]] (.f .f32 (Z39 YP)) []:=by
 refine fnS E0Ok Ze (c:=X0 f13) [] (.f .f32 (Z54 YP)) [] func13 (sF (Z7L YP)<|sK [] sN) rfl (by kernel_rfl) (by kernel_rfl) rfl ?_ ?_
 · rfl
 · rfl
def Zh (Y0:(List Int)) (i_1:Int) (n_2:Int):Int:=(cond (decide (n_2≤1))
  0
  (cond (decide (i_1 < (Y0.length:Int)))
    (Int.tmod (IntKind.wrap .i64 (Y0.getD i_1.toNat default)) n_2)
    (Int.tmod (IntKind.wrap .i64 ((IntKind.wrap .i64 (i_1 * 37)) + 11)) n_2)))
theorem Z8g (Y0:(List Int)) (i_1:Int) (n_2:Int) (hp0:Y0.length≤1073741824) (hp1:(0:Int)≤i_1)  : Fn prog 14 [.sl (Y0.map (cI .u8)), .i .i64 i_1, .i .i64 n_2] (.i .i64 (Zh Y0 i_1 n_2)) []:=by
 cases h0:(decide (n_2≤1)) with
 | true =>
  have gh0:=odt h0
  refine fnS E0Ok Ze (c:=X0 f14) [] (.i .i64 0) [] func14 (sB h0<|sK [] sN) rfl (by kernel_rfl) (by kernel_rfl) rfl ?_ ?_
  · simp only [Zh,h0,cond_true]
  · rfl
 | false =>
  have gh0:=odf h0
  have p {a C} (s:Scr a C):=sB h0<|sZ (cI .u8) Y0<|s
  cases h1:(decide (i_1 < (Y0.length:Int))) with
  | true =>
   have gh1:=odt h1
   have y0:i_1 < (Y0.length:Int):=by clear p;exact (by assumption)
   have y1:n_2≠0:=by clear p;exact (by omega)
   refine fnS E0Ok Ze (c:=X0 f14) [] (.i .i64 (Int.tmod (IntKind.wrap .i64 (Y0.getD i_1.toNat default)) n_2)) [] func14 (p (sB h1<|sG (cI .u8) Y0 i_1 hp1 y0<|sW .i64 (Y0.getD i_1.toNat default)<|sC y1<|sQ (Int.tmod (IntKind.wrap .i64 (Y0.getD i_1.toNat default)) n_2)<|sK [] sN)) rfl (by kernel_rfl) (by kernel_rfl) rfl ?_ ?_
   · simp only [Zh,h0,h1,cond_true,cond_false]
   · rfl
  | false =>
   have gh1:=odf h1
   have y0:n_2≠0:=by clear p;exact (by omega)
   refine fnS E0Ok Ze (c:=X0 f14) [] (.i .i64 (Int.tmod (IntKind.wrap .i64 ((IntKind.wrap .i64 (i_1 * 37)) + 11)) n_2)) [] func14 (p (sB h1<|sW .i64 (i_1 * 37)<|sW .i64 ((IntKind.wrap .i64 (i_1 * 37)) + 11)<|sC y0<|sQ (Int.tmod (IntKind.wrap .i64 ((IntKind.wrap .i64 (i_1 * 37)) + 11)) n_2)<|sK [] sN)) rfl (by kernel_rfl) (by kernel_rfl) rfl ?_ ?_
   · simp only [Zh,h0,h1,cond_false]
   · rfl
def Z4D (YL:Nat):Bool:=(fcmp .eql .f32 (fop .sub .f32 YL YL) 0)
theorem Z7t (YL:Nat)   : Fn prog 74 [.f .f32 YL] (.b (Z4D YL)) []:=by
 refine fnS E0Ok Ze (c:=X0 f74) [] (.b (fcmp .eql .f32 (fop .sub .f32 YL YL) 0)) [] func74 (sK [] sN) rfl (by kernel_rfl) (by kernel_rfl) rfl ?_ ?_
 · rfl
 · rfl
def Z2t (YL:Nat):Bool:=(cond (Z4D YL)
  (fcmp .gtr .f32 YL 0)
  false)
theorem Z8a (YL:Nat)   : Fn prog 65 [.f .f32 YL] (.b (Z2t YL)) []:=by
 have p {a C} (s:Scr a C):=sF (Z7t YL)<|s
 cases h0:(Z4D YL) with
 | true =>
  refine fnS E0Ok Ze (c:=X0 f65) [] (.b (fcmp .gtr .f32 YL 0)) [] func65 (p (sB h0<|sB h0<|sB h0<|sK [] sN)) rfl (by kernel_rfl) (by kernel_rfl) rfl ?_ ?_
  · simp only [Z2t,h0,cond_true]
  · rfl
 | false =>
  refine fnS E0Ok Ze (c:=X0 f65) [] (.b false) [] func65 (p (sB h0<|sB h0<|sB h0<|sK [] sN)) rfl (by kernel_rfl) (by kernel_rfl) rfl ?_ ?_
  · simp only [Z2t,h0,cond_false]
  · rfl
def Z1q (Y4:Gm):Nat→Int→(List (List Int))→(List (List Int))
  | 0,_,_=>default
  | k + 1,Y2,YM=>(cond (decide (Y2 < (Y4.Tr.length:Int)))
    (Z1q Y4 k (Y2 + 1) (YM ++ [(([]:List Int) ++ (Y4.Tr.getD Y2.toNat default))]))
    YM)
def Z3C (Y4:Gm) (r:(List (List Int))):Ex × St:=((.exit 0),⟨.agg [.sl (Y4.Pq.map Gv.c), .sl (Y4.Tr.map (cL (cI .i64)))] :: .ptr 0 0 0 :: .ptr 1 0 0 :: .ptr 2 0 0 :: .any :: .any :: .any :: .ptr 0 0 0 :: .sl (Y4.Pq.map Gv.c) :: .own 3 :: .agg [.own 3, .nils] :: .ptr 0 0 1 :: .sl (Y4.Tr.map (cL (cI .i64))) :: an 15 [],[.box 27 [.sl (Y4.Pq.map Gv.c), .sl (Y4.Tr.map (cL (cI .i64)))], .box 27 [.nils, .nils], .box 27 [.own 3, .own 4], .vec 32 3 (([]:List (List AV)) ++ (Y4.Pq.map Gv.c)) false, .nest 60 (r.map fun l=>l.map (cI .i64)) false]⟩)
def Z3D (Y4:Gm) (Y2:Int) (YM:(List (List Int))):St:=⟨.agg [.sl (Y4.Pq.map Gv.c), .sl (Y4.Tr.map (cL (cI .i64)))] :: .ptr 0 0 0 :: .ptr 1 0 0 :: .ptr 3 0 0 :: .any :: .any :: .any :: .ptr 0 0 0 :: .sl (Y4.Pq.map Gv.c) :: .own 2 :: .agg [.own 2, .nils] :: .ptr 0 0 1 :: .sl (Y4.Tr.map (cL (cI .i64))) :: .i .i64 (Y4.Tr.length:Int) :: .i .i64 Y2 :: an 13 [],[.box 27 [.sl (Y4.Pq.map Gv.c), .sl (Y4.Tr.map (cL (cI .i64)))], .box 27 [.nils, .nils], .vec 32 3 (([]:List (List AV)) ++ (Y4.Pq.map Gv.c)) false, .box 27 [.own 2, .own 4], .nest 60 (YM.map fun l=>l.map (cI .i64)) false]⟩
theorem Z6J (Y4:Gm) (hp0:Y4.Pq.length≤1073741824) (hp1:Y4.Tr.length≤1073741824) (hp2:∀ t∈Y4.Tr,t.length≤1073741824) (hp3:XP Y4.Pq.length Y4.Tr):∀ (k:Nat) (Y2:Int) (YM:(List (List Int))) (Z35:0≤Y2) (Z4E:(YM.length:Int)=Y2) (hk:((Y4.Tr.length:Int) - Y2).toNat < k),Lp prog 0 (sub (X0 f91) [1,1,0,1,0,0]) (Z3D Y4 Y2 YM) (Z3C Y4 (Z1q Y4 k Y2 YM)).1 (Z3C Y4 (Z1q Y4 k Y2 YM)).2:=by
 intro k
 induction k with
 | zero=>intro Y2 YM Z35 Z4E hk;exact absurd hk (Nat.not_lt_zero _)
 | succ k ih =>
  intro Y2 YM Z35 Z4E hk
  cases Yk:(decide (Y2 < (Y4.Tr.length:Int))) with
  | true =>
   have YH:=odt Yk
   have YQ:(0:Int)≤Y2:=(by assumption)
   have YN:Y2 < (Y4.Tr.length:Int):=(by assumption)
   have y_2:([]:List Int).length + (Y4.Tr.getD Y2.toNat default).length≤1073741824:=(by simp_all<;>omega)
   have YR:YM.length + [(([]:List Int) ++ (Y4.Tr.getD Y2.toNat default))].length≤1073741824:=(by simp_all<;>omega)
   have y_4:(-9223372036854775808:Int)≤(Y2 + 1):=(by omega)
   have y_5:(Y2 + 1)≤(9223372036854775807:Int):=(by omega)
   have e:Z1q Y4 (k + 1) Y2 YM=(Z1q Y4 k (Y2 + 1) (YM ++ [(([]:List Int) ++ (Y4.Tr.getD Y2.toNat default))])):=by simp only [Z1q,Yk,cond_true]
   rw [e]
   exact X14 E0Ok Ze [] (mR false [0,4,3,8,13]) [0,1,2,3,4] (⟨.agg [.sl (Y4.Pq.map Gv.c), .sl (Y4.Tr.map (cL (cI .i64)))] :: .ptr 0 0 0 :: .ptr 1 0 0 :: .ptr 3 0 0 :: .any :: .any :: .any :: .ptr 0 0 0 :: .sl (Y4.Pq.map Gv.c) :: .own 2 :: .agg [.own 2, .nils] :: .ptr 0 0 1 :: .sl (Y4.Tr.map (cL (cI .i64))) :: .i .i64 (Y4.Tr.length:Int) :: .i .i64 (Y2 + 1) :: an 13 [],[.box 27 [.sl (Y4.Pq.map Gv.c), .sl (Y4.Tr.map (cL (cI .i64)))], .box 27 [.nils, .nils], .vec 32 3 (([]:List (List AV)) ++ (Y4.Pq.map Gv.c)) false, .box 27 [.own 2, .own 4], .nest 60 ((YM.map fun l=>l.map (cI .i64)) ++ [(([]:List (List AV)) ++ ((Y4.Tr.getD Y2.toNat default).map (cI .i64)))]) false]⟩) (sB Yk<|sG (cL (cI .i64)) Y4.Tr Y2 YQ YN<|sK [6,6]<|sC (show ((Y4.Tr.getD Y2.toNat default).map (cI .i64))≠[] from (by have q:=(XP.at hp3 Z35 (odt (by assumption))).1;have q2:(Y4.Tr.getD Y2.toNat default)≠[]:=(by intro hq;rw [hq] at q;simp at q);simpa using q2))<|sC (show ([]:List (List AV)).length + ((Y4.Tr.getD Y2.toNat default).map (cI .i64)).length≤1073741824 from (by simpa using y_2))<|sC (show ((Y4.Tr.getD Y2.toNat default).map (cI .i64)).all (fun cs=>cs.length == 1 && cs.all isS)=true from (X3g (fun _=>rfl)))<|sC (show (YM.map fun l=>l.map (cI .i64)).length + [(([]:List (List AV)) ++ ((Y4.Tr.getD Y2.toNat default).map (cI .i64)))].length≤1073741824 from (by simpa using YR))<|sI (Y2 + 1) y_4 y_5<|sN) (by kernel_rfl) (by simp [Z3D,Gv.c,cL,cI]) (ih (Y2 + 1) (YM ++ [(([]:List Int) ++ (Y4.Tr.getD Y2.toNat default))]) (show 0≤(Y2 + 1) from (by omega)) (show ((YM ++ [(([]:List Int) ++ (Y4.Tr.getD Y2.toNat default))]).length:Int)=(Y2 + 1) from (by simp_all<;>omega)) (by omega))
  | false =>
   have YH:=odf Yk
   have e:Z1q Y4 (k + 1) Y2 YM=YM:=by simp only [Z1q,Yk,cond_false]
   rw [e]
   exact outR (e:=(.exit 0)) E0Ok Ze [] (mR false [0,4,3,6,15]) [0,1,3,2,4] (sB Yk<|sN) (by kernel_rfl) (by intro h;cases h)
def Z2D (Y4:Gm):(List (List Int)):=(Z1q Y4 (((Y4.Tr.length:Int) - 0).toNat + 1) 0 ([]:List (List Int)))
def Z2R (Y4:Gm):Gm:=(⟨(([]:List Gv) ++ Y4.Pq),(Z2D Y4)⟩:Gm)
theorem Z7u (Y4:Gm) (hp0:Y4.Pq.length≤1073741824) (hp1:Y4.Tr.length≤1073741824) (hp2:∀ t∈Y4.Tr,t.length≤1073741824) (hp3:XP Y4.Pq.length Y4.Tr)  : Fn prog 91 [.agg [.sl (Y4.Pq.map Gv.c), .sl (Y4.Tr.map (cL (cI .i64)))]] (.agg [.own 0, .own 1]) [.vec 32 3 (((Z2R Y4).Pq).map Gv.c) false, .nest 60 (((Z2R Y4).Tr).map fun l=>l.map (cI .i64)) false]:=by
 have y0:([]:List Gv).length + Y4.Pq.length≤1073741824:=(by simp_all<;>omega)
 refine fnS E0Ok Ze (c:=X0 f91) [] (.agg [.own 0, .own 1]) [.vec 32 3 (([]:List (List AV)) ++ (Y4.Pq.map Gv.c)) false, .nest 60 ((Z2D Y4).map fun l=>l.map (cI .i64)) false] func91 (sC (show ([]:List (List AV)).length + (Y4.Pq.map Gv.c).length≤1073741824 from (by simpa using y0))<|sC (show (Y4.Pq.map Gv.c).all (fun cs=>cs.length == 3 && cs.all isS)=true from (X3g (fun _=>rfl)))<|sZ (cL (cI .i64)) Y4.Tr<|sL (mR false [0,4,3,8,13]) 4 (Lp.nil (st:=⟨.agg [.sl (Y4.Pq.map Gv.c), .sl (Y4.Tr.map (cL (cI .i64)))] :: .ptr 0 0 0 :: .ptr 1 0 0 :: .ptr 3 0 0 :: .any :: .any :: .any :: .ptr 0 0 0 :: .sl (Y4.Pq.map Gv.c) :: .own 2 :: .agg [.own 2, .nils] :: .ptr 0 0 1 :: .sl (Y4.Tr.map (cL (cI .i64))) :: .i .i64 (Y4.Tr.length:Int) :: .i .i64 0 :: an 13 [],[.box 27 [.sl (Y4.Pq.map Gv.c), .sl (Y4.Tr.map (cL (cI .i64)))], .box 27 [.nils, .nils], .vec 32 3 (([]:List (List AV)) ++ (Y4.Pq.map Gv.c)) false, .box 27 [.own 2, .nils]]⟩) (st2:=⟨.agg [.sl (Y4.Pq.map Gv.c), .sl (Y4.Tr.map (cL (cI .i64)))] :: .ptr 0 0 0 :: .ptr 1 0 0 :: .ptr 3 0 0 :: .any :: .any :: .any :: .ptr 0 0 0 :: .sl (Y4.Pq.map Gv.c) :: .own 2 :: .agg [.own 2, .nils] :: .ptr 0 0 1 :: .sl (Y4.Tr.map (cL (cI .i64))) :: .i .i64 (Y4.Tr.length:Int) :: .i .i64 0 :: an 13 [],[.box 27 [.sl (Y4.Pq.map Gv.c), .sl (Y4.Tr.map (cL (cI .i64)))], .box 27 [.nils, .nils], .vec 32 3 (([]:List (List AV)) ++ (Y4.Pq.map Gv.c)) false, .box 27 [.own 2, .own 4], .nest 60 [] false]⟩) (ps:=[(.row 3 1, .nest 60 [] false)]) rfl (X1e (st2:=⟨.agg [.sl (Y4.Pq.map Gv.c), .sl (Y4.Tr.map (cL (cI .i64)))] :: .ptr 0 0 0 :: .ptr 1 0 0 :: .ptr 3 0 0 :: .any :: .any :: .any :: .ptr 0 0 0 :: .sl (Y4.Pq.map Gv.c) :: .own 2 :: .agg [.own 2, .nils] :: .ptr 0 0 1 :: .sl (Y4.Tr.map (cL (cI .i64))) :: .i .i64 (Y4.Tr.length:Int) :: .i .i64 0 :: an 13 [],[.box 27 [.sl (Y4.Pq.map Gv.c), .sl (Y4.Tr.map (cL (cI .i64)))], .box 27 [.nils, .nils], .vec 32 3 (([]:List (List AV)) ++ (Y4.Pq.map Gv.c)) false, .box 27 [.own 2, .own 4], .nest 60 [] false]⟩) (X9 (Z3C Y4) (x:=(Z2D Y4)) (Z6J Y4 hp0 hp1 hp2 hp3 (((Y4.Tr.length:Int) - 0).toNat + 1) 0 ([]:List (List Int)) (show 0≤0 from (by omega)) (show (([]:List (List Int)).length:Int)=0 from (by simp)) (Nat.lt_succ_self _)) rfl) (by simp [Z3D,Gv.c,cL,cI])))<|sK [3,4] sN) rfl (by kernel_rfl) (by kernel_rfl) rfl ?_ ?_
 · rfl
 · simp [Z2R,Gv.c]
@[simp] theorem Z8r (m:Gm):Z2R m=m:=by
  unfold Z2R Z2D
  rw [X79 (f:=fun i=>(m.Tr.getD i.toNat default)) (n:=(m.Tr.length:Int)) (lo:=Z1q m) (fun k i r=>rfl) _ _ _ (Nat.lt_succ_self _)]
  simp [X4m]
theorem Z7v (Y4:Gm) (hp0:Y4.Pq.length≤1073741824) (hp1:Y4.Tr.length≤1073741824) (hp2:∀ t∈Y4.Tr,t.length≤1073741824) (hp3:XP Y4.Pq.length Y4.Tr):Fn prog 91 [.agg [.sl (Y4.Pq.map Gv.c), .sl (Y4.Tr.map (cL (cI .i64)))]] (.agg [.own 0, .own 1]) [.vec 32 3 (Y4.Pq.map Gv.c) false, .nest 60 (Y4.Tr.map fun l=>l.map (cI .i64)) false]:=by
 simpa only [Z8r] using Z7u  Y4 hp0 hp1 hp2 hp3
def Z1r (Y6:Gb):Gb:=(⟨Y6.Me,(([]:List Gs) ++ Y6.Sp),Y6.Film,Y6.Bend,(([]:List Nat) ++ Y6.We),Y6.Fall⟩:Gb)
theorem Z7w (Y6:Gb) (hp0:Y6.Me.Pq.length≤1073741824) (hp1:Y6.Me.Tr.length≤1073741824) (hp2:∀ t∈Y6.Me.Tr,t.length≤1073741824) (hp3:Y6.Sp.length≤1073741824) (hp4:Y6.We.length≤1073741824) (hp5:XP Y6.Me.Pq.length Y6.Me.Tr)  : Fn prog 107 [.agg [.sl (Y6.Me.Pq.map Gv.c), .sl (Y6.Me.Tr.map (cL (cI .i64))), .sl (Y6.Sp.map Gs.c), .f .f32 Y6.Film, .f .f32 Y6.Bend, .sl (Y6.We.map (cF .f32)), .f .f32 Y6.Fall.X, .f .f32 Y6.Fall.Y, .f .f32 Y6.Fall.Z]] (.agg [.own 0, .own 1, .own 2, .f .f32 ((Z1r Y6).Film), .f .f32 ((Z1r Y6).Bend), .own 3, .f .f32 ((Z1r Y6).Fall.X), .f .f32 ((Z1r Y6).Fall.Y), .f .f32 ((Z1r Y6).Fall.Z)]) [.vec 32 3 (((Z1r Y6).Me.Pq).map Gv.c) false, .nest 60 (((Z1r Y6).Me.Tr).map fun l=>l.map (cI .i64)) false, .vec 76 4 (((Z1r Y6).Sp).map Gs.c) false, .vec 29 1 (((Z1r Y6).We).map (cF .f32)) false]:=by
 have y0:([]:List Gs).length + Y6.Sp.length≤1073741824:=(by simp_all<;>omega)
 have y1:([]:List Nat).length + Y6.We.length≤1073741824:=(by simp_all<;>omega)
 refine fnS E0Ok Ze (c:=X0 f107) [] (.agg [.own 0, .own 1, .own 2, .f .f32 Y6.Film, .f .f32 Y6.Bend, .own 3, .f .f32 Y6.Fall.X, .f .f32 Y6.Fall.Y, .f .f32 Y6.Fall.Z]) [.vec 32 3 (Y6.Me.Pq.map Gv.c) false, .nest 60 (Y6.Me.Tr.map fun l=>l.map (cI .i64)) false, .vec 76 4 (([]:List (List AV)) ++ (Y6.Sp.map Gs.c)) false, .vec 29 1 (([]:List (List AV)) ++ (Y6.We.map (cF .f32))) false] func107 (sF (Z7v Y6.Me hp0 hp1 hp2 hp5)<|sC (show ([]:List (List AV)).length + (Y6.Sp.map Gs.c).length≤1073741824 from (by simpa using y0))<|sC (show (Y6.Sp.map Gs.c).all (fun cs=>cs.length == 4 && cs.all isS)=true from (X3g (fun _=>rfl)))<|sC (show ([]:List (List AV)).length + (Y6.We.map (cF .f32)).length≤1073741824 from (by simpa using y1))<|sC (show (Y6.We.map (cF .f32)).all (fun cs=>cs.length == 1 && cs.all isS)=true from (X3g (fun _=>rfl)))<|sK [2,3,4,5] sN) rfl (by kernel_rfl) (by kernel_rfl) rfl ?_ ?_
 · rfl
 · simp [Z1r,Gs.c,cF]
@[simp] theorem Z8s (b:Gb):Z1r b=b:=by simp [Z1r]
theorem Z7x (Y6:Gb) (hp0:Y6.Me.Pq.length≤1073741824) (hp1:Y6.Me.Tr.length≤1073741824) (hp2:∀ t∈Y6.Me.Tr,t.length≤1073741824) (hp3:Y6.Sp.length≤1073741824) (hp4:Y6.We.length≤1073741824) (hp5:XP Y6.Me.Pq.length Y6.Me.Tr):Fn prog 107 [.agg [.sl (Y6.Me.Pq.map Gv.c), .sl (Y6.Me.Tr.map (cL (cI .i64))), .sl (Y6.Sp.map Gs.c), .f .f32 Y6.Film, .f .f32 Y6.Bend, .sl (Y6.We.map (cF .f32)), .f .f32 Y6.Fall.X, .f .f32 Y6.Fall.Y, .f .f32 Y6.Fall.Z]] (.agg [.own 0, .own 1, .own 2, .f .f32 Y6.Film, .f .f32 Y6.Bend, .own 3, .f .f32 Y6.Fall.X, .f .f32 Y6.Fall.Y, .f .f32 Y6.Fall.Z]) [.vec 32 3 (Y6.Me.Pq.map Gv.c) false, .nest 60 (Y6.Me.Tr.map fun l=>l.map (cI .i64)) false, .vec 76 4 (Y6.Sp.map Gs.c) false, .vec 29 1 (Y6.We.map (cF .f32)) false]:=by
 simpa only [Z8s] using Z7w  Y6 hp0 hp1 hp2 hp3 hp4 hp5
def Z28 (Y6:Gb) (Y2:Int):Nat:=(fop .mul .f32 (fop .sub .f32 (Zg (Zl Y6 (Y6.Sp.getD Y2.toNat default))) ((Y6.Sp.getD Y2.toNat default).Long)) (fop .sub .f32 (Zg (Zl Y6 (Y6.Sp.getD Y2.toNat default))) ((Y6.Sp.getD Y2.toNat default).Long)))
def ZS (Y6:Gb):Nat→Int→(List Nat)→(List Nat)
  | 0,_,_=>default
  | k + 1,Y2,Y3=>(cond (decide (Y2 < (Y6.Sp.length:Int)))
    (ZS Y6 k (Y2 + 1) (Y3.set 0 (fop .add .f32 (Y3.getD 0 default) (fop .mul .f32 (fop .mul .f32 1056964608 ((Y6.Sp.getD Y2.toNat default).Stiff)) (Z28 Y6 Y2)))))
    Y3)
def Z3M (Y6:Gb) (r:(List Nat)):Ex × St:=((.exit 0),⟨.agg [.sl (Y6.Me.Pq.map Gv.c), .sl (Y6.Me.Tr.map (cL (cI .i64))), .sl (Y6.Sp.map Gs.c), .f .f32 Y6.Film, .f .f32 Y6.Bend, .sl (Y6.We.map (cF .f32)), .f .f32 Y6.Fall.X, .f .f32 Y6.Fall.Y, .f .f32 Y6.Fall.Z] :: .ptr 0 0 0 :: .nils :: .own 1 :: an 10 (.own 1 :: .ptr 0 0 2 :: .sl (Y6.Sp.map Gs.c) :: an 100 []),[.box 34 [.sl (Y6.Me.Pq.map Gv.c), .sl (Y6.Me.Tr.map (cL (cI .i64))), .sl (Y6.Sp.map Gs.c), .f .f32 Y6.Film, .f .f32 Y6.Bend, .sl (Y6.We.map (cF .f32)), .f .f32 Y6.Fall.X, .f .f32 Y6.Fall.Y, .f .f32 Y6.Fall.Z], .vec 29 1 (r.map (cF .f32)) false]⟩)
def Z3N (Y6:Gb) (Y2:Int) (Y3:(List Nat)):St:=⟨.agg [.sl (Y6.Me.Pq.map Gv.c), .sl (Y6.Me.Tr.map (cL (cI .i64))), .sl (Y6.Sp.map Gs.c), .f .f32 Y6.Film, .f .f32 Y6.Bend, .sl (Y6.We.map (cF .f32)), .f .f32 Y6.Fall.X, .f .f32 Y6.Fall.Y, .f .f32 Y6.Fall.Z] :: .ptr 0 0 0 :: .nils :: .own 1 :: an 10 (.own 1 :: .ptr 0 0 2 :: .sl (Y6.Sp.map Gs.c) :: .i .i64 (Y6.Sp.length:Int) :: .i .i64 Y2 :: an 98 []),[.box 34 [.sl (Y6.Me.Pq.map Gv.c), .sl (Y6.Me.Tr.map (cL (cI .i64))), .sl (Y6.Sp.map Gs.c), .f .f32 Y6.Film, .f .f32 Y6.Bend, .sl (Y6.We.map (cF .f32)), .f .f32 Y6.Fall.X, .f .f32 Y6.Fall.Y, .f .f32 Y6.Fall.Z], .vec 29 1 (Y3.map (cF .f32)) false]⟩
theorem Z6X (Y6:Gb) (hp0:Y6.Me.Pq.length≤1073741824) (hp1:Y6.Me.Tr.length≤1073741824) (hp2:∀ t∈Y6.Me.Tr,t.length≤1073741824) (hp3:Y6.Sp.length≤1073741824) (hp4:Y6.We.length≤1073741824) (hp5:OkBd Y6):∀ (k:Nat) (Y2:Int) (Y3:(List Nat)) (Z4R:0≤Y2) (Z4S:Y3.length=4) (hk:((Y6.Sp.length:Int) - Y2).toNat < k),Lp prog 0 (sub (X0 f89) [1,1,0,1,0,0]) (Z3N Y6 Y2 Y3) (Z3M Y6 (ZS Y6 k Y2 Y3)).1 (Z3M Y6 (ZS Y6 k Y2 Y3)).2:=by
 intro k
 induction k with
 | zero=>intro Y2 Y3 Z4R Z4S hk;exact absurd hk (Nat.not_lt_zero _)
 | succ k ih =>
  intro Y2 Y3 Z4R Z4S hk
  cases Yk:(decide (Y2 < (Y6.Sp.length:Int))) with
  | true =>
   have YH:=odt Yk
   have YQ:(0:Int)≤Y2:=(by assumption)
   have YN:Y2 < (Y6.Sp.length:Int):=(by assumption)
   have y_2:0≤(Y6.Sp.getD Y2.toNat default).A:=(by have q:=Z2S hp5 (by assumption) Yk;omega)
   have YR:(Y6.Sp.getD Y2.toNat default).A < (Y6.Me.Pq.length:Int):=(by have q:=Z2S hp5 (by assumption) Yk;omega)
   have y_4:0≤(Y6.Sp.getD Y2.toNat default).B:=(by have q:=Z2S hp5 (by assumption) Yk;omega)
   have y_5:(Y6.Sp.getD Y2.toNat default).B < (Y6.Me.Pq.length:Int):=(by have q:=Z2S hp5 (by assumption) Yk;omega)
   have y_6:(0:Int)≤0:=(by omega)
   have y_7:0 < (Y3.length:Int):=(by omega)
   have y_8:0 < Y3.length:=(by omega)
   have y_9:(-9223372036854775808:Int)≤(Y2 + 1):=(by omega)
   have Y1e:(Y2 + 1)≤(9223372036854775807:Int):=(by omega)
   have e:ZS Y6 (k + 1) Y2 Y3=(ZS Y6 k (Y2 + 1) (Y3.set 0 (fop .add .f32 (Y3.getD 0 default) (fop .mul .f32 (fop .mul .f32 1056964608 ((Y6.Sp.getD Y2.toNat default).Stiff)) (Z28 Y6 Y2))))):=by simp only [ZS,Yk,cond_true]
   rw [e]
   exact X14 E0Ok Ze [] (mR false [0,4,10,5,98]) [0,1] (⟨.agg [.sl (Y6.Me.Pq.map Gv.c), .sl (Y6.Me.Tr.map (cL (cI .i64))), .sl (Y6.Sp.map Gs.c), .f .f32 Y6.Film, .f .f32 Y6.Bend, .sl (Y6.We.map (cF .f32)), .f .f32 Y6.Fall.X, .f .f32 Y6.Fall.Y, .f .f32 Y6.Fall.Z] :: .ptr 0 0 0 :: .nils :: .own 1 :: an 10 (.own 1 :: .ptr 0 0 2 :: .sl (Y6.Sp.map Gs.c) :: .i .i64 (Y6.Sp.length:Int) :: .i .i64 (Y2 + 1) :: an 98 []),[.box 34 [.sl (Y6.Me.Pq.map Gv.c), .sl (Y6.Me.Tr.map (cL (cI .i64))), .sl (Y6.Sp.map Gs.c), .f .f32 Y6.Film, .f .f32 Y6.Bend, .sl (Y6.We.map (cF .f32)), .f .f32 Y6.Fall.X, .f .f32 Y6.Fall.Y, .f .f32 Y6.Fall.Z], .vec 29 1 ((Y3.map (cF .f32)).set 0 [.f .f32 (fop .add .f32 (Y3.getD 0 default) (fop .mul .f32 (fop .mul .f32 1056964608 ((Y6.Sp.getD Y2.toNat default).Stiff)) (Z28 Y6 Y2)))]) false]⟩) (sB Yk<|sG Gs.c Y6.Sp Y2 YQ YN<|sK [6,6]<|sF (Z5e Y6 (Y6.Sp.getD Y2.toNat default) hp0 hp1 hp2 hp3 hp4 y_2 YR y_4 y_5)<|sF (Z3X (Zl Y6 (Y6.Sp.getD Y2.toNat default)))<|sK [10,10]<|sX (cF .f32) Y3 0 y_6 y_7<|sV (cF .f32) Y3 0 y_8<|sX (cF .f32) Y3 0 y_6 y_7<|sC (X3B (c:=(cF .f32)) (l:=Y3) y_8)<|sI (Y2 + 1) y_9 Y1e<|sN) (by kernel_rfl) (by simp [Z3N,List.map_set,cF]) (ih (Y2 + 1) (Y3.set 0 (fop .add .f32 (Y3.getD 0 default) (fop .mul .f32 (fop .mul .f32 1056964608 ((Y6.Sp.getD Y2.toNat default).Stiff)) (Z28 Y6 Y2)))) (show 0≤(Y2 + 1) from (by omega)) (show (Y3.set 0 (fop .add .f32 (Y3.getD 0 default) (fop .mul .f32 (fop .mul .f32 1056964608 ((Y6.Sp.getD Y2.toNat default).Stiff)) (Z28 Y6 Y2)))).length=4 from (by simp_all<;>omega)) (by omega))
  | false =>
   have YH:=odf Yk
   have e:ZS Y6 (k + 1) Y2 Y3=Y3:=by simp only [ZS,Yk,cond_false]
   rw [e]
   exact outR (e:=(.exit 0)) E0Ok Ze [] (mR false [0,4,10,3,100]) [0,1] (sB Yk<|sN) (by kernel_rfl) (by intro h;cases h)
theorem Z6k (Y6:Gb):∀ (k:Nat) (Y2:Int) (Y3:(List Nat)) (hk:((Y6.Sp.length:Int) - Y2).toNat < k),(ZS Y6 k Y2 Y3).length=Y3.length:=by
  intro k
  induction k with
  | zero=>intro Y2 Y3 hk;exact absurd hk (Nat.not_lt_zero _)
  | succ k ih =>
    intro Y2 Y3 hk
    cases Yk:(decide (Y2 < (Y6.Sp.length:Int))) with
    | true =>
      have e:ZS Y6 (k + 1) Y2 Y3=(ZS Y6 k (Y2 + 1) (Y3.set 0 (fop .add .f32 (Y3.getD 0 default) (fop .mul .f32 (fop .mul .f32 1056964608 ((Y6.Sp.getD Y2.toNat default).Stiff)) (Z28 Y6 Y2))))):=by simp only [ZS,Yk,cond_true]
      rw [e,ih (Y2 + 1) (Y3.set 0 (fop .add .f32 (Y3.getD 0 default) (fop .mul .f32 (fop .mul .f32 1056964608 ((Y6.Sp.getD Y2.toNat default).Stiff)) (Z28 Y6 Y2)))) (by simp_all<;>omega)]<;>simp
    | false =>
      have e:ZS Y6 (k + 1) Y2 Y3=Y3:=by simp only [ZS,Yk,cond_false]
      first | (rw [e];done) | (rw [e];rfl)
def Z16 (Y6:Gb):(List Nat):=(ZS Y6 (((Y6.Sp.length:Int) - 0).toNat + 1) 0 (List.replicate 4 0))
@[simp] theorem Z5x (Y6:Gb):(Z16 Y6).length=((List.replicate 4 0):(List Nat)).length:=Z6k Y6 (((Y6.Sp.length:Int) - 0).toNat + 1) 0 (List.replicate 4 0) (by exact Nat.lt_succ_self _)
def Z29 (Y6:Gb) (Y2:Int) (Y3:(List Nat)):Nat:=(fop .add .f32 (Y3.getD 1 default) (fop .mul .f32 Y6.Film (fop .mul .f32 1056964608 (Zg (Zd Y6.Me (Y6.Me.Tr.getD Y2.toNat default))))))
def ZT (Y6:Gb):Nat→Int→(List Nat)→(List Nat)
  | 0,_,_=>default
  | k + 1,Y2,Y3=>(cond (decide (Y2 < (Y6.Me.Tr.length:Int)))
    (ZT Y6 k (Y2 + 1) (Y3.set 1 (Z29 Y6 Y2 Y3)))
    Y3)
def Z3O (Y6:Gb) (r:(List Nat)):Ex × St:=((.exit 2),⟨.agg [.sl (Y6.Me.Pq.map Gv.c), .sl (Y6.Me.Tr.map (cL (cI .i64))), .sl (Y6.Sp.map Gs.c), .f .f32 Y6.Film, .f .f32 Y6.Bend, .sl (Y6.We.map (cF .f32)), .f .f32 Y6.Fall.X, .f .f32 Y6.Fall.Y, .f .f32 Y6.Fall.Z] :: .ptr 0 0 0 :: .nils :: .own 1 :: an 10 (.own 1 :: .ptr 0 0 2 :: .sl (Y6.Sp.map Gs.c) :: an 25 (.ptr 0 0 0 :: .ptr 0 0 1 :: .sl (Y6.Me.Tr.map (cL (cI .i64))) :: an 72 [])),[.box 34 [.sl (Y6.Me.Pq.map Gv.c), .sl (Y6.Me.Tr.map (cL (cI .i64))), .sl (Y6.Sp.map Gs.c), .f .f32 Y6.Film, .f .f32 Y6.Bend, .sl (Y6.We.map (cF .f32)), .f .f32 Y6.Fall.X, .f .f32 Y6.Fall.Y, .f .f32 Y6.Fall.Z], .vec 29 1 (r.map (cF .f32)) false]⟩)
def Z5r (Y6:Gb) (Y2:Int) (Y3:(List Nat)):St:=⟨.agg [.sl (Y6.Me.Pq.map Gv.c), .sl (Y6.Me.Tr.map (cL (cI .i64))), .sl (Y6.Sp.map Gs.c), .f .f32 Y6.Film, .f .f32 Y6.Bend, .sl (Y6.We.map (cF .f32)), .f .f32 Y6.Fall.X, .f .f32 Y6.Fall.Y, .f .f32 Y6.Fall.Z] :: .ptr 0 0 0 :: .nils :: .own 1 :: an 10 (.own 1 :: .ptr 0 0 2 :: .sl (Y6.Sp.map Gs.c) :: an 25 (.ptr 0 0 0 :: .ptr 0 0 1 :: .sl (Y6.Me.Tr.map (cL (cI .i64))) :: .i .i64 (Y6.Me.Tr.length:Int) :: .i .i64 Y2 :: an 70 [])),[.box 34 [.sl (Y6.Me.Pq.map Gv.c), .sl (Y6.Me.Tr.map (cL (cI .i64))), .sl (Y6.Sp.map Gs.c), .f .f32 Y6.Film, .f .f32 Y6.Bend, .sl (Y6.We.map (cF .f32)), .f .f32 Y6.Fall.X, .f .f32 Y6.Fall.Y, .f .f32 Y6.Fall.Z], .vec 29 1 (Y3.map (cF .f32)) false]⟩
theorem Z6Y (Y6:Gb) (hp0:Y6.Me.Pq.length≤1073741824) (hp1:Y6.Me.Tr.length≤1073741824) (hp2:∀ t∈Y6.Me.Tr,t.length≤1073741824) (hp3:Y6.Sp.length≤1073741824) (hp4:Y6.We.length≤1073741824) (hp5:OkBd Y6):∀ (k:Nat) (Y2:Int) (Y3:(List Nat)) (Z4T:0≤Y2) (Z4U:Y3.length=(Z16 Y6).length) (hk:((Y6.Me.Tr.length:Int) - Y2).toNat < k),Lp prog 0 (sub (X0 f89) [1,1,1,0,1,0,0]) (Z5r Y6 Y2 Y3) (Z3O Y6 (ZT Y6 k Y2 Y3)).1 (Z3O Y6 (ZT Y6 k Y2 Y3)).2:=by
 intro k
 induction k with
 | zero=>intro Y2 Y3 Z4T Z4U hk;exact absurd hk (Nat.not_lt_zero _)
 | succ k ih =>
  intro Y2 Y3 Z4T Z4U hk
  cases Yk:(decide (Y2 < (Y6.Me.Tr.length:Int))) with
  | true =>
   have YH:=odt Yk
   have YQ:(0:Int)≤Y2:=(by assumption)
   have YN:Y2 < (Y6.Me.Tr.length:Int):=(by assumption)
   have y_2:(0:Int)≤1:=(by omega)
   have YR:1 < (Y3.length:Int):=(by simp_all<;>omega)
   have y_4:1 < Y3.length:=(by omega)
   have y_5:(Y6.Me.Tr.getD Y2.toNat default).length≤1073741824:=(by exact X9T hp5.e (by assumption) Yk)
   have y_6:(Y6.Me.Tr.getD Y2.toNat default).length=3∧∀ x∈(Y6.Me.Tr.getD Y2.toNat default),0≤x∧x < (Y6.Me.Pq.length:Int):=(by exact tri3 hp5.e (by assumption) Yk)
   have y_7:(-9223372036854775808:Int)≤(Y2 + 1):=(by omega)
   have y_8:(Y2 + 1)≤(9223372036854775807:Int):=(by omega)
   have e:ZT Y6 (k + 1) Y2 Y3=(ZT Y6 k (Y2 + 1) (Y3.set 1 (Z29 Y6 Y2 Y3))):=by simp only [ZT,Yk,cond_true]
   rw [e]
   exact X14 E0Ok Ze [] (mR false [0,4,10,3,25,5,70]) [0,1] (⟨.agg [.sl (Y6.Me.Pq.map Gv.c), .sl (Y6.Me.Tr.map (cL (cI .i64))), .sl (Y6.Sp.map Gs.c), .f .f32 Y6.Film, .f .f32 Y6.Bend, .sl (Y6.We.map (cF .f32)), .f .f32 Y6.Fall.X, .f .f32 Y6.Fall.Y, .f .f32 Y6.Fall.Z] :: .ptr 0 0 0 :: .nils :: .own 1 :: an 10 (.own 1 :: .ptr 0 0 2 :: .sl (Y6.Sp.map Gs.c) :: an 25 (.ptr 0 0 0 :: .ptr 0 0 1 :: .sl (Y6.Me.Tr.map (cL (cI .i64))) :: .i .i64 (Y6.Me.Tr.length:Int) :: .i .i64 (Y2 + 1) :: an 70 [])),[.box 34 [.sl (Y6.Me.Pq.map Gv.c), .sl (Y6.Me.Tr.map (cL (cI .i64))), .sl (Y6.Sp.map Gs.c), .f .f32 Y6.Film, .f .f32 Y6.Bend, .sl (Y6.We.map (cF .f32)), .f .f32 Y6.Fall.X, .f .f32 Y6.Fall.Y, .f .f32 Y6.Fall.Z], .vec 29 1 ((Y3.map (cF .f32)).set 1 [.f .f32 (Z29 Y6 Y2 Y3)]) false]⟩) (sB Yk<|sG (cL (cI .i64)) Y6.Me.Tr Y2 YQ YN<|sK [12,12]<|sX (cF .f32) Y3 1 y_2 YR<|sV (cF .f32) Y3 1 y_4<|sF (Z5K Y6.Me (Y6.Me.Tr.getD Y2.toNat default) hp0 hp1 hp2 y_5 y_6)<|sF (Z3X (Zd Y6.Me (Y6.Me.Tr.getD Y2.toNat default)))<|sX (cF .f32) Y3 1 y_2 YR<|sC (X3B (c:=(cF .f32)) (l:=Y3) y_4)<|sI (Y2 + 1) y_7 y_8<|sN) (by kernel_rfl) (by simp [Z5r,List.map_set,cF]) (ih (Y2 + 1) (Y3.set 1 (Z29 Y6 Y2 Y3)) (show 0≤(Y2 + 1) from (by omega)) (show (Y3.set 1 (Z29 Y6 Y2 Y3)).length=(Z16 Y6).length from (by simp_all<;>omega)) (by omega))
  | false =>
   have YH:=odf Yk
   have e:ZT Y6 (k + 1) Y2 Y3=Y3:=by simp only [ZT,Yk,cond_false]
   rw [e]
   exact outR (e:=(.exit 2)) E0Ok Ze [] (mR false [0,4,10,3,25,3,72]) [0,1] (sB Yk<|sN) (by kernel_rfl) (by intro h;cases h)
theorem Z6l (Y6:Gb):∀ (k:Nat) (Y2:Int) (Y3:(List Nat)) (hk:((Y6.Me.Tr.length:Int) - Y2).toNat < k),(ZT Y6 k Y2 Y3).length=Y3.length:=by
  intro k
  induction k with
  | zero=>intro Y2 Y3 hk;exact absurd hk (Nat.not_lt_zero _)
  | succ k ih =>
    intro Y2 Y3 hk
    cases Yk:(decide (Y2 < (Y6.Me.Tr.length:Int))) with
    | true =>
      have e:ZT Y6 (k + 1) Y2 Y3=(ZT Y6 k (Y2 + 1) (Y3.set 1 (Z29 Y6 Y2 Y3))):=by simp only [ZT,Yk,cond_true]
      rw [e,ih (Y2 + 1) (Y3.set 1 (Z29 Y6 Y2 Y3)) (by simp_all<;>omega)]<;>simp
    | false =>
      have e:ZT Y6 (k + 1) Y2 Y3=Y3:=by simp only [ZT,Yk,cond_false]
      first | (rw [e];done) | (rw [e];rfl)
def Z17 (Y6:Gb):(List Nat):=(ZT Y6 (((Y6.Me.Tr.length:Int) - 0).toNat + 1) 0 (Z16 Y6))
@[simp] theorem Z5y (Y6:Gb):(Z17 Y6).length=((Z16 Y6):(List Nat)).length:=Z6l Y6 (((Y6.Me.Tr.length:Int) - 0).toNat + 1) 0 (Z16 Y6) (by exact Nat.lt_succ_self _)
def Z2a (Y6:Gb) (Y2:Int):Nat:=(Z1v (Zm Y6.Me ((Z8 Y6.Me).getD Y2.toNat default)) (Zm Y6.Me ((Z8 Y6.Me).getD Y2.toNat default)))
def ZU (Y6:Gb):Nat→Int→(List Nat)→(List Nat)
  | 0,_,_=>default
  | k + 1,Y2,Y3=>(cond (decide (Y2 < ((Z8 Y6.Me).length:Int)))
    (ZU Y6 k (Y2 + 1) (Y3.set 2 (fop .add .f32 (Y3.getD 2 default) (fop .mul .f32 (fop .mul .f32 1056964608 Y6.Bend) (Z2a Y6 Y2)))))
    Y3)
def Z3P (Y6:Gb) (r:(List Nat)):Ex × St:=((.exit 4),⟨.agg [.sl (Y6.Me.Pq.map Gv.c), .sl (Y6.Me.Tr.map (cL (cI .i64))), .sl (Y6.Sp.map Gs.c), .f .f32 Y6.Film, .f .f32 Y6.Bend, .sl (Y6.We.map (cF .f32)), .f .f32 Y6.Fall.X, .f .f32 Y6.Fall.Y, .f .f32 Y6.Fall.Z] :: .ptr 0 0 0 :: .nils :: .own 1 :: an 10 (.own 1 :: .ptr 0 0 2 :: .sl (Y6.Sp.map Gs.c) :: an 25 (.ptr 0 0 0 :: .ptr 0 0 1 :: .sl (Y6.Me.Tr.map (cL (cI .i64))) :: an 20 (.ptr 0 0 0 :: .agg [.sl (Y6.Me.Pq.map Gv.c), .sl (Y6.Me.Tr.map (cL (cI .i64)))] :: .own 2 :: an 49 []))),[.box 34 [.sl (Y6.Me.Pq.map Gv.c), .sl (Y6.Me.Tr.map (cL (cI .i64))), .sl (Y6.Sp.map Gs.c), .f .f32 Y6.Film, .f .f32 Y6.Bend, .sl (Y6.We.map (cF .f32)), .f .f32 Y6.Fall.X, .f .f32 Y6.Fall.Y, .f .f32 Y6.Fall.Z], .vec 29 1 (r.map (cF .f32)) false, .nest 60 ((Z8 Y6.Me).map fun l=>l.map (cI .i64)) false]⟩)
def Z5s (Y6:Gb) (Y2:Int) (Y3:(List Nat)):St:=⟨.agg [.sl (Y6.Me.Pq.map Gv.c), .sl (Y6.Me.Tr.map (cL (cI .i64))), .sl (Y6.Sp.map Gs.c), .f .f32 Y6.Film, .f .f32 Y6.Bend, .sl (Y6.We.map (cF .f32)), .f .f32 Y6.Fall.X, .f .f32 Y6.Fall.Y, .f .f32 Y6.Fall.Z] :: .ptr 0 0 0 :: .nils :: .own 1 :: an 10 (.own 1 :: .ptr 0 0 2 :: .sl (Y6.Sp.map Gs.c) :: an 25 (.ptr 0 0 0 :: .ptr 0 0 1 :: .sl (Y6.Me.Tr.map (cL (cI .i64))) :: an 20 (.ptr 0 0 0 :: .agg [.sl (Y6.Me.Pq.map Gv.c), .sl (Y6.Me.Tr.map (cL (cI .i64)))] :: .own 2 :: .i .i64 ((Z8 Y6.Me).length:Int) :: .i .i64 Y2 :: an 47 []))),[.box 34 [.sl (Y6.Me.Pq.map Gv.c), .sl (Y6.Me.Tr.map (cL (cI .i64))), .sl (Y6.Sp.map Gs.c), .f .f32 Y6.Film, .f .f32 Y6.Bend, .sl (Y6.We.map (cF .f32)), .f .f32 Y6.Fall.X, .f .f32 Y6.Fall.Y, .f .f32 Y6.Fall.Z], .vec 29 1 (Y3.map (cF .f32)) false, .nest 60 ((Z8 Y6.Me).map fun l=>l.map (cI .i64)) false]⟩
def Z4V:List Bool:=(mR false [0,4,10,3,25,3,20,5,47])
def Z6m:List Bool:=(mR false [0,4,10,3,25,3,20,3,49])
theorem Z6Z (Y6:Gb) (hp0:Y6.Me.Pq.length≤1073741824) (hp1:Y6.Me.Tr.length≤1073741824) (hp2:∀ t∈Y6.Me.Tr,t.length≤1073741824) (hp3:Y6.Sp.length≤1073741824) (hp4:Y6.We.length≤1073741824) (hp5:OkBd Y6):∀ (k:Nat) (Y2:Int) (Y3:(List Nat)) (Z4W:0≤Y2) (Z4X:Y3.length=(Z17 Y6).length) (hk:(((Z8 Y6.Me).length:Int) - Y2).toNat < k),Lp prog 0 (sub (X0 f89) [1,1,1,1,0,1,0,0]) (Z5s Y6 Y2 Y3) (Z3P Y6 (ZU Y6 k Y2 Y3)).1 (Z3P Y6 (ZU Y6 k Y2 Y3)).2:=by
 intro k
 induction k with
 | zero=>intro Y2 Y3 Z4W Z4X hk;exact absurd hk (Nat.not_lt_zero _)
 | succ k ih =>
  intro Y2 Y3 Z4W Z4X hk
  cases Yk:(decide (Y2 < ((Z8 Y6.Me).length:Int))) with
  | true =>
   have YH:=odt Yk
   have YQ:(0:Int)≤Y2:=(by assumption)
   have YN:Int.toNat Y2 < (Z8 Y6.Me).length:=(by omega)
   have y_2:Y2.toNat < (Z8 Y6.Me).length:=(by assumption)
   have YR:((Z8 Y6.Me).getD Y2.toNat default).length≤1073741824:=(by exact Z8X hp5.e (by assumption) Yk)
   have y_4:((Z8 Y6.Me).getD Y2.toNat default).length=4∧∀ x∈((Z8 Y6.Me).getD Y2.toNat default),0≤x∧x < (Y6.Me.Pq.length:Int):=(by exact Z3f hp5.e (by assumption) Yk)
   have y_5:(0:Int)≤2:=(by omega)
   have y_6:2 < (Y3.length:Int):=(by simp_all<;>omega)
   have y_7:2 < Y3.length:=(by omega)
   have y_8:(-9223372036854775808:Int)≤(Y2 + 1):=(by omega)
   have y_9:(Y2 + 1)≤(9223372036854775807:Int):=(by have q:=hp5.w;(have q:=Z5p _ hp5.e;omega))
   have e:ZU Y6 (k + 1) Y2 Y3=(ZU Y6 k (Y2 + 1) (Y3.set 2 (fop .add .f32 (Y3.getD 2 default) (fop .mul .f32 (fop .mul .f32 1056964608 Y6.Bend) (Z2a Y6 Y2))))):=by simp only [ZU,Yk,cond_true]
   rw [e]
   exact X14 E0Ok Ze [] Z4V [0,1,2] (⟨.agg [.sl (Y6.Me.Pq.map Gv.c), .sl (Y6.Me.Tr.map (cL (cI .i64))), .sl (Y6.Sp.map Gs.c), .f .f32 Y6.Film, .f .f32 Y6.Bend, .sl (Y6.We.map (cF .f32)), .f .f32 Y6.Fall.X, .f .f32 Y6.Fall.Y, .f .f32 Y6.Fall.Z] :: .ptr 0 0 0 :: .nils :: .own 1 :: an 10 (.own 1 :: .ptr 0 0 2 :: .sl (Y6.Sp.map Gs.c) :: an 25 (.ptr 0 0 0 :: .ptr 0 0 1 :: .sl (Y6.Me.Tr.map (cL (cI .i64))) :: an 20 (.ptr 0 0 0 :: .agg [.sl (Y6.Me.Pq.map Gv.c), .sl (Y6.Me.Tr.map (cL (cI .i64)))] :: .own 2 :: .i .i64 ((Z8 Y6.Me).length:Int) :: .i .i64 (Y2 + 1) :: an 47 []))),[.box 34 [.sl (Y6.Me.Pq.map Gv.c), .sl (Y6.Me.Tr.map (cL (cI .i64))), .sl (Y6.Sp.map Gs.c), .f .f32 Y6.Film, .f .f32 Y6.Bend, .sl (Y6.We.map (cF .f32)), .f .f32 Y6.Fall.X, .f .f32 Y6.Fall.Y, .f .f32 Y6.Fall.Z], .vec 29 1 ((Y3.map (cF .f32)).set 2 [.f .f32 (fop .add .f32 (Y3.getD 2 default) (fop .mul .f32 (fop .mul .f32 1056964608 Y6.Bend) (Z2a Y6 Y2)))]) false, .nest 60 ((Z8 Y6.Me).map fun l=>l.map (cI .i64)) false]⟩) (sB Yk<|sC (X52 (c:=(cI .i64)) (l:=(Z8 Y6.Me)) (i:=Y2) YQ YN)<|sC (X51 (c:=(cI .i64)) (l:=(Z8 Y6.Me)) y_2)<|sF (Fn.castA (args':=[.agg [.sl (Y6.Me.Pq.map Gv.c), .sl (Y6.Me.Tr.map (cL (cI .i64)))], .sl (((Z8 Y6.Me).map fun l=>l.map (cI .i64)).getD Y2.toNat [])]) (Z6d Y6.Me ((Z8 Y6.Me).getD Y2.toNat default) hp0 hp1 hp2 YR y_4) (by simp [cI];done))<|sK [10,10]<|sX (cF .f32) Y3 2 y_5 y_6<|sV (cF .f32) Y3 2 y_7<|sF (Z51 (Zm Y6.Me ((Z8 Y6.Me).getD Y2.toNat default)) (Zm Y6.Me ((Z8 Y6.Me).getD Y2.toNat default)))<|sX (cF .f32) Y3 2 y_5 y_6<|sC (X3B (c:=(cF .f32)) (l:=Y3) y_7)<|sI (Y2 + 1) y_8 y_9<|sN) (by kernel_rfl) (by simp [Z5s,List.map_set,cF]) (ih (Y2 + 1) (Y3.set 2 (fop .add .f32 (Y3.getD 2 default) (fop .mul .f32 (fop .mul .f32 1056964608 Y6.Bend) (Z2a Y6 Y2)))) (show 0≤(Y2 + 1) from (by omega)) (show (Y3.set 2 (fop .add .f32 (Y3.getD 2 default) (fop .mul .f32 (fop .mul .f32 1056964608 Y6.Bend) (Z2a Y6 Y2)))).length=(Z17 Y6).length from (by simp_all<;>omega)) (by omega))
  | false =>
   have YH:=odf Yk
   have e:ZU Y6 (k + 1) Y2 Y3=Y3:=by simp only [ZU,Yk,cond_false]
   rw [e]
   exact outR (e:=(.exit 4)) E0Ok Ze [] Z6m [0,1,2] (sB Yk<|sN) (by kernel_rfl) (by intro h;cases h)
end Go.Ab
