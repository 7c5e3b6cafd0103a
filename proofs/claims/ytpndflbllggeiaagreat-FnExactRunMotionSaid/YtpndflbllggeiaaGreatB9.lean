/- The functions of this seat as plain Lean, and that the program's are these. Printed by a program of the prover's own. -/
import Derived.Test.YtpndflbllggeiaaGreatB8
set_option linter.unusedVariables false
set_option linter.unusedSimpArgs false
set_option maxRecDepth 100000
namespace Go.Ab
open Go.RowKit Go.Proofs.Tryz
def Z1h (Ya:Gb) (Y2:(List Int)):Nat→Int→(List Gv)→(List Gv)
  | 0,_,_ => default
  | k + 1,Y1,Yd => (cond (decide (Y1 < (Y2.length:Int)))
    (Z1h Ya Y2 k (Y1 + 1) (Yd.set ((Y2.getD Y1.toNat default).toNat) (⟨0,0,0⟩:Gv)))
    Yd)
def Z6u (Ya:Gb) (Y2:(List Int)) (r:(List Gv)):Ex × St:=((.exit 0),⟨.agg [.sl (Ya.Me.Pq.map Gv.c), .sl (Ya.Me.Tr.map (cL (cI .i64))), .sl (Ya.Sp.map Gs.c), .f .f32 Ya.Film, .f .f32 Ya.Bend, .sl (Ya.We.map (cF .f32)), .f .f32 Ya.Fall.X, .f .f32 Ya.Fall.Y, .f .f32 Ya.Fall.Z] :: .sl (Y2.map (cI .i64)) :: .ptr 0 0 0 :: .any :: .nils :: .own 1 :: .any :: .any :: .agg [.sl (Ya.Me.Pq.map Gv.c), .sl (Ya.Me.Tr.map (cL (cI .i64))), .sl (Ya.Sp.map Gs.c), .f .f32 Ya.Film, .f .f32 Ya.Bend, .sl (Ya.We.map (cF .f32)), .f .f32 Ya.Fall.X, .f .f32 Ya.Fall.Y, .f .f32 Ya.Fall.Z] :: .own 1 :: .sl (Y2.map (cI .i64)) :: an 11 [],[.box 42 [.sl (Ya.Me.Pq.map Gv.c), .sl (Ya.Me.Tr.map (cL (cI .i64))), .sl (Ya.Sp.map Gs.c), .f .f32 Ya.Film, .f .f32 Ya.Bend, .sl (Ya.We.map (cF .f32)), .f .f32 Ya.Fall.X, .f .f32 Ya.Fall.Y, .f .f32 Ya.Fall.Z], .vec 40 3 (r.map Gv.c) false]⟩)
def Z9F (Ya:Gb) (Y2:(List Int)) (Y1:Int) (Yd:(List Gv)):St:=⟨.agg [.sl (Ya.Me.Pq.map Gv.c), .sl (Ya.Me.Tr.map (cL (cI .i64))), .sl (Ya.Sp.map Gs.c), .f .f32 Ya.Film, .f .f32 Ya.Bend, .sl (Ya.We.map (cF .f32)), .f .f32 Ya.Fall.X, .f .f32 Ya.Fall.Y, .f .f32 Ya.Fall.Z] :: .sl (Y2.map (cI .i64)) :: .ptr 0 0 0 :: .any :: .nils :: .own 1 :: .any :: .any :: .agg [.sl (Ya.Me.Pq.map Gv.c), .sl (Ya.Me.Tr.map (cL (cI .i64))), .sl (Ya.Sp.map Gs.c), .f .f32 Ya.Film, .f .f32 Ya.Bend, .sl (Ya.We.map (cF .f32)), .f .f32 Ya.Fall.X, .f .f32 Ya.Fall.Y, .f .f32 Ya.Fall.Z] :: .own 1 :: .sl (Y2.map (cI .i64)) :: .i .i64 (Y2.length:Int) :: .i .i64 Y1 :: an 9 [],[.box 42 [.sl (Ya.Me.Pq.map Gv.c), .sl (Ya.Me.Tr.map (cL (cI .i64))), .sl (Ya.Sp.map Gs.c), .f .f32 Ya.Film, .f .f32 Ya.Bend, .sl (Ya.We.map (cF .f32)), .f .f32 Ya.Fall.X, .f .f32 Ya.Fall.Y, .f .f32 Ya.Fall.Z], .vec 40 3 (Yd.map Gv.c) false]⟩
theorem Zdr (Ya:Gb) (Y2:(List Int)) (hp0:Ya.Me.Pq.length≤1073741824) (hp1:Ya.Me.Tr.length≤1073741824) (hp2:∀ t∈Ya.Me.Tr,t.length≤1073741824) (hp3:Ya.Sp.length≤1073741824) (hp4:Ya.We.length≤1073741824) (hp5:Y2.length≤1073741824) (hp6:OkBd Ya) (hp7:OkIx Ya.Me.Pq.length (fun x => x) Y2):∀ (k:Nat) (Y1:Int) (Yd:(List Gv)) (Z87:0≤Y1) (Z88:Yd.length=Ya.Me.Pq.length) (hk:((Y2.length:Int) - Y1).toNat < k),Lp prog 0 (sub (X0 f68) [1,1,0,1,0,0]) (Z9F Ya Y2 Y1 Yd) (Z6u Ya Y2 (Z1h Ya Y2 k Y1 Yd)).1 (Z6u Ya Y2 (Z1h Ya Y2 k Y1 Yd)).2:=by
 intro k
 induction k with
 | zero => intro Y1 Yd Z87 Z88 hk; exact absurd hk (Nat.not_lt_zero _)
 | succ k ih =>
  intro Y1 Yd Z87 Z88 hk
  cases Yn:(decide (Y1 < (Y2.length:Int))) with
  | true =>
   have YM:=odt Yn
   have YS:(0:Int)≤Y1:=(by assumption)
   have YT:Y1 < (Y2.length:Int):=(by assumption)
   have YY:(0:Int)≤(Y2.getD Y1.toNat default):=(by have q:=OkIx.at hp7 (by assumption) YM; omega)
   have YZ:(Y2.getD Y1.toNat default) < (Yd.length:Int):=(by have q:=OkIx.at hp7 (by assumption) YM; omega)
   have y_4:(Y2.getD Y1.toNat default).toNat < Yd.length:=(by omega)
   have y_5:(-9223372036854775808:Int)≤(Y1 + 1):=(by omega)
   have y_6:(Y1 + 1)≤(9223372036854775807:Int):=(by omega)
   have e:Z1h Ya Y2 (k + 1) Y1 Yd=(Z1h Ya Y2 k (Y1 + 1) (Yd.set ((Y2.getD Y1.toNat default).toNat) (⟨0,0,0⟩:Gv))):=by simp only [Z1h,Yn,cond_true]
   rw [e]
   exact X8 E0Ok Z4 [] (mR false [0,3,1,2,2,5,9]) [0,1] (⟨.agg [.sl (Ya.Me.Pq.map Gv.c), .sl (Ya.Me.Tr.map (cL (cI .i64))), .sl (Ya.Sp.map Gs.c), .f .f32 Ya.Film, .f .f32 Ya.Bend, .sl (Ya.We.map (cF .f32)), .f .f32 Ya.Fall.X, .f .f32 Ya.Fall.Y, .f .f32 Ya.Fall.Z] :: .sl (Y2.map (cI .i64)) :: .ptr 0 0 0 :: .any :: .nils :: .own 1 :: .any :: .any :: .agg [.sl (Ya.Me.Pq.map Gv.c), .sl (Ya.Me.Tr.map (cL (cI .i64))), .sl (Ya.Sp.map Gs.c), .f .f32 Ya.Film, .f .f32 Ya.Bend, .sl (Ya.We.map (cF .f32)), .f .f32 Ya.Fall.X, .f .f32 Ya.Fall.Y, .f .f32 Ya.Fall.Z] :: .own 1 :: .sl (Y2.map (cI .i64)) :: .i .i64 (Y2.length:Int) :: .i .i64 (Y1 + 1) :: an 9 [],[.box 42 [.sl (Ya.Me.Pq.map Gv.c), .sl (Ya.Me.Tr.map (cL (cI .i64))), .sl (Ya.Sp.map Gs.c), .f .f32 Ya.Film, .f .f32 Ya.Bend, .sl (Ya.We.map (cF .f32)), .f .f32 Ya.Fall.X, .f .f32 Ya.Fall.Y, .f .f32 Ya.Fall.Z], .vec 40 3 ((Yd.map Gv.c).set ((Y2.getD Y1.toNat default).toNat) [.f .f32 0, .f .f32 0, .f .f32 0]) false]⟩) (sB Yn <| sG (cI .i64) Y2 Y1 YS YT <| sX Gv.c Yd (Y2.getD Y1.toNat default) YY YZ <| sC (Xn (c:=Gv.c) (l:=Yd) y_4) <| sI (Y1 + 1) y_5 y_6 <| sN) (by kernel_rfl) (by simp [Z9F,List.map_set,Gv.c]) (ih (Y1 + 1) (Yd.set ((Y2.getD Y1.toNat default).toNat) (⟨0,0,0⟩:Gv)) (show 0≤(Y1 + 1) from (by omega)) (show (Yd.set ((Y2.getD Y1.toNat default).toNat) (⟨0,0,0⟩:Gv)).length=Ya.Me.Pq.length from (by have q:=OkIx.at hp7 (by assumption) YM; (simp only [List.length_set]; omega))) (by omega))
  | false =>
   have YM:=odf Yn
   have e:Z1h Ya Y2 (k + 1) Y1 Yd=Yd:=by simp only [Z1h,Yn,cond_false]
   rw [e]
   exact outR (e:=(.exit 0)) E0Ok Z4 [] (mR false [0,3,1,2,2,3,11]) [0,1] (sB Yn <| sN) (by kernel_rfl) (by intro h; cases h)
theorem Zcp (Ya:Gb) (Y2:(List Int)):∀ (k:Nat) (Y1:Int) (Yd:(List Gv)) (hk:((Y2.length:Int) - Y1).toNat < k),(Z1h Ya Y2 k Y1 Yd).length=Yd.length:=by
  intro k
  induction k with
  | zero => intro Y1 Yd hk; exact absurd hk (Nat.not_lt_zero _)
  | succ k ih =>
    intro Y1 Yd hk
    cases Yn:(decide (Y1 < (Y2.length:Int))) with
    | true =>
      have e:Z1h Ya Y2 (k + 1) Y1 Yd=(Z1h Ya Y2 k (Y1 + 1) (Yd.set ((Y2.getD Y1.toNat default).toNat) (⟨0,0,0⟩:Gv))):=by simp only [Z1h,Yn,cond_true]
      rw [e,ih (Y1 + 1) (Yd.set ((Y2.getD Y1.toNat default).toNat) (⟨0,0,0⟩:Gv)) (by simp_all <;> omega)]; simp
    | false =>
      have e:Z1h Ya Y2 (k + 1) Y1 Yd=Yd:=by simp only [Z1h,Yn,cond_false]
      first | (rw [e]; done) | (rw [e]; rfl)
def Z4m (Ya:Gb) (Y2:(List Int)):(List Gv):=(Z1h Ya Y2 (((Y2.length:Int) - 0).toNat + 1) 0 (Z3u Ya))
@[simp] theorem Zgv (Ya:Gb) (Y2:(List Int)):(Z4m Ya Y2).length=((Z3u Ya):(List Gv)).length:=Zcp Ya Y2 (((Y2.length:Int) - 0).toNat + 1) 0 (Z3u Ya) (by exact Nat.lt_succ_self _)
def ZB (Ya:Gb) (Y2:(List Int)):(List Gv):=(Z4m Ya Y2)
@[simp] theorem Z7Q (Ya:Gb) (Y2:(List Int)):(ZB Ya Y2).length=Ya.Me.Pq.length:=by
  first | (simp [ZB]; done)
theorem Zhc (b:Gb) (l:List Int) (ok:OkBd b):ZB b l=Z1K b l:=by
  unfold ZB Z1K Z4m Z4K
  rw [ZhK b ok,show Z1h b l=Z1M b l from by kernel_rfl]
theorem Zcd (b:Gb) (hs:List Int) (h:ZE b hs=true):Z1z b=true∧Z3F b hs=true:=by
  rw [Zey] at h
  cases h1:Z1z b <;> rw [h1] at h <;> (try (cases h; done))
  exact ⟨rfl,h⟩
theorem Zf5 (Ya:Gb) (Y2:(List Int)) (hp0:Ya.Me.Pq.length≤1073741824) (hp1:Ya.Me.Tr.length≤1073741824) (hp2:∀ t∈Ya.Me.Tr,t.length≤1073741824) (hp3:Ya.Sp.length≤1073741824) (hp4:Ya.We.length≤1073741824) (hp5:Y2.length≤1073741824) (hp6:OkBd Ya) (hp7:OkIx Ya.Me.Pq.length (fun x => x) Y2)  : Fn prog 68 [.agg [.sl (Ya.Me.Pq.map Gv.c), .sl (Ya.Me.Tr.map (cL (cI .i64))), .sl (Ya.Sp.map Gs.c), .f .f32 Ya.Film, .f .f32 Ya.Bend, .sl (Ya.We.map (cF .f32)), .f .f32 Ya.Fall.X, .f .f32 Ya.Fall.Y, .f .f32 Ya.Fall.Z], .sl (Y2.map (cI .i64))] (.own 0) [.vec 40 3 ((ZB Ya Y2).map Gv.c) false]:=by
 refine fnS E0Ok Z4 (c:=X0 f68) [] (.own 0) [.vec 40 3 ((Z4m Ya Y2).map Gv.c) false] func68 (sF (Zgc Ya hp0 hp1 hp2 hp3 hp4 hp6) <| sZ (cI .i64) Y2 <| sL (mR false [0,3,1,2,2,5,9]) 2 (X1 (Z6u Ya Y2) (x:=(Z4m Ya Y2)) (Zdr Ya Y2 hp0 hp1 hp2 hp3 hp4 hp5 hp6 hp7 (((Y2.length:Int) - 0).toNat + 1) 0 (Z3u Ya) (show 0≤0 from (by omega)) (show (Z3u Ya).length=Ya.Me.Pq.length from (by simp; done)) (Nat.lt_succ_self _)) rfl) <| sK [1] sN) rfl (by kernel_rfl) (by kernel_rfl) rfl ?_ ?_
 · rfl
 · simp [ZB]
def Z23 (Ya:Gb) (YH:(List Gv)) (Yp:Nat):Nat→Int→(List Gv)→(List Gv)
  | 0,_,_ => default
  | k + 1,Y1,Yb => (cond (decide (Y1 < (YH.length:Int)))
    (Z23 Ya YH Yp k (Y1 + 1) (Yb.set Y1.toNat (Z16 (Yb.getD Y1.toNat default) (Zm (YH.getD Y1.toNat default) Yp))))
    Yb)
def Z9G (Ya:Gb) (YH:(List Gv)) (Yp:Nat) (r:(List Gv)):Ex × St:=((.exit 0),⟨.agg [.sl (Ya.Me.Pq.map Gv.c), .sl (Ya.Me.Tr.map (cL (cI .i64))), .sl (Ya.Sp.map Gs.c), .f .f32 Ya.Film, .f .f32 Ya.Bend, .sl (Ya.We.map (cF .f32)), .f .f32 Ya.Fall.X, .f .f32 Ya.Fall.Y, .f .f32 Ya.Fall.Z] :: .sl (YH.map Gv.c) :: .any :: .ptr 0 0 0 :: .any :: .any :: .ptr 1 0 0 :: .ptr 2 0 0 :: .any :: .any :: .agg [.sl (Ya.Me.Pq.map Gv.c), .sl (Ya.Me.Tr.map (cL (cI .i64))), .sl (Ya.Sp.map Gs.c), .f .f32 Ya.Film, .f .f32 Ya.Bend, .sl (Ya.We.map (cF .f32)), .f .f32 Ya.Fall.X, .f .f32 Ya.Fall.Y, .f .f32 Ya.Fall.Z] :: .agg [.own 3, .own 4, .own 5, .f .f32 Ya.Film, .f .f32 Ya.Bend, .own 6, .f .f32 Ya.Fall.X, .f .f32 Ya.Fall.Y, .f .f32 Ya.Fall.Z] :: .sl (YH.map Gv.c) :: an 23 [],[.box 42 [.sl (Ya.Me.Pq.map Gv.c), .sl (Ya.Me.Tr.map (cL (cI .i64))), .sl (Ya.Sp.map Gs.c), .f .f32 Ya.Film, .f .f32 Ya.Bend, .sl (Ya.We.map (cF .f32)), .f .f32 Ya.Fall.X, .f .f32 Ya.Fall.Y, .f .f32 Ya.Fall.Z], .box 42 [.nils, .nils, .nils, .f .f32 0, .f .f32 0, .nils, .f .f32 0, .f .f32 0, .f .f32 0], .box 42 [.own 3, .own 4, .own 5, .f .f32 Ya.Film, .f .f32 Ya.Bend, .own 6, .f .f32 Ya.Fall.X, .f .f32 Ya.Fall.Y, .f .f32 Ya.Fall.Z], .vec 40 3 (r.map Gv.c) false, .nest 49 (Ya.Me.Tr.map fun l => l.map (cI .i64)) false, .vec 133 4 (Ya.Sp.map Gs.c) false, .vec 27 1 (Ya.We.map (cF .f32)) false]⟩)
def Zce (Ya:Gb) (YH:(List Gv)) (Yp:Nat) (Y1:Int) (Yb:(List Gv)):St:=⟨.agg [.sl (Ya.Me.Pq.map Gv.c), .sl (Ya.Me.Tr.map (cL (cI .i64))), .sl (Ya.Sp.map Gs.c), .f .f32 Ya.Film, .f .f32 Ya.Bend, .sl (Ya.We.map (cF .f32)), .f .f32 Ya.Fall.X, .f .f32 Ya.Fall.Y, .f .f32 Ya.Fall.Z] :: .sl (YH.map Gv.c) :: .f .f32 Yp :: .ptr 0 0 0 :: .any :: .any :: .ptr 1 0 0 :: .ptr 6 0 0 :: .any :: .any :: .agg [.sl (Ya.Me.Pq.map Gv.c), .sl (Ya.Me.Tr.map (cL (cI .i64))), .sl (Ya.Sp.map Gs.c), .f .f32 Ya.Film, .f .f32 Ya.Bend, .sl (Ya.We.map (cF .f32)), .f .f32 Ya.Fall.X, .f .f32 Ya.Fall.Y, .f .f32 Ya.Fall.Z] :: .agg [.own 2, .own 3, .own 4, .f .f32 Ya.Film, .f .f32 Ya.Bend, .own 5, .f .f32 Ya.Fall.X, .f .f32 Ya.Fall.Y, .f .f32 Ya.Fall.Z] :: .sl (YH.map Gv.c) :: .i .i64 (YH.length:Int) :: .i .i64 Y1 :: an 21 [],[.box 42 [.sl (Ya.Me.Pq.map Gv.c), .sl (Ya.Me.Tr.map (cL (cI .i64))), .sl (Ya.Sp.map Gs.c), .f .f32 Ya.Film, .f .f32 Ya.Bend, .sl (Ya.We.map (cF .f32)), .f .f32 Ya.Fall.X, .f .f32 Ya.Fall.Y, .f .f32 Ya.Fall.Z], .box 42 [.nils, .nils, .nils, .f .f32 0, .f .f32 0, .nils, .f .f32 0, .f .f32 0, .f .f32 0], .vec 40 3 (Yb.map Gv.c) false, .nest 49 (Ya.Me.Tr.map fun l => l.map (cI .i64)) false, .vec 133 4 (Ya.Sp.map Gs.c) false, .vec 27 1 (Ya.We.map (cF .f32)) false, .box 42 [.own 2, .own 3, .own 4, .f .f32 Ya.Film, .f .f32 Ya.Bend, .own 5, .f .f32 Ya.Fall.X, .f .f32 Ya.Fall.Y, .f .f32 Ya.Fall.Z]]⟩
theorem Zgd (Ya:Gb) (YH:(List Gv)) (Yp:Nat) (hp0:Ya.Me.Pq.length≤1073741824) (hp1:Ya.Me.Tr.length≤1073741824) (hp2:∀ t∈Ya.Me.Tr,t.length≤1073741824) (hp3:Ya.Sp.length≤1073741824) (hp4:Ya.We.length≤1073741824) (hp5:YH.length≤1073741824) (hp6:Xt Ya.Me.Pq.length Ya.Me.Tr) (hp7:YH.length≤Ya.Me.Pq.length):∀ (k:Nat) (Y1:Int) (Yb:(List Gv)) (Zbk:0≤Y1) (Zbl:Yb.length=Ya.Me.Pq.length) (hk:((YH.length:Int) - Y1).toNat < k),Lp prog 0 (sub (X0 f124) [1,1,0,1,0,0]) (Zce Ya YH Yp Y1 Yb) (Z9G Ya YH Yp (Z23 Ya YH Yp k Y1 Yb)).1 (Z9G Ya YH Yp (Z23 Ya YH Yp k Y1 Yb)).2:=by
 intro k
 induction k with
 | zero => intro Y1 Yb Zbk Zbl hk; exact absurd hk (Nat.not_lt_zero _)
 | succ k ih =>
  intro Y1 Yb Zbk Zbl hk
  cases Yn:(decide (Y1 < (YH.length:Int))) with
  | true =>
   have YM:=odt Yn
   have YS:(0:Int)≤Y1:=(by assumption)
   have YT:Y1 < (YH.length:Int):=(by assumption)
   have YY:Y1 < (Yb.length:Int):=(by omega)
   have YZ:Y1.toNat < Yb.length:=(by omega)
   have y_4:(-9223372036854775808:Int)≤(Y1 + 1):=(by omega)
   have y_5:(Y1 + 1)≤(9223372036854775807:Int):=(by omega)
   have e:Z23 Ya YH Yp (k + 1) Y1 Yb=(Z23 Ya YH Yp k (Y1 + 1) (Yb.set Y1.toNat (Z16 (Yb.getD Y1.toNat default) (Zm (YH.getD Y1.toNat default) Yp)))):=by simp only [Z23,Yn,cond_true]
   rw [e]
   exact X8 E0Ok Z4 [] (mR false [0,4,2,2,2,5,21]) [0,1,2,3,4,5,6] (⟨.agg [.sl (Ya.Me.Pq.map Gv.c), .sl (Ya.Me.Tr.map (cL (cI .i64))), .sl (Ya.Sp.map Gs.c), .f .f32 Ya.Film, .f .f32 Ya.Bend, .sl (Ya.We.map (cF .f32)), .f .f32 Ya.Fall.X, .f .f32 Ya.Fall.Y, .f .f32 Ya.Fall.Z] :: .sl (YH.map Gv.c) :: .f .f32 Yp :: .ptr 0 0 0 :: .any :: .any :: .ptr 1 0 0 :: .ptr 6 0 0 :: .any :: .any :: .agg [.sl (Ya.Me.Pq.map Gv.c), .sl (Ya.Me.Tr.map (cL (cI .i64))), .sl (Ya.Sp.map Gs.c), .f .f32 Ya.Film, .f .f32 Ya.Bend, .sl (Ya.We.map (cF .f32)), .f .f32 Ya.Fall.X, .f .f32 Ya.Fall.Y, .f .f32 Ya.Fall.Z] :: .agg [.own 2, .own 3, .own 4, .f .f32 Ya.Film, .f .f32 Ya.Bend, .own 5, .f .f32 Ya.Fall.X, .f .f32 Ya.Fall.Y, .f .f32 Ya.Fall.Z] :: .sl (YH.map Gv.c) :: .i .i64 (YH.length:Int) :: .i .i64 (Y1 + 1) :: an 21 [],[.box 42 [.sl (Ya.Me.Pq.map Gv.c), .sl (Ya.Me.Tr.map (cL (cI .i64))), .sl (Ya.Sp.map Gs.c), .f .f32 Ya.Film, .f .f32 Ya.Bend, .sl (Ya.We.map (cF .f32)), .f .f32 Ya.Fall.X, .f .f32 Ya.Fall.Y, .f .f32 Ya.Fall.Z], .box 42 [.nils, .nils, .nils, .f .f32 0, .f .f32 0, .nils, .f .f32 0, .f .f32 0, .f .f32 0], .vec 40 3 ((Yb.map Gv.c).set Y1.toNat [.f .f32 ((Z16 (Yb.getD Y1.toNat default) (Zm (YH.getD Y1.toNat default) Yp)).X), .f .f32 ((Z16 (Yb.getD Y1.toNat default) (Zm (YH.getD Y1.toNat default) Yp)).Y), .f .f32 ((Z16 (Yb.getD Y1.toNat default) (Zm (YH.getD Y1.toNat default) Yp)).Z)]) false, .nest 49 (Ya.Me.Tr.map fun l => l.map (cI .i64)) false, .vec 133 4 (Ya.Sp.map Gs.c) false, .vec 27 1 (Ya.We.map (cF .f32)) false, .box 42 [.own 2, .own 3, .own 4, .f .f32 Ya.Film, .f .f32 Ya.Bend, .own 5, .f .f32 Ya.Fall.X, .f .f32 Ya.Fall.Y, .f .f32 Ya.Fall.Z]]⟩) (sB Yn <| sG Gv.c YH Y1 YS YT <| sK [14,14] <| sX Gv.c Yb Y1 YS YY <| sV Gv.c Yb Y1.toNat YZ <| sF (Z5P (YH.getD Y1.toNat default) Yp) <| sF (Z5a (Yb.getD Y1.toNat default) (Zm (YH.getD Y1.toNat default) Yp)) <| sX Gv.c Yb Y1 YS YY <| sC (Xn (c:=Gv.c) (l:=Yb) YZ) <| sI (Y1 + 1) y_4 y_5 <| sN) (by kernel_rfl) (by simp [Zce,List.map_set,Gv.c]) (ih (Y1 + 1) (Yb.set Y1.toNat (Z16 (Yb.getD Y1.toNat default) (Zm (YH.getD Y1.toNat default) Yp))) (show 0≤(Y1 + 1) from (by omega)) (show (Yb.set Y1.toNat (Z16 (Yb.getD Y1.toNat default) (Zm (YH.getD Y1.toNat default) Yp))).length=Ya.Me.Pq.length from (by simp_all <;> omega)) (by omega))
  | false =>
   have YM:=odf Yn
   have e:Z23 Ya YH Yp (k + 1) Y1 Yb=Yb:=by simp only [Z23,Yn,cond_false]
   rw [e]
   exact outR (e:=(.exit 0)) E0Ok Z4 [] (mR false [0,2,1,1,2,2,2,3,23]) [0,1,6,2,3,4,5] (sB Yn <| sN) (by kernel_rfl) (by intro h; cases h)
theorem Zf6 (Ya:Gb) (YH:(List Gv)) (Yp:Nat):∀ (k:Nat) (Y1:Int) (Yb:(List Gv)) (hk:((YH.length:Int) - Y1).toNat < k),(Z23 Ya YH Yp k Y1 Yb).length=Yb.length:=by
  intro k
  induction k with
  | zero => intro Y1 Yb hk; exact absurd hk (Nat.not_lt_zero _)
  | succ k ih =>
    intro Y1 Yb hk
    cases Yn:(decide (Y1 < (YH.length:Int))) with
    | true =>
      have e:Z23 Ya YH Yp (k + 1) Y1 Yb=(Z23 Ya YH Yp k (Y1 + 1) (Yb.set Y1.toNat (Z16 (Yb.getD Y1.toNat default) (Zm (YH.getD Y1.toNat default) Yp)))):=by simp only [Z23,Yn,cond_true]
      rw [e,ih (Y1 + 1) (Yb.set Y1.toNat (Z16 (Yb.getD Y1.toNat default) (Zm (YH.getD Y1.toNat default) Yp))) (by simp_all <;> omega)]; simp
    | false =>
      have e:Z23 Ya YH Yp (k + 1) Y1 Yb=Yb:=by simp only [Z23,Yn,cond_false]
      first | (rw [e]; done) | (rw [e]; rfl)
def Z5c (Ya:Gb) (YH:(List Gv)) (Yp:Nat):(List Gv):=(Z23 Ya YH Yp (((YH.length:Int) - 0).toNat + 1) 0 Ya.Me.Pq)
@[simp] theorem ZhB (Ya:Gb) (YH:(List Gv)) (Yp:Nat):(Z5c Ya YH Yp).length=(Ya.Me.Pq:(List Gv)).length:=Zf6 Ya YH Yp (((YH.length:Int) - 0).toNat + 1) 0 Ya.Me.Pq (by exact Nat.lt_succ_self _)
def Z18 (Ya:Gb) (YH:(List Gv)) (Yp:Nat):Gb:=(⟨(⟨(Z5c Ya YH Yp),Ya.Me.Tr⟩:Gm),Ya.Sp,Ya.Film,Ya.Bend,Ya.We,Ya.Fall⟩:Gb)
theorem ZcL (b:Gb) (v:List Gv) (s:Nat):(Z18 b v s).Me.Pq.length≤b.Me.Pq.length:=by
  unfold Z18
  simp
theorem ZcM (b:Gb) (v:List Gv) (s:Nat):(Z18 b v s).Me.Tr.length≤b.Me.Tr.length:=by
  unfold Z18
  simp
theorem ZcN (b:Gb) (v:List Gv) (s:Nat):(Z18 b v s).We.length≤b.We.length:=by
  unfold Z18
  simp
theorem ZcO (b:Gb) (v:List Gv) (s:Nat):(Z18 b v s).Sp.length≤b.Sp.length:=by
  unfold Z18
  simp
theorem Zhw (Ya:Gb) (YH:(List Gv)) (Yp:Nat) (hp0:Ya.Me.Pq.length≤1073741824) (hp1:Ya.Me.Tr.length≤1073741824) (hp2:∀ t∈Ya.Me.Tr,t.length≤1073741824) (hp3:Ya.Sp.length≤1073741824) (hp4:Ya.We.length≤1073741824) (hp5:YH.length≤1073741824) (hp6:Xt Ya.Me.Pq.length Ya.Me.Tr) (hp7:YH.length≤Ya.Me.Pq.length)  : Fn prog 124 [.agg [.sl (Ya.Me.Pq.map Gv.c), .sl (Ya.Me.Tr.map (cL (cI .i64))), .sl (Ya.Sp.map Gs.c), .f .f32 Ya.Film, .f .f32 Ya.Bend, .sl (Ya.We.map (cF .f32)), .f .f32 Ya.Fall.X, .f .f32 Ya.Fall.Y, .f .f32 Ya.Fall.Z], .sl (YH.map Gv.c), .f .f32 Yp] (.agg [.own 0, .own 1, .own 2, .f .f32 ((Z18 Ya YH Yp).Film), .f .f32 ((Z18 Ya YH Yp).Bend), .own 3, .f .f32 ((Z18 Ya YH Yp).Fall.X), .f .f32 ((Z18 Ya YH Yp).Fall.Y), .f .f32 ((Z18 Ya YH Yp).Fall.Z)]) [.vec 40 3 (((Z18 Ya YH Yp).Me.Pq).map Gv.c) false, .nest 49 (((Z18 Ya YH Yp).Me.Tr).map fun l => l.map (cI .i64)) false, .vec 133 4 (((Z18 Ya YH Yp).Sp).map Gs.c) false, .vec 27 1 (((Z18 Ya YH Yp).We).map (cF .f32)) false]:=by
 refine fnS E0Ok Z4 (c:=X0 f124) [] (.agg [.own 0, .own 1, .own 2, .f .f32 Ya.Film, .f .f32 Ya.Bend, .own 3, .f .f32 Ya.Fall.X, .f .f32 Ya.Fall.Y, .f .f32 Ya.Fall.Z]) [.vec 40 3 ((Z5c Ya YH Yp).map Gv.c) false, .nest 49 (Ya.Me.Tr.map fun l => l.map (cI .i64)) false, .vec 133 4 (Ya.Sp.map Gs.c) false, .vec 27 1 (Ya.We.map (cF .f32)) false] func124 (sF (Zc9 Ya hp0 hp1 hp2 hp3 hp4 hp6) <| sZ Gv.c YH <| sL (mR false [0,4,2,2,2,5,21]) 7 (X1 (Z9G Ya YH Yp) (x:=(Z5c Ya YH Yp)) (Zgd Ya YH Yp hp0 hp1 hp2 hp3 hp4 hp5 hp6 hp7 (((YH.length:Int) - 0).toNat + 1) 0 Ya.Me.Pq (show 0≤0 from (by omega)) (show Ya.Me.Pq.length=Ya.Me.Pq.length from (by simp)) (Nat.lt_succ_self _)) rfl) <| sK [3,4,5,6] sN) rfl (by kernel_rfl) (by kernel_rfl) rfl ?_ ?_
 · rfl
 · simp [Z18]
theorem ZiN (b:Gb) (v:List Gv) (s:Nat):∀ (k:Nat) (i:Int) (r:List Gv),0≤i→(∀ j,i.toNat≤j→r.getD j default=b.Me.Pq.getD j default)→Z23 b v s k i r=Z1o b v s k i r:=by
  intro k
  induction k with
  | zero => intros; rfl
  | succ k ih =>
    intro i r h0 hr
    rw [Z23,Z1o,hr _ (Nat.le_refl _)]
    cases decide (i < (v.length:Int)) with
    | false => rfl
    | true =>
      rw [cond_true,cond_true]
      rw [ih (i + 1) _ (by omega) (fun j hj => by rw [List.getD_eq_getElem?_getD,List.getElem?_set_ne (by omega),← List.getD_eq_getElem?_getD]; exact hr j (by omega))]
      rfl
theorem Zhx (b:Gb) (v:List Gv) (s:Nat):Z18 b v s=Zo b v s:=by
  unfold Z18 Zo Z5c Z4b
  rw [ZiN b v s _ _ _ (Int.le_refl 0) (fun _ _ => rfl)]
def Z1i (Y3:Gn) (Y2:(List Int)) (Y6:Nat) (Y5:Nat) (Y1:Int):Gv:=(Z16 (Y3.Sd.getD Y1.toNat default) (Zm ((ZB Y3.Body Y2).getD Y1.toNat default) (fop .quo .f32 Y5 Y6)))
def Z2I (Y3:Gn) (Y2:(List Int)) (Y6:Nat) (Y9:Nat) (Y5:Nat):Nat→Int→(List Gv)→(List Gv)
  | 0,_,_ => default
  | k + 1,Y1,Yb => (cond (decide (Y1 < ((ZB Y3.Body Y2).length:Int)))
    (Z2I Y3 Y2 Y6 Y9 Y5 k (Y1 + 1) (Yb ++ [(Zm (Z1i Y3 Y2 Y6 Y5 Y1) Y9)]))
    Yb)
def Z6v (Y3:Gn) (Y2:(List Int)) (Y6:Nat) (Y9:Nat) (Y5:Nat) (r:(List Gv)):Ex × St:=((.exit 0),⟨.agg [.sl (Y3.Body.Me.Pq.map Gv.c), .sl (Y3.Body.Me.Tr.map (cL (cI .i64))), .sl (Y3.Body.Sp.map Gs.c), .f .f32 Y3.Body.Film, .f .f32 Y3.Body.Bend, .sl (Y3.Body.We.map (cF .f32)), .f .f32 Y3.Body.Fall.X, .f .f32 Y3.Body.Fall.Y, .f .f32 Y3.Body.Fall.Z, .sl (Y3.Sd.map Gv.c)] :: .sl (Y2.map (cI .i64)) :: .any :: .any :: .f .f32 Y5 :: .ptr 0 0 0 :: an 4 (.ptr 1 0 0 :: .own 2 :: an 5 (.ptr 0 0 0 :: .agg [.sl (Y3.Body.Me.Pq.map Gv.c), .sl (Y3.Body.Me.Tr.map (cL (cI .i64))), .sl (Y3.Body.Sp.map Gs.c), .f .f32 Y3.Body.Film, .f .f32 Y3.Body.Bend, .sl (Y3.Body.We.map (cF .f32)), .f .f32 Y3.Body.Fall.X, .f .f32 Y3.Body.Fall.Y, .f .f32 Y3.Body.Fall.Z] :: .sl (Y2.map (cI .i64)) :: .own 3 :: an 41 [])),[.box 66 [.sl (Y3.Body.Me.Pq.map Gv.c), .sl (Y3.Body.Me.Tr.map (cL (cI .i64))), .sl (Y3.Body.Sp.map Gs.c), .f .f32 Y3.Body.Film, .f .f32 Y3.Body.Bend, .sl (Y3.Body.We.map (cF .f32)), .f .f32 Y3.Body.Fall.X, .f .f32 Y3.Body.Fall.Y, .f .f32 Y3.Body.Fall.Z, .sl (Y3.Sd.map Gv.c)], .box 66 [.nils, .nils, .nils, .f .f32 0, .f .f32 0, .nils, .f .f32 0, .f .f32 0, .f .f32 0, .nils], .vec 40 3 (r.map Gv.c) false, .vec 40 3 ((ZB Y3.Body Y2).map Gv.c) false]⟩)
def Z6w (Y3:Gn) (Y2:(List Int)) (Y6:Nat) (Y9:Nat) (Y5:Nat) (Y1:Int) (Yb:(List Gv)):St:=⟨.agg [.sl (Y3.Body.Me.Pq.map Gv.c), .sl (Y3.Body.Me.Tr.map (cL (cI .i64))), .sl (Y3.Body.Sp.map Gs.c), .f .f32 Y3.Body.Film, .f .f32 Y3.Body.Bend, .sl (Y3.Body.We.map (cF .f32)), .f .f32 Y3.Body.Fall.X, .f .f32 Y3.Body.Fall.Y, .f .f32 Y3.Body.Fall.Z, .sl (Y3.Sd.map Gv.c)] :: .sl (Y2.map (cI .i64)) :: .f .f32 Y6 :: .f .f32 Y9 :: .f .f32 Y5 :: .ptr 0 0 0 :: an 4 (.ptr 1 0 0 :: .own 2 :: an 5 (.ptr 0 0 0 :: .agg [.sl (Y3.Body.Me.Pq.map Gv.c), .sl (Y3.Body.Me.Tr.map (cL (cI .i64))), .sl (Y3.Body.Sp.map Gs.c), .f .f32 Y3.Body.Film, .f .f32 Y3.Body.Bend, .sl (Y3.Body.We.map (cF .f32)), .f .f32 Y3.Body.Fall.X, .f .f32 Y3.Body.Fall.Y, .f .f32 Y3.Body.Fall.Z] :: .sl (Y2.map (cI .i64)) :: .own 3 :: .i .i64 ((ZB Y3.Body Y2).length:Int) :: .i .i64 Y1 :: an 39 [])),[.box 66 [.sl (Y3.Body.Me.Pq.map Gv.c), .sl (Y3.Body.Me.Tr.map (cL (cI .i64))), .sl (Y3.Body.Sp.map Gs.c), .f .f32 Y3.Body.Film, .f .f32 Y3.Body.Bend, .sl (Y3.Body.We.map (cF .f32)), .f .f32 Y3.Body.Fall.X, .f .f32 Y3.Body.Fall.Y, .f .f32 Y3.Body.Fall.Z, .sl (Y3.Sd.map Gv.c)], .box 66 [.nils, .nils, .nils, .f .f32 0, .f .f32 0, .nils, .f .f32 0, .f .f32 0, .f .f32 0, .nils], .vec 40 3 (Yb.map Gv.c) false, .vec 40 3 ((ZB Y3.Body Y2).map Gv.c) false]⟩
theorem Zds (Y3:Gn) (Y2:(List Int)) (Y6:Nat) (Y9:Nat) (Y5:Nat) (hp0:Y3.Body.Me.Pq.length≤1073741824) (hp1:Y3.Body.Me.Tr.length≤1073741824) (hp2:∀ t∈Y3.Body.Me.Tr,t.length≤1073741824) (hp3:Y3.Body.Sp.length≤1073741824) (hp4:Y3.Body.We.length≤1073741824) (hp5:Y3.Sd.length≤1073741824) (hp6:Y2.length≤1073741824) (hp7:OkBd Y3.Body) (hp8:Y3.Sd.length=Y3.Body.Me.Pq.length) (hp9:OkIx Y3.Body.Me.Pq.length (fun x => x) Y2):∀ (k:Nat) (Y1:Int) (Yb:(List Gv)) (Z89:0≤Y1) (Z8a:(Yb.length:Int)=Y1) (hk:(((ZB Y3.Body Y2).length:Int) - Y1).toNat < k),Lp prog 0 (sub (X0 f80) [1,1,0,1,0,0]) (Z6w Y3 Y2 Y6 Y9 Y5 Y1 Yb) (Z6v Y3 Y2 Y6 Y9 Y5 (Z2I Y3 Y2 Y6 Y9 Y5 k Y1 Yb)).1 (Z6v Y3 Y2 Y6 Y9 Y5 (Z2I Y3 Y2 Y6 Y9 Y5 k Y1 Yb)).2:=by
 intro k
 induction k with
 | zero => intro Y1 Yb Z89 Z8a hk; exact absurd hk (Nat.not_lt_zero _)
 | succ k ih =>
  intro Y1 Yb Z89 Z8a hk
  cases Yn:(decide (Y1 < ((ZB Y3.Body Y2).length:Int))) with
  | true =>
   have YM:=odt Yn
   have YS:(0:Int)≤Y1:=(by assumption)
   have YT:Y1 < ((ZB Y3.Body Y2).length:Int):=(by assumption)
   have YY:Y1.toNat < (ZB Y3.Body Y2).length:=(by omega)
   have YZ:Y1 < (Y3.Sd.length:Int):=(by have q:=Z7Q Y3.Body Y2; omega)
   have y_4:Yb.length + ([(Zm (Z1i Y3 Y2 Y6 Y5 Y1) Y9)]).length≤1073741824:=(by simp_all <;> omega)
   have y_5:(-9223372036854775808:Int)≤(Y1 + 1):=(by omega)
   have y_6:(Y1 + 1)≤(9223372036854775807:Int):=(by omega)
   have e:Z2I Y3 Y2 Y6 Y9 Y5 (k + 1) Y1 Yb=(Z2I Y3 Y2 Y6 Y9 Y5 k (Y1 + 1) (Yb ++ [(Zm (Z1i Y3 Y2 Y6 Y5 Y1) Y9)])):=by simp only [Z2I,Yn,cond_true]
   rw [e]
   exact X8 E0Ok Z4 [] (mR false [0,6,4,2,5,6,39]) [0,1,2,3] (⟨.agg [.sl (Y3.Body.Me.Pq.map Gv.c), .sl (Y3.Body.Me.Tr.map (cL (cI .i64))), .sl (Y3.Body.Sp.map Gs.c), .f .f32 Y3.Body.Film, .f .f32 Y3.Body.Bend, .sl (Y3.Body.We.map (cF .f32)), .f .f32 Y3.Body.Fall.X, .f .f32 Y3.Body.Fall.Y, .f .f32 Y3.Body.Fall.Z, .sl (Y3.Sd.map Gv.c)] :: .sl (Y2.map (cI .i64)) :: .f .f32 Y6 :: .f .f32 Y9 :: .f .f32 Y5 :: .ptr 0 0 0 :: an 4 (.ptr 1 0 0 :: .own 2 :: an 5 (.ptr 0 0 0 :: .agg [.sl (Y3.Body.Me.Pq.map Gv.c), .sl (Y3.Body.Me.Tr.map (cL (cI .i64))), .sl (Y3.Body.Sp.map Gs.c), .f .f32 Y3.Body.Film, .f .f32 Y3.Body.Bend, .sl (Y3.Body.We.map (cF .f32)), .f .f32 Y3.Body.Fall.X, .f .f32 Y3.Body.Fall.Y, .f .f32 Y3.Body.Fall.Z] :: .sl (Y2.map (cI .i64)) :: .own 3 :: .i .i64 ((ZB Y3.Body Y2).length:Int) :: .i .i64 (Y1 + 1) :: an 39 [])),[.box 66 [.sl (Y3.Body.Me.Pq.map Gv.c), .sl (Y3.Body.Me.Tr.map (cL (cI .i64))), .sl (Y3.Body.Sp.map Gs.c), .f .f32 Y3.Body.Film, .f .f32 Y3.Body.Bend, .sl (Y3.Body.We.map (cF .f32)), .f .f32 Y3.Body.Fall.X, .f .f32 Y3.Body.Fall.Y, .f .f32 Y3.Body.Fall.Z, .sl (Y3.Sd.map Gv.c)], .box 66 [.nils, .nils, .nils, .f .f32 0, .f .f32 0, .nils, .f .f32 0, .f .f32 0, .f .f32 0, .nils], .vec 40 3 ((Yb.map Gv.c) ++ ([[.f .f32 ((Zm (Z1i Y3 Y2 Y6 Y5 Y1) Y9).X), .f .f32 ((Zm (Z1i Y3 Y2 Y6 Y5 Y1) Y9).Y), .f .f32 ((Zm (Z1i Y3 Y2 Y6 Y5 Y1) Y9).Z)]]:List (List AV))) false, .vec 40 3 ((ZB Y3.Body Y2).map Gv.c) false]⟩) (sB Yn <| sX Gv.c (ZB Y3.Body Y2) Y1 YS YT <| sV Gv.c (ZB Y3.Body Y2) Y1.toNat YY <| sK [15,15] <| sG Gv.c Y3.Sd Y1 YS YZ <| sF (Z5P ((ZB Y3.Body Y2).getD Y1.toNat default) (fop .quo .f32 Y5 Y6)) <| sF (Z5a (Y3.Sd.getD Y1.toNat default) (Zm ((ZB Y3.Body Y2).getD Y1.toNat default) (fop .quo .f32 Y5 Y6))) <| sF (Z5P (Z1i Y3 Y2 Y6 Y5 Y1) Y9) <| sC (show (Yb.map Gv.c).length + ([[.f .f32 ((Zm (Z1i Y3 Y2 Y6 Y5 Y1) Y9).X), .f .f32 ((Zm (Z1i Y3 Y2 Y6 Y5 Y1) Y9).Y), .f .f32 ((Zm (Z1i Y3 Y2 Y6 Y5 Y1) Y9).Z)]]:List (List AV)).length≤1073741824 from (by simpa using y_4)) <| sI (Y1 + 1) y_5 y_6 <| sN) (by kernel_rfl) (by simp [Z6w,Gv.c]) (ih (Y1 + 1) (Yb ++ [(Zm (Z1i Y3 Y2 Y6 Y5 Y1) Y9)]) (show 0≤(Y1 + 1) from (by omega)) (show ((Yb ++ [(Zm (Z1i Y3 Y2 Y6 Y5 Y1) Y9)]).length:Int)=(Y1 + 1) from (by simp_all <;> omega)) (by omega))
  | false =>
   have YM:=odf Yn
   have e:Z2I Y3 Y2 Y6 Y9 Y5 (k + 1) Y1 Yb=Yb:=by simp only [Z2I,Yn,cond_false]
   rw [e]
   exact outR (e:=(.exit 0)) E0Ok Z4 [] (mR false [0,2,2,2,4,2,5,4,41]) [0,1,2,3] (sB Yn <| sN) (by kernel_rfl) (by intro h; cases h)
def Z1T (Y3:Gn) (Y2:(List Int)) (Y6:Nat) (Y9:Nat) (Y5:Nat):(List Gv):=(Z2I Y3 Y2 Y6 Y9 Y5 ((((ZB Y3.Body Y2).length:Int) - 0).toNat + 1) 0 ([]:List Gv))
theorem ZiQ (m:Gn) (h:List Int) (a d t:Nat):Z1T m h a d t=(List.range m.Body.Me.Pq.length).map fun (j:Nat) => Zm (Z1i m h a t (j:Int)) d:=by
  unfold Z1T
  rw [X2W (f:=fun i => Zm (Z1i m h a t i) d) (n:=((ZB m.Body h).length:Int)) (lo:=Z2I m h a d t) (fun k i r => rfl) _ _ _ (Nat.lt_succ_self _),List.nil_append,Z7Q]
  rw [show ((m.Body.Me.Pq.length:Int) - 0).toNat=m.Body.Me.Pq.length from by omega]
  simp only [Int.zero_add]
theorem ZbR (m:Gn) (h:List Int) (a d t:Nat):(Z1T m h a d t).length=m.Body.Me.Pq.length:=by rw [ZiQ]; simp
def Z1j (Y3:Gn) (Y2:(List Int)) (Y6:Nat) (Y9:Nat) (Y5:Nat):Nat→Int→(List Gv)→(List Gv)
  | 0,_,_ => default
  | k + 1,Y1,Yb => (cond (decide (Y1 < (Y2.length:Int)))
    (Z1j Y3 Y2 Y6 Y9 Y5 k (Y1 + 1) (Yb.set ((Y2.getD Y1.toNat default).toNat) (⟨0,0,0⟩:Gv)))
    Yb)
def Z6x (Y3:Gn) (Y2:(List Int)) (Y6:Nat) (Y9:Nat) (Y5:Nat) (r:(List Gv)):Ex × St:=((.exit 2),⟨.agg [.sl (Y3.Body.Me.Pq.map Gv.c), .sl (Y3.Body.Me.Tr.map (cL (cI .i64))), .sl (Y3.Body.Sp.map Gs.c), .f .f32 Y3.Body.Film, .f .f32 Y3.Body.Bend, .sl (Y3.Body.We.map (cF .f32)), .f .f32 Y3.Body.Fall.X, .f .f32 Y3.Body.Fall.Y, .f .f32 Y3.Body.Fall.Z, .sl (Y3.Sd.map Gv.c)] :: .sl (Y2.map (cI .i64)) :: .any :: .any :: .f .f32 Y5 :: .ptr 0 0 0 :: an 4 (.ptr 1 0 0 :: .own 2 :: an 5 (.ptr 0 0 0 :: .agg [.sl (Y3.Body.Me.Pq.map Gv.c), .sl (Y3.Body.Me.Tr.map (cL (cI .i64))), .sl (Y3.Body.Sp.map Gs.c), .f .f32 Y3.Body.Film, .f .f32 Y3.Body.Bend, .sl (Y3.Body.We.map (cF .f32)), .f .f32 Y3.Body.Fall.X, .f .f32 Y3.Body.Fall.Y, .f .f32 Y3.Body.Fall.Z] :: .sl (Y2.map (cI .i64)) :: .own 3 :: an 23 (.sl (Y2.map (cI .i64)) :: an 17 []))),[.box 66 [.sl (Y3.Body.Me.Pq.map Gv.c), .sl (Y3.Body.Me.Tr.map (cL (cI .i64))), .sl (Y3.Body.Sp.map Gs.c), .f .f32 Y3.Body.Film, .f .f32 Y3.Body.Bend, .sl (Y3.Body.We.map (cF .f32)), .f .f32 Y3.Body.Fall.X, .f .f32 Y3.Body.Fall.Y, .f .f32 Y3.Body.Fall.Z, .sl (Y3.Sd.map Gv.c)], .box 66 [.nils, .nils, .nils, .f .f32 0, .f .f32 0, .nils, .f .f32 0, .f .f32 0, .f .f32 0, .nils], .vec 40 3 (r.map Gv.c) false, .vec 40 3 ((ZB Y3.Body Y2).map Gv.c) false]⟩)
def Z9H (Y3:Gn) (Y2:(List Int)) (Y6:Nat) (Y9:Nat) (Y5:Nat) (Y1:Int) (Yb:(List Gv)):St:=⟨.agg [.sl (Y3.Body.Me.Pq.map Gv.c), .sl (Y3.Body.Me.Tr.map (cL (cI .i64))), .sl (Y3.Body.Sp.map Gs.c), .f .f32 Y3.Body.Film, .f .f32 Y3.Body.Bend, .sl (Y3.Body.We.map (cF .f32)), .f .f32 Y3.Body.Fall.X, .f .f32 Y3.Body.Fall.Y, .f .f32 Y3.Body.Fall.Z, .sl (Y3.Sd.map Gv.c)] :: .sl (Y2.map (cI .i64)) :: .any :: .any :: .f .f32 Y5 :: .ptr 0 0 0 :: an 4 (.ptr 1 0 0 :: .own 2 :: an 5 (.ptr 0 0 0 :: .agg [.sl (Y3.Body.Me.Pq.map Gv.c), .sl (Y3.Body.Me.Tr.map (cL (cI .i64))), .sl (Y3.Body.Sp.map Gs.c), .f .f32 Y3.Body.Film, .f .f32 Y3.Body.Bend, .sl (Y3.Body.We.map (cF .f32)), .f .f32 Y3.Body.Fall.X, .f .f32 Y3.Body.Fall.Y, .f .f32 Y3.Body.Fall.Z] :: .sl (Y2.map (cI .i64)) :: .own 3 :: an 23 (.sl (Y2.map (cI .i64)) :: .i .i64 (Y2.length:Int) :: .i .i64 Y1 :: an 15 []))),[.box 66 [.sl (Y3.Body.Me.Pq.map Gv.c), .sl (Y3.Body.Me.Tr.map (cL (cI .i64))), .sl (Y3.Body.Sp.map Gs.c), .f .f32 Y3.Body.Film, .f .f32 Y3.Body.Bend, .sl (Y3.Body.We.map (cF .f32)), .f .f32 Y3.Body.Fall.X, .f .f32 Y3.Body.Fall.Y, .f .f32 Y3.Body.Fall.Z, .sl (Y3.Sd.map Gv.c)], .box 66 [.nils, .nils, .nils, .f .f32 0, .f .f32 0, .nils, .f .f32 0, .f .f32 0, .f .f32 0, .nils], .vec 40 3 (Yb.map Gv.c) false, .vec 40 3 ((ZB Y3.Body Y2).map Gv.c) false]⟩
def Z8b:List Bool:=(mR false [0,2,2,2,4,2,5,4,23,3,15])
def Zcq:List Bool:=(mR false [0,2,2,2,4,2,5,4,23,1,17])
theorem Zdt (Y3:Gn) (Y2:(List Int)) (Y6:Nat) (Y9:Nat) (Y5:Nat) (hp0:Y3.Body.Me.Pq.length≤1073741824) (hp1:Y3.Body.Me.Tr.length≤1073741824) (hp2:∀ t∈Y3.Body.Me.Tr,t.length≤1073741824) (hp3:Y3.Body.Sp.length≤1073741824) (hp4:Y3.Body.We.length≤1073741824) (hp5:Y3.Sd.length≤1073741824) (hp6:Y2.length≤1073741824) (hp7:OkBd Y3.Body) (hp8:Y3.Sd.length=Y3.Body.Me.Pq.length) (hp9:OkIx Y3.Body.Me.Pq.length (fun x => x) Y2):∀ (k:Nat) (Y1:Int) (Yb:(List Gv)) (Z8c:0≤Y1) (Z8d:Yb.length=(Z1T Y3 Y2 Y6 Y9 Y5).length) (hk:((Y2.length:Int) - Y1).toNat < k),Lp prog 0 (sub (X0 f80) [1,1,1,0,1,0,0]) (Z9H Y3 Y2 Y6 Y9 Y5 Y1 Yb) (Z6x Y3 Y2 Y6 Y9 Y5 (Z1j Y3 Y2 Y6 Y9 Y5 k Y1 Yb)).1 (Z6x Y3 Y2 Y6 Y9 Y5 (Z1j Y3 Y2 Y6 Y9 Y5 k Y1 Yb)).2:=by
 intro k
 induction k with
 | zero => intro Y1 Yb Z8c Z8d hk; exact absurd hk (Nat.not_lt_zero _)
 | succ k ih =>
  intro Y1 Yb Z8c Z8d hk
  cases Yn:(decide (Y1 < (Y2.length:Int))) with
  | true =>
   have YM:=odt Yn
   have YS:(0:Int)≤Y1:=(by assumption)
   have YT:Y1 < (Y2.length:Int):=(by assumption)
   have YY:(0:Int)≤(Y2.getD Y1.toNat default):=(by have q:=OkIx.at hp9 (by assumption) YM; have q2:=ZbR Y3 Y2 Y6 Y9 Y5; omega)
   have YZ:(Y2.getD Y1.toNat default) < (Yb.length:Int):=(by have q:=OkIx.at hp9 (by assumption) YM; have q2:=ZbR Y3 Y2 Y6 Y9 Y5; omega)
   have y_4:(Y2.getD Y1.toNat default).toNat < Yb.length:=(by omega)
   have y_5:(-9223372036854775808:Int)≤(Y1 + 1):=(by omega)
   have y_6:(Y1 + 1)≤(9223372036854775807:Int):=(by omega)
   have e:Z1j Y3 Y2 Y6 Y9 Y5 (k + 1) Y1 Yb=(Z1j Y3 Y2 Y6 Y9 Y5 k (Y1 + 1) (Yb.set ((Y2.getD Y1.toNat default).toNat) (⟨0,0,0⟩:Gv))):=by simp only [Z1j,Yn,cond_true]
   rw [e]
   exact X8 E0Ok Z4 [] Z8b [0,1,2,3] (⟨.agg [.sl (Y3.Body.Me.Pq.map Gv.c), .sl (Y3.Body.Me.Tr.map (cL (cI .i64))), .sl (Y3.Body.Sp.map Gs.c), .f .f32 Y3.Body.Film, .f .f32 Y3.Body.Bend, .sl (Y3.Body.We.map (cF .f32)), .f .f32 Y3.Body.Fall.X, .f .f32 Y3.Body.Fall.Y, .f .f32 Y3.Body.Fall.Z, .sl (Y3.Sd.map Gv.c)] :: .sl (Y2.map (cI .i64)) :: .any :: .any :: .f .f32 Y5 :: .ptr 0 0 0 :: an 4 (.ptr 1 0 0 :: .own 2 :: an 5 (.ptr 0 0 0 :: .agg [.sl (Y3.Body.Me.Pq.map Gv.c), .sl (Y3.Body.Me.Tr.map (cL (cI .i64))), .sl (Y3.Body.Sp.map Gs.c), .f .f32 Y3.Body.Film, .f .f32 Y3.Body.Bend, .sl (Y3.Body.We.map (cF .f32)), .f .f32 Y3.Body.Fall.X, .f .f32 Y3.Body.Fall.Y, .f .f32 Y3.Body.Fall.Z] :: .sl (Y2.map (cI .i64)) :: .own 3 :: an 23 (.sl (Y2.map (cI .i64)) :: .i .i64 (Y2.length:Int) :: .i .i64 (Y1 + 1) :: an 15 []))),[.box 66 [.sl (Y3.Body.Me.Pq.map Gv.c), .sl (Y3.Body.Me.Tr.map (cL (cI .i64))), .sl (Y3.Body.Sp.map Gs.c), .f .f32 Y3.Body.Film, .f .f32 Y3.Body.Bend, .sl (Y3.Body.We.map (cF .f32)), .f .f32 Y3.Body.Fall.X, .f .f32 Y3.Body.Fall.Y, .f .f32 Y3.Body.Fall.Z, .sl (Y3.Sd.map Gv.c)], .box 66 [.nils, .nils, .nils, .f .f32 0, .f .f32 0, .nils, .f .f32 0, .f .f32 0, .f .f32 0, .nils], .vec 40 3 ((Yb.map Gv.c).set ((Y2.getD Y1.toNat default).toNat) [.f .f32 0, .f .f32 0, .f .f32 0]) false, .vec 40 3 ((ZB Y3.Body Y2).map Gv.c) false]⟩) (sB Yn <| sG (cI .i64) Y2 Y1 YS YT <| sX Gv.c Yb (Y2.getD Y1.toNat default) YY YZ <| sC (Xn (c:=Gv.c) (l:=Yb) y_4) <| sI (Y1 + 1) y_5 y_6 <| sN) (by kernel_rfl) (by simp [Z9H,List.map_set,Gv.c]) (ih (Y1 + 1) (Yb.set ((Y2.getD Y1.toNat default).toNat) (⟨0,0,0⟩:Gv)) (show 0≤(Y1 + 1) from (by omega)) (show (Yb.set ((Y2.getD Y1.toNat default).toNat) (⟨0,0,0⟩:Gv)).length=(Z1T Y3 Y2 Y6 Y9 Y5).length from (by have q:=OkIx.at hp9 (by assumption) YM; have q2:=ZbR Y3 Y2 Y6 Y9 Y5; (simp only [List.length_set]; omega))) (by omega))
  | false =>
   have YM:=odf Yn
   have e:Z1j Y3 Y2 Y6 Y9 Y5 (k + 1) Y1 Yb=Yb:=by simp only [Z1j,Yn,cond_false]
   rw [e]
   exact outR (e:=(.exit 2)) E0Ok Z4 [] Zcq [0,1,2,3] (sB Yn <| sN) (by kernel_rfl) (by intro h; cases h)
theorem Zcr (Y3:Gn) (Y2:(List Int)) (Y6:Nat) (Y9:Nat) (Y5:Nat):∀ (k:Nat) (Y1:Int) (Yb:(List Gv)) (hk:((Y2.length:Int) - Y1).toNat < k),(Z1j Y3 Y2 Y6 Y9 Y5 k Y1 Yb).length=Yb.length:=by
  intro k
  induction k with
  | zero => intro Y1 Yb hk; exact absurd hk (Nat.not_lt_zero _)
  | succ k ih =>
    intro Y1 Yb hk
    cases Yn:(decide (Y1 < (Y2.length:Int))) with
    | true =>
      have e:Z1j Y3 Y2 Y6 Y9 Y5 (k + 1) Y1 Yb=(Z1j Y3 Y2 Y6 Y9 Y5 k (Y1 + 1) (Yb.set ((Y2.getD Y1.toNat default).toNat) (⟨0,0,0⟩:Gv))):=by simp only [Z1j,Yn,cond_true]
      rw [e,ih (Y1 + 1) (Yb.set ((Y2.getD Y1.toNat default).toNat) (⟨0,0,0⟩:Gv)) (by simp_all <;> omega)]; simp
    | false =>
      have e:Z1j Y3 Y2 Y6 Y9 Y5 (k + 1) Y1 Yb=Yb:=by simp only [Z1j,Yn,cond_false]
      first | (rw [e]; done) | (rw [e]; rfl)
def Zz (Y3:Gn) (Y2:(List Int)) (Y6:Nat) (Y9:Nat) (Y5:Nat):(List Gv):=(Z1j Y3 Y2 Y6 Y9 Y5 (((Y2.length:Int) - 0).toNat + 1) 0 (Z1T Y3 Y2 Y6 Y9 Y5))
@[simp] theorem Z4e (Y3:Gn) (Y2:(List Int)) (Y6:Nat) (Y9:Nat) (Y5:Nat):(Zz Y3 Y2 Y6 Y9 Y5).length=((Z1T Y3 Y2 Y6 Y9 Y5):(List Gv)).length:=Zcr Y3 Y2 Y6 Y9 Y5 (((Y2.length:Int) - 0).toNat + 1) 0 (Z1T Y3 Y2 Y6 Y9 Y5) (by exact Nat.lt_succ_self _)
def Z9 (Y3:Gn) (Y2:(List Int)) (Y6:Nat) (Y9:Nat) (Y5:Nat):Gn:=(⟨(Z18 Y3.Body (Zz Y3 Y2 Y6 Y9 Y5) Y5),(Zz Y3 Y2 Y6 Y9 Y5)⟩:Gn)
theorem ZiO {β:Type} {z:β} {hs:List Int} {lo:Nat→Int→List β→List β} (h:∀ k i r,lo (k + 1) i r=cond (decide (i < (hs.length:Int))) (lo k (i + 1) (r.set (hs.getD i.toNat default).toNat z)) r) :
    ∀ (k:Nat) (i:Int) (r:List β),0≤i→((hs.length:Int) - i).toNat < k→lo k i r=(hs.drop i.toNat).foldl (fun r v => r.set v.toNat z) r:=by
  intro k
  induction k with
  | zero => intro i r _ hk; exact absurd hk (Nat.not_lt_zero _)
  | succ k ih =>
    intro i r h0 hk
    rw [h]
    by_cases hi:i < (hs.length:Int)
    · have hn:i.toNat < hs.length:=by omega
      rw [decide_eq_true hi,cond_true,ih _ _ (by omega) (by omega),List.drop_eq_getElem_cons hn,show (i + 1).toNat=i.toNat + 1 from by omega,List.foldl_cons,List.getD_eq_getElem?_getD,List.getElem?_eq_getElem hn]; rfl
    · rw [decide_eq_false hi,cond_false,List.drop_eq_nil_of_le (by omega)]; rfl
theorem Ziv {β:Type} {z:β} (j:Nat):∀ (l:List Int) (r:List β),(l.foldl (fun r v => r.set v.toNat z) r)[j]? = cond (l.any fun v => v.toNat == j) (r[j]?.map fun _ => z) r[j]? := by
  intro l
  induction l with
  | nil => intro r; rfl
  | cons x l ih =>
    intro r
    rw [List.foldl_cons,ih,List.any_cons]
    by_cases hx:x.toNat=j
    · subst hx
      rw [List.getElem?_set_self',beq_self_eq_true,Bool.true_or,cond_true]
      cases l.any fun v => v.toNat == x.toNat <;> cases r[x.toNat]? <;> rfl
    · rw [List.getElem?_set_ne hx,show (x.toNat == j)=false from beq_eq_false_iff_ne.2 hx,Bool.false_or]
theorem Ziw (m:Gn) (h:List Int) (a d t:Nat) (ok:OkBd m.Body) (hs:m.Sd.length=m.Body.Me.Pq.length) (hh:OkIx m.Body.Me.Pq.length (fun x => x) h):Zz m h a d t=Zk m h a d t:=by
  unfold Zz
  rw [ZiO (z:=(⟨0,0,0⟩:Gv)) (hs:=h) (lo:=Z1j m h a d t) (fun k i r => rfl) _ _ _ (Int.le_refl 0) (Nat.lt_succ_self _),ZiQ,ZhT,hs,Int.toNat_zero,List.drop_zero]
  simp only [Zim]
  apply List.ext_getElem?
  intro j
  rw [Ziv,List.getElem?_map,List.getElem?_map]
  by_cases hj:j < m.Body.Me.Pq.length
  · rw [List.getElem?_range hj,Option.map_some,Option.map_some,Option.map_some]
    have e1:(h.any fun v => v.toNat == j)=(h.any fun v => v == (j:Int)):=by
      rw [Bool.eq_iff_iff,List.any_eq_true,List.any_eq_true]
      constructor
      · rintro ⟨x,hx,e⟩
        rw [beq_iff_eq] at e
        exact ⟨x,hx,by rw [beq_iff_eq]; have:=(hh x hx).1; simp only at this; omega⟩
      · rintro ⟨x,hx,e⟩
        rw [beq_iff_eq] at e
        exact ⟨x,hx,by rw [beq_iff_eq]; omega⟩
    have e2:Zm (Z1i m h a t (j:Int)) d=Z1Z m h a d t (j:Int):=by
      unfold Z1i Z1Z
      rw [Zhc _ _ ok]
      kernel_rfl
    rw [e1,e2]
    cases h.any fun v => v == (j:Int) <;> rfl
  · rw [List.getElem?_eq_none (by simpa using hj)]
    cases h.any fun v => v.toNat == j <;> rfl
theorem Zhd (m:Gn) (h:List Int) (a d t:Nat) (ok:OkBd m.Body) (hs:m.Sd.length=m.Body.Me.Pq.length) (hh:OkIx m.Body.Me.Pq.length (fun x => x) h):Z9 m h a d t=Zb m h a d t:=by
  unfold Z9 Zb
  rw [Zhx,Ziw m h a d t ok hs hh]
theorem ZdU (m:Gn) (h:List Int) (a d t:Nat):(Z9 m h a d t).Body.Me.Pq.length≤m.Body.Me.Pq.length:=ZcL m.Body _ t
theorem ZdV (m:Gn) (h:List Int) (a d t:Nat):(Z9 m h a d t).Body.Me.Tr.length≤m.Body.Me.Tr.length:=ZcM m.Body _ t
theorem ZdW (m:Gn) (h:List Int) (a d t:Nat):(Z9 m h a d t).Body.We.length≤m.Body.We.length:=ZcN m.Body _ t
theorem ZdX (m:Gn) (h:List Int) (a d t:Nat):(Z9 m h a d t).Body.Sp.length≤m.Body.Sp.length:=ZcO m.Body _ t
theorem ZdY (m:Gn) (h:List Int) (a d t:Nat):(Z9 m h a d t).Sd.length≤m.Body.Me.Pq.length:=by
  unfold Z9; simp only [Z4e,ZbR]; exact Nat.le_refl _
theorem Zf7 (Y3:Gn) (Y2:(List Int)) (Y6:Nat) (Y9:Nat) (Y5:Nat) (hp0:Y3.Body.Me.Pq.length≤1073741824) (hp1:Y3.Body.Me.Tr.length≤1073741824) (hp2:∀ t∈Y3.Body.Me.Tr,t.length≤1073741824) (hp3:Y3.Body.Sp.length≤1073741824) (hp4:Y3.Body.We.length≤1073741824) (hp5:Y3.Sd.length≤1073741824) (hp6:Y2.length≤1073741824) (hp7:OkBd Y3.Body) (hp8:Y3.Sd.length=Y3.Body.Me.Pq.length) (hp9:OkIx Y3.Body.Me.Pq.length (fun x => x) Y2)  : Fn prog 80 [.agg [.sl (Y3.Body.Me.Pq.map Gv.c), .sl (Y3.Body.Me.Tr.map (cL (cI .i64))), .sl (Y3.Body.Sp.map Gs.c), .f .f32 Y3.Body.Film, .f .f32 Y3.Body.Bend, .sl (Y3.Body.We.map (cF .f32)), .f .f32 Y3.Body.Fall.X, .f .f32 Y3.Body.Fall.Y, .f .f32 Y3.Body.Fall.Z, .sl (Y3.Sd.map Gv.c)], .sl (Y2.map (cI .i64)), .f .f32 Y6, .f .f32 Y9, .f .f32 Y5] (.agg [.own 0, .own 1, .own 2, .f .f32 ((Z9 Y3 Y2 Y6 Y9 Y5).Body.Film), .f .f32 ((Z9 Y3 Y2 Y6 Y9 Y5).Body.Bend), .own 3, .f .f32 ((Z9 Y3 Y2 Y6 Y9 Y5).Body.Fall.X), .f .f32 ((Z9 Y3 Y2 Y6 Y9 Y5).Body.Fall.Y), .f .f32 ((Z9 Y3 Y2 Y6 Y9 Y5).Body.Fall.Z), .own 4]) [.vec 40 3 (((Z9 Y3 Y2 Y6 Y9 Y5).Body.Me.Pq).map Gv.c) false, .nest 49 (((Z9 Y3 Y2 Y6 Y9 Y5).Body.Me.Tr).map fun l => l.map (cI .i64)) false, .vec 133 4 (((Z9 Y3 Y2 Y6 Y9 Y5).Body.Sp).map Gs.c) false, .vec 27 1 (((Z9 Y3 Y2 Y6 Y9 Y5).Body.We).map (cF .f32)) false, .vec 40 3 (((Z9 Y3 Y2 Y6 Y9 Y5).Sd).map Gv.c) false]:=by
 have y0:(Zz Y3 Y2 Y6 Y9 Y5).length≤1073741824:=(by have q:=ZbR Y3 Y2 Y6 Y9 Y5; simp only [Z4e]; omega)
 have y1:Xt Y3.Body.Me.Pq.length Y3.Body.Me.Tr:=(by exact hp7.e.tris)
 have y2:(Zz Y3 Y2 Y6 Y9 Y5).length≤Y3.Body.Me.Pq.length:=(by have q:=ZbR Y3 Y2 Y6 Y9 Y5; simp only [Z4e]; omega)
 have l1:=(ZcL Y3.Body (Zz Y3 Y2 Y6 Y9 Y5) Y5)
 have l2:=(ZcM Y3.Body (Zz Y3 Y2 Y6 Y9 Y5) Y5)
 have l3:=(ZcN Y3.Body (Zz Y3 Y2 Y6 Y9 Y5) Y5)
 have l4:=(ZcO Y3.Body (Zz Y3 Y2 Y6 Y9 Y5) Y5)
 refine fnS E0Ok Z4 (c:=X0 f80) [] (.agg [.own 0, .own 1, .own 2, .f .f32 ((Z18 Y3.Body (Zz Y3 Y2 Y6 Y9 Y5) Y5).Film), .f .f32 ((Z18 Y3.Body (Zz Y3 Y2 Y6 Y9 Y5) Y5).Bend), .own 3, .f .f32 ((Z18 Y3.Body (Zz Y3 Y2 Y6 Y9 Y5) Y5).Fall.X), .f .f32 ((Z18 Y3.Body (Zz Y3 Y2 Y6 Y9 Y5) Y5).Fall.Y), .f .f32 ((Z18 Y3.Body (Zz Y3 Y2 Y6 Y9 Y5) Y5).Fall.Z), .own 4]) [.vec 40 3 (((Z18 Y3.Body (Zz Y3 Y2 Y6 Y9 Y5) Y5).Me.Pq).map Gv.c) false, .nest 49 (((Z18 Y3.Body (Zz Y3 Y2 Y6 Y9 Y5) Y5).Me.Tr).map fun l => l.map (cI .i64)) false, .vec 133 4 (((Z18 Y3.Body (Zz Y3 Y2 Y6 Y9 Y5) Y5).Sp).map Gs.c) false, .vec 27 1 (((Z18 Y3.Body (Zz Y3 Y2 Y6 Y9 Y5) Y5).We).map (cF .f32)) false, .vec 40 3 ((Zz Y3 Y2 Y6 Y9 Y5).map Gv.c) false] func80 (sF (Zf5 Y3.Body Y2 hp0 hp1 hp2 hp3 hp4 hp6 hp7 hp9) <| sZ Gv.c (ZB Y3.Body Y2) <| sL (mR false [0,6,4,2,5,6,39]) 4 (Xj (st2:=⟨.agg [.sl (Y3.Body.Me.Pq.map Gv.c), .sl (Y3.Body.Me.Tr.map (cL (cI .i64))), .sl (Y3.Body.Sp.map Gs.c), .f .f32 Y3.Body.Film, .f .f32 Y3.Body.Bend, .sl (Y3.Body.We.map (cF .f32)), .f .f32 Y3.Body.Fall.X, .f .f32 Y3.Body.Fall.Y, .f .f32 Y3.Body.Fall.Z, .sl (Y3.Sd.map Gv.c)] :: .sl (Y2.map (cI .i64)) :: .f .f32 Y6 :: .f .f32 Y9 :: .f .f32 Y5 :: .ptr 0 0 0 :: an 4 (.ptr 1 0 0 :: .own 2 :: an 5 (.ptr 0 0 0 :: .agg [.sl (Y3.Body.Me.Pq.map Gv.c), .sl (Y3.Body.Me.Tr.map (cL (cI .i64))), .sl (Y3.Body.Sp.map Gs.c), .f .f32 Y3.Body.Film, .f .f32 Y3.Body.Bend, .sl (Y3.Body.We.map (cF .f32)), .f .f32 Y3.Body.Fall.X, .f .f32 Y3.Body.Fall.Y, .f .f32 Y3.Body.Fall.Z] :: .sl (Y2.map (cI .i64)) :: .own 3 :: .i .i64 ((ZB Y3.Body Y2).length:Int) :: .i .i64 0 :: an 39 [])),[.box 66 [.sl (Y3.Body.Me.Pq.map Gv.c), .sl (Y3.Body.Me.Tr.map (cL (cI .i64))), .sl (Y3.Body.Sp.map Gs.c), .f .f32 Y3.Body.Film, .f .f32 Y3.Body.Bend, .sl (Y3.Body.We.map (cF .f32)), .f .f32 Y3.Body.Fall.X, .f .f32 Y3.Body.Fall.Y, .f .f32 Y3.Body.Fall.Z, .sl (Y3.Sd.map Gv.c)], .box 66 [.nils, .nils, .nils, .f .f32 0, .f .f32 0, .nils, .f .f32 0, .f .f32 0, .f .f32 0, .nils], .vec 40 3 ([]:List (List AV)) false, .vec 40 3 ((ZB Y3.Body Y2).map Gv.c) false]⟩) (X1 (Z6v Y3 Y2 Y6 Y9 Y5) (x:=(Z1T Y3 Y2 Y6 Y9 Y5)) (Zds Y3 Y2 Y6 Y9 Y5 hp0 hp1 hp2 hp3 hp4 hp5 hp6 hp7 hp8 hp9 ((((ZB Y3.Body Y2).length:Int) - 0).toNat + 1) 0 ([]:List Gv) (show 0≤0 from (by omega)) (show (([]:List Gv).length:Int)=0 from (by simp)) (Nat.lt_succ_self _)) rfl) (by simp [Z6w,Gv.c])) <| sZ (cI .i64) Y2 <| sL Z8b 4 (X1 (Z6x Y3 Y2 Y6 Y9 Y5) (x:=(Zz Y3 Y2 Y6 Y9 Y5)) (Zdt Y3 Y2 Y6 Y9 Y5 hp0 hp1 hp2 hp3 hp4 hp5 hp6 hp7 hp8 hp9 (((Y2.length:Int) - 0).toNat + 1) 0 (Z1T Y3 Y2 Y6 Y9 Y5) (show 0≤0 from (by omega)) (show (Z1T Y3 Y2 Y6 Y9 Y5).length=(Z1T Y3 Y2 Y6 Y9 Y5).length from (by simp)) (Nat.lt_succ_self _)) rfl) <| sF (Zhw Y3.Body (Zz Y3 Y2 Y6 Y9 Y5) Y5 hp0 hp1 hp2 hp3 hp4 y0 y1 y2) <| sK [4,5,6,7,2] sN) rfl (by kernel_rfl) (by kernel_rfl) rfl ?_ ?_
 · rfl
 · simp [Z9]
def Z4i (Ya:Gb) (Y1:Int):Nat:=(fop .mul .f32 (fop .sub .f32 (ZD (Zx Ya (Ya.Sp.getD Y1.toNat default))) ((Ya.Sp.getD Y1.toNat default).Long)) (fop .sub .f32 (ZD (Zx Ya (Ya.Sp.getD Y1.toNat default))) ((Ya.Sp.getD Y1.toNat default).Long)))
def Z1N (Ya:Gb):Nat→Int→(List Nat)→(List Nat)
  | 0,_,_ => default
  | k + 1,Y1,Yd => (cond (decide (Y1 < (Ya.Sp.length:Int)))
    (Z1N Ya k (Y1 + 1) (Yd.set 0 (fop .add .f32 (Yd.getD 0 default) (fop .mul .f32 (fop .mul .f32 1056964608 ((Ya.Sp.getD Y1.toNat default).Stiff)) (Z4i Ya Y1)))))
    Yd)
def Z7Z (Ya:Gb) (r:(List Nat)):Ex × St:=((.exit 0),⟨.agg [.sl (Ya.Me.Pq.map Gv.c), .sl (Ya.Me.Tr.map (cL (cI .i64))), .sl (Ya.Sp.map Gs.c), .f .f32 Ya.Film, .f .f32 Ya.Bend, .sl (Ya.We.map (cF .f32)), .f .f32 Ya.Fall.X, .f .f32 Ya.Fall.Y, .f .f32 Ya.Fall.Z] :: .ptr 0 0 0 :: .nils :: .own 1 :: an 10 (.own 1 :: .ptr 0 0 2 :: .sl (Ya.Sp.map Gs.c) :: an 100 []),[.box 42 [.sl (Ya.Me.Pq.map Gv.c), .sl (Ya.Me.Tr.map (cL (cI .i64))), .sl (Ya.Sp.map Gs.c), .f .f32 Ya.Film, .f .f32 Ya.Bend, .sl (Ya.We.map (cF .f32)), .f .f32 Ya.Fall.X, .f .f32 Ya.Fall.Y, .f .f32 Ya.Fall.Z], .vec 27 1 (r.map (cF .f32)) false]⟩)
def Z80 (Ya:Gb) (Y1:Int) (Yd:(List Nat)):St:=⟨.agg [.sl (Ya.Me.Pq.map Gv.c), .sl (Ya.Me.Tr.map (cL (cI .i64))), .sl (Ya.Sp.map Gs.c), .f .f32 Ya.Film, .f .f32 Ya.Bend, .sl (Ya.We.map (cF .f32)), .f .f32 Ya.Fall.X, .f .f32 Ya.Fall.Y, .f .f32 Ya.Fall.Z] :: .ptr 0 0 0 :: .nils :: .own 1 :: an 10 (.own 1 :: .ptr 0 0 2 :: .sl (Ya.Sp.map Gs.c) :: .i .i64 (Ya.Sp.length:Int) :: .i .i64 Y1 :: an 98 []),[.box 42 [.sl (Ya.Me.Pq.map Gv.c), .sl (Ya.Me.Tr.map (cL (cI .i64))), .sl (Ya.Sp.map Gs.c), .f .f32 Ya.Film, .f .f32 Ya.Bend, .sl (Ya.We.map (cF .f32)), .f .f32 Ya.Fall.X, .f .f32 Ya.Fall.Y, .f .f32 Ya.Fall.Z], .vec 27 1 (Yd.map (cF .f32)) false]⟩
theorem Zf8 (Ya:Gb) (hp0:Ya.Me.Pq.length≤1073741824) (hp1:Ya.Me.Tr.length≤1073741824) (hp2:∀ t∈Ya.Me.Tr,t.length≤1073741824) (hp3:Ya.Sp.length≤1073741824) (hp4:Ya.We.length≤1073741824) (hp5:OkBd Ya):∀ (k:Nat) (Y1:Int) (Yd:(List Nat)) (Za1:0≤Y1) (Za2:Yd.length=4) (hk:((Ya.Sp.length:Int) - Y1).toNat < k),Lp prog 0 (sub (X0 f129) [1,1,0,1,0,0]) (Z80 Ya Y1 Yd) (Z7Z Ya (Z1N Ya k Y1 Yd)).1 (Z7Z Ya (Z1N Ya k Y1 Yd)).2:=by
 intro k
 induction k with
 | zero => intro Y1 Yd Za1 Za2 hk; exact absurd hk (Nat.not_lt_zero _)
 | succ k ih =>
  intro Y1 Yd Za1 Za2 hk
  cases Yn:(decide (Y1 < (Ya.Sp.length:Int))) with
  | true =>
   have YM:=odt Yn
   have YS:(0:Int)≤Y1:=(by assumption)
   have YT:Y1 < (Ya.Sp.length:Int):=(by assumption)
   have YY:0≤(Ya.Sp.getD Y1.toNat default).A:=(by have q:=Z3E hp5 (by assumption) Yn; omega)
   have YZ:(Ya.Sp.getD Y1.toNat default).A < (Ya.Me.Pq.length:Int):=(by have q:=Z3E hp5 (by assumption) Yn; omega)
   have y_4:0≤(Ya.Sp.getD Y1.toNat default).B:=(by have q:=Z3E hp5 (by assumption) Yn; omega)
   have y_5:(Ya.Sp.getD Y1.toNat default).B < (Ya.Me.Pq.length:Int):=(by have q:=Z3E hp5 (by assumption) Yn; omega)
   have y_6:(0:Int)≤0:=(by omega)
   have y_7:0 < (Yd.length:Int):=(by omega)
   have y_8:0 < Yd.length:=(by omega)
   have y_9:(-9223372036854775808:Int)≤(Y1 + 1):=(by omega)
   have Y19:(Y1 + 1)≤(9223372036854775807:Int):=(by omega)
   have e:Z1N Ya (k + 1) Y1 Yd=(Z1N Ya k (Y1 + 1) (Yd.set 0 (fop .add .f32 (Yd.getD 0 default) (fop .mul .f32 (fop .mul .f32 1056964608 ((Ya.Sp.getD Y1.toNat default).Stiff)) (Z4i Ya Y1))))):=by simp only [Z1N,Yn,cond_true]
   rw [e]
   exact X8 E0Ok Z4 [] (mR false [0,4,10,5,98]) [0,1] (⟨.agg [.sl (Ya.Me.Pq.map Gv.c), .sl (Ya.Me.Tr.map (cL (cI .i64))), .sl (Ya.Sp.map Gs.c), .f .f32 Ya.Film, .f .f32 Ya.Bend, .sl (Ya.We.map (cF .f32)), .f .f32 Ya.Fall.X, .f .f32 Ya.Fall.Y, .f .f32 Ya.Fall.Z] :: .ptr 0 0 0 :: .nils :: .own 1 :: an 10 (.own 1 :: .ptr 0 0 2 :: .sl (Ya.Sp.map Gs.c) :: .i .i64 (Ya.Sp.length:Int) :: .i .i64 (Y1 + 1) :: an 98 []),[.box 42 [.sl (Ya.Me.Pq.map Gv.c), .sl (Ya.Me.Tr.map (cL (cI .i64))), .sl (Ya.Sp.map Gs.c), .f .f32 Ya.Film, .f .f32 Ya.Bend, .sl (Ya.We.map (cF .f32)), .f .f32 Ya.Fall.X, .f .f32 Ya.Fall.Y, .f .f32 Ya.Fall.Z], .vec 27 1 ((Yd.map (cF .f32)).set 0 [.f .f32 (fop .add .f32 (Yd.getD 0 default) (fop .mul .f32 (fop .mul .f32 1056964608 ((Ya.Sp.getD Y1.toNat default).Stiff)) (Z4i Ya Y1)))]) false]⟩) (sB Yn <| sG Gs.c Ya.Sp Y1 YS YT <| sK [6,6] <| sF (ZaG Ya (Ya.Sp.getD Y1.toNat default) hp0 hp1 hp2 hp3 hp4 YY YZ y_4 y_5) <| sF (Z8j (Zx Ya (Ya.Sp.getD Y1.toNat default))) <| sK [10,10] <| sX (cF .f32) Yd 0 y_6 y_7 <| sV (cF .f32) Yd 0 y_8 <| sX (cF .f32) Yd 0 y_6 y_7 <| sC (Xn (c:=(cF .f32)) (l:=Yd) y_8) <| sI (Y1 + 1) y_9 Y19 <| sN) (by kernel_rfl) (by simp [Z80,List.map_set,cF]) (ih (Y1 + 1) (Yd.set 0 (fop .add .f32 (Yd.getD 0 default) (fop .mul .f32 (fop .mul .f32 1056964608 ((Ya.Sp.getD Y1.toNat default).Stiff)) (Z4i Ya Y1)))) (show 0≤(Y1 + 1) from (by omega)) (show (Yd.set 0 (fop .add .f32 (Yd.getD 0 default) (fop .mul .f32 (fop .mul .f32 1056964608 ((Ya.Sp.getD Y1.toNat default).Stiff)) (Z4i Ya Y1)))).length=4 from (by simp_all <;> omega)) (by omega))
  | false =>
   have YM:=odf Yn
   have e:Z1N Ya (k + 1) Y1 Yd=Yd:=by simp only [Z1N,Yn,cond_false]
   rw [e]
   exact outR (e:=(.exit 0)) E0Ok Z4 [] (mR false [0,4,10,3,100]) [0,1] (sB Yn <| sN) (by kernel_rfl) (by intro h; cases h)
theorem ZdZ (Ya:Gb):∀ (k:Nat) (Y1:Int) (Yd:(List Nat)) (hk:((Ya.Sp.length:Int) - Y1).toNat < k),(Z1N Ya k Y1 Yd).length=Yd.length:=by
  intro k
  induction k with
  | zero => intro Y1 Yd hk; exact absurd hk (Nat.not_lt_zero _)
  | succ k ih =>
    intro Y1 Yd hk
    cases Yn:(decide (Y1 < (Ya.Sp.length:Int))) with
    | true =>
      have e:Z1N Ya (k + 1) Y1 Yd=(Z1N Ya k (Y1 + 1) (Yd.set 0 (fop .add .f32 (Yd.getD 0 default) (fop .mul .f32 (fop .mul .f32 1056964608 ((Ya.Sp.getD Y1.toNat default).Stiff)) (Z4i Ya Y1))))):=by simp only [Z1N,Yn,cond_true]
      rw [e,ih (Y1 + 1) (Yd.set 0 (fop .add .f32 (Yd.getD 0 default) (fop .mul .f32 (fop .mul .f32 1056964608 ((Ya.Sp.getD Y1.toNat default).Stiff)) (Z4i Ya Y1)))) (by simp_all <;> omega)]; simp
    | false =>
      have e:Z1N Ya (k + 1) Y1 Yd=Yd:=by simp only [Z1N,Yn,cond_false]
      first | (rw [e]; done) | (rw [e]; rfl)
def Z2x (Ya:Gb):(List Nat):=(Z1N Ya (((Ya.Sp.length:Int) - 0).toNat + 1) 0 (List.replicate 4 0))
@[simp] theorem Zbu (Ya:Gb):(Z2x Ya).length=((List.replicate 4 0):(List Nat)).length:=ZdZ Ya (((Ya.Sp.length:Int) - 0).toNat + 1) 0 (List.replicate 4 0) (by exact Nat.lt_succ_self _)
def Z4j (Ya:Gb) (Y1:Int) (Yd:(List Nat)):Nat:=(fop .add .f32 (Yd.getD 1 default) (fop .mul .f32 Ya.Film (fop .mul .f32 1056964608 (ZD (Zd Ya.Me (Ya.Me.Tr.getD Y1.toNat default))))))
def Z1O (Ya:Gb):Nat→Int→(List Nat)→(List Nat)
  | 0,_,_ => default
  | k + 1,Y1,Yd => (cond (decide (Y1 < (Ya.Me.Tr.length:Int)))
    (Z1O Ya k (Y1 + 1) (Yd.set 1 (Z4j Ya Y1 Yd)))
    Yd)
def Z81 (Ya:Gb) (r:(List Nat)):Ex × St:=((.exit 2),⟨.agg [.sl (Ya.Me.Pq.map Gv.c), .sl (Ya.Me.Tr.map (cL (cI .i64))), .sl (Ya.Sp.map Gs.c), .f .f32 Ya.Film, .f .f32 Ya.Bend, .sl (Ya.We.map (cF .f32)), .f .f32 Ya.Fall.X, .f .f32 Ya.Fall.Y, .f .f32 Ya.Fall.Z] :: .ptr 0 0 0 :: .nils :: .own 1 :: an 10 (.own 1 :: .ptr 0 0 2 :: .sl (Ya.Sp.map Gs.c) :: an 25 (.ptr 0 0 0 :: .ptr 0 0 1 :: .sl (Ya.Me.Tr.map (cL (cI .i64))) :: an 72 [])),[.box 42 [.sl (Ya.Me.Pq.map Gv.c), .sl (Ya.Me.Tr.map (cL (cI .i64))), .sl (Ya.Sp.map Gs.c), .f .f32 Ya.Film, .f .f32 Ya.Bend, .sl (Ya.We.map (cF .f32)), .f .f32 Ya.Fall.X, .f .f32 Ya.Fall.Y, .f .f32 Ya.Fall.Z], .vec 27 1 (r.map (cF .f32)) false]⟩)
def Zbm (Ya:Gb) (Y1:Int) (Yd:(List Nat)):St:=⟨.agg [.sl (Ya.Me.Pq.map Gv.c), .sl (Ya.Me.Tr.map (cL (cI .i64))), .sl (Ya.Sp.map Gs.c), .f .f32 Ya.Film, .f .f32 Ya.Bend, .sl (Ya.We.map (cF .f32)), .f .f32 Ya.Fall.X, .f .f32 Ya.Fall.Y, .f .f32 Ya.Fall.Z] :: .ptr 0 0 0 :: .nils :: .own 1 :: an 10 (.own 1 :: .ptr 0 0 2 :: .sl (Ya.Sp.map Gs.c) :: an 25 (.ptr 0 0 0 :: .ptr 0 0 1 :: .sl (Ya.Me.Tr.map (cL (cI .i64))) :: .i .i64 (Ya.Me.Tr.length:Int) :: .i .i64 Y1 :: an 70 [])),[.box 42 [.sl (Ya.Me.Pq.map Gv.c), .sl (Ya.Me.Tr.map (cL (cI .i64))), .sl (Ya.Sp.map Gs.c), .f .f32 Ya.Film, .f .f32 Ya.Bend, .sl (Ya.We.map (cF .f32)), .f .f32 Ya.Fall.X, .f .f32 Ya.Fall.Y, .f .f32 Ya.Fall.Z], .vec 27 1 (Yd.map (cF .f32)) false]⟩
theorem Zf9 (Ya:Gb) (hp0:Ya.Me.Pq.length≤1073741824) (hp1:Ya.Me.Tr.length≤1073741824) (hp2:∀ t∈Ya.Me.Tr,t.length≤1073741824) (hp3:Ya.Sp.length≤1073741824) (hp4:Ya.We.length≤1073741824) (hp5:OkBd Ya):∀ (k:Nat) (Y1:Int) (Yd:(List Nat)) (Za3:0≤Y1) (Za4:Yd.length=(Z2x Ya).length) (hk:((Ya.Me.Tr.length:Int) - Y1).toNat < k),Lp prog 0 (sub (X0 f129) [1,1,1,0,1,0,0]) (Zbm Ya Y1 Yd) (Z81 Ya (Z1O Ya k Y1 Yd)).1 (Z81 Ya (Z1O Ya k Y1 Yd)).2:=by
 intro k
 induction k with
 | zero => intro Y1 Yd Za3 Za4 hk; exact absurd hk (Nat.not_lt_zero _)
 | succ k ih =>
  intro Y1 Yd Za3 Za4 hk
  cases Yn:(decide (Y1 < (Ya.Me.Tr.length:Int))) with
  | true =>
   have YM:=odt Yn
   have YS:(0:Int)≤Y1:=(by assumption)
   have YT:Y1 < (Ya.Me.Tr.length:Int):=(by assumption)
   have YY:(0:Int)≤1:=(by omega)
   have YZ:1 < (Yd.length:Int):=(by simp_all <;> omega)
   have y_4:1 < Yd.length:=(by omega)
   have y_5:(Ya.Me.Tr.getD Y1.toNat default).length≤1073741824:=(by exact X4S hp5.e (by assumption) Yn)
   have y_6:(Ya.Me.Tr.getD Y1.toNat default).length=3∧∀ x∈(Ya.Me.Tr.getD Y1.toNat default),0≤x∧x < (Ya.Me.Pq.length:Int):=(by exact tri3 hp5.e (by assumption) Yn)
   have y_7:(-9223372036854775808:Int)≤(Y1 + 1):=(by omega)
   have y_8:(Y1 + 1)≤(9223372036854775807:Int):=(by omega)
   have e:Z1O Ya (k + 1) Y1 Yd=(Z1O Ya k (Y1 + 1) (Yd.set 1 (Z4j Ya Y1 Yd))):=by simp only [Z1O,Yn,cond_true]
   rw [e]
   exact X8 E0Ok Z4 [] (mR false [0,4,10,3,25,5,70]) [0,1] (⟨.agg [.sl (Ya.Me.Pq.map Gv.c), .sl (Ya.Me.Tr.map (cL (cI .i64))), .sl (Ya.Sp.map Gs.c), .f .f32 Ya.Film, .f .f32 Ya.Bend, .sl (Ya.We.map (cF .f32)), .f .f32 Ya.Fall.X, .f .f32 Ya.Fall.Y, .f .f32 Ya.Fall.Z] :: .ptr 0 0 0 :: .nils :: .own 1 :: an 10 (.own 1 :: .ptr 0 0 2 :: .sl (Ya.Sp.map Gs.c) :: an 25 (.ptr 0 0 0 :: .ptr 0 0 1 :: .sl (Ya.Me.Tr.map (cL (cI .i64))) :: .i .i64 (Ya.Me.Tr.length:Int) :: .i .i64 (Y1 + 1) :: an 70 [])),[.box 42 [.sl (Ya.Me.Pq.map Gv.c), .sl (Ya.Me.Tr.map (cL (cI .i64))), .sl (Ya.Sp.map Gs.c), .f .f32 Ya.Film, .f .f32 Ya.Bend, .sl (Ya.We.map (cF .f32)), .f .f32 Ya.Fall.X, .f .f32 Ya.Fall.Y, .f .f32 Ya.Fall.Z], .vec 27 1 ((Yd.map (cF .f32)).set 1 [.f .f32 (Z4j Ya Y1 Yd)]) false]⟩) (sB Yn <| sG (cL (cI .i64)) Ya.Me.Tr Y1 YS YT <| sK [12,12] <| sX (cF .f32) Yd 1 YY YZ <| sV (cF .f32) Yd 1 y_4 <| sF (Zca Ya.Me (Ya.Me.Tr.getD Y1.toNat default) hp0 hp1 hp2 y_5 y_6) <| sF (Z8j (Zd Ya.Me (Ya.Me.Tr.getD Y1.toNat default))) <| sX (cF .f32) Yd 1 YY YZ <| sC (Xn (c:=(cF .f32)) (l:=Yd) y_4) <| sI (Y1 + 1) y_7 y_8 <| sN) (by kernel_rfl) (by simp [Zbm,List.map_set,cF]) (ih (Y1 + 1) (Yd.set 1 (Z4j Ya Y1 Yd)) (show 0≤(Y1 + 1) from (by omega)) (show (Yd.set 1 (Z4j Ya Y1 Yd)).length=(Z2x Ya).length from (by simp_all <;> omega)) (by omega))
  | false =>
   have YM:=odf Yn
   have e:Z1O Ya (k + 1) Y1 Yd=Yd:=by simp only [Z1O,Yn,cond_false]
   rw [e]
   exact outR (e:=(.exit 2)) E0Ok Z4 [] (mR false [0,4,10,3,25,3,72]) [0,1] (sB Yn <| sN) (by kernel_rfl) (by intro h; cases h)
theorem Ze0 (Ya:Gb):∀ (k:Nat) (Y1:Int) (Yd:(List Nat)) (hk:((Ya.Me.Tr.length:Int) - Y1).toNat < k),(Z1O Ya k Y1 Yd).length=Yd.length:=by
  intro k
  induction k with
  | zero => intro Y1 Yd hk; exact absurd hk (Nat.not_lt_zero _)
  | succ k ih =>
    intro Y1 Yd hk
    cases Yn:(decide (Y1 < (Ya.Me.Tr.length:Int))) with
    | true =>
      have e:Z1O Ya (k + 1) Y1 Yd=(Z1O Ya k (Y1 + 1) (Yd.set 1 (Z4j Ya Y1 Yd))):=by simp only [Z1O,Yn,cond_true]
      rw [e,ih (Y1 + 1) (Yd.set 1 (Z4j Ya Y1 Yd)) (by simp_all <;> omega)]; simp
    | false =>
      have e:Z1O Ya (k + 1) Y1 Yd=Yd:=by simp only [Z1O,Yn,cond_false]
      first | (rw [e]; done) | (rw [e]; rfl)
def Z2y (Ya:Gb):(List Nat):=(Z1O Ya (((Ya.Me.Tr.length:Int) - 0).toNat + 1) 0 (Z2x Ya))
@[simp] theorem Zbv (Ya:Gb):(Z2y Ya).length=((Z2x Ya):(List Nat)).length:=Ze0 Ya (((Ya.Me.Tr.length:Int) - 0).toNat + 1) 0 (Z2x Ya) (by exact Nat.lt_succ_self _)
def Z40 (Ya:Gb) (Y1:Int):Nat:=(Z5v (Zy Ya.Me ((Z6 Ya.Me).getD Y1.toNat default)) (Zy Ya.Me ((Z6 Ya.Me).getD Y1.toNat default)))
def Z1G (Ya:Gb):Nat→Int→(List Nat)→(List Nat)
  | 0,_,_ => default
  | k + 1,Y1,Yd => (cond (decide (Y1 < ((Z6 Ya.Me).length:Int)))
    (Z1G Ya k (Y1 + 1) (Yd.set 2 (fop .add .f32 (Yd.getD 2 default) (fop .mul .f32 (fop .mul .f32 1056964608 Ya.Bend) (Z40 Ya Y1)))))
    Yd)
def Z82 (Ya:Gb) (r:(List Nat)):Ex × St:=((.exit 4),⟨.agg [.sl (Ya.Me.Pq.map Gv.c), .sl (Ya.Me.Tr.map (cL (cI .i64))), .sl (Ya.Sp.map Gs.c), .f .f32 Ya.Film, .f .f32 Ya.Bend, .sl (Ya.We.map (cF .f32)), .f .f32 Ya.Fall.X, .f .f32 Ya.Fall.Y, .f .f32 Ya.Fall.Z] :: .ptr 0 0 0 :: .nils :: .own 1 :: an 10 (.own 1 :: .ptr 0 0 2 :: .sl (Ya.Sp.map Gs.c) :: an 25 (.ptr 0 0 0 :: .ptr 0 0 1 :: .sl (Ya.Me.Tr.map (cL (cI .i64))) :: an 20 (.ptr 0 0 0 :: .agg [.sl (Ya.Me.Pq.map Gv.c), .sl (Ya.Me.Tr.map (cL (cI .i64)))] :: .own 2 :: an 49 []))),[.box 42 [.sl (Ya.Me.Pq.map Gv.c), .sl (Ya.Me.Tr.map (cL (cI .i64))), .sl (Ya.Sp.map Gs.c), .f .f32 Ya.Film, .f .f32 Ya.Bend, .sl (Ya.We.map (cF .f32)), .f .f32 Ya.Fall.X, .f .f32 Ya.Fall.Y, .f .f32 Ya.Fall.Z], .vec 27 1 (r.map (cF .f32)) false, .nest 49 ((Z6 Ya.Me).map fun l => l.map (cI .i64)) false]⟩)
def Zbn (Ya:Gb) (Y1:Int) (Yd:(List Nat)):St:=⟨.agg [.sl (Ya.Me.Pq.map Gv.c), .sl (Ya.Me.Tr.map (cL (cI .i64))), .sl (Ya.Sp.map Gs.c), .f .f32 Ya.Film, .f .f32 Ya.Bend, .sl (Ya.We.map (cF .f32)), .f .f32 Ya.Fall.X, .f .f32 Ya.Fall.Y, .f .f32 Ya.Fall.Z] :: .ptr 0 0 0 :: .nils :: .own 1 :: an 10 (.own 1 :: .ptr 0 0 2 :: .sl (Ya.Sp.map Gs.c) :: an 25 (.ptr 0 0 0 :: .ptr 0 0 1 :: .sl (Ya.Me.Tr.map (cL (cI .i64))) :: an 20 (.ptr 0 0 0 :: .agg [.sl (Ya.Me.Pq.map Gv.c), .sl (Ya.Me.Tr.map (cL (cI .i64)))] :: .own 2 :: .i .i64 ((Z6 Ya.Me).length:Int) :: .i .i64 Y1 :: an 47 []))),[.box 42 [.sl (Ya.Me.Pq.map Gv.c), .sl (Ya.Me.Tr.map (cL (cI .i64))), .sl (Ya.Sp.map Gs.c), .f .f32 Ya.Film, .f .f32 Ya.Bend, .sl (Ya.We.map (cF .f32)), .f .f32 Ya.Fall.X, .f .f32 Ya.Fall.Y, .f .f32 Ya.Fall.Z], .vec 27 1 (Yd.map (cF .f32)) false, .nest 49 ((Z6 Ya.Me).map fun l => l.map (cI .i64)) false]⟩
def Za5:List Bool:=(mR false [0,4,10,3,25,3,20,5,47])
def Ze1:List Bool:=(mR false [0,4,10,3,25,3,20,3,49])
theorem Zfa (Ya:Gb) (hp0:Ya.Me.Pq.length≤1073741824) (hp1:Ya.Me.Tr.length≤1073741824) (hp2:∀ t∈Ya.Me.Tr,t.length≤1073741824) (hp3:Ya.Sp.length≤1073741824) (hp4:Ya.We.length≤1073741824) (hp5:OkBd Ya):∀ (k:Nat) (Y1:Int) (Yd:(List Nat)) (Za6:0≤Y1) (Za7:Yd.length=(Z2y Ya).length) (hk:(((Z6 Ya.Me).length:Int) - Y1).toNat < k),Lp prog 0 (sub (X0 f129) [1,1,1,1,0,1,0,0]) (Zbn Ya Y1 Yd) (Z82 Ya (Z1G Ya k Y1 Yd)).1 (Z82 Ya (Z1G Ya k Y1 Yd)).2:=by
 intro k
 induction k with
 | zero => intro Y1 Yd Za6 Za7 hk; exact absurd hk (Nat.not_lt_zero _)
 | succ k ih =>
  intro Y1 Yd Za6 Za7 hk
  cases Yn:(decide (Y1 < ((Z6 Ya.Me).length:Int))) with
  | true =>
   have YM:=odt Yn
   have YS:(0:Int)≤Y1:=(by assumption)
   have YT:Int.toNat Y1 < (Z6 Ya.Me).length:=(by omega)
   have YY:Y1.toNat < (Z6 Ya.Me).length:=(by assumption)
   have YZ:((Z6 Ya.Me).getD Y1.toNat default).length≤1073741824:=(by exact Ziu hp5.e (by assumption) Yn)
   have y_4:((Z6 Ya.Me).getD Y1.toNat default).length=4∧∀ x∈((Z6 Ya.Me).getD Y1.toNat default),0≤x∧x < (Ya.Me.Pq.length:Int):=(by exact Z7d hp5.e (by assumption) Yn)
   have y_5:(0:Int)≤2:=(by omega)
   have y_6:2 < (Yd.length:Int):=(by simp_all <;> omega)
   have y_7:2 < Yd.length:=(by omega)
   have y_8:(-9223372036854775808:Int)≤(Y1 + 1):=(by omega)
   have y_9:(Y1 + 1)≤(9223372036854775807:Int):=(by have q:=hp5.w; (have q:=Zbj _ hp5.e; omega))
   have e:Z1G Ya (k + 1) Y1 Yd=(Z1G Ya k (Y1 + 1) (Yd.set 2 (fop .add .f32 (Yd.getD 2 default) (fop .mul .f32 (fop .mul .f32 1056964608 Ya.Bend) (Z40 Ya Y1))))):=by simp only [Z1G,Yn,cond_true]
   rw [e]
   exact X8 E0Ok Z4 [] Za5 [0,1,2] (⟨.agg [.sl (Ya.Me.Pq.map Gv.c), .sl (Ya.Me.Tr.map (cL (cI .i64))), .sl (Ya.Sp.map Gs.c), .f .f32 Ya.Film, .f .f32 Ya.Bend, .sl (Ya.We.map (cF .f32)), .f .f32 Ya.Fall.X, .f .f32 Ya.Fall.Y, .f .f32 Ya.Fall.Z] :: .ptr 0 0 0 :: .nils :: .own 1 :: an 10 (.own 1 :: .ptr 0 0 2 :: .sl (Ya.Sp.map Gs.c) :: an 25 (.ptr 0 0 0 :: .ptr 0 0 1 :: .sl (Ya.Me.Tr.map (cL (cI .i64))) :: an 20 (.ptr 0 0 0 :: .agg [.sl (Ya.Me.Pq.map Gv.c), .sl (Ya.Me.Tr.map (cL (cI .i64)))] :: .own 2 :: .i .i64 ((Z6 Ya.Me).length:Int) :: .i .i64 (Y1 + 1) :: an 47 []))),[.box 42 [.sl (Ya.Me.Pq.map Gv.c), .sl (Ya.Me.Tr.map (cL (cI .i64))), .sl (Ya.Sp.map Gs.c), .f .f32 Ya.Film, .f .f32 Ya.Bend, .sl (Ya.We.map (cF .f32)), .f .f32 Ya.Fall.X, .f .f32 Ya.Fall.Y, .f .f32 Ya.Fall.Z], .vec 27 1 ((Yd.map (cF .f32)).set 2 [.f .f32 (fop .add .f32 (Yd.getD 2 default) (fop .mul .f32 (fop .mul .f32 1056964608 Ya.Bend) (Z40 Ya Y1)))]) false, .nest 49 ((Z6 Ya.Me).map fun l => l.map (cI .i64)) false]⟩) (sB Yn <| sC (X1Y (c:=(cI .i64)) (l:=(Z6 Ya.Me)) (i:=Y1) YS YT) <| sC (X2j (c:=(cI .i64)) (l:=(Z6 Ya.Me)) YY) <| sF (Fn.castA (args':=[.agg [.sl (Ya.Me.Pq.map Gv.c), .sl (Ya.Me.Tr.map (cL (cI .i64)))], .sl (((Z6 Ya.Me).map fun l => l.map (cI .i64)).getD Y1.toNat [])]) (ZdA Ya.Me ((Z6 Ya.Me).getD Y1.toNat default) hp0 hp1 hp2 YZ y_4) (by simp [cI]; done)) <| sK [10,10] <| sX (cF .f32) Yd 2 y_5 y_6 <| sV (cF .f32) Yd 2 y_7 <| sF (Zag (Zy Ya.Me ((Z6 Ya.Me).getD Y1.toNat default)) (Zy Ya.Me ((Z6 Ya.Me).getD Y1.toNat default))) <| sX (cF .f32) Yd 2 y_5 y_6 <| sC (Xn (c:=(cF .f32)) (l:=Yd) y_7) <| sI (Y1 + 1) y_8 y_9 <| sN) (by kernel_rfl) (by simp [Zbn,List.map_set,cF]) (ih (Y1 + 1) (Yd.set 2 (fop .add .f32 (Yd.getD 2 default) (fop .mul .f32 (fop .mul .f32 1056964608 Ya.Bend) (Z40 Ya Y1)))) (show 0≤(Y1 + 1) from (by omega)) (show (Yd.set 2 (fop .add .f32 (Yd.getD 2 default) (fop .mul .f32 (fop .mul .f32 1056964608 Ya.Bend) (Z40 Ya Y1)))).length=(Z2y Ya).length from (by simp_all <;> omega)) (by omega))
  | false =>
   have YM:=odf Yn
   have e:Z1G Ya (k + 1) Y1 Yd=Yd:=by simp only [Z1G,Yn,cond_false]
   rw [e]
   exact outR (e:=(.exit 4)) E0Ok Z4 [] Ze1 [0,1,2] (sB Yn <| sN) (by kernel_rfl) (by intro h; cases h)
theorem Ze2 (Ya:Gb):∀ (k:Nat) (Y1:Int) (Yd:(List Nat)) (hk:(((Z6 Ya.Me).length:Int) - Y1).toNat < k),(Z1G Ya k Y1 Yd).length=Yd.length:=by
  intro k
  induction k with
  | zero => intro Y1 Yd hk; exact absurd hk (Nat.not_lt_zero _)
  | succ k ih =>
    intro Y1 Yd hk
    cases Yn:(decide (Y1 < ((Z6 Ya.Me).length:Int))) with
    | true =>
      have e:Z1G Ya (k + 1) Y1 Yd=(Z1G Ya k (Y1 + 1) (Yd.set 2 (fop .add .f32 (Yd.getD 2 default) (fop .mul .f32 (fop .mul .f32 1056964608 Ya.Bend) (Z40 Ya Y1))))):=by simp only [Z1G,Yn,cond_true]
      rw [e,ih (Y1 + 1) (Yd.set 2 (fop .add .f32 (Yd.getD 2 default) (fop .mul .f32 (fop .mul .f32 1056964608 Ya.Bend) (Z40 Ya Y1)))) (by simp_all <;> omega)]; simp
    | false =>
      have e:Z1G Ya (k + 1) Y1 Yd=Yd:=by simp only [Z1G,Yn,cond_false]
      first | (rw [e]; done) | (rw [e]; rfl)
def Z2z (Ya:Gb):(List Nat):=(Z1G Ya ((((Z6 Ya.Me).length:Int) - 0).toNat + 1) 0 (Z2y Ya))
@[simp] theorem Zbw (Ya:Gb):(Z2z Ya).length=((Z2y Ya):(List Nat)).length:=Ze2 Ya ((((Z6 Ya.Me).length:Int) - 0).toNat + 1) 0 (Z2y Ya) (by exact Nat.lt_succ_self _)
def Z4k (Ya:Gb) (Y1:Int) (Yd:(List Nat)):Nat:=(fop .add .f32 (Yd.getD 3 default) (fneg .f32 (fop .mul .f32 (Ya.We.getD Y1.toNat default) (Z5v Ya.Fall (Ya.Me.Pq.getD Y1.toNat default)))))
def Z1P (Ya:Gb):Nat→Int→(List Nat)→(List Nat)
  | 0,_,_ => default
  | k + 1,Y1,Yd => (cond (decide (Y1 < (Ya.Me.Pq.length:Int)))
    (Z1P Ya k (Y1 + 1) (Yd.set 3 (Z4k Ya Y1 Yd)))
    Yd)
def Z83 (Ya:Gb) (r:(List Nat)):Ex × St:=((.exit 6),⟨.agg [.sl (Ya.Me.Pq.map Gv.c), .sl (Ya.Me.Tr.map (cL (cI .i64))), .sl (Ya.Sp.map Gs.c), .f .f32 Ya.Film, .f .f32 Ya.Bend, .sl (Ya.We.map (cF .f32)), .f .f32 Ya.Fall.X, .f .f32 Ya.Fall.Y, .f .f32 Ya.Fall.Z] :: .ptr 0 0 0 :: .nils :: .own 1 :: an 10 (.own 1 :: .ptr 0 0 2 :: .sl (Ya.Sp.map Gs.c) :: an 25 (.ptr 0 0 0 :: .ptr 0 0 1 :: .sl (Ya.Me.Tr.map (cL (cI .i64))) :: an 20 (.ptr 0 0 0 :: .agg [.sl (Ya.Me.Pq.map Gv.c), .sl (Ya.Me.Tr.map (cL (cI .i64)))] :: .own 2 :: an 22 (.ptr 0 0 0 :: .ptr 0 0 0 :: .sl (Ya.Me.Pq.map Gv.c) :: an 24 [])))),[.box 42 [.sl (Ya.Me.Pq.map Gv.c), .sl (Ya.Me.Tr.map (cL (cI .i64))), .sl (Ya.Sp.map Gs.c), .f .f32 Ya.Film, .f .f32 Ya.Bend, .sl (Ya.We.map (cF .f32)), .f .f32 Ya.Fall.X, .f .f32 Ya.Fall.Y, .f .f32 Ya.Fall.Z], .vec 27 1 (r.map (cF .f32)) false, .nest 49 ((Z6 Ya.Me).map fun l => l.map (cI .i64)) false]⟩)
def Zbo (Ya:Gb) (Y1:Int) (Yd:(List Nat)):St:=⟨.agg [.sl (Ya.Me.Pq.map Gv.c), .sl (Ya.Me.Tr.map (cL (cI .i64))), .sl (Ya.Sp.map Gs.c), .f .f32 Ya.Film, .f .f32 Ya.Bend, .sl (Ya.We.map (cF .f32)), .f .f32 Ya.Fall.X, .f .f32 Ya.Fall.Y, .f .f32 Ya.Fall.Z] :: .ptr 0 0 0 :: .nils :: .own 1 :: an 10 (.own 1 :: .ptr 0 0 2 :: .sl (Ya.Sp.map Gs.c) :: an 25 (.ptr 0 0 0 :: .ptr 0 0 1 :: .sl (Ya.Me.Tr.map (cL (cI .i64))) :: an 20 (.ptr 0 0 0 :: .agg [.sl (Ya.Me.Pq.map Gv.c), .sl (Ya.Me.Tr.map (cL (cI .i64)))] :: .own 2 :: an 22 (.ptr 0 0 0 :: .ptr 0 0 0 :: .sl (Ya.Me.Pq.map Gv.c) :: .i .i64 (Ya.Me.Pq.length:Int) :: .i .i64 Y1 :: an 22 [])))),[.box 42 [.sl (Ya.Me.Pq.map Gv.c), .sl (Ya.Me.Tr.map (cL (cI .i64))), .sl (Ya.Sp.map Gs.c), .f .f32 Ya.Film, .f .f32 Ya.Bend, .sl (Ya.We.map (cF .f32)), .f .f32 Ya.Fall.X, .f .f32 Ya.Fall.Y, .f .f32 Ya.Fall.Z], .vec 27 1 (Yd.map (cF .f32)) false, .nest 49 ((Z6 Ya.Me).map fun l => l.map (cI .i64)) false]⟩
def Za8:List Bool:=(mR false [0,4,10,3,25,3,20,3,22,5,22])
def Ze3:List Bool:=(mR false [0,4,10,3,25,3,20,3,22,3,24])
theorem Zfb (Ya:Gb) (hp0:Ya.Me.Pq.length≤1073741824) (hp1:Ya.Me.Tr.length≤1073741824) (hp2:∀ t∈Ya.Me.Tr,t.length≤1073741824) (hp3:Ya.Sp.length≤1073741824) (hp4:Ya.We.length≤1073741824) (hp5:OkBd Ya):∀ (k:Nat) (Y1:Int) (Yd:(List Nat)) (Za9:0≤Y1) (Zaa:Yd.length=(Z2z Ya).length) (hk:((Ya.Me.Pq.length:Int) - Y1).toNat < k),Lp prog 0 (sub (X0 f129) [1,1,1,1,1,0,1,0,0]) (Zbo Ya Y1 Yd) (Z83 Ya (Z1P Ya k Y1 Yd)).1 (Z83 Ya (Z1P Ya k Y1 Yd)).2:=by
 intro k
 induction k with
 | zero => intro Y1 Yd Za9 Zaa hk; exact absurd hk (Nat.not_lt_zero _)
 | succ k ih =>
  intro Y1 Yd Za9 Zaa hk
  cases Yn:(decide (Y1 < (Ya.Me.Pq.length:Int))) with
  | true =>
   have YM:=odt Yn
   have YS:(0:Int)≤Y1:=(by assumption)
   have YT:Y1 < (Ya.Me.Pq.length:Int):=(by assumption)
   have YY:(0:Int)≤3:=(by omega)
   have YZ:3 < (Yd.length:Int):=(by simp_all <;> omega)
   have y_4:3 < Yd.length:=(by omega)
   have y_5:Y1 < (Ya.We.length:Int):=(by have q:=hp5.w; omega)
   have y_6:(-9223372036854775808:Int)≤(Y1 + 1):=(by omega)
   have y_7:(Y1 + 1)≤(9223372036854775807:Int):=(by omega)
   have e:Z1P Ya (k + 1) Y1 Yd=(Z1P Ya k (Y1 + 1) (Yd.set 3 (Z4k Ya Y1 Yd))):=by simp only [Z1P,Yn,cond_true]
   rw [e]
   exact X8 E0Ok Z4 [] Za8 [0,1,2] (⟨.agg [.sl (Ya.Me.Pq.map Gv.c), .sl (Ya.Me.Tr.map (cL (cI .i64))), .sl (Ya.Sp.map Gs.c), .f .f32 Ya.Film, .f .f32 Ya.Bend, .sl (Ya.We.map (cF .f32)), .f .f32 Ya.Fall.X, .f .f32 Ya.Fall.Y, .f .f32 Ya.Fall.Z] :: .ptr 0 0 0 :: .nils :: .own 1 :: an 10 (.own 1 :: .ptr 0 0 2 :: .sl (Ya.Sp.map Gs.c) :: an 25 (.ptr 0 0 0 :: .ptr 0 0 1 :: .sl (Ya.Me.Tr.map (cL (cI .i64))) :: an 20 (.ptr 0 0 0 :: .agg [.sl (Ya.Me.Pq.map Gv.c), .sl (Ya.Me.Tr.map (cL (cI .i64)))] :: .own 2 :: an 22 (.ptr 0 0 0 :: .ptr 0 0 0 :: .sl (Ya.Me.Pq.map Gv.c) :: .i .i64 (Ya.Me.Pq.length:Int) :: .i .i64 (Y1 + 1) :: an 22 [])))),[.box 42 [.sl (Ya.Me.Pq.map Gv.c), .sl (Ya.Me.Tr.map (cL (cI .i64))), .sl (Ya.Sp.map Gs.c), .f .f32 Ya.Film, .f .f32 Ya.Bend, .sl (Ya.We.map (cF .f32)), .f .f32 Ya.Fall.X, .f .f32 Ya.Fall.Y, .f .f32 Ya.Fall.Z], .vec 27 1 ((Yd.map (cF .f32)).set 3 [.f .f32 (Z4k Ya Y1 Yd)]) false, .nest 49 ((Z6 Ya.Me).map fun l => l.map (cI .i64)) false]⟩) (sB Yn <| sG Gv.c Ya.Me.Pq Y1 YS YT <| sK [14,14] <| sX (cF .f32) Yd 3 YY YZ <| sV (cF .f32) Yd 3 y_4 <| sG (cF .f32) Ya.We Y1 YS y_5 <| sF (Zag Ya.Fall (Ya.Me.Pq.getD Y1.toNat default)) <| sX (cF .f32) Yd 3 YY YZ <| sC (Xn (c:=(cF .f32)) (l:=Yd) y_4) <| sI (Y1 + 1) y_6 y_7 <| sN) (by kernel_rfl) (by simp [Zbo,List.map_set,cF]) (ih (Y1 + 1) (Yd.set 3 (Z4k Ya Y1 Yd)) (show 0≤(Y1 + 1) from (by omega)) (show (Yd.set 3 (Z4k Ya Y1 Yd)).length=(Z2z Ya).length from (by simp_all <;> omega)) (by omega))
  | false =>
   have YM:=odf Yn
   have e:Z1P Ya (k + 1) Y1 Yd=Yd:=by simp only [Z1P,Yn,cond_false]
   rw [e]
   exact outR (e:=(.exit 6)) E0Ok Z4 [] Ze3 [0,1,2] (sB Yn <| sN) (by kernel_rfl) (by intro h; cases h)
theorem Ze4 (Ya:Gb):∀ (k:Nat) (Y1:Int) (Yd:(List Nat)) (hk:((Ya.Me.Pq.length:Int) - Y1).toNat < k),(Z1P Ya k Y1 Yd).length=Yd.length:=by
  intro k
  induction k with
  | zero => intro Y1 Yd hk; exact absurd hk (Nat.not_lt_zero _)
  | succ k ih =>
    intro Y1 Yd hk
    cases Yn:(decide (Y1 < (Ya.Me.Pq.length:Int))) with
    | true =>
      have e:Z1P Ya (k + 1) Y1 Yd=(Z1P Ya k (Y1 + 1) (Yd.set 3 (Z4k Ya Y1 Yd))):=by simp only [Z1P,Yn,cond_true]
      rw [e,ih (Y1 + 1) (Yd.set 3 (Z4k Ya Y1 Yd)) (by simp_all <;> omega)]; simp
    | false =>
      have e:Z1P Ya (k + 1) Y1 Yd=Yd:=by simp only [Z1P,Yn,cond_false]
      first | (rw [e]; done) | (rw [e]; rfl)
def Z4L (Ya:Gb):(List Nat):=(Z1P Ya (((Ya.Me.Pq.length:Int) - 0).toNat + 1) 0 (Z2z Ya))
@[simp] theorem Zbx (Ya:Gb):(Z4L Ya).length=((Z2z Ya):(List Nat)).length:=Ze4 Ya (((Ya.Me.Pq.length:Int) - 0).toNat + 1) 0 (Z2z Ya) (by exact Nat.lt_succ_self _)
def Z12 (Ya:Gb):(List Nat):=(Z4L Ya)
end Go.Ab
