/- The functions of this seat as plain Lean, and that the program's are these. Printed by a program of the prover's own. -/
import Derived.Test.YtiddhiepmakopaaB3
set_option linter.unusedVariables false
set_option linter.unusedSimpArgs false
set_option maxRecDepth 100000
namespace Go.Ab
open Go.RowKit Go.Proofs.Try
theorem Z7W (a:Gm):Z1I a a=true:=by
  simp [Z1I,Z7n,Z7o]
def Zi (Y1:(List Gv)) (Yh:Int):Nat→Int→Int→(List Gv)→Int × (List Gv)
  | 0,_,_,_=>default
  | k + 1,Ya,Y3,Y7=>(cond (decide (Y3 < (Y7.length:Int)))
    (Zi Y1 Yh k (IntKind.wrap .i64 ((IntKind.wrap .i64 ((IntKind.wrap .i64 (Ya + 1)) + 1)) + 1)) (Y3 + 1) (Y7.set Y3.toNat (⟨(X1 .f32 Ya),(X1 .f32 (IntKind.wrap .i64 (Ya + 1))),(X1 .f32 (IntKind.wrap .i64 ((IntKind.wrap .i64 (Ya + 1)) + 1)))⟩:Gv)))
    (Ya,Y7))
def Z2d (Y1:(List Gv)) (Yh:Int) (r:Int × (List Gv)):Ex × St:=((.exit 0),⟨.any :: .i .i64 r.1 :: .any :: .any :: .i .i64 0 :: an 32 [],[.vec 62 3 (r.2.map Gv.c) false]⟩)
def Z38 (Y1:(List Gv)) (Yh:Int) (Ya:Int) (Y3:Int) (Y7:(List Gv)):St:=⟨.own 0 :: .i .i64 Ya :: .any :: .any :: .i .i64 0 :: .i .i64 Y3 :: an 31 [],[.vec 62 3 (Y7.map Gv.c) false]⟩
theorem Z4R (Y1:(List Gv)) (Yh:Int) (hp0:Y1.length≤1073741824):∀ (k:Nat) (Ya:Int) (Y3:Int) (Y7:(List Gv)) (Z2z:0≤Y3) (Z2A:Y7.length=Y1.length) (hk:((Y1.length:Int) - Y3).toNat < k),Lp prog 1 (sub (X0 f61) [1,0,1,0,0]) (Z38 Y1 Yh Ya Y3 Y7) (Z2d Y1 Yh (Zi Y1 Yh k Ya Y3 Y7)).1 (Z2d Y1 Yh (Zi Y1 Yh k Ya Y3 Y7)).2:=by
 intro k
 induction k with
 | zero=>intro Ya Y3 Y7 Z2z Z2A hk;exact absurd hk (Nat.not_lt_zero _)
 | succ k ih =>
  intro Ya Y3 Y7 Z2z Z2A hk
  have p {a C} (s:Scr a C):=sZ Gv.c Y7<|s
  cases Ye:(decide (Y3 < (Y7.length:Int))) with
  | true =>
   have Yt:=odt Ye
   have Y9:(0:Int)≤Y3:=by clear p;exact (by assumption)
   have Yz:Y3 < (Y7.length:Int):=by clear p;exact (by assumption)
   have YA:Y3.toNat < Y7.length:=by clear p;exact (by omega)
   have YD:Y3 < ((Y7.set Y3.toNat (⟨(X1 .f32 Ya),(Y7.getD Y3.toNat default).Y,(Y7.getD Y3.toNat default).Z⟩:Gv)).length:Int):=by clear p;exact (by simp_all<;>omega)
   have YG:Y3 < ((Y7.set Y3.toNat (⟨(X1 .f32 Ya),(X1 .f32 (IntKind.wrap .i64 (Ya + 1))),(Y7.getD Y3.toNat default).Z⟩:Gv)).length:Int):=by clear p;exact (by simp_all<;>omega)
   have YM:(-9223372036854775808:Int)≤(Y3 + 1):=by clear p;exact (by omega)
   have YU:(Y3 + 1)≤(9223372036854775807:Int):=by clear p;exact (by omega)
   have e:Zi Y1 Yh (k + 1) Ya Y3 Y7=(Zi Y1 Yh k (IntKind.wrap .i64 ((IntKind.wrap .i64 ((IntKind.wrap .i64 (Ya + 1)) + 1)) + 1)) (Y3 + 1) (Y7.set Y3.toNat (⟨(X1 .f32 Ya),(X1 .f32 (IntKind.wrap .i64 (Ya + 1))),(X1 .f32 (IntKind.wrap .i64 ((IntKind.wrap .i64 (Ya + 1)) + 1)))⟩:Gv))):=by simp only [Zi,Ye,cond_true]
   rw [e]
   exact X1O (EpOk 1) Z1 [] (mR false [0,2,2,2,31]) [] (⟨.own 0 :: .i .i64 (IntKind.wrap .i64 ((IntKind.wrap .i64 ((IntKind.wrap .i64 (Ya + 1)) + 1)) + 1)) :: .any :: .any :: .i .i64 0 :: .i .i64 (Y3 + 1) :: an 31 [],[.vec 62 3 ((((Y7.map Gv.c).set Y3.toNat [.f .f32 (X1 .f32 Ya), .f .f32 ((Y7.getD Y3.toNat default).Y), .f .f32 ((Y7.getD Y3.toNat default).Z)]).set Y3.toNat [.f .f32 (X1 .f32 Ya), .f .f32 (X1 .f32 (IntKind.wrap .i64 (Ya + 1))), .f .f32 ((Y7.getD Y3.toNat default).Z)]).set Y3.toNat [.f .f32 (X1 .f32 Ya), .f .f32 (X1 .f32 (IntKind.wrap .i64 (Ya + 1))), .f .f32 (X1 .f32 (IntKind.wrap .i64 ((IntKind.wrap .i64 (Ya + 1)) + 1)))]) false]⟩) (p (sB Ye<|sX Gv.c Y7 Y3 Y9 Yz<|sV Gv.c Y7 Y3.toNat YA<|sW .i64 (Ya + 1)<|sC (show 0≤Y3∧Int.toNat Y3 < ((Y7.map Gv.c).set Y3.toNat [.f .f32 (X1 .f32 Ya), .f .f32 ((Y7.getD Y3.toNat default).Y), .f .f32 ((Y7.getD Y3.toNat default).Z)]).length from (by simpa using X5K (c:=Gv.c) (l:=(Y7.set Y3.toNat (⟨(X1 .f32 Ya),(Y7.getD Y3.toNat default).Y,(Y7.getD Y3.toNat default).Z⟩:Gv))) (i:=Y3) Y9 YD))<|sE (show ((Y7.map Gv.c).set Y3.toNat [.f .f32 (X1 .f32 Ya), .f .f32 ((Y7.getD Y3.toNat default).Y), .f .f32 ((Y7.getD Y3.toNat default).Z)])[Y3.toNat]? = some [.f .f32 (X1 .f32 Ya), .f .f32 ((Y7.getD Y3.toNat default).Y), .f .f32 ((Y7.getD Y3.toNat default).Z)] from List.getElem?_set_self (by simpa using YA))<|sW .i64 ((IntKind.wrap .i64 (Ya + 1)) + 1)<|sC (show 0≤Y3∧Int.toNat Y3 < (((Y7.map Gv.c).set Y3.toNat [.f .f32 (X1 .f32 Ya), .f .f32 ((Y7.getD Y3.toNat default).Y), .f .f32 ((Y7.getD Y3.toNat default).Z)]).set Y3.toNat [.f .f32 (X1 .f32 Ya), .f .f32 (X1 .f32 (IntKind.wrap .i64 (Ya + 1))), .f .f32 ((Y7.getD Y3.toNat default).Z)]).length from (by simpa using X5K (c:=Gv.c) (l:=(Y7.set Y3.toNat (⟨(X1 .f32 Ya),(X1 .f32 (IntKind.wrap .i64 (Ya + 1))),(Y7.getD Y3.toNat default).Z⟩:Gv))) (i:=Y3) Y9 YG))<|sE (show (((Y7.map Gv.c).set Y3.toNat [.f .f32 (X1 .f32 Ya), .f .f32 ((Y7.getD Y3.toNat default).Y), .f .f32 ((Y7.getD Y3.toNat default).Z)]).set Y3.toNat [.f .f32 (X1 .f32 Ya), .f .f32 (X1 .f32 (IntKind.wrap .i64 (Ya + 1))), .f .f32 ((Y7.getD Y3.toNat default).Z)])[Y3.toNat]? = some [.f .f32 (X1 .f32 Ya), .f .f32 (X1 .f32 (IntKind.wrap .i64 (Ya + 1))), .f .f32 ((Y7.getD Y3.toNat default).Z)] from List.getElem?_set_self (by simpa using YA))<|sW .i64 ((IntKind.wrap .i64 ((IntKind.wrap .i64 (Ya + 1)) + 1)) + 1)<|sI (Y3 + 1) YM YU<|sN)) (by kernel_rfl) (by simp [Z38,List.map_set,Gv.c]) (ih (IntKind.wrap .i64 ((IntKind.wrap .i64 ((IntKind.wrap .i64 (Ya + 1)) + 1)) + 1)) (Y3 + 1) (Y7.set Y3.toNat (⟨(X1 .f32 Ya),(X1 .f32 (IntKind.wrap .i64 (Ya + 1))),(X1 .f32 (IntKind.wrap .i64 ((IntKind.wrap .i64 (Ya + 1)) + 1)))⟩:Gv)) (show 0≤(Y3 + 1) from (by omega)) (show (Y7.set Y3.toNat (⟨(X1 .f32 Ya),(X1 .f32 (IntKind.wrap .i64 (Ya + 1))),(X1 .f32 (IntKind.wrap .i64 ((IntKind.wrap .i64 (Ya + 1)) + 1)))⟩:Gv)).length=Y1.length from (by simp_all<;>omega)) (by omega))
  | false =>
   have Yt:=odf Ye
   have e:Zi Y1 Yh (k + 1) Ya Y3 Y7=(Ya,Y7):=by simp only [Zi,Ye,cond_false]
   rw [e]
   exact outR (e:=(.exit 0)) (EpOk 1) Z1 [] (mR false [1,1,2,1,32]) [] (p (sB Ye<|sN)) (by kernel_rfl) (by intro h;cases h)
theorem Z4B (Y1:(List Gv)) (Yh:Int):∀ (k:Nat) (Ya:Int) (Y3:Int) (Y7:(List Gv)) (hk:((Y7.length:Int) - Y3).toNat < k),(Zi Y1 Yh k Ya Y3 Y7).2.length=Y7.length:=by
  intro k
  induction k with
  | zero=>intro Ya Y3 Y7 hk;exact absurd hk (Nat.not_lt_zero _)
  | succ k ih =>
    intro Ya Y3 Y7 hk
    cases Ye:(decide (Y3 < (Y7.length:Int))) with
    | true =>
      have e:Zi Y1 Yh (k + 1) Ya Y3 Y7=(Zi Y1 Yh k (IntKind.wrap .i64 ((IntKind.wrap .i64 ((IntKind.wrap .i64 (Ya + 1)) + 1)) + 1)) (Y3 + 1) (Y7.set Y3.toNat (⟨(X1 .f32 Ya),(X1 .f32 (IntKind.wrap .i64 (Ya + 1))),(X1 .f32 (IntKind.wrap .i64 ((IntKind.wrap .i64 (Ya + 1)) + 1)))⟩:Gv))):=by simp only [Zi,Ye,cond_true]
      rw [e,ih (IntKind.wrap .i64 ((IntKind.wrap .i64 ((IntKind.wrap .i64 (Ya + 1)) + 1)) + 1)) (Y3 + 1) (Y7.set Y3.toNat (⟨(X1 .f32 Ya),(X1 .f32 (IntKind.wrap .i64 (Ya + 1))),(X1 .f32 (IntKind.wrap .i64 ((IntKind.wrap .i64 (Ya + 1)) + 1)))⟩:Gv)) (by simp_all<;>omega)];simp
    | false =>
      have e:Zi Y1 Yh (k + 1) Ya Y3 Y7=(Ya,Y7):=by simp only [Zi,Ye,cond_false]
      first | (rw [e];done) | (rw [e];rfl)
def Z18 (Y1:(List Gv)) (Yh:Int):Int × (List Gv):=(Zi Y1 Yh (((Y1.length:Int) - 0).toNat + 1) Yh 0 Y1)
@[simp] theorem Z6y (Y1:(List Gv)) (Yh:Int):(Z18 Y1 Yh).2.length=(Y1:(List Gv)).length:=Z4B Y1 Yh (((Y1.length:Int) - 0).toNat + 1) Yh 0 Y1 (by exact Nat.lt_succ_self _)
def Ze (Y1:(List Gv)) (Yh:Int):Int × (List Gv):=((Z18 Y1 Yh).1,(Z18 Y1 Yh).2)
@[simp] theorem Z7p (Y1:(List Gv)) (Yh:Int):(Ze Y1 Yh).2.length=Y1.length:=by
  first | (simp [Ze];done)
theorem Z5k (Y1:(List Gv)) (Yh:Int) (hp0:Y1.length≤1073741824)  : Xc prog 61 [.vec 62 3 (Y1.map Gv.c) false] [.own 0, .i .i64 Yh] (.i .i64 ((Ze Y1 Yh).1)) [.vec 62 3 (((Ze Y1 Yh).2).map Gv.c) false]:=by
 refine X52 (EpOk 1) Z1 (c:=X0 f61) [.vec 62 3 (Y1.map Gv.c) false] [] (.i .i64 ((Z18 Y1 Yh).1)) [.vec 62 3 (((Z18 Y1 Yh).2).map Gv.c) false] func61 (sL (mR false [0,2,2,2,31]) 1 (X4 (Z2d Y1 Yh) (x:=(Z18 Y1 Yh)) (Z4R Y1 Yh hp0 (((Y1.length:Int) - 0).toNat + 1) Yh 0 Y1 (show 0≤0 from (by omega)) (show Y1.length=Y1.length from (by simp)) (Nat.lt_succ_self _)) rfl)<|sK [] sN) rfl (by kernel_rfl) (by kernel_rfl) ?_ ?_
 · rfl
 · simp [Ze]
def Z2U (_:Gv) (c:Int):Int × Gv:=((IntKind.wrap .i64 ((IntKind.wrap .i64 ((IntKind.wrap .i64 (c + 1)) + 1)) + 1)),⟨X1 .f32 c,X1 .f32 (IntKind.wrap .i64 (c + 1)),X1 .f32 (IntKind.wrap .i64 ((IntKind.wrap .i64 (c + 1)) + 1))⟩)
theorem Z59 (a:List Gv) (c:Int):Ze a c=mkL Z2U a c:=by
  unfold Ze Z18
  rw [X3d (f:=Z2U) (lo:=Zi a c) (fun k c i r=>rfl) _ _ _ _ (Int.le_refl 0) (Nat.lt_succ_self _)]
  simp
theorem Z4M (a:List Gv) (c:Int) (g0:a.length≤1073741824) (h0:0≤c) (h1:c≤4611686018427387904):c≤(Ze a c).1∧(Ze a c).1≤c + 3221225472:=by
  rw [Z59]
  have q:=X78 (f:=Z2U) (W:=3) a c (fun x _ c k0 k1=>by simp only [Z2U];rw [X22 (n:=c + 1) (by omega) (by omega),show c + 1 + 1=c + 2 from by omega,X22 (n:=c + 2) (by omega) (by omega),show c + 2 + 1=c + 3 from by omega,X22 (n:=c + 3) (by omega) (by omega)];omega) h0 (by omega)
  omega
def Zk (Y1:(List Int)) (Yh:Int):Nat→Int→Int→(List Int)→Int × (List Int)
  | 0,_,_,_=>default
  | k + 1,Ya,Y3,Y7=>(cond (decide (Y3 < (Y7.length:Int)))
    (Zk Y1 Yh k (IntKind.wrap .i64 (Ya + 1)) (Y3 + 1) (Y7.set Y3.toNat Ya))
    (Ya,Y7))
def Z2h (ty:Nat) (Y1:(List Int)) (Yh:Int) (r:Int × (List Int)):Ex × St:=((.exit 0),⟨.any :: .i .i64 r.1 :: .any :: .any :: .i .i64 0 :: an 14 [],[.vec ty 1 (r.2.map (cI .i64)) false]⟩)
def Z3g (ty:Nat) (Y1:(List Int)) (Yh:Int) (Ya:Int) (Y3:Int) (Y7:(List Int)):St:=⟨.own 0 :: .i .i64 Ya :: .any :: .any :: .i .i64 0 :: .i .i64 Y3 :: an 13 [],[.vec ty 1 (Y7.map (cI .i64)) false]⟩
theorem Z4Z (ty:Nat) (Y1:(List Int)) (Yh:Int) (hp0:Y1.length≤1073741824):∀ (k:Nat) (Ya:Int) (Y3:Int) (Y7:(List Int)) (Z2V:0≤Y3) (Z2W:Y7.length=Y1.length) (hk:((Y1.length:Int) - Y3).toNat < k),Lp prog 1 (sub (X0 f71) [1,0,1,0,0]) (Z3g ty Y1 Yh Ya Y3 Y7) (Z2h ty Y1 Yh (Zk Y1 Yh k Ya Y3 Y7)).1 (Z2h ty Y1 Yh (Zk Y1 Yh k Ya Y3 Y7)).2:=by
 intro k
 induction k with
 | zero=>intro Ya Y3 Y7 Z2V Z2W hk;exact absurd hk (Nat.not_lt_zero _)
 | succ k ih =>
  intro Ya Y3 Y7 Z2V Z2W hk
  have p {a C} (s:Scr a C):=sZ (cI .i64) Y7<|s
  cases Ye:(decide (Y3 < (Y7.length:Int))) with
  | true =>
   have Yt:=odt Ye
   have Y9:(0:Int)≤Y3:=by clear p;exact (by assumption)
   have Yz:Y3 < (Y7.length:Int):=by clear p;exact (by assumption)
   have YA:Y3.toNat < Y7.length:=by clear p;exact (by omega)
   have YD:(-9223372036854775808:Int)≤(Y3 + 1):=by clear p;exact (by omega)
   have YG:(Y3 + 1)≤(9223372036854775807:Int):=by clear p;exact (by omega)
   have e:Zk Y1 Yh (k + 1) Ya Y3 Y7=(Zk Y1 Yh k (IntKind.wrap .i64 (Ya + 1)) (Y3 + 1) (Y7.set Y3.toNat Ya)):=by simp only [Zk,Ye,cond_true]
   rw [e]
   exact X1O (EpOk 1) Z1 [] (mR false [0,2,2,2,13]) [] (⟨.own 0 :: .i .i64 (IntKind.wrap .i64 (Ya + 1)) :: .any :: .any :: .i .i64 0 :: .i .i64 (Y3 + 1) :: an 13 [],[.vec ty 1 ((Y7.map (cI .i64)).set Y3.toNat [.i .i64 Ya]) false]⟩) (p (sB Ye<|sX (cI .i64) Y7 Y3 Y9 Yz<|sC (X45 (c:=(cI .i64)) (l:=Y7) YA)<|sW .i64 (Ya + 1)<|sI (Y3 + 1) YD YG<|sN)) (by kernel_rfl) (by simp [Z3g,List.map_set,cI]) (ih (IntKind.wrap .i64 (Ya + 1)) (Y3 + 1) (Y7.set Y3.toNat Ya) (show 0≤(Y3 + 1) from (by omega)) (show (Y7.set Y3.toNat Ya).length=Y1.length from (by simp_all<;>omega)) (by omega))
  | false =>
   have Yt:=odf Ye
   have e:Zk Y1 Yh (k + 1) Ya Y3 Y7=(Ya,Y7):=by simp only [Zk,Ye,cond_false]
   rw [e]
   exact outR (e:=(.exit 0)) (EpOk 1) Z1 [] (mR false [1,1,2,1,14]) [] (p (sB Ye<|sN)) (by kernel_rfl) (by intro h;cases h)
theorem Z4H (Y1:(List Int)) (Yh:Int):∀ (k:Nat) (Ya:Int) (Y3:Int) (Y7:(List Int)) (hk:((Y7.length:Int) - Y3).toNat < k),(Zk Y1 Yh k Ya Y3 Y7).2.length=Y7.length:=by
  intro k
  induction k with
  | zero=>intro Ya Y3 Y7 hk;exact absurd hk (Nat.not_lt_zero _)
  | succ k ih =>
    intro Ya Y3 Y7 hk
    cases Ye:(decide (Y3 < (Y7.length:Int))) with
    | true =>
      have e:Zk Y1 Yh (k + 1) Ya Y3 Y7=(Zk Y1 Yh k (IntKind.wrap .i64 (Ya + 1)) (Y3 + 1) (Y7.set Y3.toNat Ya)):=by simp only [Zk,Ye,cond_true]
      rw [e,ih (IntKind.wrap .i64 (Ya + 1)) (Y3 + 1) (Y7.set Y3.toNat Ya) (by simp_all<;>omega)];simp
    | false =>
      have e:Zk Y1 Yh (k + 1) Ya Y3 Y7=(Ya,Y7):=by simp only [Zk,Ye,cond_false]
      first | (rw [e];done) | (rw [e];rfl)
def Z1d (Y1:(List Int)) (Yh:Int):Int × (List Int):=(Zk Y1 Yh (((Y1.length:Int) - 0).toNat + 1) Yh 0 Y1)
@[simp] theorem Z6T (Y1:(List Int)) (Yh:Int):(Z1d Y1 Yh).2.length=(Y1:(List Int)).length:=Z4H Y1 Yh (((Y1.length:Int) - 0).toNat + 1) Yh 0 Y1 (by exact Nat.lt_succ_self _)
def Z9 (Y1:(List Int)) (Yh:Int):Int × (List Int):=((Z1d Y1 Yh).1,(Z1d Y1 Yh).2)
@[simp] theorem Z2B (Y1:(List Int)) (Yh:Int):(Z9 Y1 Yh).2.length=Y1.length:=by
  first | (simp [Z9];done)
theorem Z5s (ty:Nat) (Y1:(List Int)) (Yh:Int) (hp0:Y1.length≤1073741824)  : Xc prog 71 [.vec ty 1 (Y1.map (cI .i64)) false] [.own 0, .i .i64 Yh] (.i .i64 ((Z9 Y1 Yh).1)) [.vec ty 1 (((Z9 Y1 Yh).2).map (cI .i64)) false]:=by
 refine X52 (EpOk 1) Z1 (c:=X0 f71) [.vec ty 1 (Y1.map (cI .i64)) false] [] (.i .i64 ((Z1d Y1 Yh).1)) [.vec ty 1 (((Z1d Y1 Yh).2).map (cI .i64)) false] func71 (sL (mR false [0,2,2,2,13]) 1 (X4 (Z2h ty Y1 Yh) (x:=(Z1d Y1 Yh)) (Z4Z ty Y1 Yh hp0 (((Y1.length:Int) - 0).toNat + 1) Yh 0 Y1 (show 0≤0 from (by omega)) (show Y1.length=Y1.length from (by simp)) (Nat.lt_succ_self _)) rfl)<|sK [] sN) rfl (by kernel_rfl) (by kernel_rfl) ?_ ?_
 · rfl
 · simp [Z9]
def Z3h (_:Int) (c:Int):Int × Int:=((IntKind.wrap .i64 (c + 1)),c)
theorem Z5t (a:List Int) (c:Int):Z9 a c=mkL Z3h a c:=by
  unfold Z9 Z1d
  rw [X3d (f:=Z3h) (lo:=Zk a c) (fun k c i r=>rfl) _ _ _ _ (Int.le_refl 0) (Nat.lt_succ_self _)]
  simp
theorem Z50 (a:List Int) (c:Int) (g0:a.length≤1073741824) (h0:0≤c) (h1:c≤4611686018427387904):c≤(Z9 a c).1∧(Z9 a c).1≤c + 1073741824:=by
  rw [Z5t]
  have q:=X78 (f:=Z3h) (W:=1) a c (fun x _ c k0 k1=>by simp only [Z3h];rw [X22 (n:=c + 1) (by omega) (by omega)];omega) h0 (by omega)
  omega
def Zj (Y1:(List (List Int))) (Yh:Int):Nat→Int→Int→(List (List Int))→Int × (List (List Int))
  | 0,_,_,_=>default
  | k + 1,Ya,Y3,Y7=>(cond (decide (Y3 < (Y7.length:Int)))
    (Zj Y1 Yh k ((Z9 (Y7.getD Y3.toNat default) Ya).1) (Y3 + 1) (Y7.set Y3.toNat ((Z9 (Y7.getD Y3.toNat default) Ya).2)))
    (Ya,Y7))
def Z2e (Y1:(List (List Int))) (Yh:Int) (r:Int × (List (List Int))):Ex × St:=((.exit 0),⟨.any :: .i .i64 r.1 :: .any :: .any :: .i .i64 0 :: an 14 [],[.nest 79 (r.2.map fun l=>l.map (cI .i64)) false]⟩)
def Z39 (Y1:(List (List Int))) (Yh:Int) (Ya:Int) (Y3:Int) (Y7:(List (List Int))):St:=⟨.own 0 :: .i .i64 Ya :: .any :: .any :: .i .i64 0 :: .i .i64 Y3 :: an 13 [],[.nest 79 (Y7.map fun l=>l.map (cI .i64)) false]⟩
theorem Z4S (Y1:(List (List Int))) (Yh:Int) (hp0:Y1.length≤1073741824) (hp1:∀ t∈Y1,t.length≤1073741824):∀ (k:Nat) (Ya:Int) (Y3:Int) (Y7:(List (List Int))) (Z2C:0≤Y3) (Z2D:Y7.length=Y1.length) (Z1z:∀ t∈Y7,t.length≤1073741824) (hk:((Y1.length:Int) - Y3).toNat < k),Lp prog 1 (sub (X0 f24) [1,0,1,0,0]) (Z39 Y1 Yh Ya Y3 Y7) (Z2e Y1 Yh (Zj Y1 Yh k Ya Y3 Y7)).1 (Z2e Y1 Yh (Zj Y1 Yh k Ya Y3 Y7)).2:=by
 intro k
 induction k with
 | zero=>intro Ya Y3 Y7 Z2C Z2D Z1z hk;exact absurd hk (Nat.not_lt_zero _)
 | succ k ih =>
  intro Ya Y3 Y7 Z2C Z2D Z1z hk
  have p {a C} (s:Scr a C):=sM (X85 (l:=Y7) (f:=fun l=>l.map (cI .i64)))<|s
  cases Ye:(decide (Y3 < (Y7.length:Int))) with
  | true =>
   have Yt:=odt Ye
   have Y9:(0:Int)≤Y3:=by clear p;exact (by assumption)
   have Yz:Int.toNat Y3 < Y7.length:=by clear p;exact (by omega)
   have YA:Y3.toNat < Y7.length:=by clear p;exact (by assumption)
   have YD:(Y7.getD Y3.toNat default).length≤1073741824:=by clear p;exact (by exact X79 Z1z)
   have YG:(-9223372036854775808:Int)≤(Y3 + 1):=by clear p;exact (by omega)
   have YM:(Y3 + 1)≤(9223372036854775807:Int):=by clear p;exact (by omega)
   have e:Zj Y1 Yh (k + 1) Ya Y3 Y7=(Zj Y1 Yh k ((Z9 (Y7.getD Y3.toNat default) Ya).1) (Y3 + 1) (Y7.set Y3.toNat ((Z9 (Y7.getD Y3.toNat default) Ya).2))):=by simp only [Zj,Ye,cond_true]
   rw [e]
   exact X1O (EpOk 1) Z1 [] (mR false [0,2,2,2,13]) [] (⟨.own 0 :: .i .i64 ((Z9 (Y7.getD Y3.toNat default) Ya).1) :: .any :: .any :: .i .i64 0 :: .i .i64 (Y3 + 1) :: an 13 [],[.nest 79 ((Y7.map fun l=>l.map (cI .i64)).set Y3.toNat (((Z9 (Y7.getD Y3.toNat default) Ya).2).map (cI .i64))) false]⟩) (p (sB Ye<|sC (X7a (c:=(cI .i64)) (l:=Y7) (i:=Y3) Y9 Yz)<|sC (X8s (c:=(cI .i64)) (l:=Y7) YA)<|sS (Xc.frameInn (R:=[.nest 79 (Y7.map fun l=>l.map (cI .i64)) false]) (q:=0) (j:=Y3.toNat) (args:=[.i .i64 Ya]) (fun ty=>Z5s ty (Y7.getD Y3.toNat default) Ya YD) rfl rfl (by simp) rfl (X6I YA))<|sI (Y3 + 1) YG YM<|sN)) (by kernel_rfl) (by simp [Z39,List.map_set,cL,cI]) (ih ((Z9 (Y7.getD Y3.toNat default) Ya).1) (Y3 + 1) (Y7.set Y3.toNat ((Z9 (Y7.getD Y3.toNat default) Ya).2)) (show 0≤(Y3 + 1) from (by omega)) (show (Y7.set Y3.toNat ((Z9 (Y7.getD Y3.toNat default) Ya).2)).length=Y1.length from (by simp;assumption)) (show ∀ t∈(Y7.set Y3.toNat ((Z9 (Y7.getD Y3.toNat default) Ya).2)),t.length≤1073741824 from (by intro t ht;rcases List.mem_or_eq_of_mem_set ht with h | h;(exact Z1z t h);(rw [h];simp only [Z2B];exact X79 Z1z))) (by omega))
  | false =>
   have Yt:=odf Ye
   have e:Zj Y1 Yh (k + 1) Ya Y3 Y7=(Ya,Y7):=by simp only [Zj,Ye,cond_false]
   rw [e]
   exact outR (e:=(.exit 0)) (EpOk 1) Z1 [] (mR false [1,1,2,1,14]) [] (p (sB Ye<|sN)) (by kernel_rfl) (by intro h;cases h)
theorem Z4C (Y1:(List (List Int))) (Yh:Int):∀ (k:Nat) (Ya:Int) (Y3:Int) (Y7:(List (List Int))) (hk:((Y7.length:Int) - Y3).toNat < k),(Zj Y1 Yh k Ya Y3 Y7).2.length=Y7.length:=by
  intro k
  induction k with
  | zero=>intro Ya Y3 Y7 hk;exact absurd hk (Nat.not_lt_zero _)
  | succ k ih =>
    intro Ya Y3 Y7 hk
    cases Ye:(decide (Y3 < (Y7.length:Int))) with
    | true =>
      have e:Zj Y1 Yh (k + 1) Ya Y3 Y7=(Zj Y1 Yh k ((Z9 (Y7.getD Y3.toNat default) Ya).1) (Y3 + 1) (Y7.set Y3.toNat ((Z9 (Y7.getD Y3.toNat default) Ya).2))):=by simp only [Zj,Ye,cond_true]
      rw [e,ih ((Z9 (Y7.getD Y3.toNat default) Ya).1) (Y3 + 1) (Y7.set Y3.toNat ((Z9 (Y7.getD Y3.toNat default) Ya).2)) (by simp_all<;>omega)];simp
    | false =>
      have e:Zj Y1 Yh (k + 1) Ya Y3 Y7=(Ya,Y7):=by simp only [Zj,Ye,cond_false]
      first | (rw [e];done) | (rw [e];rfl)
def Z19 (Y1:(List (List Int))) (Yh:Int):Int × (List (List Int)):=(Zj Y1 Yh (((Y1.length:Int) - 0).toNat + 1) Yh 0 Y1)
@[simp] theorem Z6z (Y1:(List (List Int))) (Yh:Int):(Z19 Y1 Yh).2.length=(Y1:(List (List Int))).length:=Z4C Y1 Yh (((Y1.length:Int) - 0).toNat + 1) Yh 0 Y1 (by exact Nat.lt_succ_self _)
def Zq (Y1:(List (List Int))) (Yh:Int):Int × (List (List Int)):=((Z19 Y1 Yh).1,(Z19 Y1 Yh).2)
@[simp] theorem Z7q (Y1:(List (List Int))) (Yh:Int):(Zq Y1 Yh).2.length=Y1.length:=by
  first | (simp [Zq];done)
theorem Z5l (Y1:(List (List Int))) (Yh:Int) (hp0:Y1.length≤1073741824) (hp1:∀ t∈Y1,t.length≤1073741824)  : Xc prog 24 [.nest 79 (Y1.map fun l=>l.map (cI .i64)) false] [.own 0, .i .i64 Yh] (.i .i64 ((Zq Y1 Yh).1)) [.nest 79 (((Zq Y1 Yh).2).map fun l=>l.map (cI .i64)) false]:=by
 refine X52 (EpOk 1) Z1 (c:=X0 f24) [.nest 79 (Y1.map fun l=>l.map (cI .i64)) false] [] (.i .i64 ((Z19 Y1 Yh).1)) [.nest 79 (((Z19 Y1 Yh).2).map fun l=>l.map (cI .i64)) false] func24 (sL (mR false [0,2,2,2,13]) 1 (X4 (Z2e Y1 Yh) (x:=(Z19 Y1 Yh)) (Z4S Y1 Yh hp0 hp1 (((Y1.length:Int) - 0).toNat + 1) Yh 0 Y1 (show 0≤0 from (by simp)) (show Y1.length=Y1.length from (by simp)) (show ∀ t∈Y1,t.length≤1073741824 from (by assumption)) (Nat.lt_succ_self _)) rfl)<|sK [] sN) rfl (by kernel_rfl) (by kernel_rfl) ?_ ?_
 · rfl
 · simp [Zq]
theorem Z51 (a:List (List Int)) (c:Int):Zq a c=mkL Z9 a c:=by
  unfold Zq Z19
  rw [X3d (f:=Z9) (lo:=Zj a c) (fun k c i r=>rfl) _ _ _ _ (Int.le_refl 0) (Nat.lt_succ_self _)]
  simp
theorem Z6U (a:List (List Int)) (c:Int) (N:Nat) (h:∀ t∈a,t.length≤N):∀ t∈(Zq a c).2,t.length≤N:=by
  rw [Z51]
  exact X6f (p:=fun t:List Int=>t.length≤N) (fun x c hx=>by rw [Z2B];exact hx) a c h
theorem Z4D (a:List (List Int)) (c:Int) (g0:a.length≤1073741824) (g1:∀ t∈a,t.length≤1073741824) (h0:0≤c) (h1:c≤3458764513820540928):c≤(Zq a c).1∧(Zq a c).1≤c + 1152921504606846976:=by
  rw [Z51]
  have hm:(a.length:Int) * 1073741824≤1152921504606846976:=by omega
  have q:=X3F (f:=Z9) (W:=1073741824) (M:=4611686018427387904) a c (fun x hx c k0 k1=>by have q:=Z50 x c (g1 x hx) k0 (by omega);omega) h0 (by omega)
  omega
def Z5 (Y1:Gm) (Yh:Int):Int × (List Gv) × (List (List Int)):=((Zq Y1.Tr ((Ze Y1.Pq Yh).1)).1,(Ze Y1.Pq Yh).2,(Zq Y1.Tr ((Ze Y1.Pq Yh).1)).2)
@[simp] theorem Z7r (Y1:Gm) (Yh:Int):(Z5 Y1 Yh).2.1.length=Y1.Pq.length:=by
  first | (simp [Z5];done)
@[simp] theorem Z7s (Y1:Gm) (Yh:Int):(Z5 Y1 Yh).2.2.length=Y1.Tr.length:=by
  first | (simp [Z5];done)
theorem Z3R (Y1:Gm) (Yh:Int) (hp0:Y1.Pq.length≤1073741824) (hp1:Y1.Tr.length≤1073741824) (hp2:∀ t∈Y1.Tr,t.length≤1073741824)  : Xc prog 17 [.vec 62 3 (Y1.Pq.map Gv.c) false, .nest 79 (Y1.Tr.map fun l=>l.map (cI .i64)) false] [.agg [.own 0, .own 1], .i .i64 Yh] (.i .i64 ((Z5 Y1 Yh).1)) [.vec 62 3 (((Z5 Y1 Yh).2.1).map Gv.c) false, .nest 79 (((Z5 Y1 Yh).2.2).map fun l=>l.map (cI .i64)) false]:=by
 refine X52 (EpOk 2) Z1 (c:=X0 f17) [.vec 62 3 (Y1.Pq.map Gv.c) false, .nest 79 (Y1.Tr.map fun l=>l.map (cI .i64)) false] [] (.i .i64 ((Zq Y1.Tr ((Ze Y1.Pq Yh).1)).1)) [.vec 62 3 (((Ze Y1.Pq Yh).2).map Gv.c) false, .nest 79 (((Zq Y1.Tr ((Ze Y1.Pq Yh).1)).2).map fun l=>l.map (cI .i64)) false] func17 (sS (Xc.frame (Z5k Y1.Pq Yh hp0) [0] (R:=[.vec 62 3 (Y1.Pq.map Gv.c) false, .nest 79 (Y1.Tr.map fun l=>l.map (cI .i64)) false, .box 35 [.own 0, .own 1]]) (args':=[.own 0, .i .i64 Yh]) rfl rfl rfl rfl rfl rfl)<|sS (Xc.frame (Z5l Y1.Tr ((Ze Y1.Pq Yh).1) hp1 hp2) [1] (R:=[.vec 62 3 (((Ze Y1.Pq Yh).2).map Gv.c) false, .nest 79 (Y1.Tr.map fun l=>l.map (cI .i64)) false, .box 35 [.own 0, .own 1]]) (args':=[.own 1, .i .i64 ((Ze Y1.Pq Yh).1)]) rfl rfl rfl rfl rfl rfl)<|sK [] sN) rfl (by kernel_rfl) (by kernel_rfl) ?_ ?_
 · rfl
 · simp [Z5]
theorem Z4E (a:Gm) (c:Int) (g0:a.Pq.length≤1073741824) (g1:a.Tr.length≤1073741824) (g2:∀ t∈a.Tr,t.length≤1073741824) (h0:0≤c) (h1:c≤2305843009213693952):c≤(Z5 a c).1∧(Z5 a c).1≤c + 1152921507828072448:=by
  unfold Z5
  have p0:=Z4M a.Pq c g0 (by omega) (by omega)
  have p1:=Z4D a.Tr ((Ze a.Pq c).1) g1 g2 (by omega) (by omega)
  simp only
  omega
theorem Z6V (a:Gm) (c:Int) (N:Nat) (h:∀ t∈a.Tr,t.length≤N):∀ t∈(Z5 a c).2.2,t.length≤N:=by
  unfold Z5
  exact Z6U _ _ N h
def Zo (Y1:(List Gv)) (Yh:Int):Nat→Int→Int→(Unit) ⊕ (Int)
  | 0,_,_ => .inl default
  | k + 1,Ya,Y3=>(cond (decide (Y3 < (Y1.length:Int)))
    (cond (fcmp .neq .f32 ((Y1.getD Y3.toNat default).X) (X1 .f32 Ya))
      (.inl ())
      (cond (fcmp .neq .f32 ((Y1.getD Y3.toNat default).Y) (X1 .f32 (IntKind.wrap .i64 (Ya + 1))))
        (.inl ())
        (cond (fcmp .neq .f32 ((Y1.getD Y3.toNat default).Z) (X1 .f32 (IntKind.wrap .i64 ((IntKind.wrap .i64 (Ya + 1)) + 1))))
          (.inl ())
          (Zo Y1 Yh k (IntKind.wrap .i64 ((IntKind.wrap .i64 ((IntKind.wrap .i64 (Ya + 1)) + 1)) + 1)) (Y3 + 1)))))
    (.inr Ya))
def Z27 (Y1:(List Gv)) (Yh:Int):(Unit) ⊕ (Int)→Ex × St
  | .inl r=>(.ret,⟨an 4 (.i .i64 (-1) :: an 38 []),[]⟩)
  | .inr r=>((.exit 0),⟨.any :: .i .i64 r :: an 41 [],[]⟩)
def Z5u (Y1:(List Gv)) (Yh:Int) (Ya:Int) (Y3:Int):St:=⟨.sl (Y1.map Gv.c) :: .i .i64 Ya :: .any :: .any :: .any :: .i .i64 Y3 :: an 37 [],[]⟩
theorem Z48 (Y1:(List Gv)) (Yh:Int) (hp0:Y1.length≤1073741824):∀ (k:Nat) (Ya:Int) (Y3:Int) (Z3j:0≤Y3) (hk:((Y1.length:Int) - Y3).toNat < k),Lp prog 0 (sub (X0 f62) [1,0,1,0,0]) (Z5u Y1 Yh Ya Y3) (Z27 Y1 Yh (Zo Y1 Yh k Ya Y3)).1 (Z27 Y1 Yh (Zo Y1 Yh k Ya Y3)).2:=by
 intro k
 induction k with
 | zero=>intro Ya Y3 Z3j hk;exact absurd hk (Nat.not_lt_zero _)
 | succ k ih =>
  intro Ya Y3 Z3j hk
  have p {a C} (s:Scr a C):=sZ Gv.c Y1<|s
  cases Ye:(decide (Y3 < (Y1.length:Int))) with
  | true =>
   have Yt:=odt Ye
   have Y9:(0:Int)≤Y3:=by clear p;exact (by assumption)
   have Yz:Y3 < (Y1.length:Int):=by clear p;exact (by assumption)
   have q {a C} (s:Scr a C):=p (sB Ye<|sG Gv.c Y1 Y3 Y9 Yz<|s)
   clear p
   cases Yw:(fcmp .neq .f32 ((Y1.getD Y3.toNat default).X) (X1 .f32 Ya)) with
   | true =>
    have e:Zo Y1 Yh (k + 1) Ya Y3=(.inl ()):=by simp only [Zo,Ye,Yw,cond_true]
    rw [e]
    exact outR (e := .ret) E0Ok Z1 [] (mR false [4,1,38]) [] (q (sB Yw<|sN)) (by kernel_rfl) (by intro h;cases h)
   | false =>
    have p {a C} (s:Scr a C):=q (sB Yw<|sW .i64 (Ya + 1)<|sG Gv.c Y1 Y3 Y9 Yz<|s)
    clear q
    cases YJ:(fcmp .neq .f32 ((Y1.getD Y3.toNat default).Y) (X1 .f32 (IntKind.wrap .i64 (Ya + 1)))) with
    | true =>
     have e:Zo Y1 Yh (k + 1) Ya Y3=(.inl ()):=by simp only [Zo,Ye,Yw,YJ,cond_true,cond_false]
     rw [e]
     exact outR (e := .ret) E0Ok Z1 [] (mR false [4,1,38]) [] (p (sB YJ<|sN)) (by kernel_rfl) (by intro h;cases h)
    | false =>
     have q {a C} (s:Scr a C):=p (sB YJ<|sW .i64 ((IntKind.wrap .i64 (Ya + 1)) + 1)<|sG Gv.c Y1 Y3 Y9 Yz<|s)
     clear p
     cases YK:(fcmp .neq .f32 ((Y1.getD Y3.toNat default).Z) (X1 .f32 (IntKind.wrap .i64 ((IntKind.wrap .i64 (Ya + 1)) + 1)))) with
     | true =>
      have e:Zo Y1 Yh (k + 1) Ya Y3=(.inl ()):=by simp only [Zo,Ye,Yw,YJ,YK,cond_true,cond_false]
      rw [e]
      exact outR (e := .ret) E0Ok Z1 [] (mR false [4,1,38]) [] (q (sB YK<|sN)) (by kernel_rfl) (by intro h;cases h)
     | false =>
      have YA:(-9223372036854775808:Int)≤(Y3 + 1):=by clear q;exact (by omega)
      have YD:(Y3 + 1)≤(9223372036854775807:Int):=by clear q;exact (by omega)
      have e:Zo Y1 Yh (k + 1) Ya Y3=(Zo Y1 Yh k (IntKind.wrap .i64 ((IntKind.wrap .i64 ((IntKind.wrap .i64 (Ya + 1)) + 1)) + 1)) (Y3 + 1)):=by simp only [Zo,Ye,Yw,YJ,YK,cond_true,cond_false]
      rw [e]
      exact Xo E0Ok Z1 [] (mR false [0,2,3,1,37]) [] (ih (IntKind.wrap .i64 ((IntKind.wrap .i64 ((IntKind.wrap .i64 (Ya + 1)) + 1)) + 1)) (Y3 + 1) (show 0≤(Y3 + 1) from (by omega)) (by omega)) (q (sB YK<|sW .i64 ((IntKind.wrap .i64 ((IntKind.wrap .i64 (Ya + 1)) + 1)) + 1)<|sI (Y3 + 1) YA YD<|sN)) (by kernel_rfl)
  | false =>
   have Yt:=odf Ye
   have e:Zo Y1 Yh (k + 1) Ya Y3=(.inr Ya):=by simp only [Zo,Ye,cond_false]
   rw [e]
   exact outR (e:=(.exit 0)) E0Ok Z1 [] (mR false [1,1,41]) [] (p (sB Ye<|sN)) (by kernel_rfl) (by intro h;cases h)
def Z1J (Y1:(List Gv)) (Yh:Int):(Unit) ⊕ (Int):=(Zo Y1 Yh (((Y1.length:Int) - 0).toNat + 1) Yh 0)
def ZR (Y1:(List Gv)) (Yh:Int):Int:=(match (Z1J Y1 Yh) with
  | .inl r1=>(-1)
  | .inr r1=>r1)
theorem Z6g (Y1:(List Gv)) (Yh:Int) (hp0:Y1.length≤1073741824)  : Fn prog 62 [.sl (Y1.map Gv.c), .i .i64 Yh] (.i .i64 (ZR Y1 Yh)) []:=by
 cases h0:(Z1J Y1 Yh) with
 | inl r1 =>
  refine fnS E0Ok Z1 (c:=X0 f62) [] (.i .i64 (-1)) [] func62 (sL (mR false [0,2,3,1,37]) 0 (X4 (Z27 Y1 Yh) (x:=(Z1J Y1 Yh)) (Z48 Y1 Yh hp0 (((Y1.length:Int) - 0).toNat + 1) Yh 0 (show 0≤0 from (by omega)) (Nat.lt_succ_self _)) h0)<|sK [] sN) rfl (by kernel_rfl) (by kernel_rfl) rfl ?_ ?_
  · simp only [ZR,h0]
  · rfl
 | inr r1 =>
  refine fnS E0Ok Z1 (c:=X0 f62) [] (.i .i64 r1) [] func62 (sL (mR false [0,2,3,1,37]) 0 (X4 (Z27 Y1 Yh) (x:=(Z1J Y1 Yh)) (Z48 Y1 Yh hp0 (((Y1.length:Int) - 0).toNat + 1) Yh 0 (show 0≤0 from (by omega)) (Nat.lt_succ_self _)) h0)<|sK [] sN) rfl (by kernel_rfl) (by kernel_rfl) rfl ?_ ?_
  · simp only [ZR,h0]
  · rfl
def Z4F (x:Gv) (c:Int):Bool:=(!(fcmp .neq .f32 x.X (X1 .f32 c))) && (!(fcmp .neq .f32 x.Y (X1 .f32 (IntKind.wrap .i64 (c + 1))))) && (!(fcmp .neq .f32 x.Z (X1 .f32 (IntKind.wrap .i64 ((IntKind.wrap .i64 (c + 1)) + 1)))))
def Z5a (_:Gv) (c:Int):Int:=(IntKind.wrap .i64 ((IntKind.wrap .i64 ((IntKind.wrap .i64 (c + 1)) + 1)) + 1))
theorem Z7X (a:List Gv) (c:Int):ZR a c=match hdL Z4F Z5a a c with
    | some c'=>c'
    | none => -1:=by
  unfold ZR Z1J
  rw [X3e (p:=Z4F) (q:=Z5a) (a:=a) (x:=()) (lo:=Zo a c) (fun k c i=>by
    rw [Zo]
    unfold Z4F Z5a
    generalize a.getD i.toNat default=x
    cases decide (i < (a.length:Int))<;>cases fcmp .neq .f32 x.X (X1 .f32 c)<;>cases fcmp .neq .f32 x.Y (X1 .f32 (IntKind.wrap .i64 (c + 1)))<;>cases fcmp .neq .f32 x.Z (X1 .f32 (IntKind.wrap .i64 ((IntKind.wrap .i64 (c + 1)) + 1)))<;>rfl) _ _ _ (Int.le_refl 0) (Nat.lt_succ_self _)]
  simp only [Int.toNat_zero,List.drop_zero]
  cases hdL Z4F Z5a a c<;>rfl
def ZK (Y1:(List Int)) (Yh:Int):Nat→Int→Int→(Unit) ⊕ (Int)
  | 0,_,_ => .inl default
  | k + 1,Ya,Y3=>(cond (decide (Y3 < (Y1.length:Int)))
    (cond ((Y1.getD Y3.toNat default) != Ya)
      (.inl ())
      (ZK Y1 Yh k (IntKind.wrap .i64 (Ya + 1)) (Y3 + 1)))
    (.inr Ya))
def Z2f (Y1:(List Int)) (Yh:Int):(Unit) ⊕ (Int)→Ex × St
  | .inl r=>(.ret,⟨an 4 (.i .i64 (-1) :: an 16 []),[]⟩)
  | .inr r=>((.exit 0),⟨.any :: .i .i64 r :: an 19 [],[]⟩)
def Z5O (Y1:(List Int)) (Yh:Int) (Ya:Int) (Y3:Int):St:=⟨.sl (Y1.map (cI .i64)) :: .i .i64 Ya :: .any :: .any :: .any :: .i .i64 Y3 :: an 15 [],[]⟩
theorem Z4h (Y1:(List Int)) (Yh:Int) (hp0:Y1.length≤1073741824):∀ (k:Nat) (Ya:Int) (Y3:Int) (Z3S:0≤Y3) (hk:((Y1.length:Int) - Y3).toNat < k),Lp prog 0 (sub (X0 f72) [1,0,1,0,0]) (Z5O Y1 Yh Ya Y3) (Z2f Y1 Yh (ZK Y1 Yh k Ya Y3)).1 (Z2f Y1 Yh (ZK Y1 Yh k Ya Y3)).2:=by
 intro k
 induction k with
 | zero=>intro Ya Y3 Z3S hk;exact absurd hk (Nat.not_lt_zero _)
 | succ k ih =>
  intro Ya Y3 Z3S hk
  have p {a C} (s:Scr a C):=sZ (cI .i64) Y1<|s
  cases Ye:(decide (Y3 < (Y1.length:Int))) with
  | true =>
   have Yt:=odt Ye
   have Y9:(0:Int)≤Y3:=by clear p;exact (by assumption)
   have Yz:Y3 < (Y1.length:Int):=by clear p;exact (by assumption)
   have q {a C} (s:Scr a C):=p (sB Ye<|sG (cI .i64) Y1 Y3 Y9 Yz<|s)
   clear p
   cases Yw:((Y1.getD Y3.toNat default) != Ya) with
   | true =>
    have YN:=bne_iff_ne.1 Yw
    have e:ZK Y1 Yh (k + 1) Ya Y3=(.inl ()):=by simp only [ZK,Ye,Yw,cond_true]
    rw [e]
    exact outR (e := .ret) E0Ok Z1 [] (mR false [4,1,16]) [] (q (sB Yw<|sN)) (by kernel_rfl) (by intro h;cases h)
   | false =>
    have YN:=bne_eq_false_iff_eq.1 Yw
    have YA:(-9223372036854775808:Int)≤(Y3 + 1):=by clear q;exact (by omega)
    have YD:(Y3 + 1)≤(9223372036854775807:Int):=by clear q;exact (by omega)
    have e:ZK Y1 Yh (k + 1) Ya Y3=(ZK Y1 Yh k (IntKind.wrap .i64 (Ya + 1)) (Y3 + 1)):=by simp only [ZK,Ye,Yw,cond_true,cond_false]
    rw [e]
    exact Xo E0Ok Z1 [] (mR false [0,2,3,1,15]) [] (ih (IntKind.wrap .i64 (Ya + 1)) (Y3 + 1) (show 0≤(Y3 + 1) from (by omega)) (by omega)) (q (sB Yw<|sW .i64 (Ya + 1)<|sI (Y3 + 1) YA YD<|sN)) (by kernel_rfl)
  | false =>
   have Yt:=odf Ye
   have e:ZK Y1 Yh (k + 1) Ya Y3=(.inr Ya):=by simp only [ZK,Ye,cond_false]
   rw [e]
   exact outR (e:=(.exit 0)) E0Ok Z1 [] (mR false [1,1,19]) [] (p (sB Ye<|sN)) (by kernel_rfl) (by intro h;cases h)
def Z1R (Y1:(List Int)) (Yh:Int):(Unit) ⊕ (Int):=(ZK Y1 Yh (((Y1.length:Int) - 0).toNat + 1) Yh 0)
def Zw (Y1:(List Int)) (Yh:Int):Int:=(match (Z1R Y1 Yh) with
  | .inl r1=>(-1)
  | .inr r1=>r1)
theorem Z6u (Y1:(List Int)) (Yh:Int) (hp0:Y1.length≤1073741824)  : Fn prog 72 [.sl (Y1.map (cI .i64)), .i .i64 Yh] (.i .i64 (Zw Y1 Yh)) []:=by
 cases h0:(Z1R Y1 Yh) with
 | inl r1 =>
  refine fnS E0Ok Z1 (c:=X0 f72) [] (.i .i64 (-1)) [] func72 (sL (mR false [0,2,3,1,15]) 0 (X4 (Z2f Y1 Yh) (x:=(Z1R Y1 Yh)) (Z4h Y1 Yh hp0 (((Y1.length:Int) - 0).toNat + 1) Yh 0 (show 0≤0 from (by omega)) (Nat.lt_succ_self _)) h0)<|sK [] sN) rfl (by kernel_rfl) (by kernel_rfl) rfl ?_ ?_
  · simp only [Zw,h0]
  · rfl
 | inr r1 =>
  refine fnS E0Ok Z1 (c:=X0 f72) [] (.i .i64 r1) [] func72 (sL (mR false [0,2,3,1,15]) 0 (X4 (Z2f Y1 Yh) (x:=(Z1R Y1 Yh)) (Z4h Y1 Yh hp0 (((Y1.length:Int) - 0).toNat + 1) Yh 0 (show 0≤0 from (by omega)) (Nat.lt_succ_self _)) h0)<|sK [] sN) rfl (by kernel_rfl) (by kernel_rfl) rfl ?_ ?_
  · simp only [Zw,h0]
  · rfl
def Z52 (x:Int) (c:Int):Bool:=(!(x != c))
def Z5P (_:Int) (c:Int):Int:=(IntKind.wrap .i64 (c + 1))
theorem Z89 (a:List Int) (c:Int):Zw a c=match hdL Z52 Z5P a c with
    | some c'=>c'
    | none => -1:=by
  unfold Zw Z1R
  rw [X3e (p:=Z52) (q:=Z5P) (a:=a) (x:=()) (lo:=ZK a c) (fun k c i=>by
    rw [ZK]
    unfold Z52 Z5P
    generalize a.getD i.toNat default=x
    cases decide (i < (a.length:Int))<;>cases (x != c)<;>rfl) _ _ _ (Int.le_refl 0) (Nat.lt_succ_self _)]
  simp only [Int.toNat_zero,List.drop_zero]
  cases hdL Z52 Z5P a c<;>rfl
def ZC (Y1:(List (List Int))) (Yh:Int):Nat→Int→Int→(Unit) ⊕ (Int)
  | 0,_,_ => .inl default
  | k + 1,Ya,Y3=>(cond (decide (Y3 < (Y1.length:Int)))
    (cond (decide ((Zw (Y1.getD Y3.toNat default) Ya) < 0))
      (.inl ())
      (ZC Y1 Yh k (Zw (Y1.getD Y3.toNat default) Ya) (Y3 + 1)))
    (.inr Ya))
def Z28 (Y1:(List (List Int))) (Yh:Int):(Unit) ⊕ (Int)→Ex × St
  | .inl r=>(.ret,⟨an 4 (.i .i64 (-1) :: an 16 []),[]⟩)
  | .inr r=>((.exit 0),⟨.any :: .i .i64 r :: an 19 [],[]⟩)
def Z5v (Y1:(List (List Int))) (Yh:Int) (Ya:Int) (Y3:Int):St:=⟨.sl (Y1.map (cL (cI .i64))) :: .i .i64 Ya :: .any :: .any :: .any :: .i .i64 Y3 :: an 15 [],[]⟩
theorem Z49 (Y1:(List (List Int))) (Yh:Int) (hp0:Y1.length≤1073741824) (hp1:∀ t∈Y1,t.length≤1073741824):∀ (k:Nat) (Ya:Int) (Y3:Int) (Z3k:0≤Y3) (hk:((Y1.length:Int) - Y3).toNat < k),Lp prog 0 (sub (X0 f25) [1,0,1,0,0]) (Z5v Y1 Yh Ya Y3) (Z28 Y1 Yh (ZC Y1 Yh k Ya Y3)).1 (Z28 Y1 Yh (ZC Y1 Yh k Ya Y3)).2:=by
 intro k
 induction k with
 | zero=>intro Ya Y3 Z3k hk;exact absurd hk (Nat.not_lt_zero _)
 | succ k ih =>
  intro Ya Y3 Z3k hk
  have p {a C} (s:Scr a C):=sZ (cL (cI .i64)) Y1<|s
  cases Ye:(decide (Y3 < (Y1.length:Int))) with
  | true =>
   have Yt:=odt Ye
   have Y9:(0:Int)≤Y3:=by clear p;exact (by assumption)
   have Yz:Y3 < (Y1.length:Int):=by clear p;exact (by assumption)
   have YA:(Y1.getD Y3.toNat default).length≤1073741824:=by clear p;exact (by simp_all<;>omega)
   have q {a C} (s:Scr a C):=p (sB Ye<|sG (cL (cI .i64)) Y1 Y3 Y9 Yz<|sF (Z6u (Y1.getD Y3.toNat default) Ya YA)<|s)
   clear p
   cases Yw:(decide ((Zw (Y1.getD Y3.toNat default) Ya) < 0)) with
   | true =>
    have YN:=odt Yw
    have e:ZC Y1 Yh (k + 1) Ya Y3=(.inl ()):=by simp only [ZC,Ye,Yw,cond_true]
    rw [e]
    exact outR (e := .ret) E0Ok Z1 [] (mR false [4,1,16]) [] (q (sB Yw<|sN)) (by kernel_rfl) (by intro h;cases h)
   | false =>
    have YN:=odf Yw
    have YD:(-9223372036854775808:Int)≤(Y3 + 1):=by clear q;exact (by omega)
    have YG:(Y3 + 1)≤(9223372036854775807:Int):=by clear q;exact (by omega)
    have e:ZC Y1 Yh (k + 1) Ya Y3=(ZC Y1 Yh k (Zw (Y1.getD Y3.toNat default) Ya) (Y3 + 1)):=by simp only [ZC,Ye,Yw,cond_true,cond_false]
    rw [e]
    exact Xo E0Ok Z1 [] (mR false [0,2,3,1,15]) [] (ih (Zw (Y1.getD Y3.toNat default) Ya) (Y3 + 1) (show 0≤(Y3 + 1) from (by omega)) (by omega)) (q (sB Yw<|sI (Y3 + 1) YD YG<|sN)) (by kernel_rfl)
  | false =>
   have Yt:=odf Ye
   have e:ZC Y1 Yh (k + 1) Ya Y3=(.inr Ya):=by simp only [ZC,Ye,cond_false]
   rw [e]
   exact outR (e:=(.exit 0)) E0Ok Z1 [] (mR false [1,1,19]) [] (p (sB Ye<|sN)) (by kernel_rfl) (by intro h;cases h)
def Z1K (Y1:(List (List Int))) (Yh:Int):(Unit) ⊕ (Int):=(ZC Y1 Yh (((Y1.length:Int) - 0).toNat + 1) Yh 0)
def Z1j (Y1:(List (List Int))) (Yh:Int):Int:=(match (Z1K Y1 Yh) with
  | .inl r1=>(-1)
  | .inr r1=>r1)
theorem Z6h (Y1:(List (List Int))) (Yh:Int) (hp0:Y1.length≤1073741824) (hp1:∀ t∈Y1,t.length≤1073741824)  : Fn prog 25 [.sl (Y1.map (cL (cI .i64))), .i .i64 Yh] (.i .i64 (Z1j Y1 Yh)) []:=by
 cases h0:(Z1K Y1 Yh) with
 | inl r1 =>
  refine fnS E0Ok Z1 (c:=X0 f25) [] (.i .i64 (-1)) [] func25 (sL (mR false [0,2,3,1,15]) 0 (X4 (Z28 Y1 Yh) (x:=(Z1K Y1 Yh)) (Z49 Y1 Yh hp0 hp1 (((Y1.length:Int) - 0).toNat + 1) Yh 0 (show 0≤0 from (by omega)) (Nat.lt_succ_self _)) h0)<|sK [] sN) rfl (by kernel_rfl) (by kernel_rfl) rfl ?_ ?_
  · simp only [Z1j,h0]
  · rfl
 | inr r1 =>
  refine fnS E0Ok Z1 (c:=X0 f25) [] (.i .i64 r1) [] func25 (sL (mR false [0,2,3,1,15]) 0 (X4 (Z28 Y1 Yh) (x:=(Z1K Y1 Yh)) (Z49 Y1 Yh hp0 hp1 (((Y1.length:Int) - 0).toNat + 1) Yh 0 (show 0≤0 from (by omega)) (Nat.lt_succ_self _)) h0)<|sK [] sN) rfl (by kernel_rfl) (by kernel_rfl) rfl ?_ ?_
  · simp only [Z1j,h0]
  · rfl
theorem Z7R (a:List (List Int)) (c:Int):Z1j a c=match hdL (fun x c => !(decide (Zw x c < 0))) Zw a c with
    | some c'=>c'
    | none => -1:=by
  unfold Z1j Z1K
  rw [X3e (p:=fun x c => !(decide (Zw x c < 0))) (q:=Zw) (a:=a) (x:=()) (lo:=ZC a c) (fun k c i=>by
    rw [ZC]
    cases decide (i < (a.length:Int))<;>cases decide (Zw (a.getD i.toNat default) c < 0)<;>rfl) _ _ _ (Int.le_refl 0) (Nat.lt_succ_self _)]
  simp only [Int.toNat_zero,List.drop_zero]
  cases hdL (fun x c => !(decide (Zw x c < 0))) Zw a c<;>rfl
def Z22 (Y1:Gm) (Yh:Int):Int:=(cond (decide ((ZR Y1.Pq Yh) < 0))
  (-1)
  (cond (decide ((Z1j Y1.Tr (ZR Y1.Pq Yh)) < 0))
    (-1)
    (Z1j Y1.Tr (ZR Y1.Pq Yh))))
theorem Z5b (Y1:Gm) (Yh:Int) (hp0:Y1.Pq.length≤1073741824) (hp1:Y1.Tr.length≤1073741824) (hp2:∀ t∈Y1.Tr,t.length≤1073741824)  : Fn prog 18 [.agg [.sl (Y1.Pq.map Gv.c), .sl (Y1.Tr.map (cL (cI .i64)))], .i .i64 Yh] (.i .i64 (Z22 Y1 Yh)) []:=by
 have p {a C} (s:Scr a C):=sF (Z6g Y1.Pq Yh hp0)<|s
 cases h0:(decide ((ZR Y1.Pq Yh) < 0)) with
 | true =>
  have gh0:=odt h0
  refine fnS E0Ok Z1 (c:=X0 f18) [] (.i .i64 (-1)) [] func18 (p (sB h0<|sK [] sN)) rfl (by kernel_rfl) (by kernel_rfl) rfl ?_ ?_
  · simp only [Z22,h0,cond_true]
  · rfl
 | false =>
  have gh0:=odf h0
  have q {a C} (s:Scr a C):=p (sB h0<|sF (Z6h Y1.Tr (ZR Y1.Pq Yh) hp1 hp2)<|s)
  clear p
  cases h1:(decide ((Z1j Y1.Tr (ZR Y1.Pq Yh)) < 0)) with
  | true =>
   have gh1:=odt h1
   refine fnS E0Ok Z1 (c:=X0 f18) [] (.i .i64 (-1)) [] func18 (q (sB h1<|sK [] sN)) rfl (by kernel_rfl) (by kernel_rfl) rfl ?_ ?_
   · simp only [Z22,h0,h1,cond_true,cond_false]
   · rfl
  | false =>
   have gh1:=odf h1
   refine fnS E0Ok Z1 (c:=X0 f18) [] (.i .i64 (Z1j Y1.Tr (ZR Y1.Pq Yh))) [] func18 (q (sB h1<|sK [] sN)) rfl (by kernel_rfl) (by kernel_rfl) rfl ?_ ?_
   · simp only [Z22,h0,h1,cond_false]
   · rfl
def Z1A (Yf:Gm) (Y6:Nat):Int:=(Z22 (⟨(Z5 ((Z3 Yf Y6).1) 1).2.1,(Z5 ((Z3 Yf Y6).1) 1).2.2⟩:Gm) 1)
def ZG (Yf:Gm) (Y6:Nat):Bool:=(cond (decide ((Z14 Yf 1048576) < 0))
  true
  (cond (Z1I ((Z3 Yf Y6).1) ((Z8 Yf Y6).1))
    (cond ((Z3 Yf Y6).2 == (Z8 Yf Y6).2)
      (cond (Z1I Yf Yf)
        (cond (decide ((Z5 Yf 1).1 < 0))
          false
          (cond (decide ((Z1A Yf Y6) < 0))
            false
            (cond ((Z1A Yf Y6) != (Z5 ((Z3 Yf Y6).1) 1).1)
              false
              true)))
        false)
      false)
    false))
set_option maxHeartbeats 1000000 in
theorem Z53 (Yf:Gm) (Y6:Nat) (hp0:Yf.Pq.length≤9223372036854775807) (hp1:Yf.Tr.length≤9223372036854775807) (hp2:∀ t∈Yf.Tr,t.length≤9223372036854775807)  : Fn prog 4 [.agg [.sl (Yf.Pq.map Gv.c), .sl (Yf.Tr.map (cL (cI .i64)))], .f .f32 Y6] (.b (ZG Yf Y6)) []:=by
 have z0:=(Z5m Yf 1048576 (by omega) (by omega) (by assumption) (by omega) (by omega))
 have p {a C} (s:Scr a C):=sF (Z7v Yf 1048576 hp0 hp1 hp2)<|s
 cases h0:(decide ((Z14 Yf 1048576) < 0)) with
 | true =>
  have gh0:=odt h0
  refine fnS E0Ok Z1 (c:=X0 f4) [] (.b true) [] func4 (p (sB h0<|sK [] sN)) rfl (by kernel_rfl) (by kernel_rfl) rfl ?_ ?_
  · simp only [ZG,h0,cond_true]
  · rfl
 | false =>
  have gh0:=odf h0
  have y0:Yf.Pq.length≤1073741824:=by clear p;exact (by omega)
  have y1:Yf.Tr.length≤1073741824:=by clear p;exact (by omega)
  have y2:∀ t∈Yf.Tr,t.length≤1073741824:=by clear p;exact (by intro t ht;(have q:=z0.2.2.2.2 t ht;omega))
  have l1:=(Z5Y Yf Y6)
  have l2:=(Z5Z Yf Y6)
  have l3:=(Z4r Yf Y6)
  have l4:=(Z4s Yf Y6)
  have y3:((Z3 Yf Y6).1).Pq.length≤1073741824:=by clear p;exact (by omega)
  have y4:((Z3 Yf Y6).1).Tr.length≤1073741824:=by clear p;exact (by omega)
  have y5:∀ t∈((Z3 Yf Y6).1).Tr,t.length≤1073741824:=by clear p;exact (by (intro t ht;(have q:=z0.2.2.2.2 t (Z33 Yf Y6 t ht);omega)))
  have y6:((Z8 Yf Y6).1).Pq.length≤1073741824:=by clear p;exact (by omega)
  have y7:((Z8 Yf Y6).1).Tr.length≤1073741824:=by clear p;exact (by omega)
  have y8:∀ t∈((Z8 Yf Y6).1).Tr,t.length≤1073741824:=by clear p;exact (by (intro t ht;(have q:=z0.2.2.2.2 t (Z60 Yf Y6 t ht);omega)))
  have q {a C} (s:Scr a C):=p (sB h0<|sF (Z3T Yf y0 y1 y2)<|sF (Fn.castA (args':=[.agg [.sl (Yf.Pq.map Gv.c), .sl ((Yf.Tr.map fun l=>l.map (cI .i64)).map fun l => [.sl l])], .f .f32 Y6]) (Z6o Yf Y6 y0 y1 y2) (by simp [cL,Function.comp_def];done))<|sF (Z3T Yf y0 y1 y2)<|sF (Fn.castA (args':=[.agg [.sl (Yf.Pq.map Gv.c), .sl ((Yf.Tr.map fun l=>l.map (cI .i64)).map fun l => [.sl l])], .f .f32 Y6]) (Z4L Yf Y6 y0 y1 y2) (by simp [cL,Function.comp_def];done))<|sF (Fn.castA (args':=[.agg [.sl (((Z3 Yf Y6).1.Pq).map Gv.c), .sl ((((Z3 Yf Y6).1.Tr).map fun l=>l.map (cI .i64)).map fun l => [.sl l])], .agg [.sl (((Z8 Yf Y6).1.Pq).map Gv.c), .sl ((((Z8 Yf Y6).1.Tr).map fun l=>l.map (cI .i64)).map fun l => [.sl l])]]) (Z3V ((Z3 Yf Y6).1) ((Z8 Yf Y6).1) y3 y4 y5 y6 y7 y8) (by simp [cL,Function.comp_def];done))<|s)
  clear p
  cases h1:(Z1I ((Z3 Yf Y6).1) ((Z8 Yf Y6).1)) with
  | true =>
   have p {a C} (s:Scr a C):=q (sB' h1<|sB' h1<|sB' h1<|sB' h1<|s)
   clear q
   cases h2:((Z3 Yf Y6).2 == (Z8 Yf Y6).2) with
   | true =>
    have gh2:=eq_of_beq h2
    have q {a C} (s:Scr a C):=p (sB' h2<|sK [3,3]<|sF (Z3T Yf y0 y1 y2)<|sF (Fn.castA (args':=[.agg [.sl (Yf.Pq.map Gv.c), .sl ((Yf.Tr.map fun l=>l.map (cI .i64)).map fun l => [.sl l])], .agg [.sl (Yf.Pq.map Gv.c), .sl ((Yf.Tr.map fun l=>l.map (cI .i64)).map fun l => [.sl l])]]) (Z3V Yf Yf y0 y1 y2 y0 y1 y2) (by simp [cL,Function.comp_def];done))<|s)
    clear p
    cases h3:(Z1I Yf Yf) with
    | true =>
     have p {a C} (s:Scr a C):=q (sB' h3<|sS (Xc.frame (Z3R Yf 1 y0 y1 y2) [6,7] (R:=[.box 31 [.sl (Yf.Pq.map Gv.c), .sl (Yf.Tr.map (cL (cI .i64)))], .vec 62 3 (Yf.Pq.map Gv.c) false, .nest 79 (Yf.Tr.map fun l=>l.map (cI .i64)) false, .vec 62 3 (((Z8 Yf Y6).1.Pq).map Gv.c) false, .nest 79 (((Z8 Yf Y6).1.Tr).map fun l=>l.map (cI .i64)) false, .box 35 [.own 3, .own 4], .vec 62 3 (Yf.Pq.map Gv.c) false, .nest 79 (Yf.Tr.map fun l=>l.map (cI .i64)) false, .box 35 [.own 6, .own 7], .vec 62 3 (((Z3 Yf Y6).1.Pq).map Gv.c) false, .nest 79 (((Z3 Yf Y6).1.Tr).map fun l=>l.map (cI .i64)) false, .box 35 [.own 9, .own 10], .vec 62 3 (Yf.Pq.map Gv.c) false, .nest 79 (Yf.Tr.map fun l=>l.map (cI .i64)) false]) (args':=[.agg [.own 6, .own 7], .i .i64 1]) rfl rfl rfl rfl rfl rfl)<|s)
     clear q
     cases h4:(decide ((Z5 Yf 1).1 < 0)) with
     | true =>
      have gh4:=odt h4
      refine fnS E0Ok Z1 (c:=X0 f4) [] (.b false) [] func4 (p (sB h4<|sB h4<|sB h4<|sB h4<|sB h4<|sB (show true=true from rfl)<|sB (show true=true from rfl)<|sB (show true=true from rfl)<|sB (show true=true from rfl)<|sB (show true=true from rfl)<|sK [] sN)) rfl (by kernel_rfl) (by kernel_rfl) rfl ?_ ?_
      · simp only [ZG,h0,h1,h2,h3,h4,cond_true,cond_false]
      · rfl
     | false =>
      have gh4:=odf h4
      have y9:(⟨(Z5 ((Z3 Yf Y6).1) 1).2.1,(Z5 ((Z3 Yf Y6).1) 1).2.2⟩:Gm).Pq.length≤1073741824:=by clear p;exact (by simp_all<;>omega)
      have y10:(⟨(Z5 ((Z3 Yf Y6).1) 1).2.1,(Z5 ((Z3 Yf Y6).1) 1).2.2⟩:Gm).Tr.length≤1073741824:=by clear p;exact (by simp_all<;>omega)
      have y11:∀ t∈(⟨(Z5 ((Z3 Yf Y6).1) 1).2.1,(Z5 ((Z3 Yf Y6).1) 1).2.2⟩:Gm).Tr,t.length≤1073741824:=by clear p;exact (by exact Z6V _ _ _ (by assumption))
      have q {a C} (s:Scr a C):=p (sB h4<|sB h4<|sB h4<|sF (Fn.castA (args':=[.agg [.sl (((Z3 Yf Y6).1.Pq).map Gv.c), .sl ((((Z3 Yf Y6).1.Tr).map fun l=>l.map (cI .i64)).map fun l => [.sl l])], .agg [.sl (((Z8 Yf Y6).1.Pq).map Gv.c), .sl ((((Z8 Yf Y6).1.Tr).map fun l=>l.map (cI .i64)).map fun l => [.sl l])]]) (Z3V ((Z3 Yf Y6).1) ((Z8 Yf Y6).1) y3 y4 y5 y6 y7 y8) (by simp [cL,Function.comp_def];done))<|sB h4<|sB h4<|sB' h1<|sB' h1<|sB' h1<|sB' h1<|sB' h2<|sS (Xc.frame (Z3R ((Z3 Yf Y6).1) 1 y3 y4 y5) [9,10] (R:=[.box 31 [.sl (Yf.Pq.map Gv.c), .sl (Yf.Tr.map (cL (cI .i64)))], .vec 62 3 (Yf.Pq.map Gv.c) false, .nest 79 (Yf.Tr.map fun l=>l.map (cI .i64)) false, .vec 62 3 (((Z8 Yf Y6).1.Pq).map Gv.c) false, .nest 79 (((Z8 Yf Y6).1.Tr).map fun l=>l.map (cI .i64)) false, .box 35 [.own 3, .own 4], .vec 62 3 (((Z5 Yf 1).2.1).map Gv.c) false, .nest 79 (((Z5 Yf 1).2.2).map fun l=>l.map (cI .i64)) false, .box 35 [.own 6, .own 7], .vec 62 3 (((Z3 Yf Y6).1.Pq).map Gv.c) false, .nest 79 (((Z3 Yf Y6).1.Tr).map fun l=>l.map (cI .i64)) false, .box 35 [.own 9, .own 10], .vec 62 3 (Yf.Pq.map Gv.c) false, .nest 79 (Yf.Tr.map fun l=>l.map (cI .i64)) false]) (args':=[.agg [.own 9, .own 10], .i .i64 1]) rfl rfl rfl rfl rfl rfl)<|sF (Fn.castA (args':=[.agg [.sl (((Z5 ((Z3 Yf Y6).1) 1).2.1).map Gv.c), .sl ((((Z5 ((Z3 Yf Y6).1) 1).2.2).map fun l=>l.map (cI .i64)).map fun l => [.sl l])], .i .i64 1]) (Z5b (⟨(Z5 ((Z3 Yf Y6).1) 1).2.1,(Z5 ((Z3 Yf Y6).1) 1).2.2⟩:Gm) 1 y9 y10 y11) (by simp [cL,Function.comp_def];done))<|s)
      clear p
      cases h5:(decide ((Z1A Yf Y6) < 0)) with
      | true =>
       have gh5:=odt h5
       refine fnS E0Ok Z1 (c:=X0 f4) [] (.b false) [] func4 (q (sB h5<|sK [] sN)) rfl (by kernel_rfl) (by kernel_rfl) rfl ?_ ?_
       · simp only [ZG,h0,h1,h2,h3,h4,h5,cond_true,cond_false]
       · rfl
      | false =>
       have gh5:=odf h5
       have p {a C} (s:Scr a C):=q (sB h5<|s)
       clear q
       cases h6:((Z1A Yf Y6) != (Z5 ((Z3 Yf Y6).1) 1).1) with
       | true =>
        have gh6:=bne_iff_ne.1 h6
        refine fnS E0Ok Z1 (c:=X0 f4) [] (.b false) [] func4 (p (sB h6<|sK [] sN)) rfl (by kernel_rfl) (by kernel_rfl) rfl ?_ ?_
        · simp only [ZG,h0,h1,h2,h3,h4,h5,h6,cond_true,cond_false]
        · rfl
       | false =>
        have gh6:=bne_eq_false_iff_eq.1 h6
        refine fnS E0Ok Z1 (c:=X0 f4) [] (.b true) [] func4 (p (sB h6<|sF (Z3T Yf y0 y1 y2)<|sF (Fn.castA (args':=[.agg [.sl (Yf.Pq.map Gv.c), .sl ((Yf.Tr.map fun l=>l.map (cI .i64)).map fun l => [.sl l])], .f .f32 Y6]) (Z4L Yf Y6 y0 y1 y2) (by simp [cL,Function.comp_def];done))<|sF (Fn.castA (args':=[.agg [.sl (((Z3 Yf Y6).1.Pq).map Gv.c), .sl ((((Z3 Yf Y6).1.Tr).map fun l=>l.map (cI .i64)).map fun l => [.sl l])], .agg [.sl (((Z8 Yf Y6).1.Pq).map Gv.c), .sl ((((Z8 Yf Y6).1.Tr).map fun l=>l.map (cI .i64)).map fun l => [.sl l])]]) (Z3V ((Z3 Yf Y6).1) ((Z8 Yf Y6).1) y3 y4 y5 y6 y7 y8) (by simp [cL,Function.comp_def];done))<|sB' h1<|sB' h1<|sB' h1<|sB' h1<|sB' h2<|sF (Fn.castA (args':=[.agg [.sl (((Z5 ((Z3 Yf Y6).1) 1).2.1).map Gv.c), .sl ((((Z5 ((Z3 Yf Y6).1) 1).2.2).map fun l=>l.map (cI .i64)).map fun l => [.sl l])], .i .i64 1]) (Z5b (⟨(Z5 ((Z3 Yf Y6).1) 1).2.1,(Z5 ((Z3 Yf Y6).1) 1).2.2⟩:Gm) 1 y9 y10 y11) (by simp [cL,Function.comp_def];done))<|sB h5<|sB h6<|sK [] sN)) rfl (by kernel_rfl) (by kernel_rfl) rfl ?_ ?_
        · simp only [ZG,h0,h1,h2,h3,h4,h5,h6,cond_true,cond_false]
        · rfl
    | false =>
     refine fnS E0Ok Z1 (c:=X0 f4) [] (.b false) [] func4 (q (sB' h3<|sK [] sN)) rfl (by kernel_rfl) (by kernel_rfl) rfl ?_ ?_
     · simp only [ZG,h0,h1,h2,h3,cond_true,cond_false]
     · rfl
   | false =>
    have gh2:=ne_of_beq_false h2
    refine fnS E0Ok Z1 (c:=X0 f4) [] (.b false) [] func4 (p (sB' h2<|sK [] sN)) rfl (by kernel_rfl) (by kernel_rfl) rfl ?_ ?_
    · simp only [ZG,h0,h1,h2,cond_true,cond_false]
    · rfl
  | false =>
   refine fnS E0Ok Z1 (c:=X0 f4) [] (.b false) [] func4 (q (sB' h1<|sB' h1<|sB' h1<|sB' h1<|sB (show true=true from rfl)<|sK [] sN)) rfl (by kernel_rfl) (by kernel_rfl) rfl ?_ ?_
   · simp only [ZG,h0,h1,cond_false]
   · rfl
theorem Z7e (a:List Gv) (c:Int):ZR (Ze a c).2 c=(Ze a c).1:=by
  rw [Z7X,Z59,X4m (fun x c=>by simp [Z4F,Z2U,X44]) (fun x c=>rfl)]
theorem Z7t (a:List Int) (c:Int):Zw (Z9 a c).2 c=(Z9 a c).1:=by
  rw [Z89,Z5t,X4m (fun x c=>by simp [Z52,Z3h,X44]) (fun x c=>rfl)]
theorem Z6W (a:List (List Int)) (c:Int) (g0:a.length≤1073741824) (g1:∀ t∈a,t.length≤1073741824) (h0:0≤c) (h1:c≤3458764513820540928):Z1j (Zq a c).2 c=(Zq a c).1:=by
  rw [Z7R,Z51,X4E (W:=1073741824) (M:=4611686018427387904) a c (fun x hx c k0 k1=>by
    have q:=Z50 x c (g1 x hx) k0 (by omega)
    have q2:=Z7t x c
    refine ⟨?_,q2,q.1,q.2⟩
    rw [q2]
    simp;omega) h0 (by omega)]
theorem Z6X (a:Gm) (c:Int) (g0:a.Pq.length≤1073741824) (g1:a.Tr.length≤1073741824) (g2:∀ t∈a.Tr,t.length≤1073741824) (h0:0≤c) (h1:c≤1152921504606846976):Z22 ⟨(Z5 a c).2.1,(Z5 a c).2.2⟩ c=(Z5 a c).1:=by
  have p0:=Z4M a.Pq c g0 (by omega) (by omega)
  have q0:=Z7e a.Pq c
  have p1:=Z4D a.Tr ((Ze a.Pq c).1) g1 g2 (by omega) (by omega)
  have q1:=Z6W a.Tr ((Ze a.Pq c).1) g1 g2 (by omega) (by omega)
  unfold Z22
  simp only [Z5,true_and] at *
  simp only [q0,q1]
  repeat (rw [decide_eq_false (by omega),cond_false])
  try rfl
theorem Z4G (a:Gm) (v:Nat) (h0_0:a.Pq.length≤9223372036854775807) (h0_1:a.Tr.length≤9223372036854775807) (h0_2:∀ t∈a.Tr,t.length≤9223372036854775807):ZG a v=true:=by
  unfold ZG
  have z0:=Z5m a 1048576 h0_0 h0_1 h0_2 (by omega) (by omega)
  cases hc0:decide (Z14 a 1048576 < 0) with
  | true=>rfl
  | false =>
    simp only [decide_eq_false_iff_not] at hc0
    have hm0:=Z4E a 1 (by omega) (by omega) (fun t ht=>by have q:=z0.2.2.2.2 t ht;omega) (by omega) (by omega)
    have l0:=Z4r a v
    have l1:=Z4s a v
    have v0:=Z4E (Z3 a v).1 1 (by omega) (by omega) (fun t ht=>by have q:=z0.2.2.2.2 t (Z33 a v t ht);omega) (by omega) (by omega)
    have w0:=Z6X (Z3 a v).1 1 (by omega) (by omega) (fun t ht=>by have q:=z0.2.2.2.2 t (Z33 a v t ht);omega) (by omega) (by omega)
    simp only [Z1A,Z7F] at *
    simp only [Z7W,Z7u,w0,beq_self_eq_true,Bool.not_true,cond_true,cond_false,bne_self_eq_false]
    rw [decide_eq_false (by omega)]
    rw [decide_eq_false (by omega)]
    rfl
end Go.Ab
