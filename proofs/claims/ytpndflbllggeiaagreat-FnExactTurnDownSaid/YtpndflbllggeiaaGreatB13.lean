/- The functions of this seat as plain Lean, and that the program's are these. Printed by a program of the prover's own. -/
import Derived.Test.YtpndflbllggeiaaGreatB12
set_option linter.unusedVariables false
set_option linter.unusedSimpArgs false
set_option maxRecDepth 100000
namespace Go.Ab
open Go.RowKit Go.Proofs.Tryz
def Z2Q (Yg:(List Gs)) (YA:Int):Int × (List Gs):=(ZV Yg YA (((Yg.length:Int) - 0).toNat + 1) YA 0 Yg)
@[simp] theorem Zfy (Yg:(List Gs)) (YA:Int):(Z2Q Yg YA).2.length=(Yg:(List Gs)).length:=Zbh Yg YA (((Yg.length:Int) - 0).toNat + 1) YA 0 Yg (by exact Nat.lt_succ_self _)
def ZI (Yg:(List Gs)) (YA:Int):Int × (List Gs):=((Z2Q Yg YA).1,(Z2Q Yg YA).2)
@[simp] theorem ZgT (Yg:(List Gs)) (YA:Int):(ZI Yg YA).2.length=Yg.length:=by
  first | (simp [ZI];done)
theorem ZcR (Yg:(List Gs)) (YA:Int) (hp0:Yg.length≤1073741824)  : X4 prog 62 [.vec 133 4 (Yg.map Gs.c) false] [.own 0, .i .i64 YA] (.i .i64 ((ZI Yg YA).1)) [.vec 133 4 (((ZI Yg YA).2).map Gs.c) false]:=by
 refine X23 (EpOk 1) Z7 (c:=X0 f62) [.vec 133 4 (Yg.map Gs.c) false] [] (.i .i64 ((Z2Q Yg YA).1)) [.vec 133 4 (((Z2Q Yg YA).2).map Gs.c) false] func62 (sL (mR false [0,2,2,2,37]) 1 (X1 (Z5z Yg YA) (x:=(Z2Q Yg YA)) (ZbZ Yg YA hp0 (((Yg.length:Int) - 0).toNat + 1) YA 0 Yg (show 0≤0 from (by omega)) (show Yg.length=Yg.length from (by simp)) (Nat.lt_succ_self _)) rfl)<|sK [] sN) rfl (by kernel_rfl) (by kernel_rfl) ?_ ?_
 · rfl
 · simp [ZI]
def Z6R (_:Gs) (c:Int):Int × Gs:=((IntKind.wrap .i64 ((IntKind.wrap .i64 ((IntKind.wrap .i64 ((IntKind.wrap .i64 (c + 1)) + 1)) + 1)) + 1)),⟨c,(IntKind.wrap .i64 (c + 1)),X2 .f32 (IntKind.wrap .i64 ((IntKind.wrap .i64 (c + 1)) + 1)),X2 .f32 (IntKind.wrap .i64 ((IntKind.wrap .i64 ((IntKind.wrap .i64 (c + 1)) + 1)) + 1))⟩)
theorem ZcH (a:List Gs) (c:Int):ZI a c=mkL Z6R a c:=by
  unfold ZI Z2Q
  rw [X1r (f:=Z6R) (lo:=ZV a c) (fun k c i r=>rfl) _ _ _ _ (Int.le_refl 0) (Nat.lt_succ_self _)]
  simp
theorem ZbP (a:List Gs) (c:Int) (g0:a.length≤1073741824) (h0:0≤c) (h1:c≤4611686018427387904):c≤(ZI a c).1∧(ZI a c).1≤c + 4294967296:=by
  rw [ZcH]
  have q:=X3f (f:=Z6R) (W:=4) a c (fun x _ c k0 k1=>by simp only [Z6R];rw [Xb (n:=c + 1) (by omega) (by omega),show c + 1 + 1=c + 2 from by omega,Xb (n:=c + 2) (by omega) (by omega),show c + 2 + 1=c + 3 from by omega,Xb (n:=c + 3) (by omega) (by omega),show c + 3 + 1=c + 4 from by omega,Xb (n:=c + 4) (by omega) (by omega)];omega) h0 (by omega)
  omega
def ZQ (Yg:(List Nat)) (YA:Int):Nat→Int→Int→(List Nat)→Int × (List Nat)
  | 0,_,_,_=>default
  | k + 1,Yo,Ym,Yp=>(cond (decide (Ym < (Yp.length:Int)))
    (ZQ Yg YA k (IntKind.wrap .i64 (Yo + 1)) (Ym + 1) (Yp.set Ym.toNat (X2 .f32 Yo)))
    (Yo,Yp))
def Z5h (Yg:(List Nat)) (YA:Int) (r:Int × (List Nat)):Ex × St:=((.exit 0),⟨.any :: .i .i64 r.1 :: .any :: .any :: .i .i64 0 :: an 15 [],[.vec 27 1 (r.2.map (cF .f32)) false]⟩)
def Z6S (Yg:(List Nat)) (YA:Int) (Yo:Int) (Ym:Int) (Yp:(List Nat)):St:=⟨.own 0 :: .i .i64 Yo :: .any :: .any :: .i .i64 0 :: .i .i64 Ym :: an 14 [],[.vec 27 1 (Yp.map (cF .f32)) false]⟩
theorem Zbv (Yg:(List Nat)) (YA:Int) (hp0:Yg.length≤1073741824):∀ (k:Nat) (Yo:Int) (Ym:Int) (Yp:(List Nat)) (Z6e:0≤Ym) (Z6f:Yp.length=Yg.length) (hk:((Yg.length:Int) - Ym).toNat < k),Lp prog 1 (sub (X0 f41) [1,0,1,0,0]) (Z6S Yg YA Yo Ym Yp) (Z5h Yg YA (ZQ Yg YA k Yo Ym Yp)).1 (Z5h Yg YA (ZQ Yg YA k Yo Ym Yp)).2:=by
 intro k
 induction k with
 | zero=>intro Yo Ym Yp Z6e Z6f hk;exact absurd hk (Nat.not_lt_zero _)
 | succ k ih =>
  intro Yo Ym Yp Z6e Z6f hk
  have p {a C} (s:Scr a C):=sZ (cF .f32) Yp<|s
  cases Yv:(decide (Ym < (Yp.length:Int))) with
  | true =>
   have YI:=odt Yv
   have YT:(0:Int)≤Ym:=by clear p;exact (by assumption)
   have YV:Ym < (Yp.length:Int):=by clear p;exact (by assumption)
   have YX:Ym.toNat < Yp.length:=by clear p;exact (by omega)
   have YZ:(-9223372036854775808:Int)≤(Ym + 1):=by clear p;exact (by omega)
   have y_4:(Ym + 1)≤(9223372036854775807:Int):=by clear p;exact (by omega)
   have e:ZQ Yg YA (k + 1) Yo Ym Yp=(ZQ Yg YA k (IntKind.wrap .i64 (Yo + 1)) (Ym + 1) (Yp.set Ym.toNat (X2 .f32 Yo))):=by simp only [ZQ,Yv,cond_true]
   rw [e]
   exact X9 (EpOk 1) Z7 [] (mR false [0,2,2,2,14]) [] (⟨.own 0 :: .i .i64 (IntKind.wrap .i64 (Yo + 1)) :: .any :: .any :: .i .i64 0 :: .i .i64 (Ym + 1) :: an 14 [],[.vec 27 1 ((Yp.map (cF .f32)).set Ym.toNat [.f .f32 (X2 .f32 Yo)]) false]⟩) (p (sB Yv<|sX (cF .f32) Yp Ym YT YV<|sC (Xl (c:=(cF .f32)) (l:=Yp) YX)<|sW .i64 (Yo + 1)<|sI (Ym + 1) YZ y_4<|sN)) (by kernel_rfl) (by simp [Z6S,List.map_set,cF]) (ih (IntKind.wrap .i64 (Yo + 1)) (Ym + 1) (Yp.set Ym.toNat (X2 .f32 Yo)) (show 0≤(Ym + 1) from (by omega)) (show (Yp.set Ym.toNat (X2 .f32 Yo)).length=Yg.length from (by simp_all<;>omega)) (by omega))
  | false =>
   have YI:=odf Yv
   have e:ZQ Yg YA (k + 1) Yo Ym Yp=(Yo,Yp):=by simp only [ZQ,Yv,cond_false]
   rw [e]
   exact outR (e:=(.exit 0)) (EpOk 1) Z7 [] (mR false [1,1,2,1,15]) [] (p (sB Yv<|sN)) (by kernel_rfl) (by intro h;cases h)
theorem ZaK (Yg:(List Nat)) (YA:Int):∀ (k:Nat) (Yo:Int) (Ym:Int) (Yp:(List Nat)) (hk:((Yp.length:Int) - Ym).toNat < k),(ZQ Yg YA k Yo Ym Yp).2.length=Yp.length:=by
  intro k
  induction k with
  | zero=>intro Yo Ym Yp hk;exact absurd hk (Nat.not_lt_zero _)
  | succ k ih =>
    intro Yo Ym Yp hk
    cases Yv:(decide (Ym < (Yp.length:Int))) with
    | true =>
      have e:ZQ Yg YA (k + 1) Yo Ym Yp=(ZQ Yg YA k (IntKind.wrap .i64 (Yo + 1)) (Ym + 1) (Yp.set Ym.toNat (X2 .f32 Yo))):=by simp only [ZQ,Yv,cond_true]
      rw [e,ih (IntKind.wrap .i64 (Yo + 1)) (Ym + 1) (Yp.set Ym.toNat (X2 .f32 Yo)) (by simp_all<;>omega)];simp
    | false =>
      have e:ZQ Yg YA (k + 1) Yo Ym Yp=(Yo,Yp):=by simp only [ZQ,Yv,cond_false]
      first | (rw [e];done) | (rw [e];rfl)
def Z2H (Yg:(List Nat)) (YA:Int):Int × (List Nat):=(ZQ Yg YA (((Yg.length:Int) - 0).toNat + 1) YA 0 Yg)
@[simp] theorem Zfs (Yg:(List Nat)) (YA:Int):(Z2H Yg YA).2.length=(Yg:(List Nat)).length:=ZaK Yg YA (((Yg.length:Int) - 0).toNat + 1) YA 0 Yg (by exact Nat.lt_succ_self _)
def Z1d (Yg:(List Nat)) (YA:Int):Int × (List Nat):=((Z2H Yg YA).1,(Z2H Yg YA).2)
@[simp] theorem Zgz (Yg:(List Nat)) (YA:Int):(Z1d Yg YA).2.length=Yg.length:=by
  first | (simp [Z1d];done)
theorem Zcm (Yg:(List Nat)) (YA:Int) (hp0:Yg.length≤1073741824)  : X4 prog 41 [.vec 27 1 (Yg.map (cF .f32)) false] [.own 0, .i .i64 YA] (.i .i64 ((Z1d Yg YA).1)) [.vec 27 1 (((Z1d Yg YA).2).map (cF .f32)) false]:=by
 refine X23 (EpOk 1) Z7 (c:=X0 f41) [.vec 27 1 (Yg.map (cF .f32)) false] [] (.i .i64 ((Z2H Yg YA).1)) [.vec 27 1 (((Z2H Yg YA).2).map (cF .f32)) false] func41 (sL (mR false [0,2,2,2,14]) 1 (X1 (Z5h Yg YA) (x:=(Z2H Yg YA)) (Zbv Yg YA hp0 (((Yg.length:Int) - 0).toNat + 1) YA 0 Yg (show 0≤0 from (by omega)) (show Yg.length=Yg.length from (by simp)) (Nat.lt_succ_self _)) rfl)<|sK [] sN) rfl (by kernel_rfl) (by kernel_rfl) ?_ ?_
 · rfl
 · simp [Z1d]
def Z6g (_:Nat) (c:Int):Int × Nat:=((IntKind.wrap .i64 (c + 1)),X2 .f32 c)
theorem Zcj (a:List Nat) (c:Int):Z1d a c=mkL Z6g a c:=by
  unfold Z1d Z2H
  rw [X1r (f:=Z6g) (lo:=ZQ a c) (fun k c i r=>rfl) _ _ _ _ (Int.le_refl 0) (Nat.lt_succ_self _)]
  simp
theorem Zbi (a:List Nat) (c:Int) (g0:a.length≤1073741824) (h0:0≤c) (h1:c≤4611686018427387904):c≤(Z1d a c).1∧(Z1d a c).1≤c + 1073741824:=by
  rw [Zcj]
  have q:=X3f (f:=Z6g) (W:=1) a c (fun x _ c k0 k1=>by simp only [Z6g];rw [Xb (n:=c + 1) (by omega) (by omega)];omega) h0 (by omega)
  omega
def Z6 (Yg:Gb) (YA:Int):Int × (List Gv) × (List (List Int)) × (List Gs) × (List Nat):=((Z1d Yg.We ((ZI Yg.Sp ((Zk Yg.Me YA).1)).1)).1,(Zk Yg.Me YA).2.1,(Zk Yg.Me YA).2.2,(ZI Yg.Sp ((Zk Yg.Me YA).1)).2,(Z1d Yg.We ((ZI Yg.Sp ((Zk Yg.Me YA).1)).1)).2)
@[simp] theorem Zf5 (Yg:Gb) (YA:Int):(Z6 Yg YA).2.1.length=Yg.Me.Pq.length:=by
  first | (simp [Z6];done)
@[simp] theorem Zf6 (Yg:Gb) (YA:Int):(Z6 Yg YA).2.2.1.length=Yg.Me.Tr.length:=by
  first | (simp [Z6];done)
@[simp] theorem Zf7 (Yg:Gb) (YA:Int):(Z6 Yg YA).2.2.2.1.length=Yg.Sp.length:=by
  first | (simp [Z6];done)
@[simp] theorem Zf8 (Yg:Gb) (YA:Int):(Z6 Yg YA).2.2.2.2.length=Yg.We.length:=by
  first | (simp [Z6];done)
theorem Z65 (Yg:Gb) (YA:Int) (hp0:Yg.Me.Pq.length≤1073741824) (hp1:Yg.Me.Tr.length≤1073741824) (hp2:∀ t∈Yg.Me.Tr,t.length≤1073741824) (hp3:Yg.Sp.length≤1073741824) (hp4:Yg.We.length≤1073741824)  : X4 prog 17 [.vec 40 3 (Yg.Me.Pq.map Gv.c) false, .nest 49 (Yg.Me.Tr.map fun l=>l.map (cI .i64)) false, .vec 133 4 (Yg.Sp.map Gs.c) false, .vec 27 1 (Yg.We.map (cF .f32)) false] [.agg [.own 0, .own 1, .own 2, .f .f32 Yg.Film, .f .f32 Yg.Bend, .own 3, .f .f32 Yg.Fall.X, .f .f32 Yg.Fall.Y, .f .f32 Yg.Fall.Z], .i .i64 YA] (.i .i64 ((Z6 Yg YA).1)) [.vec 40 3 (((Z6 Yg YA).2.1).map Gv.c) false, .nest 49 (((Z6 Yg YA).2.2.1).map fun l=>l.map (cI .i64)) false, .vec 133 4 (((Z6 Yg YA).2.2.2.1).map Gs.c) false, .vec 27 1 (((Z6 Yg YA).2.2.2.2).map (cF .f32)) false]:=by
 refine X23 (EpOk 4) Z7 (c:=X0 f17) [.vec 40 3 (Yg.Me.Pq.map Gv.c) false, .nest 49 (Yg.Me.Tr.map fun l=>l.map (cI .i64)) false, .vec 133 4 (Yg.Sp.map Gs.c) false, .vec 27 1 (Yg.We.map (cF .f32)) false] [] (.i .i64 ((Z1d Yg.We ((ZI Yg.Sp ((Zk Yg.Me YA).1)).1)).1)) [.vec 40 3 (((Zk Yg.Me YA).2.1).map Gv.c) false, .nest 49 (((Zk Yg.Me YA).2.2).map fun l=>l.map (cI .i64)) false, .vec 133 4 (((ZI Yg.Sp ((Zk Yg.Me YA).1)).2).map Gs.c) false, .vec 27 1 (((Z1d Yg.We ((ZI Yg.Sp ((Zk Yg.Me YA).1)).1)).2).map (cF .f32)) false] func17 (sS (X4.frame (ZcQ Yg.Me YA hp0 hp1 hp2) [0,1] (R:=[.vec 40 3 (Yg.Me.Pq.map Gv.c) false, .nest 49 (Yg.Me.Tr.map fun l=>l.map (cI .i64)) false, .vec 133 4 (Yg.Sp.map Gs.c) false, .vec 27 1 (Yg.We.map (cF .f32)) false, .box 42 [.own 0, .own 1, .own 2, .f .f32 Yg.Film, .f .f32 Yg.Bend, .own 3, .f .f32 Yg.Fall.X, .f .f32 Yg.Fall.Y, .f .f32 Yg.Fall.Z]]) (args':=[.agg [.own 0, .own 1], .i .i64 YA]) rfl rfl rfl rfl rfl rfl)<|sS (X4.frame (ZcR Yg.Sp ((Zk Yg.Me YA).1) hp3) [2] (R:=[.vec 40 3 (((Zk Yg.Me YA).2.1).map Gv.c) false, .nest 49 (((Zk Yg.Me YA).2.2).map fun l=>l.map (cI .i64)) false, .vec 133 4 (Yg.Sp.map Gs.c) false, .vec 27 1 (Yg.We.map (cF .f32)) false, .box 42 [.own 0, .own 1, .own 2, .f .f32 Yg.Film, .f .f32 Yg.Bend, .own 3, .f .f32 Yg.Fall.X, .f .f32 Yg.Fall.Y, .f .f32 Yg.Fall.Z]]) (args':=[.own 2, .i .i64 ((Zk Yg.Me YA).1)]) rfl rfl rfl rfl rfl rfl)<|sS (X4.frame (Zcm Yg.We ((ZI Yg.Sp ((Zk Yg.Me YA).1)).1) hp4) [3] (R:=[.vec 40 3 (((Zk Yg.Me YA).2.1).map Gv.c) false, .nest 49 (((Zk Yg.Me YA).2.2).map fun l=>l.map (cI .i64)) false, .vec 133 4 (((ZI Yg.Sp ((Zk Yg.Me YA).1)).2).map Gs.c) false, .vec 27 1 (Yg.We.map (cF .f32)) false, .box 42 [.own 0, .own 1, .own 2, .f .f32 Yg.Film, .f .f32 Yg.Bend, .own 3, .f .f32 Yg.Fall.X, .f .f32 Yg.Fall.Y, .f .f32 Yg.Fall.Z]]) (args':=[.own 3, .i .i64 ((ZI Yg.Sp ((Zk Yg.Me YA).1)).1)]) rfl rfl rfl rfl rfl rfl)<|sK [] sN) rfl (by kernel_rfl) (by kernel_rfl) ?_ ?_
 · rfl
 · simp [Z6]
theorem Z7q (a:Gb) (c:Int) (g0:a.Me.Pq.length≤1073741824) (g1:a.Me.Tr.length≤1073741824) (g2:∀ t∈a.Me.Tr,t.length≤1073741824) (g3:a.Sp.length≤1073741824) (g4:a.We.length≤1073741824) (h0:0≤c) (h1:c≤2305843009213693952):c≤(Z6 a c).1∧(Z6 a c).1≤c + 1152921513196781568:=by
  unfold Z6
  have p0:=Zbg a.Me c g0 g1 g2 (by omega) (by omega)
  have p1:=ZbP a.Sp ((Zk a.Me c).1) g3 (by omega) (by omega)
  have p2:=Zbi a.We ((ZI a.Sp ((Zk a.Me c).1)).1) g4 (by omega) (by omega)
  simp only
  omega
theorem Zcn (a:Gb) (c:Int) (N:Nat) (h:∀ t∈a.Me.Tr,t.length≤N):∀ t∈(Z6 a c).2.2.1,t.length≤N:=by
  unfold Z6
  exact Zg3 _ _ N h
def Z2b (Yg:(List Int)) (YA:Int):Nat→Int→Int→(List Int)→Int × (List Int)
  | 0,_,_,_=>default
  | k + 1,Yo,Ym,Yp=>(cond (decide (Ym < (Yp.length:Int)))
    (Z2b Yg YA k (IntKind.wrap .i64 (Yo + 1)) (Ym + 1) (Yp.set Ym.toNat Yo))
    (Yo,Yp))
def Z5G (Yg:(List Int)) (YA:Int) (r:Int × (List Int)):Ex × St:=((.exit 0),⟨.any :: .i .i64 r.1 :: .any :: .any :: .i .i64 0 :: an 14 [],[.vec 2 1 (r.2.map (cI .i64)) false]⟩)
def Z7Y (Yg:(List Int)) (YA:Int) (Yo:Int) (Ym:Int) (Yp:(List Int)):St:=⟨.own 0 :: .i .i64 Yo :: .any :: .any :: .i .i64 0 :: .i .i64 Ym :: an 13 [],[.vec 2 1 (Yp.map (cI .i64)) false]⟩
theorem Zck (Yg:(List Int)) (YA:Int) (hp0:Yg.length≤1073741824):∀ (k:Nat) (Yo:Int) (Ym:Int) (Yp:(List Int)) (Z6T:0≤Ym) (Z6U:Yp.length=Yg.length) (hk:((Yg.length:Int) - Ym).toNat < k),Lp prog 1 (sub (X0 f27) [1,0,1,0,0]) (Z7Y Yg YA Yo Ym Yp) (Z5G Yg YA (Z2b Yg YA k Yo Ym Yp)).1 (Z5G Yg YA (Z2b Yg YA k Yo Ym Yp)).2:=by
 intro k
 induction k with
 | zero=>intro Yo Ym Yp Z6T Z6U hk;exact absurd hk (Nat.not_lt_zero _)
 | succ k ih =>
  intro Yo Ym Yp Z6T Z6U hk
  have p {a C} (s:Scr a C):=sZ (cI .i64) Yp<|s
  cases Yv:(decide (Ym < (Yp.length:Int))) with
  | true =>
   have YI:=odt Yv
   have YT:(0:Int)≤Ym:=by clear p;exact (by assumption)
   have YV:Ym < (Yp.length:Int):=by clear p;exact (by assumption)
   have YX:Ym.toNat < Yp.length:=by clear p;exact (by omega)
   have YZ:(-9223372036854775808:Int)≤(Ym + 1):=by clear p;exact (by omega)
   have y_4:(Ym + 1)≤(9223372036854775807:Int):=by clear p;exact (by omega)
   have e:Z2b Yg YA (k + 1) Yo Ym Yp=(Z2b Yg YA k (IntKind.wrap .i64 (Yo + 1)) (Ym + 1) (Yp.set Ym.toNat Yo)):=by simp only [Z2b,Yv,cond_true]
   rw [e]
   exact X9 (EpOk 1) Z7 [] (mR false [0,2,2,2,13]) [] (⟨.own 0 :: .i .i64 (IntKind.wrap .i64 (Yo + 1)) :: .any :: .any :: .i .i64 0 :: .i .i64 (Ym + 1) :: an 13 [],[.vec 2 1 ((Yp.map (cI .i64)).set Ym.toNat [.i .i64 Yo]) false]⟩) (p (sB Yv<|sX (cI .i64) Yp Ym YT YV<|sC (Xl (c:=(cI .i64)) (l:=Yp) YX)<|sW .i64 (Yo + 1)<|sI (Ym + 1) YZ y_4<|sN)) (by kernel_rfl) (by simp [Z7Y,List.map_set,cI]) (ih (IntKind.wrap .i64 (Yo + 1)) (Ym + 1) (Yp.set Ym.toNat Yo) (show 0≤(Ym + 1) from (by omega)) (show (Yp.set Ym.toNat Yo).length=Yg.length from (by simp_all<;>omega)) (by omega))
  | false =>
   have YI:=odf Yv
   have e:Z2b Yg YA (k + 1) Yo Ym Yp=(Yo,Yp):=by simp only [Z2b,Yv,cond_false]
   rw [e]
   exact outR (e:=(.exit 0)) (EpOk 1) Z7 [] (mR false [1,1,2,1,14]) [] (p (sB Yv<|sN)) (by kernel_rfl) (by intro h;cases h)
def Z3x (Yg:(List Int)) (YA:Int):Int × (List Int):=(Z2b Yg YA (((Yg.length:Int) - 0).toNat + 1) YA 0 Yg)
def Z2y (Yg:(List Int)) (YA:Int):Int × (List Int):=((Z3x Yg YA).1,(Z3x Yg YA).2)
theorem Zdb (Yg:(List Int)) (YA:Int) (hp0:Yg.length≤1073741824)  : X4 prog 27 [.vec 2 1 (Yg.map (cI .i64)) false] [.own 0, .i .i64 YA] (.i .i64 ((Z2y Yg YA).1)) [.vec 2 1 (((Z2y Yg YA).2).map (cI .i64)) false]:=by
 refine X23 (EpOk 1) Z7 (c:=X0 f27) [.vec 2 1 (Yg.map (cI .i64)) false] [] (.i .i64 ((Z3x Yg YA).1)) [.vec 2 1 (((Z3x Yg YA).2).map (cI .i64)) false] func27 (sL (mR false [0,2,2,2,13]) 1 (X1 (Z5G Yg YA) (x:=(Z3x Yg YA)) (Zck Yg YA hp0 (((Yg.length:Int) - 0).toNat + 1) YA 0 Yg (show 0≤0 from (by omega)) (show Yg.length=Yg.length from (by simp)) (Nat.lt_succ_self _)) rfl)<|sK [] sN) rfl (by kernel_rfl) (by kernel_rfl) ?_ ?_
 · rfl
 · simp [Z2y]
def Za9 (_:Int) (c:Int):Int × Int:=((IntKind.wrap .i64 (c + 1)),c)
theorem ZgU (a:List Int) (c:Int):Z2y a c=mkL Za9 a c:=by
  unfold Z2y Z3x
  rw [X1r (f:=Za9) (lo:=Z2b a c) (fun k c i r=>rfl) _ _ _ _ (Int.le_refl 0) (Nat.lt_succ_self _)]
  simp
theorem Zg4 (a:List Int) (c:Int) (g0:a.length≤1073741824) (h0:0≤c) (h1:c≤4611686018427387904):c≤(Z2y a c).1∧(Z2y a c).1≤c + 1073741824:=by
  rw [ZgU]
  have q:=X3f (f:=Za9) (W:=1) a c (fun x _ c k0 k1=>by simp only [Za9];rw [Xb (n:=c + 1) (by omega) (by omega)];omega) h0 (by omega)
  omega
def Z1a (Yg:(List Gv)) (YA:Int):Nat→Int→Int→(Unit) ⊕ (Int)
  | 0,_,_ => .inl default
  | k + 1,Yo,Ym=>(cond (decide (Ym < (Yg.length:Int)))
    (cond (fcmp .neq .f32 ((Yg.getD Ym.toNat default).X) (X2 .f32 Yo))
      (.inl ())
      (cond (fcmp .neq .f32 ((Yg.getD Ym.toNat default).Y) (X2 .f32 (IntKind.wrap .i64 (Yo + 1))))
        (.inl ())
        (cond (fcmp .neq .f32 ((Yg.getD Ym.toNat default).Z) (X2 .f32 (IntKind.wrap .i64 ((IntKind.wrap .i64 (Yo + 1)) + 1))))
          (.inl ())
          (Z1a Yg YA k (IntKind.wrap .i64 ((IntKind.wrap .i64 ((IntKind.wrap .i64 (Yo + 1)) + 1)) + 1)) (Ym + 1)))))
    (.inr Yo))
def Z5e (Yg:(List Gv)) (YA:Int):(Unit) ⊕ (Int)→Ex × St
  | .inl r=>(.ret,⟨an 4 (.i .i64 (-1) :: an 38 []),[]⟩)
  | .inr r=>((.exit 0),⟨.any :: .i .i64 r :: an 41 [],[]⟩)
def Zdc (Yg:(List Gv)) (YA:Int) (Yo:Int) (Ym:Int):St:=⟨.sl (Yg.map Gv.c) :: .i .i64 Yo :: .any :: .any :: .any :: .i .i64 Ym :: an 37 [],[]⟩
theorem Z9a (Yg:(List Gv)) (YA:Int) (hp0:Yg.length≤1073741824):∀ (k:Nat) (Yo:Int) (Ym:Int) (Z84:0≤Ym) (hk:((Yg.length:Int) - Ym).toNat < k),Lp prog 0 (sub (X0 f19) [1,0,1,0,0]) (Zdc Yg YA Yo Ym) (Z5e Yg YA (Z1a Yg YA k Yo Ym)).1 (Z5e Yg YA (Z1a Yg YA k Yo Ym)).2:=by
 intro k
 induction k with
 | zero=>intro Yo Ym Z84 hk;exact absurd hk (Nat.not_lt_zero _)
 | succ k ih =>
  intro Yo Ym Z84 hk
  have p {a C} (s:Scr a C):=sZ Gv.c Yg<|s
  cases Yv:(decide (Ym < (Yg.length:Int))) with
  | true =>
   have YI:=odt Yv
   have YT:(0:Int)≤Ym:=by clear p;exact (by assumption)
   have YV:Ym < (Yg.length:Int):=by clear p;exact (by assumption)
   have q {a C} (s:Scr a C):=p (sB Yv<|sG Gv.c Yg Ym YT YV<|s)
   clear p
   cases YF:(fcmp .neq .f32 ((Yg.getD Ym.toNat default).X) (X2 .f32 Yo)) with
   | true =>
    have e:Z1a Yg YA (k + 1) Yo Ym=(.inl ()):=by simp only [Z1a,Yv,YF,cond_true]
    rw [e]
    exact outR (e := .ret) E0Ok Z7 [] (mR false [4,1,38]) [] (q (sB YF<|sN)) (by kernel_rfl) (by intro h;cases h)
   | false =>
    have p {a C} (s:Scr a C):=q (sB YF<|sW .i64 (Yo + 1)<|sG Gv.c Yg Ym YT YV<|s)
    clear q
    cases h_2:(fcmp .neq .f32 ((Yg.getD Ym.toNat default).Y) (X2 .f32 (IntKind.wrap .i64 (Yo + 1)))) with
    | true =>
     have e:Z1a Yg YA (k + 1) Yo Ym=(.inl ()):=by simp only [Z1a,Yv,YF,h_2,cond_true,cond_false]
     rw [e]
     exact outR (e := .ret) E0Ok Z7 [] (mR false [4,1,38]) [] (p (sB h_2<|sN)) (by kernel_rfl) (by intro h;cases h)
    | false =>
     have q {a C} (s:Scr a C):=p (sB h_2<|sW .i64 ((IntKind.wrap .i64 (Yo + 1)) + 1)<|sG Gv.c Yg Ym YT YV<|s)
     clear p
     cases h_3:(fcmp .neq .f32 ((Yg.getD Ym.toNat default).Z) (X2 .f32 (IntKind.wrap .i64 ((IntKind.wrap .i64 (Yo + 1)) + 1)))) with
     | true =>
      have e:Z1a Yg YA (k + 1) Yo Ym=(.inl ()):=by simp only [Z1a,Yv,YF,h_2,h_3,cond_true,cond_false]
      rw [e]
      exact outR (e := .ret) E0Ok Z7 [] (mR false [4,1,38]) [] (q (sB h_3<|sN)) (by kernel_rfl) (by intro h;cases h)
     | false =>
      have YX:(-9223372036854775808:Int)≤(Ym + 1):=by clear q;exact (by omega)
      have YZ:(Ym + 1)≤(9223372036854775807:Int):=by clear q;exact (by omega)
      have e:Z1a Yg YA (k + 1) Yo Ym=(Z1a Yg YA k (IntKind.wrap .i64 ((IntKind.wrap .i64 ((IntKind.wrap .i64 (Yo + 1)) + 1)) + 1)) (Ym + 1)):=by simp only [Z1a,Yv,YF,h_2,h_3,cond_true,cond_false]
      rw [e]
      exact X8 E0Ok Z7 [] (mR false [0,2,3,1,37]) [] (ih (IntKind.wrap .i64 ((IntKind.wrap .i64 ((IntKind.wrap .i64 (Yo + 1)) + 1)) + 1)) (Ym + 1) (show 0≤(Ym + 1) from (by omega)) (by omega)) (q (sB h_3<|sW .i64 ((IntKind.wrap .i64 ((IntKind.wrap .i64 (Yo + 1)) + 1)) + 1)<|sI (Ym + 1) YX YZ<|sN)) (by kernel_rfl)
  | false =>
   have YI:=odf Yv
   have e:Z1a Yg YA (k + 1) Yo Ym=(.inr Yo):=by simp only [Z1a,Yv,cond_false]
   rw [e]
   exact outR (e:=(.exit 0)) E0Ok Z7 [] (mR false [1,1,41]) [] (p (sB Yv<|sN)) (by kernel_rfl) (by intro h;cases h)
def Z4u (Yg:(List Gv)) (YA:Int):(Unit) ⊕ (Int):=(Z1a Yg YA (((Yg.length:Int) - 0).toNat + 1) YA 0)
def Z2i (Yg:(List Gv)) (YA:Int):Int:=(match (Z4u Yg YA) with
  | .inl r1=>(-1)
  | .inr r1=>r1)
theorem Zf2 (Yg:(List Gv)) (YA:Int) (hp0:Yg.length≤1073741824)  : Fn prog 19 [.sl (Yg.map Gv.c), .i .i64 YA] (.i .i64 (Z2i Yg YA)) []:=by
 cases h0:(Z4u Yg YA) with
 | inl r1 =>
  refine fnS E0Ok Z7 (c:=X0 f19) [] (.i .i64 (-1)) [] func19 (sL (mR false [0,2,3,1,37]) 0 (X1 (Z5e Yg YA) (x:=(Z4u Yg YA)) (Z9a Yg YA hp0 (((Yg.length:Int) - 0).toNat + 1) YA 0 (show 0≤0 from (by omega)) (Nat.lt_succ_self _)) h0)<|sK [] sN) rfl (by kernel_rfl) (by kernel_rfl) rfl ?_ ?_
  · simp only [Z2i,h0]
  · rfl
 | inr r1 =>
  refine fnS E0Ok Z7 (c:=X0 f19) [] (.i .i64 r1) [] func19 (sL (mR false [0,2,3,1,37]) 0 (X1 (Z5e Yg YA) (x:=(Z4u Yg YA)) (Z9a Yg YA hp0 (((Yg.length:Int) - 0).toNat + 1) YA 0 (show 0≤0 from (by omega)) (Nat.lt_succ_self _)) h0)<|sK [] sN) rfl (by kernel_rfl) (by kernel_rfl) rfl ?_ ?_
  · simp only [Z2i,h0]
  · rfl
def Zbj (x:Gv) (c:Int):Bool:=(!(fcmp .neq .f32 x.X (X2 .f32 c))) && (!(fcmp .neq .f32 x.Y (X2 .f32 (IntKind.wrap .i64 (c + 1))))) && (!(fcmp .neq .f32 x.Z (X2 .f32 (IntKind.wrap .i64 ((IntKind.wrap .i64 (c + 1)) + 1)))))
def ZcI (_:Gv) (c:Int):Int:=(IntKind.wrap .i64 ((IntKind.wrap .i64 ((IntKind.wrap .i64 (c + 1)) + 1)) + 1))
theorem ZhV (a:List Gv) (c:Int):Z2i a c=match hdL Zbj ZcI a c with
    | some c'=>c'
    | none => -1:=by
  unfold Z2i Z4u
  rw [X1U (p:=Zbj) (q:=ZcI) (a:=a) (x:=()) (lo:=Z1a a c) (fun k c i=>by
    rw [Z1a]
    unfold Zbj ZcI
    generalize a.getD i.toNat default=x
    cases decide (i < (a.length:Int))<;>cases fcmp .neq .f32 x.X (X2 .f32 c)<;>cases fcmp .neq .f32 x.Y (X2 .f32 (IntKind.wrap .i64 (c + 1)))<;>cases fcmp .neq .f32 x.Z (X2 .f32 (IntKind.wrap .i64 ((IntKind.wrap .i64 (c + 1)) + 1)))<;>rfl) _ _ _ (Int.le_refl 0) (Nat.lt_succ_self _)]
  simp only [Int.toNat_zero,List.drop_zero]
  cases hdL Zbj ZcI a c<;>rfl
def Z24 (Yg:(List Int)) (YA:Int):Nat→Int→Int→(Unit) ⊕ (Int)
  | 0,_,_ => .inl default
  | k + 1,Yo,Ym=>(cond (decide (Ym < (Yg.length:Int)))
    (cond ((Yg.getD Ym.toNat default) != Yo)
      (.inl ())
      (Z24 Yg YA k (IntKind.wrap .i64 (Yo + 1)) (Ym + 1)))
    (.inr Yo))
def Z5A (Yg:(List Int)) (YA:Int):(Unit) ⊕ (Int)→Ex × St
  | .inl r=>(.ret,⟨an 4 (.i .i64 (-1) :: an 16 []),[]⟩)
  | .inr r=>((.exit 0),⟨.any :: .i .i64 r :: an 19 [],[]⟩)
def ZdL (Yg:(List Int)) (YA:Int) (Yo:Int) (Ym:Int):St:=⟨.sl (Yg.map (cI .i64)) :: .i .i64 Yo :: .any :: .any :: .any :: .i .i64 Ym :: an 15 [],[]⟩
theorem Zaa (Yg:(List Int)) (YA:Int) (hp0:Yg.length≤1073741824):∀ (k:Nat) (Yo:Int) (Ym:Int) (Z8u:0≤Ym) (hk:((Yg.length:Int) - Ym).toNat < k),Lp prog 0 (sub (X0 f143) [1,0,1,0,0]) (ZdL Yg YA Yo Ym) (Z5A Yg YA (Z24 Yg YA k Yo Ym)).1 (Z5A Yg YA (Z24 Yg YA k Yo Ym)).2:=by
 intro k
 induction k with
 | zero=>intro Yo Ym Z8u hk;exact absurd hk (Nat.not_lt_zero _)
 | succ k ih =>
  intro Yo Ym Z8u hk
  have p {a C} (s:Scr a C):=sZ (cI .i64) Yg<|s
  cases Yv:(decide (Ym < (Yg.length:Int))) with
  | true =>
   have YI:=odt Yv
   have YT:(0:Int)≤Ym:=by clear p;exact (by assumption)
   have YV:Ym < (Yg.length:Int):=by clear p;exact (by assumption)
   have q {a C} (s:Scr a C):=p (sB Yv<|sG (cI .i64) Yg Ym YT YV<|s)
   clear p
   cases YF:((Yg.getD Ym.toNat default) != Yo) with
   | true =>
    have Y1i:=bne_iff_ne.1 YF
    have e:Z24 Yg YA (k + 1) Yo Ym=(.inl ()):=by simp only [Z24,Yv,YF,cond_true]
    rw [e]
    exact outR (e := .ret) E0Ok Z7 [] (mR false [4,1,16]) [] (q (sB YF<|sN)) (by kernel_rfl) (by intro h;cases h)
   | false =>
    have Y1i:=bne_eq_false_iff_eq.1 YF
    have YX:(-9223372036854775808:Int)≤(Ym + 1):=by clear q;exact (by omega)
    have YZ:(Ym + 1)≤(9223372036854775807:Int):=by clear q;exact (by omega)
    have e:Z24 Yg YA (k + 1) Yo Ym=(Z24 Yg YA k (IntKind.wrap .i64 (Yo + 1)) (Ym + 1)):=by simp only [Z24,Yv,YF,cond_true,cond_false]
    rw [e]
    exact X8 E0Ok Z7 [] (mR false [0,2,3,1,15]) [] (ih (IntKind.wrap .i64 (Yo + 1)) (Ym + 1) (show 0≤(Ym + 1) from (by omega)) (by omega)) (q (sB YF<|sW .i64 (Yo + 1)<|sI (Ym + 1) YX YZ<|sN)) (by kernel_rfl)
  | false =>
   have YI:=odf Yv
   have e:Z24 Yg YA (k + 1) Yo Ym=(.inr Yo):=by simp only [Z24,Yv,cond_false]
   rw [e]
   exact outR (e:=(.exit 0)) E0Ok Z7 [] (mR false [1,1,19]) [] (p (sB Yv<|sN)) (by kernel_rfl) (by intro h;cases h)
def Z4D (Yg:(List Int)) (YA:Int):(Unit) ⊕ (Int):=(Z24 Yg YA (((Yg.length:Int) - 0).toNat + 1) YA 0)
def Z1A (Yg:(List Int)) (YA:Int):Int:=(match (Z4D Yg YA) with
  | .inl r1=>(-1)
  | .inr r1=>r1)
theorem Zft (Yg:(List Int)) (YA:Int) (hp0:Yg.length≤1073741824)  : Fn prog 143 [.sl (Yg.map (cI .i64)), .i .i64 YA] (.i .i64 (Z1A Yg YA)) []:=by
 cases h0:(Z4D Yg YA) with
 | inl r1 =>
  refine fnS E0Ok Z7 (c:=X0 f143) [] (.i .i64 (-1)) [] func143 (sL (mR false [0,2,3,1,15]) 0 (X1 (Z5A Yg YA) (x:=(Z4D Yg YA)) (Zaa Yg YA hp0 (((Yg.length:Int) - 0).toNat + 1) YA 0 (show 0≤0 from (by omega)) (Nat.lt_succ_self _)) h0)<|sK [] sN) rfl (by kernel_rfl) (by kernel_rfl) rfl ?_ ?_
  · simp only [Z1A,h0]
  · rfl
 | inr r1 =>
  refine fnS E0Ok Z7 (c:=X0 f143) [] (.i .i64 r1) [] func143 (sL (mR false [0,2,3,1,15]) 0 (X1 (Z5A Yg YA) (x:=(Z4D Yg YA)) (Zaa Yg YA hp0 (((Yg.length:Int) - 0).toNat + 1) YA 0 (show 0≤0 from (by omega)) (Nat.lt_succ_self _)) h0)<|sK [] sN) rfl (by kernel_rfl) (by kernel_rfl) rfl ?_ ?_
  · simp only [Z1A,h0]
  · rfl
def Zcl (x:Int) (c:Int):Bool:=(!(x != c))
def ZdM (_:Int) (c:Int):Int:=(IntKind.wrap .i64 (c + 1))
theorem Zir (a:List Int) (c:Int):Z1A a c=match hdL Zcl ZdM a c with
    | some c'=>c'
    | none => -1:=by
  unfold Z1A Z4D
  rw [X1U (p:=Zcl) (q:=ZdM) (a:=a) (x:=()) (lo:=Z24 a c) (fun k c i=>by
    rw [Z24]
    unfold Zcl ZdM
    generalize a.getD i.toNat default=x
    cases decide (i < (a.length:Int))<;>cases (x != c)<;>rfl) _ _ _ (Int.le_refl 0) (Nat.lt_succ_self _)]
  simp only [Int.toNat_zero,List.drop_zero]
  cases hdL Zcl ZdM a c<;>rfl
def Z1Q (Yg:(List (List Int))) (YA:Int):Nat→Int→Int→(Unit) ⊕ (Int)
  | 0,_,_ => .inl default
  | k + 1,Yo,Ym=>(cond (decide (Ym < (Yg.length:Int)))
    (cond (decide ((Z1A (Yg.getD Ym.toNat default) Yo) < 0))
      (.inl ())
      (Z1Q Yg YA k (Z1A (Yg.getD Ym.toNat default) Yo) (Ym + 1)))
    (.inr Yo))
def Z5f (Yg:(List (List Int))) (YA:Int):(Unit) ⊕ (Int)→Ex × St
  | .inl r=>(.ret,⟨an 4 (.i .i64 (-1) :: an 16 []),[]⟩)
  | .inr r=>((.exit 0),⟨.any :: .i .i64 r :: an 19 [],[]⟩)
def Zdd (Yg:(List (List Int))) (YA:Int) (Yo:Int) (Ym:Int):St:=⟨.sl (Yg.map (cL (cI .i64))) :: .i .i64 Yo :: .any :: .any :: .any :: .i .i64 Ym :: an 15 [],[]⟩
theorem Z9b (Yg:(List (List Int))) (YA:Int) (hp0:Yg.length≤1073741824) (hp1:∀ t∈Yg,t.length≤1073741824):∀ (k:Nat) (Yo:Int) (Ym:Int) (Z85:0≤Ym) (hk:((Yg.length:Int) - Ym).toNat < k),Lp prog 0 (sub (X0 f125) [1,0,1,0,0]) (Zdd Yg YA Yo Ym) (Z5f Yg YA (Z1Q Yg YA k Yo Ym)).1 (Z5f Yg YA (Z1Q Yg YA k Yo Ym)).2:=by
 intro k
 induction k with
 | zero=>intro Yo Ym Z85 hk;exact absurd hk (Nat.not_lt_zero _)
 | succ k ih =>
  intro Yo Ym Z85 hk
  have p {a C} (s:Scr a C):=sZ (cL (cI .i64)) Yg<|s
  cases Yv:(decide (Ym < (Yg.length:Int))) with
  | true =>
   have YI:=odt Yv
   have YT:(0:Int)≤Ym:=by clear p;exact (by assumption)
   have YV:Ym < (Yg.length:Int):=by clear p;exact (by assumption)
   have YX:(Yg.getD Ym.toNat default).length≤1073741824:=by clear p;exact (by simp_all<;>omega)
   have q {a C} (s:Scr a C):=p (sB Yv<|sG (cL (cI .i64)) Yg Ym YT YV<|sF (Zft (Yg.getD Ym.toNat default) Yo YX)<|s)
   clear p
   cases YF:(decide ((Z1A (Yg.getD Ym.toNat default) Yo) < 0)) with
   | true =>
    have Y1i:=odt YF
    have e:Z1Q Yg YA (k + 1) Yo Ym=(.inl ()):=by simp only [Z1Q,Yv,YF,cond_true]
    rw [e]
    exact outR (e := .ret) E0Ok Z7 [] (mR false [4,1,16]) [] (q (sB YF<|sN)) (by kernel_rfl) (by intro h;cases h)
   | false =>
    have Y1i:=odf YF
    have YZ:(-9223372036854775808:Int)≤(Ym + 1):=by clear q;exact (by omega)
    have y_4:(Ym + 1)≤(9223372036854775807:Int):=by clear q;exact (by omega)
    have e:Z1Q Yg YA (k + 1) Yo Ym=(Z1Q Yg YA k (Z1A (Yg.getD Ym.toNat default) Yo) (Ym + 1)):=by simp only [Z1Q,Yv,YF,cond_true,cond_false]
    rw [e]
    exact X8 E0Ok Z7 [] (mR false [0,2,3,1,15]) [] (ih (Z1A (Yg.getD Ym.toNat default) Yo) (Ym + 1) (show 0≤(Ym + 1) from (by omega)) (by omega)) (q (sB YF<|sI (Ym + 1) YZ y_4<|sN)) (by kernel_rfl)
  | false =>
   have YI:=odf Yv
   have e:Z1Q Yg YA (k + 1) Yo Ym=(.inr Yo):=by simp only [Z1Q,Yv,cond_false]
   rw [e]
   exact outR (e:=(.exit 0)) E0Ok Z7 [] (mR false [1,1,19]) [] (p (sB Yv<|sN)) (by kernel_rfl) (by intro h;cases h)
def Z4v (Yg:(List (List Int))) (YA:Int):(Unit) ⊕ (Int):=(Z1Q Yg YA (((Yg.length:Int) - 0).toNat + 1) YA 0)
def Z3c (Yg:(List (List Int))) (YA:Int):Int:=(match (Z4v Yg YA) with
  | .inl r1=>(-1)
  | .inr r1=>r1)
theorem Zf3 (Yg:(List (List Int))) (YA:Int) (hp0:Yg.length≤1073741824) (hp1:∀ t∈Yg,t.length≤1073741824)  : Fn prog 125 [.sl (Yg.map (cL (cI .i64))), .i .i64 YA] (.i .i64 (Z3c Yg YA)) []:=by
 cases h0:(Z4v Yg YA) with
 | inl r1 =>
  refine fnS E0Ok Z7 (c:=X0 f125) [] (.i .i64 (-1)) [] func125 (sL (mR false [0,2,3,1,15]) 0 (X1 (Z5f Yg YA) (x:=(Z4v Yg YA)) (Z9b Yg YA hp0 hp1 (((Yg.length:Int) - 0).toNat + 1) YA 0 (show 0≤0 from (by omega)) (Nat.lt_succ_self _)) h0)<|sK [] sN) rfl (by kernel_rfl) (by kernel_rfl) rfl ?_ ?_
  · simp only [Z3c,h0]
  · rfl
 | inr r1 =>
  refine fnS E0Ok Z7 (c:=X0 f125) [] (.i .i64 r1) [] func125 (sL (mR false [0,2,3,1,15]) 0 (X1 (Z5f Yg YA) (x:=(Z4v Yg YA)) (Z9b Yg YA hp0 hp1 (((Yg.length:Int) - 0).toNat + 1) YA 0 (show 0≤0 from (by omega)) (Nat.lt_succ_self _)) h0)<|sK [] sN) rfl (by kernel_rfl) (by kernel_rfl) rfl ?_ ?_
  · simp only [Z3c,h0]
  · rfl
theorem ZhF (a:List (List Int)) (c:Int):Z3c a c=match hdL (fun x c => !(decide (Z1A x c < 0))) Z1A a c with
    | some c'=>c'
    | none => -1:=by
  unfold Z3c Z4v
  rw [X1U (p:=fun x c => !(decide (Z1A x c < 0))) (q:=Z1A) (a:=a) (x:=()) (lo:=Z1Q a c) (fun k c i=>by
    rw [Z1Q]
    cases decide (i < (a.length:Int))<;>cases decide (Z1A (a.getD i.toNat default) c < 0)<;>rfl) _ _ _ (Int.le_refl 0) (Nat.lt_succ_self _)]
  simp only [Int.toNat_zero,List.drop_zero]
  cases hdL (fun x c => !(decide (Z1A x c < 0))) Z1A a c<;>rfl
def Z2e (Yg:Gm) (YA:Int):Int:=(cond (decide ((Z2i Yg.Pq YA) < 0))
  (-1)
  (cond (decide ((Z3c Yg.Tr (Z2i Yg.Pq YA)) < 0))
    (-1)
    (Z3c Yg.Tr (Z2i Yg.Pq YA))))
theorem Zgw (Yg:Gm) (YA:Int) (hp0:Yg.Pq.length≤1073741824) (hp1:Yg.Tr.length≤1073741824) (hp2:∀ t∈Yg.Tr,t.length≤1073741824)  : Fn prog 73 [.agg [.sl (Yg.Pq.map Gv.c), .sl (Yg.Tr.map (cL (cI .i64)))], .i .i64 YA] (.i .i64 (Z2e Yg YA)) []:=by
 have p {a C} (s:Scr a C):=sF (Zf2 Yg.Pq YA hp0)<|s
 cases h0:(decide ((Z2i Yg.Pq YA) < 0)) with
 | true =>
  have gh0:=odt h0
  refine fnS E0Ok Z7 (c:=X0 f73) [] (.i .i64 (-1)) [] func73 (p (sB h0<|sK [] sN)) rfl (by kernel_rfl) (by kernel_rfl) rfl ?_ ?_
  · simp only [Z2e,h0,cond_true]
  · rfl
 | false =>
  have gh0:=odf h0
  have q {a C} (s:Scr a C):=p (sB h0<|sF (Zf3 Yg.Tr (Z2i Yg.Pq YA) hp1 hp2)<|s)
  clear p
  cases h1:(decide ((Z3c Yg.Tr (Z2i Yg.Pq YA)) < 0)) with
  | true =>
   have gh1:=odt h1
   refine fnS E0Ok Z7 (c:=X0 f73) [] (.i .i64 (-1)) [] func73 (q (sB h1<|sK [] sN)) rfl (by kernel_rfl) (by kernel_rfl) rfl ?_ ?_
   · simp only [Z2e,h0,h1,cond_true,cond_false]
   · rfl
  | false =>
   have gh1:=odf h1
   refine fnS E0Ok Z7 (c:=X0 f73) [] (.i .i64 (Z3c Yg.Tr (Z2i Yg.Pq YA))) [] func73 (q (sB h1<|sK [] sN)) rfl (by kernel_rfl) (by kernel_rfl) rfl ?_ ?_
   · simp only [Z2e,h0,h1,cond_false]
   · rfl
def ZX (Yg:(List Gs)) (YA:Int):Nat→Int→Int→(Unit) ⊕ (Int)
  | 0,_,_ => .inl default
  | k + 1,Yo,Ym=>(cond (decide (Ym < (Yg.length:Int)))
    (cond ((Yg.getD Ym.toNat default).A != Yo)
      (.inl ())
      (cond ((Yg.getD Ym.toNat default).B != (IntKind.wrap .i64 (Yo + 1)))
        (.inl ())
        (cond (fcmp .neq .f32 ((Yg.getD Ym.toNat default).Long) (X2 .f32 (IntKind.wrap .i64 ((IntKind.wrap .i64 (Yo + 1)) + 1))))
          (.inl ())
          (cond (fcmp .neq .f32 ((Yg.getD Ym.toNat default).Stiff) (X2 .f32 (IntKind.wrap .i64 ((IntKind.wrap .i64 ((IntKind.wrap .i64 (Yo + 1)) + 1)) + 1))))
            (.inl ())
            (ZX Yg YA k (IntKind.wrap .i64 ((IntKind.wrap .i64 ((IntKind.wrap .i64 ((IntKind.wrap .i64 (Yo + 1)) + 1)) + 1)) + 1)) (Ym + 1))))))
    (.inr Yo))
def Z5g (Yg:(List Gs)) (YA:Int):(Unit) ⊕ (Int)→Ex × St
  | .inl r=>(.ret,⟨an 4 (.i .i64 (-1) :: an 46 []),[]⟩)
  | .inr r=>((.exit 0),⟨.any :: .i .i64 r :: an 49 [],[]⟩)
def Zde (Yg:(List Gs)) (YA:Int) (Yo:Int) (Ym:Int):St:=⟨.sl (Yg.map Gs.c) :: .i .i64 Yo :: .any :: .any :: .any :: .i .i64 Ym :: an 45 [],[]⟩
theorem Z9c (Yg:(List Gs)) (YA:Int) (hp0:Yg.length≤1073741824):∀ (k:Nat) (Yo:Int) (Ym:Int) (Z86:0≤Ym) (hk:((Yg.length:Int) - Ym).toNat < k),Lp prog 0 (sub (X0 f74) [1,0,1,0,0]) (Zde Yg YA Yo Ym) (Z5g Yg YA (ZX Yg YA k Yo Ym)).1 (Z5g Yg YA (ZX Yg YA k Yo Ym)).2:=by
 intro k
 induction k with
 | zero=>intro Yo Ym Z86 hk;exact absurd hk (Nat.not_lt_zero _)
 | succ k ih =>
  intro Yo Ym Z86 hk
  have p {a C} (s:Scr a C):=sZ Gs.c Yg<|s
  cases Yv:(decide (Ym < (Yg.length:Int))) with
  | true =>
   have YI:=odt Yv
   have YT:(0:Int)≤Ym:=by clear p;exact (by assumption)
   have YV:Ym < (Yg.length:Int):=by clear p;exact (by assumption)
   have q {a C} (s:Scr a C):=p (sB Yv<|sG Gs.c Yg Ym YT YV<|s)
   clear p
   cases YF:((Yg.getD Ym.toNat default).A != Yo) with
   | true =>
    have Y1i:=bne_iff_ne.1 YF
    have e:ZX Yg YA (k + 1) Yo Ym=(.inl ()):=by simp only [ZX,Yv,YF,cond_true]
    rw [e]
    exact outR (e := .ret) E0Ok Z7 [] (mR false [4,1,46]) [] (q (sB YF<|sN)) (by kernel_rfl) (by intro h;cases h)
   | false =>
    have Y1i:=bne_eq_false_iff_eq.1 YF
    have p {a C} (s:Scr a C):=q (sB YF<|sW .i64 (Yo + 1)<|sG Gs.c Yg Ym YT YV<|s)
    clear q
    cases h_2:((Yg.getD Ym.toNat default).B != (IntKind.wrap .i64 (Yo + 1))) with
    | true =>
     have Y1A:=bne_iff_ne.1 h_2
     have e:ZX Yg YA (k + 1) Yo Ym=(.inl ()):=by simp only [ZX,Yv,YF,h_2,cond_true,cond_false]
     rw [e]
     exact outR (e := .ret) E0Ok Z7 [] (mR false [4,1,46]) [] (p (sB h_2<|sN)) (by kernel_rfl) (by intro h;cases h)
    | false =>
     have Y1A:=bne_eq_false_iff_eq.1 h_2
     have q {a C} (s:Scr a C):=p (sB h_2<|sW .i64 ((IntKind.wrap .i64 (Yo + 1)) + 1)<|sG Gs.c Yg Ym YT YV<|s)
     clear p
     cases h_3:(fcmp .neq .f32 ((Yg.getD Ym.toNat default).Long) (X2 .f32 (IntKind.wrap .i64 ((IntKind.wrap .i64 (Yo + 1)) + 1)))) with
     | true =>
      have e:ZX Yg YA (k + 1) Yo Ym=(.inl ()):=by simp only [ZX,Yv,YF,h_2,h_3,cond_true,cond_false]
      rw [e]
      exact outR (e := .ret) E0Ok Z7 [] (mR false [4,1,46]) [] (q (sB h_3<|sN)) (by kernel_rfl) (by intro h;cases h)
     | false =>
      have p {a C} (s:Scr a C):=q (sB h_3<|sW .i64 ((IntKind.wrap .i64 ((IntKind.wrap .i64 (Yo + 1)) + 1)) + 1)<|sG Gs.c Yg Ym YT YV<|s)
      clear q
      cases h_4:(fcmp .neq .f32 ((Yg.getD Ym.toNat default).Stiff) (X2 .f32 (IntKind.wrap .i64 ((IntKind.wrap .i64 ((IntKind.wrap .i64 (Yo + 1)) + 1)) + 1)))) with
      | true =>
       have e:ZX Yg YA (k + 1) Yo Ym=(.inl ()):=by simp only [ZX,Yv,YF,h_2,h_3,h_4,cond_true,cond_false]
       rw [e]
       exact outR (e := .ret) E0Ok Z7 [] (mR false [4,1,46]) [] (p (sB h_4<|sN)) (by kernel_rfl) (by intro h;cases h)
      | false =>
       have YX:(-9223372036854775808:Int)≤(Ym + 1):=by clear p;exact (by omega)
       have YZ:(Ym + 1)≤(9223372036854775807:Int):=by clear p;exact (by omega)
       have e:ZX Yg YA (k + 1) Yo Ym=(ZX Yg YA k (IntKind.wrap .i64 ((IntKind.wrap .i64 ((IntKind.wrap .i64 ((IntKind.wrap .i64 (Yo + 1)) + 1)) + 1)) + 1)) (Ym + 1)):=by simp only [ZX,Yv,YF,h_2,h_3,h_4,cond_true,cond_false]
       rw [e]
       exact X8 E0Ok Z7 [] (mR false [0,2,3,1,45]) [] (ih (IntKind.wrap .i64 ((IntKind.wrap .i64 ((IntKind.wrap .i64 ((IntKind.wrap .i64 (Yo + 1)) + 1)) + 1)) + 1)) (Ym + 1) (show 0≤(Ym + 1) from (by omega)) (by omega)) (p (sB h_4<|sW .i64 ((IntKind.wrap .i64 ((IntKind.wrap .i64 ((IntKind.wrap .i64 (Yo + 1)) + 1)) + 1)) + 1)<|sI (Ym + 1) YX YZ<|sN)) (by kernel_rfl)
  | false =>
   have YI:=odf Yv
   have e:ZX Yg YA (k + 1) Yo Ym=(.inr Yo):=by simp only [ZX,Yv,cond_false]
   rw [e]
   exact outR (e:=(.exit 0)) E0Ok Z7 [] (mR false [1,1,49]) [] (p (sB Yv<|sN)) (by kernel_rfl) (by intro h;cases h)
def Z4w (Yg:(List Gs)) (YA:Int):(Unit) ⊕ (Int):=(ZX Yg YA (((Yg.length:Int) - 0).toNat + 1) YA 0)
def Z2j (Yg:(List Gs)) (YA:Int):Int:=(match (Z4w Yg YA) with
  | .inl r1=>(-1)
  | .inr r1=>r1)
theorem Zf4 (Yg:(List Gs)) (YA:Int) (hp0:Yg.length≤1073741824)  : Fn prog 74 [.sl (Yg.map Gs.c), .i .i64 YA] (.i .i64 (Z2j Yg YA)) []:=by
 cases h0:(Z4w Yg YA) with
 | inl r1 =>
  refine fnS E0Ok Z7 (c:=X0 f74) [] (.i .i64 (-1)) [] func74 (sL (mR false [0,2,3,1,45]) 0 (X1 (Z5g Yg YA) (x:=(Z4w Yg YA)) (Z9c Yg YA hp0 (((Yg.length:Int) - 0).toNat + 1) YA 0 (show 0≤0 from (by omega)) (Nat.lt_succ_self _)) h0)<|sK [] sN) rfl (by kernel_rfl) (by kernel_rfl) rfl ?_ ?_
  · simp only [Z2j,h0]
  · rfl
 | inr r1 =>
  refine fnS E0Ok Z7 (c:=X0 f74) [] (.i .i64 r1) [] func74 (sL (mR false [0,2,3,1,45]) 0 (X1 (Z5g Yg YA) (x:=(Z4w Yg YA)) (Z9c Yg YA hp0 (((Yg.length:Int) - 0).toNat + 1) YA 0 (show 0≤0 from (by omega)) (Nat.lt_succ_self _)) h0)<|sK [] sN) rfl (by kernel_rfl) (by kernel_rfl) rfl ?_ ?_
  · simp only [Z2j,h0]
  · rfl
def Zbk (x:Gs) (c:Int):Bool:=(!(x.A != c)) && (!(x.B != (IntKind.wrap .i64 (c + 1)))) && (!(fcmp .neq .f32 x.Long (X2 .f32 (IntKind.wrap .i64 ((IntKind.wrap .i64 (c + 1)) + 1))))) && (!(fcmp .neq .f32 x.Stiff (X2 .f32 (IntKind.wrap .i64 ((IntKind.wrap .i64 ((IntKind.wrap .i64 (c + 1)) + 1)) + 1)))))
def ZcJ (_:Gs) (c:Int):Int:=(IntKind.wrap .i64 ((IntKind.wrap .i64 ((IntKind.wrap .i64 ((IntKind.wrap .i64 (c + 1)) + 1)) + 1)) + 1))
theorem ZhW (a:List Gs) (c:Int):Z2j a c=match hdL Zbk ZcJ a c with
    | some c'=>c'
    | none => -1:=by
  unfold Z2j Z4w
  rw [X1U (p:=Zbk) (q:=ZcJ) (a:=a) (x:=()) (lo:=ZX a c) (fun k c i=>by
    rw [ZX]
    unfold Zbk ZcJ
    generalize a.getD i.toNat default=x
    cases decide (i < (a.length:Int))<;>cases (x.A != c)<;>cases (x.B != (IntKind.wrap .i64 (c + 1)))<;>cases fcmp .neq .f32 x.Long (X2 .f32 (IntKind.wrap .i64 ((IntKind.wrap .i64 (c + 1)) + 1)))<;>cases fcmp .neq .f32 x.Stiff (X2 .f32 (IntKind.wrap .i64 ((IntKind.wrap .i64 ((IntKind.wrap .i64 (c + 1)) + 1)) + 1)))<;>rfl) _ _ _ (Int.le_refl 0) (Nat.lt_succ_self _)]
  simp only [Int.toNat_zero,List.drop_zero]
  cases hdL Zbk ZcJ a c<;>rfl
def Z1E (Yg:(List Nat)) (YA:Int):Nat→Int→Int→(Unit) ⊕ (Int)
  | 0,_,_ => .inl default
  | k + 1,Yo,Ym=>(cond (decide (Ym < (Yg.length:Int)))
    (cond (fcmp .neq .f32 (Yg.getD Ym.toNat default) (X2 .f32 Yo))
      (.inl ())
      (Z1E Yg YA k (IntKind.wrap .i64 (Yo + 1)) (Ym + 1)))
    (.inr Yo))
def Z52 (Yg:(List Nat)) (YA:Int):(Unit) ⊕ (Int)→Ex × St
  | .inl r=>(.ret,⟨an 4 (.i .i64 (-1) :: an 17 []),[]⟩)
  | .inr r=>((.exit 0),⟨.any :: .i .i64 r :: an 20 [],[]⟩)
def ZcS (Yg:(List Nat)) (YA:Int) (Yo:Int) (Ym:Int):St:=⟨.sl (Yg.map (cF .f32)) :: .i .i64 Yo :: .any :: .any :: .any :: .i .i64 Ym :: an 16 [],[]⟩
theorem Z8v (Yg:(List Nat)) (YA:Int) (hp0:Yg.length≤1073741824):∀ (k:Nat) (Yo:Int) (Ym:Int) (Z7Z:0≤Ym) (hk:((Yg.length:Int) - Ym).toNat < k),Lp prog 0 (sub (X0 f42) [1,0,1,0,0]) (ZcS Yg YA Yo Ym) (Z52 Yg YA (Z1E Yg YA k Yo Ym)).1 (Z52 Yg YA (Z1E Yg YA k Yo Ym)).2:=by
 intro k
 induction k with
 | zero=>intro Yo Ym Z7Z hk;exact absurd hk (Nat.not_lt_zero _)
 | succ k ih =>
  intro Yo Ym Z7Z hk
  have p {a C} (s:Scr a C):=sZ (cF .f32) Yg<|s
  cases Yv:(decide (Ym < (Yg.length:Int))) with
  | true =>
   have YI:=odt Yv
   have YT:(0:Int)≤Ym:=by clear p;exact (by assumption)
   have YV:Ym < (Yg.length:Int):=by clear p;exact (by assumption)
   have q {a C} (s:Scr a C):=p (sB Yv<|sG (cF .f32) Yg Ym YT YV<|s)
   clear p
   cases YF:(fcmp .neq .f32 (Yg.getD Ym.toNat default) (X2 .f32 Yo)) with
   | true =>
    have e:Z1E Yg YA (k + 1) Yo Ym=(.inl ()):=by simp only [Z1E,Yv,YF,cond_true]
    rw [e]
    exact outR (e := .ret) E0Ok Z7 [] (mR false [4,1,17]) [] (q (sB YF<|sN)) (by kernel_rfl) (by intro h;cases h)
   | false =>
    have YX:(-9223372036854775808:Int)≤(Ym + 1):=by clear q;exact (by omega)
    have YZ:(Ym + 1)≤(9223372036854775807:Int):=by clear q;exact (by omega)
    have e:Z1E Yg YA (k + 1) Yo Ym=(Z1E Yg YA k (IntKind.wrap .i64 (Yo + 1)) (Ym + 1)):=by simp only [Z1E,Yv,YF,cond_true,cond_false]
    rw [e]
    exact X8 E0Ok Z7 [] (mR false [0,2,3,1,16]) [] (ih (IntKind.wrap .i64 (Yo + 1)) (Ym + 1) (show 0≤(Ym + 1) from (by omega)) (by omega)) (q (sB YF<|sW .i64 (Yo + 1)<|sI (Ym + 1) YX YZ<|sN)) (by kernel_rfl)
  | false =>
   have YI:=odf Yv
   have e:Z1E Yg YA (k + 1) Yo Ym=(.inr Yo):=by simp only [Z1E,Yv,cond_false]
   rw [e]
   exact outR (e:=(.exit 0)) E0Ok Z7 [] (mR false [1,1,20]) [] (p (sB Yv<|sN)) (by kernel_rfl) (by intro h;cases h)
def Z4j (Yg:(List Nat)) (YA:Int):(Unit) ⊕ (Int):=(Z1E Yg YA (((Yg.length:Int) - 0).toNat + 1) YA 0)
def Z2Z (Yg:(List Nat)) (YA:Int):Int:=(match (Z4j Yg YA) with
  | .inl r1=>(-1)
  | .inr r1=>r1)
theorem Zek (Yg:(List Nat)) (YA:Int) (hp0:Yg.length≤1073741824)  : Fn prog 42 [.sl (Yg.map (cF .f32)), .i .i64 YA] (.i .i64 (Z2Z Yg YA)) []:=by
 cases h0:(Z4j Yg YA) with
 | inl r1 =>
  refine fnS E0Ok Z7 (c:=X0 f42) [] (.i .i64 (-1)) [] func42 (sL (mR false [0,2,3,1,16]) 0 (X1 (Z52 Yg YA) (x:=(Z4j Yg YA)) (Z8v Yg YA hp0 (((Yg.length:Int) - 0).toNat + 1) YA 0 (show 0≤0 from (by omega)) (Nat.lt_succ_self _)) h0)<|sK [] sN) rfl (by kernel_rfl) (by kernel_rfl) rfl ?_ ?_
  · simp only [Z2Z,h0]
  · rfl
 | inr r1 =>
  refine fnS E0Ok Z7 (c:=X0 f42) [] (.i .i64 r1) [] func42 (sL (mR false [0,2,3,1,16]) 0 (X1 (Z52 Yg YA) (x:=(Z4j Yg YA)) (Z8v Yg YA hp0 (((Yg.length:Int) - 0).toNat + 1) YA 0 (show 0≤0 from (by omega)) (Nat.lt_succ_self _)) h0)<|sK [] sN) rfl (by kernel_rfl) (by kernel_rfl) rfl ?_ ?_
  · simp only [Z2Z,h0]
  · rfl
def Zab (x:Nat) (c:Int):Bool:=(!(fcmp .neq .f32 x (X2 .f32 c)))
def Zc0 (_:Nat) (c:Int):Int:=(IntKind.wrap .i64 (c + 1))
theorem ZhG (a:List Nat) (c:Int):Z2Z a c=match hdL Zab Zc0 a c with
    | some c'=>c'
    | none => -1:=by
  unfold Z2Z Z4j
  rw [X1U (p:=Zab) (q:=Zc0) (a:=a) (x:=()) (lo:=Z1E a c) (fun k c i=>by
    rw [Z1E]
    unfold Zab Zc0
    generalize a.getD i.toNat default=x
    cases decide (i < (a.length:Int))<;>cases fcmp .neq .f32 x (X2 .f32 c)<;>rfl) _ _ _ (Int.le_refl 0) (Nat.lt_succ_self _)]
  simp only [Int.toNat_zero,List.drop_zero]
  cases hdL Zab Zc0 a c<;>rfl
def Z3H (Yg:Gb) (YA:Int):Int:=(cond (decide ((Z2e Yg.Me YA) < 0))
  (-1)
  (cond (decide ((Z2j Yg.Sp (Z2e Yg.Me YA)) < 0))
    (-1)
    (cond (decide ((Z2Z Yg.We (Z2j Yg.Sp (Z2e Yg.Me YA))) < 0))
      (-1)
      (Z2Z Yg.We (Z2j Yg.Sp (Z2e Yg.Me YA))))))
theorem ZcK (Yg:Gb) (YA:Int) (hp0:Yg.Me.Pq.length≤1073741824) (hp1:Yg.Me.Tr.length≤1073741824) (hp2:∀ t∈Yg.Me.Tr,t.length≤1073741824) (hp3:Yg.Sp.length≤1073741824) (hp4:Yg.We.length≤1073741824)  : Fn prog 30 [.agg [.sl (Yg.Me.Pq.map Gv.c), .sl (Yg.Me.Tr.map (cL (cI .i64))), .sl (Yg.Sp.map Gs.c), .f .f32 Yg.Film, .f .f32 Yg.Bend, .sl (Yg.We.map (cF .f32)), .f .f32 Yg.Fall.X, .f .f32 Yg.Fall.Y, .f .f32 Yg.Fall.Z], .i .i64 YA] (.i .i64 (Z3H Yg YA)) []:=by
 have p {a C} (s:Scr a C):=sF (Zgw Yg.Me YA hp0 hp1 hp2)<|s
 cases h0:(decide ((Z2e Yg.Me YA) < 0)) with
 | true =>
  have gh0:=odt h0
  refine fnS E0Ok Z7 (c:=X0 f30) [] (.i .i64 (-1)) [] func30 (p (sB h0<|sK [] sN)) rfl (by kernel_rfl) (by kernel_rfl) rfl ?_ ?_
  · simp only [Z3H,h0,cond_true]
  · rfl
 | false =>
  have gh0:=odf h0
  have q {a C} (s:Scr a C):=p (sB h0<|sF (Zf4 Yg.Sp (Z2e Yg.Me YA) hp3)<|s)
  clear p
  cases h1:(decide ((Z2j Yg.Sp (Z2e Yg.Me YA)) < 0)) with
  | true =>
   have gh1:=odt h1
   refine fnS E0Ok Z7 (c:=X0 f30) [] (.i .i64 (-1)) [] func30 (q (sB h1<|sK [] sN)) rfl (by kernel_rfl) (by kernel_rfl) rfl ?_ ?_
   · simp only [Z3H,h0,h1,cond_true,cond_false]
   · rfl
  | false =>
   have gh1:=odf h1
   have p {a C} (s:Scr a C):=q (sB h1<|sF (Zek Yg.We (Z2j Yg.Sp (Z2e Yg.Me YA)) hp4)<|s)
   clear q
   cases h2:(decide ((Z2Z Yg.We (Z2j Yg.Sp (Z2e Yg.Me YA))) < 0)) with
   | true =>
    have gh2:=odt h2
    refine fnS E0Ok Z7 (c:=X0 f30) [] (.i .i64 (-1)) [] func30 (p (sB h2<|sK [] sN)) rfl (by kernel_rfl) (by kernel_rfl) rfl ?_ ?_
    · simp only [Z3H,h0,h1,h2,cond_true,cond_false]
    · rfl
   | false =>
    have gh2:=odf h2
    refine fnS E0Ok Z7 (c:=X0 f30) [] (.i .i64 (Z2Z Yg.We (Z2j Yg.Sp (Z2e Yg.Me YA)))) [] func30 (p (sB h2<|sK [] sN)) rfl (by kernel_rfl) (by kernel_rfl) rfl ?_ ?_
    · simp only [Z3H,h0,h1,h2,cond_false]
    · rfl
def Z1n (Y0:Gb) (YG:(List Int)) (YM:Nat) (YH:Int):Bool:=(cond (decide ((YG.length:Int) > 1048576))
  true
  (cond (decide ((Z2J Y0 1048576) < 0))
    true
    (cond (Z3l ((Z4 Y0 YG YM YH).1) ((Ze Y0 YG YM YH).1))
      (cond ((Z4 Y0 YG YM YH).2.1 != (Ze Y0 YG YM YH).2.1)
        false
        (cond ((Z4 Y0 YG YM YH).2.2 == (Ze Y0 YG YM YH).2.2)
          (cond (Z3l Y0 Y0)
            (cond (Z3j YG YG)
              (cond (decide ((Z2y YG ((Z6 Y0 1).1)).1 < 0))
                false
                (cond (decide ((Z3H (⟨(⟨(Z6 ((Z4 Y0 YG YM YH).1) 1).2.1,(Z6 ((Z4 Y0 YG YM YH).1) 1).2.2.1⟩:Gm),(Z6 ((Z4 Y0 YG YM YH).1) 1).2.2.2.1,(Z4 Y0 YG YM YH).1.Film,(Z4 Y0 YG YM YH).1.Bend,(Z6 ((Z4 Y0 YG YM YH).1) 1).2.2.2.2,(Z4 Y0 YG YM YH).1.Fall⟩:Gb) 1) < 0))
                  false
                  (cond ((Z3H (⟨(⟨(Z6 ((Z4 Y0 YG YM YH).1) 1).2.1,(Z6 ((Z4 Y0 YG YM YH).1) 1).2.2.1⟩:Gm),(Z6 ((Z4 Y0 YG YM YH).1) 1).2.2.2.1,(Z4 Y0 YG YM YH).1.Film,(Z4 Y0 YG YM YH).1.Bend,(Z6 ((Z4 Y0 YG YM YH).1) 1).2.2.2.2,(Z4 Y0 YG YM YH).1.Fall⟩:Gb) 1) != (Z6 ((Z4 Y0 YG YM YH).1) 1).1)
                    false
                    true)))
              false)
            false)
          false))
      false)))
set_option maxHeartbeats 1000000 in
theorem ZcT (Y0:Gb) (YG:(List Int)) (YM:Nat) (YH:Int) (hp0:Y0.Me.Pq.length≤9223372036854775807) (hp1:Y0.Me.Tr.length≤9223372036854775807) (hp2:∀ t∈Y0.Me.Tr,t.length≤9223372036854775807) (hp3:Y0.Sp.length≤9223372036854775807) (hp4:Y0.We.length≤9223372036854775807) (hp5:YG.length≤9223372036854775807)  : Fn prog 9 [.agg [.sl (Y0.Me.Pq.map Gv.c), .sl (Y0.Me.Tr.map (cL (cI .i64))), .sl (Y0.Sp.map Gs.c), .f .f32 Y0.Film, .f .f32 Y0.Bend, .sl (Y0.We.map (cF .f32)), .f .f32 Y0.Fall.X, .f .f32 Y0.Fall.Y, .f .f32 Y0.Fall.Z], .sl (YG.map (cI .i64)), .f .f32 YM, .i .i64 YH] (.b (Z1n Y0 YG YM YH)) []:=by
 have z0:=(ZcU Y0 1048576 (by omega) (by omega) (by assumption) (by omega) (by omega) (by omega) (by omega))
 have p {a C} (s:Scr a C):=sZ (cI .i64) YG<|s
 cases h0:(decide ((YG.length:Int) > 1048576)) with
 | true =>
  have gh0:=odt h0
  refine fnS E0Ok Z7 (c:=X0 f9) [] (.b true) [] func9 (p (sB h0<|sK [] sN)) rfl (by kernel_rfl) (by kernel_rfl) rfl ?_ ?_
  · simp only [Z1n,h0,cond_true]
  · rfl
 | false =>
  have gh0:=odf h0
  have q {a C} (s:Scr a C):=p (sB h0<|sF (Zh3 Y0 1048576 hp0 hp1 hp2 hp3 hp4)<|s)
  clear p
  cases h1:(decide ((Z2J Y0 1048576) < 0)) with
  | true =>
   have gh1:=odt h1
   refine fnS E0Ok Z7 (c:=X0 f9) [] (.b true) [] func9 (q (sB h1<|sK [] sN)) rfl (by kernel_rfl) (by kernel_rfl) rfl ?_ ?_
   · simp only [Z1n,h0,h1,cond_true,cond_false]
   · rfl
  | false =>
   have gh1:=odf h1
   have y0:Y0.Me.Pq.length≤1073741824:=by clear q;exact (by omega)
   have y1:Y0.Me.Tr.length≤1073741824:=by clear q;exact (by omega)
   have y2:∀ t∈Y0.Me.Tr,t.length≤1073741824:=by clear q;exact (by intro t ht;(have q:=z0.2.2.2.2.2.2 t ht;omega))
   have y3:Y0.Sp.length≤1073741824:=by clear q;exact (by omega)
   have y4:Y0.We.length≤1073741824:=by clear q;exact (by omega)
   have y5:YG.length≤1073741824:=by clear q;exact (by omega)
   have l1:=(Zbz Y0 YG YM YH)
   have l2:=(ZbA Y0 YG YM YH)
   have l3:=(ZbB Y0 YG YM YH)
   have l4:=(ZbC Y0 YG YM YH)
   have l5:=(ZbK Y0 YG YM YH)
   have l6:=(ZbL Y0 YG YM YH)
   have l7:=(ZbM Y0 YG YM YH)
   have l8:=(ZbN Y0 YG YM YH)
   have y6:((Z4 Y0 YG YM YH).1).Me.Pq.length≤1073741824:=by clear q;exact (by omega)
   have y7:((Z4 Y0 YG YM YH).1).Me.Tr.length≤1073741824:=by clear q;exact (by omega)
   have y8:∀ t∈((Z4 Y0 YG YM YH).1).Me.Tr,t.length≤1073741824:=by clear q;exact (by (intro t ht;(have q:=z0.2.2.2.2.2.2 t (Z8n Y0 YG YM YH t ht);omega)))
   have y9:((Z4 Y0 YG YM YH).1).Sp.length≤1073741824:=by clear q;exact (by omega)
   have y10:((Z4 Y0 YG YM YH).1).We.length≤1073741824:=by clear q;exact (by omega)
   have y11:((Ze Y0 YG YM YH).1).Me.Pq.length≤1073741824:=by clear q;exact (by omega)
   have y12:((Ze Y0 YG YM YH).1).Me.Tr.length≤1073741824:=by clear q;exact (by omega)
   have y13:∀ t∈((Ze Y0 YG YM YH).1).Me.Tr,t.length≤1073741824:=by clear q;exact (by (intro t ht;(have q:=z0.2.2.2.2.2.2 t (ZbD Y0 YG YM YH t ht);omega)))
   have y14:((Ze Y0 YG YM YH).1).Sp.length≤1073741824:=by clear q;exact (by omega)
   have y15:((Ze Y0 YG YM YH).1).We.length≤1073741824:=by clear q;exact (by omega)
   have p {a C} (s:Scr a C):=q (sB h1<|sF (Z8w Y0 y0 y1 y2 y3 y4)<|sF (Z5T YG y5)<|sF (Fn.castA (args':=[.agg [.sl (Y0.Me.Pq.map Gv.c), .sl ((Y0.Me.Tr.map fun l=>l.map (cI .i64)).map fun l => [.sl l]), .sl (Y0.Sp.map Gs.c), .f .f32 Y0.Film, .f .f32 Y0.Bend, .sl (Y0.We.map (cF .f32)), .f .f32 Y0.Fall.X, .f .f32 Y0.Fall.Y, .f .f32 Y0.Fall.Z], .sl (YG.map (cI .i64)), .f .f32 YM, .i .i64 YH]) (Zgm Y0 YG YM YH y0 y1 y2 y3 y4 y5) (by simp [cL,Function.comp_def];done))<|sF (Z8w Y0 y0 y1 y2 y3 y4)<|sF (Z5T YG y5)<|sF (Fn.castA (args':=[.agg [.sl (Y0.Me.Pq.map Gv.c), .sl ((Y0.Me.Tr.map fun l=>l.map (cI .i64)).map fun l => [.sl l]), .sl (Y0.Sp.map Gs.c), .f .f32 Y0.Film, .f .f32 Y0.Bend, .sl (Y0.We.map (cF .f32)), .f .f32 Y0.Fall.X, .f .f32 Y0.Fall.Y, .f .f32 Y0.Fall.Z], .sl (YG.map (cI .i64)), .f .f32 YM, .i .i64 YH]) (ZcD Y0 YG YM YH y0 y1 y2 y3 y4 y5) (by simp [cL,Function.comp_def];done))<|sF (Fn.castA (args':=[.agg [.sl (((Z4 Y0 YG YM YH).1.Me.Pq).map Gv.c), .sl ((((Z4 Y0 YG YM YH).1.Me.Tr).map fun l=>l.map (cI .i64)).map fun l => [.sl l]), .sl (((Z4 Y0 YG YM YH).1.Sp).map Gs.c), .f .f32 ((Z4 Y0 YG YM YH).1.Film), .f .f32 ((Z4 Y0 YG YM YH).1.Bend), .sl (((Z4 Y0 YG YM YH).1.We).map (cF .f32)), .f .f32 ((Z4 Y0 YG YM YH).1.Fall.X), .f .f32 ((Z4 Y0 YG YM YH).1.Fall.Y), .f .f32 ((Z4 Y0 YG YM YH).1.Fall.Z)], .agg [.sl (((Ze Y0 YG YM YH).1.Me.Pq).map Gv.c), .sl ((((Ze Y0 YG YM YH).1.Me.Tr).map fun l=>l.map (cI .i64)).map fun l => [.sl l]), .sl (((Ze Y0 YG YM YH).1.Sp).map Gs.c), .f .f32 ((Ze Y0 YG YM YH).1.Film), .f .f32 ((Ze Y0 YG YM YH).1.Bend), .sl (((Ze Y0 YG YM YH).1.We).map (cF .f32)), .f .f32 ((Ze Y0 YG YM YH).1.Fall.X), .f .f32 ((Ze Y0 YG YM YH).1.Fall.Y), .f .f32 ((Ze Y0 YG YM YH).1.Fall.Z)]]) (Z8A ((Z4 Y0 YG YM YH).1) ((Ze Y0 YG YM YH).1) y6 y7 y8 y9 y10 y11 y12 y13 y14 y15) (by simp [cL,Function.comp_def];done))<|s)
   clear q
   cases h2:(Z3l ((Z4 Y0 YG YM YH).1) ((Ze Y0 YG YM YH).1)) with
   | true =>
    have q {a C} (s:Scr a C):=p (sB' h2<|sB' h2<|sB' h2<|sB' h2<|s)
    clear p
    cases h3:((Z4 Y0 YG YM YH).2.1 != (Ze Y0 YG YM YH).2.1) with
    | true =>
     have gh3:=bne_iff_ne.1 h3
     refine fnS E0Ok Z7 (c:=X0 f9) [] (.b false) [] func9 (q (sB h3<|sB h3<|sB h3<|sB h3<|sB (show true=true from rfl)<|sK [] sN)) rfl (by kernel_rfl) (by kernel_rfl) rfl ?_ ?_
     · simp only [Z1n,h0,h1,h2,h3,cond_true,cond_false]
     · rfl
    | false =>
     have gh3:=bne_eq_false_iff_eq.1 h3
     have p {a C} (s:Scr a C):=q (sB h3<|sB h3<|sB h3<|sB h3<|s)
     clear q
     cases h4:((Z4 Y0 YG YM YH).2.2 == (Ze Y0 YG YM YH).2.2) with
     | true =>
      have gh4:=eq_of_beq h4
      have q {a C} (s:Scr a C):=p (sB' h4<|sK [3,3]<|sF (Z8w Y0 y0 y1 y2 y3 y4)<|sF (Fn.castA (args':=[.agg [.sl (Y0.Me.Pq.map Gv.c), .sl ((Y0.Me.Tr.map fun l=>l.map (cI .i64)).map fun l => [.sl l]), .sl (Y0.Sp.map Gs.c), .f .f32 Y0.Film, .f .f32 Y0.Bend, .sl (Y0.We.map (cF .f32)), .f .f32 Y0.Fall.X, .f .f32 Y0.Fall.Y, .f .f32 Y0.Fall.Z], .agg [.sl (Y0.Me.Pq.map Gv.c), .sl ((Y0.Me.Tr.map fun l=>l.map (cI .i64)).map fun l => [.sl l]), .sl (Y0.Sp.map Gs.c), .f .f32 Y0.Film, .f .f32 Y0.Bend, .sl (Y0.We.map (cF .f32)), .f .f32 Y0.Fall.X, .f .f32 Y0.Fall.Y, .f .f32 Y0.Fall.Z]]) (Z8A Y0 Y0 y0 y1 y2 y3 y4 y0 y1 y2 y3 y4) (by simp [cL,Function.comp_def];done))<|s)
      clear p
      cases h5:(Z3l Y0 Y0) with
      | true =>
       have p {a C} (s:Scr a C):=q (sB' h5<|sF (Z5T YG y5)<|sF (ZcF YG YG y5 y5)<|s)
       clear q
       cases h6:(Z3j YG YG) with
       | true =>
        have q {a C} (s:Scr a C):=p (sB' h6<|sS (X4.frame (Z65 Y0 1 y0 y1 y2 y3 y4) [11,12,13,14] (R:=[.box 32 [.sl (Y0.Me.Pq.map Gv.c), .sl (Y0.Me.Tr.map (cL (cI .i64))), .sl (Y0.Sp.map Gs.c), .f .f32 Y0.Film, .f .f32 Y0.Bend, .sl (Y0.We.map (cF .f32)), .f .f32 Y0.Fall.X, .f .f32 Y0.Fall.Y, .f .f32 Y0.Fall.Z], .vec 40 3 (Y0.Me.Pq.map Gv.c) false, .nest 49 (Y0.Me.Tr.map fun l=>l.map (cI .i64)) false, .vec 133 4 (Y0.Sp.map Gs.c) false, .vec 27 1 (Y0.We.map (cF .f32)) false, .vec 2 1 (YG.map (cI .i64)) false, .vec 40 3 (((Ze Y0 YG YM YH).1.Me.Pq).map Gv.c) false, .nest 49 (((Ze Y0 YG YM YH).1.Me.Tr).map fun l=>l.map (cI .i64)) false, .vec 133 4 (((Ze Y0 YG YM YH).1.Sp).map Gs.c) false, .vec 27 1 (((Ze Y0 YG YM YH).1.We).map (cF .f32)) false, .box 42 [.own 6, .own 7, .own 8, .f .f32 ((Ze Y0 YG YM YH).1.Film), .f .f32 ((Ze Y0 YG YM YH).1.Bend), .own 9, .f .f32 ((Ze Y0 YG YM YH).1.Fall.X), .f .f32 ((Ze Y0 YG YM YH).1.Fall.Y), .f .f32 ((Ze Y0 YG YM YH).1.Fall.Z)], .vec 40 3 (Y0.Me.Pq.map Gv.c) false, .nest 49 (Y0.Me.Tr.map fun l=>l.map (cI .i64)) false, .vec 133 4 (Y0.Sp.map Gs.c) false, .vec 27 1 (Y0.We.map (cF .f32)) false, .box 42 [.own 11, .own 12, .own 13, .f .f32 Y0.Film, .f .f32 Y0.Bend, .own 14, .f .f32 Y0.Fall.X, .f .f32 Y0.Fall.Y, .f .f32 Y0.Fall.Z], .vec 2 1 (YG.map (cI .i64)) false, .vec 40 3 (((Z4 Y0 YG YM YH).1.Me.Pq).map Gv.c) false, .nest 49 (((Z4 Y0 YG YM YH).1.Me.Tr).map fun l=>l.map (cI .i64)) false, .vec 133 4 (((Z4 Y0 YG YM YH).1.Sp).map Gs.c) false, .vec 27 1 (((Z4 Y0 YG YM YH).1.We).map (cF .f32)) false, .box 42 [.own 17, .own 18, .own 19, .f .f32 ((Z4 Y0 YG YM YH).1.Film), .f .f32 ((Z4 Y0 YG YM YH).1.Bend), .own 20, .f .f32 ((Z4 Y0 YG YM YH).1.Fall.X), .f .f32 ((Z4 Y0 YG YM YH).1.Fall.Y), .f .f32 ((Z4 Y0 YG YM YH).1.Fall.Z)], .vec 40 3 (Y0.Me.Pq.map Gv.c) false, .nest 49 (Y0.Me.Tr.map fun l=>l.map (cI .i64)) false, .vec 133 4 (Y0.Sp.map Gs.c) false, .vec 27 1 (Y0.We.map (cF .f32)) false, .vec 2 1 (YG.map (cI .i64)) false]) (args':=[.agg [.own 11, .own 12, .own 13, .f .f32 Y0.Film, .f .f32 Y0.Bend, .own 14, .f .f32 Y0.Fall.X, .f .f32 Y0.Fall.Y, .f .f32 Y0.Fall.Z], .i .i64 1]) rfl rfl rfl rfl rfl rfl)<|sS (X4.frame (Zdb YG ((Z6 Y0 1).1) y5) [16] (R:=[.box 32 [.sl (Y0.Me.Pq.map Gv.c), .sl (Y0.Me.Tr.map (cL (cI .i64))), .sl (Y0.Sp.map Gs.c), .f .f32 Y0.Film, .f .f32 Y0.Bend, .sl (Y0.We.map (cF .f32)), .f .f32 Y0.Fall.X, .f .f32 Y0.Fall.Y, .f .f32 Y0.Fall.Z], .vec 40 3 (Y0.Me.Pq.map Gv.c) false, .nest 49 (Y0.Me.Tr.map fun l=>l.map (cI .i64)) false, .vec 133 4 (Y0.Sp.map Gs.c) false, .vec 27 1 (Y0.We.map (cF .f32)) false, .vec 2 1 (YG.map (cI .i64)) false, .vec 40 3 (((Ze Y0 YG YM YH).1.Me.Pq).map Gv.c) false, .nest 49 (((Ze Y0 YG YM YH).1.Me.Tr).map fun l=>l.map (cI .i64)) false, .vec 133 4 (((Ze Y0 YG YM YH).1.Sp).map Gs.c) false, .vec 27 1 (((Ze Y0 YG YM YH).1.We).map (cF .f32)) false, .box 42 [.own 6, .own 7, .own 8, .f .f32 ((Ze Y0 YG YM YH).1.Film), .f .f32 ((Ze Y0 YG YM YH).1.Bend), .own 9, .f .f32 ((Ze Y0 YG YM YH).1.Fall.X), .f .f32 ((Ze Y0 YG YM YH).1.Fall.Y), .f .f32 ((Ze Y0 YG YM YH).1.Fall.Z)], .vec 40 3 (((Z6 Y0 1).2.1).map Gv.c) false, .nest 49 (((Z6 Y0 1).2.2.1).map fun l=>l.map (cI .i64)) false, .vec 133 4 (((Z6 Y0 1).2.2.2.1).map Gs.c) false, .vec 27 1 (((Z6 Y0 1).2.2.2.2).map (cF .f32)) false, .box 42 [.own 11, .own 12, .own 13, .f .f32 Y0.Film, .f .f32 Y0.Bend, .own 14, .f .f32 Y0.Fall.X, .f .f32 Y0.Fall.Y, .f .f32 Y0.Fall.Z], .vec 2 1 (YG.map (cI .i64)) false, .vec 40 3 (((Z4 Y0 YG YM YH).1.Me.Pq).map Gv.c) false, .nest 49 (((Z4 Y0 YG YM YH).1.Me.Tr).map fun l=>l.map (cI .i64)) false, .vec 133 4 (((Z4 Y0 YG YM YH).1.Sp).map Gs.c) false, .vec 27 1 (((Z4 Y0 YG YM YH).1.We).map (cF .f32)) false, .box 42 [.own 17, .own 18, .own 19, .f .f32 ((Z4 Y0 YG YM YH).1.Film), .f .f32 ((Z4 Y0 YG YM YH).1.Bend), .own 20, .f .f32 ((Z4 Y0 YG YM YH).1.Fall.X), .f .f32 ((Z4 Y0 YG YM YH).1.Fall.Y), .f .f32 ((Z4 Y0 YG YM YH).1.Fall.Z)], .vec 40 3 (Y0.Me.Pq.map Gv.c) false, .nest 49 (Y0.Me.Tr.map fun l=>l.map (cI .i64)) false, .vec 133 4 (Y0.Sp.map Gs.c) false, .vec 27 1 (Y0.We.map (cF .f32)) false, .vec 2 1 (YG.map (cI .i64)) false]) (args':=[.own 16, .i .i64 ((Z6 Y0 1).1)]) rfl rfl rfl rfl rfl rfl)<|s)
        clear p
        cases h7:(decide ((Z2y YG ((Z6 Y0 1).1)).1 < 0)) with
        | true =>
         have gh7:=odt h7
         refine fnS E0Ok Z7 (c:=X0 f9) [] (.b false) [] func9 (q (sB h7<|sB h7<|sB h7<|sB h7<|sB h7<|sB (show true=true from rfl)<|sB (show true=true from rfl)<|sB (show true=true from rfl)<|sB (show true=true from rfl)<|sB (show true=true from rfl)<|sB (show true=true from rfl)<|sB (show true=true from rfl)<|sB (show true=true from rfl)<|sB (show true=true from rfl)<|sK [] sN)) rfl (by kernel_rfl) (by kernel_rfl) rfl ?_ ?_
         · simp only [Z1n,h0,h1,h2,h3,h4,h5,h6,h7,cond_true,cond_false]
         · rfl
        | false =>
         have gh7:=odf h7
         have y16:(⟨(⟨(Z6 ((Z4 Y0 YG YM YH).1) 1).2.1,(Z6 ((Z4 Y0 YG YM YH).1) 1).2.2.1⟩:Gm),(Z6 ((Z4 Y0 YG YM YH).1) 1).2.2.2.1,(Z4 Y0 YG YM YH).1.Film,(Z4 Y0 YG YM YH).1.Bend,(Z6 ((Z4 Y0 YG YM YH).1) 1).2.2.2.2,(Z4 Y0 YG YM YH).1.Fall⟩:Gb).Me.Pq.length≤1073741824:=by clear q;exact (by simp_all<;>omega)
         have y17:(⟨(⟨(Z6 ((Z4 Y0 YG YM YH).1) 1).2.1,(Z6 ((Z4 Y0 YG YM YH).1) 1).2.2.1⟩:Gm),(Z6 ((Z4 Y0 YG YM YH).1) 1).2.2.2.1,(Z4 Y0 YG YM YH).1.Film,(Z4 Y0 YG YM YH).1.Bend,(Z6 ((Z4 Y0 YG YM YH).1) 1).2.2.2.2,(Z4 Y0 YG YM YH).1.Fall⟩:Gb).Me.Tr.length≤1073741824:=by clear q;exact (by simp_all<;>omega)
         have y18:∀ t∈(⟨(⟨(Z6 ((Z4 Y0 YG YM YH).1) 1).2.1,(Z6 ((Z4 Y0 YG YM YH).1) 1).2.2.1⟩:Gm),(Z6 ((Z4 Y0 YG YM YH).1) 1).2.2.2.1,(Z4 Y0 YG YM YH).1.Film,(Z4 Y0 YG YM YH).1.Bend,(Z6 ((Z4 Y0 YG YM YH).1) 1).2.2.2.2,(Z4 Y0 YG YM YH).1.Fall⟩:Gb).Me.Tr,t.length≤1073741824:=by clear q;exact (by exact Zcn _ _ _ (by assumption))
         have y19:(⟨(⟨(Z6 ((Z4 Y0 YG YM YH).1) 1).2.1,(Z6 ((Z4 Y0 YG YM YH).1) 1).2.2.1⟩:Gm),(Z6 ((Z4 Y0 YG YM YH).1) 1).2.2.2.1,(Z4 Y0 YG YM YH).1.Film,(Z4 Y0 YG YM YH).1.Bend,(Z6 ((Z4 Y0 YG YM YH).1) 1).2.2.2.2,(Z4 Y0 YG YM YH).1.Fall⟩:Gb).Sp.length≤1073741824:=by clear q;exact (by simp_all<;>omega)
         have y20:(⟨(⟨(Z6 ((Z4 Y0 YG YM YH).1) 1).2.1,(Z6 ((Z4 Y0 YG YM YH).1) 1).2.2.1⟩:Gm),(Z6 ((Z4 Y0 YG YM YH).1) 1).2.2.2.1,(Z4 Y0 YG YM YH).1.Film,(Z4 Y0 YG YM YH).1.Bend,(Z6 ((Z4 Y0 YG YM YH).1) 1).2.2.2.2,(Z4 Y0 YG YM YH).1.Fall⟩:Gb).We.length≤1073741824:=by clear q;exact (by simp_all<;>omega)
         have p {a C} (s:Scr a C):=q (sB h7<|sB h7<|sB h7<|sF (Fn.castA (args':=[.agg [.sl (((Z4 Y0 YG YM YH).1.Me.Pq).map Gv.c), .sl ((((Z4 Y0 YG YM YH).1.Me.Tr).map fun l=>l.map (cI .i64)).map fun l => [.sl l]), .sl (((Z4 Y0 YG YM YH).1.Sp).map Gs.c), .f .f32 ((Z4 Y0 YG YM YH).1.Film), .f .f32 ((Z4 Y0 YG YM YH).1.Bend), .sl (((Z4 Y0 YG YM YH).1.We).map (cF .f32)), .f .f32 ((Z4 Y0 YG YM YH).1.Fall.X), .f .f32 ((Z4 Y0 YG YM YH).1.Fall.Y), .f .f32 ((Z4 Y0 YG YM YH).1.Fall.Z)], .agg [.sl (((Ze Y0 YG YM YH).1.Me.Pq).map Gv.c), .sl ((((Ze Y0 YG YM YH).1.Me.Tr).map fun l=>l.map (cI .i64)).map fun l => [.sl l]), .sl (((Ze Y0 YG YM YH).1.Sp).map Gs.c), .f .f32 ((Ze Y0 YG YM YH).1.Film), .f .f32 ((Ze Y0 YG YM YH).1.Bend), .sl (((Ze Y0 YG YM YH).1.We).map (cF .f32)), .f .f32 ((Ze Y0 YG YM YH).1.Fall.X), .f .f32 ((Ze Y0 YG YM YH).1.Fall.Y), .f .f32 ((Ze Y0 YG YM YH).1.Fall.Z)]]) (Z8A ((Z4 Y0 YG YM YH).1) ((Ze Y0 YG YM YH).1) y6 y7 y8 y9 y10 y11 y12 y13 y14 y15) (by simp [cL,Function.comp_def];done))<|sB h7<|sB h7<|sB' h2<|sB' h2<|sB' h2<|sB' h2<|sB h3<|sB h3<|sB h3<|sB h3<|sB' h4<|sS (X4.frame (Z65 ((Z4 Y0 YG YM YH).1) 1 y6 y7 y8 y9 y10) [17,18,19,20] (R:=[.box 32 [.sl (Y0.Me.Pq.map Gv.c), .sl (Y0.Me.Tr.map (cL (cI .i64))), .sl (Y0.Sp.map Gs.c), .f .f32 Y0.Film, .f .f32 Y0.Bend, .sl (Y0.We.map (cF .f32)), .f .f32 Y0.Fall.X, .f .f32 Y0.Fall.Y, .f .f32 Y0.Fall.Z], .vec 40 3 (Y0.Me.Pq.map Gv.c) false, .nest 49 (Y0.Me.Tr.map fun l=>l.map (cI .i64)) false, .vec 133 4 (Y0.Sp.map Gs.c) false, .vec 27 1 (Y0.We.map (cF .f32)) false, .vec 2 1 (YG.map (cI .i64)) false, .vec 40 3 (((Ze Y0 YG YM YH).1.Me.Pq).map Gv.c) false, .nest 49 (((Ze Y0 YG YM YH).1.Me.Tr).map fun l=>l.map (cI .i64)) false, .vec 133 4 (((Ze Y0 YG YM YH).1.Sp).map Gs.c) false, .vec 27 1 (((Ze Y0 YG YM YH).1.We).map (cF .f32)) false, .box 42 [.own 6, .own 7, .own 8, .f .f32 ((Ze Y0 YG YM YH).1.Film), .f .f32 ((Ze Y0 YG YM YH).1.Bend), .own 9, .f .f32 ((Ze Y0 YG YM YH).1.Fall.X), .f .f32 ((Ze Y0 YG YM YH).1.Fall.Y), .f .f32 ((Ze Y0 YG YM YH).1.Fall.Z)], .vec 40 3 (((Z6 Y0 1).2.1).map Gv.c) false, .nest 49 (((Z6 Y0 1).2.2.1).map fun l=>l.map (cI .i64)) false, .vec 133 4 (((Z6 Y0 1).2.2.2.1).map Gs.c) false, .vec 27 1 (((Z6 Y0 1).2.2.2.2).map (cF .f32)) false, .box 42 [.own 11, .own 12, .own 13, .f .f32 Y0.Film, .f .f32 Y0.Bend, .own 14, .f .f32 Y0.Fall.X, .f .f32 Y0.Fall.Y, .f .f32 Y0.Fall.Z], .vec 2 1 (((Z2y YG ((Z6 Y0 1).1)).2).map (cI .i64)) false, .vec 40 3 (((Z4 Y0 YG YM YH).1.Me.Pq).map Gv.c) false, .nest 49 (((Z4 Y0 YG YM YH).1.Me.Tr).map fun l=>l.map (cI .i64)) false, .vec 133 4 (((Z4 Y0 YG YM YH).1.Sp).map Gs.c) false, .vec 27 1 (((Z4 Y0 YG YM YH).1.We).map (cF .f32)) false, .box 42 [.own 17, .own 18, .own 19, .f .f32 ((Z4 Y0 YG YM YH).1.Film), .f .f32 ((Z4 Y0 YG YM YH).1.Bend), .own 20, .f .f32 ((Z4 Y0 YG YM YH).1.Fall.X), .f .f32 ((Z4 Y0 YG YM YH).1.Fall.Y), .f .f32 ((Z4 Y0 YG YM YH).1.Fall.Z)], .vec 40 3 (Y0.Me.Pq.map Gv.c) false, .nest 49 (Y0.Me.Tr.map fun l=>l.map (cI .i64)) false, .vec 133 4 (Y0.Sp.map Gs.c) false, .vec 27 1 (Y0.We.map (cF .f32)) false, .vec 2 1 (YG.map (cI .i64)) false]) (args':=[.agg [.own 17, .own 18, .own 19, .f .f32 ((Z4 Y0 YG YM YH).1.Film), .f .f32 ((Z4 Y0 YG YM YH).1.Bend), .own 20, .f .f32 ((Z4 Y0 YG YM YH).1.Fall.X), .f .f32 ((Z4 Y0 YG YM YH).1.Fall.Y), .f .f32 ((Z4 Y0 YG YM YH).1.Fall.Z)], .i .i64 1]) rfl rfl rfl rfl rfl rfl)<|sF (Fn.castA (args':=[.agg [.sl (((Z6 ((Z4 Y0 YG YM YH).1) 1).2.1).map Gv.c), .sl ((((Z6 ((Z4 Y0 YG YM YH).1) 1).2.2.1).map fun l=>l.map (cI .i64)).map fun l => [.sl l]), .sl (((Z6 ((Z4 Y0 YG YM YH).1) 1).2.2.2.1).map Gs.c), .f .f32 ((Z4 Y0 YG YM YH).1.Film), .f .f32 ((Z4 Y0 YG YM YH).1.Bend), .sl (((Z6 ((Z4 Y0 YG YM YH).1) 1).2.2.2.2).map (cF .f32)), .f .f32 ((Z4 Y0 YG YM YH).1.Fall.X), .f .f32 ((Z4 Y0 YG YM YH).1.Fall.Y), .f .f32 ((Z4 Y0 YG YM YH).1.Fall.Z)], .i .i64 1]) (ZcK (⟨(⟨(Z6 ((Z4 Y0 YG YM YH).1) 1).2.1,(Z6 ((Z4 Y0 YG YM YH).1) 1).2.2.1⟩:Gm),(Z6 ((Z4 Y0 YG YM YH).1) 1).2.2.2.1,(Z4 Y0 YG YM YH).1.Film,(Z4 Y0 YG YM YH).1.Bend,(Z6 ((Z4 Y0 YG YM YH).1) 1).2.2.2.2,(Z4 Y0 YG YM YH).1.Fall⟩:Gb) 1 y16 y17 y18 y19 y20) (by simp [cL,Function.comp_def];done))<|s)
         clear q
         cases h8:(decide ((Z3H (⟨(⟨(Z6 ((Z4 Y0 YG YM YH).1) 1).2.1,(Z6 ((Z4 Y0 YG YM YH).1) 1).2.2.1⟩:Gm),(Z6 ((Z4 Y0 YG YM YH).1) 1).2.2.2.1,(Z4 Y0 YG YM YH).1.Film,(Z4 Y0 YG YM YH).1.Bend,(Z6 ((Z4 Y0 YG YM YH).1) 1).2.2.2.2,(Z4 Y0 YG YM YH).1.Fall⟩:Gb) 1) < 0)) with
         | true =>
          have gh8:=odt h8
          refine fnS E0Ok Z7 (c:=X0 f9) [] (.b false) [] func9 (p (sB h8<|sK [] sN)) rfl (by kernel_rfl) (by kernel_rfl) rfl ?_ ?_
          · simp only [Z1n,h0,h1,h2,h3,h4,h5,h6,h7,h8,cond_true,cond_false]
          · rfl
         | false =>
          have gh8:=odf h8
          have q {a C} (s:Scr a C):=p (sB h8<|s)
          clear p
          cases h9:((Z3H (⟨(⟨(Z6 ((Z4 Y0 YG YM YH).1) 1).2.1,(Z6 ((Z4 Y0 YG YM YH).1) 1).2.2.1⟩:Gm),(Z6 ((Z4 Y0 YG YM YH).1) 1).2.2.2.1,(Z4 Y0 YG YM YH).1.Film,(Z4 Y0 YG YM YH).1.Bend,(Z6 ((Z4 Y0 YG YM YH).1) 1).2.2.2.2,(Z4 Y0 YG YM YH).1.Fall⟩:Gb) 1) != (Z6 ((Z4 Y0 YG YM YH).1) 1).1) with
          | true =>
           have gh9:=bne_iff_ne.1 h9
           refine fnS E0Ok Z7 (c:=X0 f9) [] (.b false) [] func9 (q (sB h9<|sK [] sN)) rfl (by kernel_rfl) (by kernel_rfl) rfl ?_ ?_
           · simp only [Z1n,h0,h1,h2,h3,h4,h5,h6,h7,h8,h9,cond_true,cond_false]
           · rfl
          | false =>
           have gh9:=bne_eq_false_iff_eq.1 h9
           refine fnS E0Ok Z7 (c:=X0 f9) [] (.b true) [] func9 (q (sB h9<|sF (Z8w Y0 y0 y1 y2 y3 y4)<|sF (Z5T YG y5)<|sF (Fn.castA (args':=[.agg [.sl (Y0.Me.Pq.map Gv.c), .sl ((Y0.Me.Tr.map fun l=>l.map (cI .i64)).map fun l => [.sl l]), .sl (Y0.Sp.map Gs.c), .f .f32 Y0.Film, .f .f32 Y0.Bend, .sl (Y0.We.map (cF .f32)), .f .f32 Y0.Fall.X, .f .f32 Y0.Fall.Y, .f .f32 Y0.Fall.Z], .sl (YG.map (cI .i64)), .f .f32 YM, .i .i64 YH]) (ZcD Y0 YG YM YH y0 y1 y2 y3 y4 y5) (by simp [cL,Function.comp_def];done))<|sF (Fn.castA (args':=[.agg [.sl (((Z4 Y0 YG YM YH).1.Me.Pq).map Gv.c), .sl ((((Z4 Y0 YG YM YH).1.Me.Tr).map fun l=>l.map (cI .i64)).map fun l => [.sl l]), .sl (((Z4 Y0 YG YM YH).1.Sp).map Gs.c), .f .f32 ((Z4 Y0 YG YM YH).1.Film), .f .f32 ((Z4 Y0 YG YM YH).1.Bend), .sl (((Z4 Y0 YG YM YH).1.We).map (cF .f32)), .f .f32 ((Z4 Y0 YG YM YH).1.Fall.X), .f .f32 ((Z4 Y0 YG YM YH).1.Fall.Y), .f .f32 ((Z4 Y0 YG YM YH).1.Fall.Z)], .agg [.sl (((Ze Y0 YG YM YH).1.Me.Pq).map Gv.c), .sl ((((Ze Y0 YG YM YH).1.Me.Tr).map fun l=>l.map (cI .i64)).map fun l => [.sl l]), .sl (((Ze Y0 YG YM YH).1.Sp).map Gs.c), .f .f32 ((Ze Y0 YG YM YH).1.Film), .f .f32 ((Ze Y0 YG YM YH).1.Bend), .sl (((Ze Y0 YG YM YH).1.We).map (cF .f32)), .f .f32 ((Ze Y0 YG YM YH).1.Fall.X), .f .f32 ((Ze Y0 YG YM YH).1.Fall.Y), .f .f32 ((Ze Y0 YG YM YH).1.Fall.Z)]]) (Z8A ((Z4 Y0 YG YM YH).1) ((Ze Y0 YG YM YH).1) y6 y7 y8 y9 y10 y11 y12 y13 y14 y15) (by simp [cL,Function.comp_def];done))<|sB' h2<|sB' h2<|sB' h2<|sB' h2<|sB h3<|sB h3<|sB h3<|sB h3<|sB' h4<|sF (Fn.castA (args':=[.agg [.sl (((Z6 ((Z4 Y0 YG YM YH).1) 1).2.1).map Gv.c), .sl ((((Z6 ((Z4 Y0 YG YM YH).1) 1).2.2.1).map fun l=>l.map (cI .i64)).map fun l => [.sl l]), .sl (((Z6 ((Z4 Y0 YG YM YH).1) 1).2.2.2.1).map Gs.c), .f .f32 ((Z4 Y0 YG YM YH).1.Film), .f .f32 ((Z4 Y0 YG YM YH).1.Bend), .sl (((Z6 ((Z4 Y0 YG YM YH).1) 1).2.2.2.2).map (cF .f32)), .f .f32 ((Z4 Y0 YG YM YH).1.Fall.X), .f .f32 ((Z4 Y0 YG YM YH).1.Fall.Y), .f .f32 ((Z4 Y0 YG YM YH).1.Fall.Z)], .i .i64 1]) (ZcK (⟨(⟨(Z6 ((Z4 Y0 YG YM YH).1) 1).2.1,(Z6 ((Z4 Y0 YG YM YH).1) 1).2.2.1⟩:Gm),(Z6 ((Z4 Y0 YG YM YH).1) 1).2.2.2.1,(Z4 Y0 YG YM YH).1.Film,(Z4 Y0 YG YM YH).1.Bend,(Z6 ((Z4 Y0 YG YM YH).1) 1).2.2.2.2,(Z4 Y0 YG YM YH).1.Fall⟩:Gb) 1 y16 y17 y18 y19 y20) (by simp [cL,Function.comp_def];done))<|sB h8<|sB h9<|sK [] sN)) rfl (by kernel_rfl) (by kernel_rfl) rfl ?_ ?_
           · simp only [Z1n,h0,h1,h2,h3,h4,h5,h6,h7,h8,h9,cond_true,cond_false]
           · rfl
       | false =>
        refine fnS E0Ok Z7 (c:=X0 f9) [] (.b false) [] func9 (p (sB' h6<|sK [] sN)) rfl (by kernel_rfl) (by kernel_rfl) rfl ?_ ?_
        · simp only [Z1n,h0,h1,h2,h3,h4,h5,h6,cond_true,cond_false]
        · rfl
      | false =>
       refine fnS E0Ok Z7 (c:=X0 f9) [] (.b false) [] func9 (q (sB' h5<|sK [] sN)) rfl (by kernel_rfl) (by kernel_rfl) rfl ?_ ?_
       · simp only [Z1n,h0,h1,h2,h3,h4,h5,cond_true,cond_false]
       · rfl
     | false =>
      have gh4:=ne_of_beq_false h4
      refine fnS E0Ok Z7 (c:=X0 f9) [] (.b false) [] func9 (p (sB' h4<|sK [] sN)) rfl (by kernel_rfl) (by kernel_rfl) rfl ?_ ?_
      · simp only [Z1n,h0,h1,h2,h3,h4,cond_true,cond_false]
      · rfl
   | false =>
    refine fnS E0Ok Z7 (c:=X0 f9) [] (.b false) [] func9 (p (sB' h2<|sB' h2<|sB' h2<|sB' h2<|sB (show true=true from rfl)<|sB (show true=true from rfl)<|sB (show true=true from rfl)<|sB (show true=true from rfl)<|sB (show true=true from rfl)<|sK [] sN)) rfl (by kernel_rfl) (by kernel_rfl) rfl ?_ ?_
    · simp only [Z1n,h0,h1,h2,cond_false]
    · rfl
theorem Zgx (a:List Gv) (c:Int):Z2i (ZH a c).2 c=(ZH a c).1:=by
  rw [ZhV,ZcG,X2D (fun x c=>by simp [Zbj,Z6O,X22]) (fun x c=>rfl)]
theorem ZgV (a:List Int) (c:Int):Z1A (ZA a c).2 c=(ZA a c).1:=by
  rw [Zir,Zda,X2D (fun x c=>by simp [Zcl,Z7X,X22]) (fun x c=>rfl)]
theorem Zg5 (a:List (List Int)) (c:Int) (g0:a.length≤1073741824) (g1:∀ t∈a,t.length≤1073741824) (h0:0≤c) (h1:c≤3458764513820540928):Z3c (Z1c a c).2 c=(Z1c a c).1:=by
  rw [ZhF,Zci,X4v (W:=1073741824) (M:=4611686018427387904) a c (fun x hx c k0 k1=>by
    have q:=Zch x c (g1 x hx) k0 (by omega)
    have q2:=ZgV x c
    refine ⟨?_,q2,q.1,q.2⟩
    rw [q2]
    simp;omega) h0 (by omega)]
theorem Zg6 (a:Gm) (c:Int) (g0:a.Pq.length≤1073741824) (g1:a.Tr.length≤1073741824) (g2:∀ t∈a.Tr,t.length≤1073741824) (h0:0≤c) (h1:c≤1152921504606846976):Z2e ⟨(Zk a c).2.1,(Zk a c).2.2⟩ c=(Zk a c).1:=by
  have p0:=ZbO a.Pq c g0 (by omega) (by omega)
  have q0:=Zgx a.Pq c
  have p1:=Zbf a.Tr ((ZH a.Pq c).1) g1 g2 (by omega) (by omega)
  have q1:=Zg5 a.Tr ((ZH a.Pq c).1) g1 g2 (by omega) (by omega)
  unfold Z2e
  simp only [Zk,true_and] at *
  simp only [q0,q1]
  repeat (rw [decide_eq_false (by omega),cond_false])
  try rfl
theorem Zgy (a:List Gs) (c:Int):Z2j (ZI a c).2 c=(ZI a c).1:=by
  rw [ZhW,ZcH,X2D (fun x c=>by simp [Zbk,Z6R,X22]) (fun x c=>rfl)]
theorem Zg7 (a:List Nat) (c:Int):Z2Z (Z1d a c).2 c=(Z1d a c).1:=by
  rw [ZhG,Zcj,X2D (fun x c=>by simp [Zab,Z6g,X22]) (fun x c=>rfl)]
theorem Zco (a:Gb) (c:Int) (g0:a.Me.Pq.length≤1073741824) (g1:a.Me.Tr.length≤1073741824) (g2:∀ t∈a.Me.Tr,t.length≤1073741824) (g3:a.Sp.length≤1073741824) (g4:a.We.length≤1073741824) (h0:0≤c) (h1:c≤1152921504606846976):Z3H ⟨⟨(Z6 a c).2.1,(Z6 a c).2.2.1⟩,(Z6 a c).2.2.2.1,a.Film,a.Bend,(Z6 a c).2.2.2.2,a.Fall⟩ c=(Z6 a c).1:=by
  have p0:=Zbg a.Me c g0 g1 g2 (by omega) (by omega)
  have q0:=Zg6 a.Me c g0 g1 g2 (by omega) (by omega)
  have p1:=ZbP a.Sp ((Zk a.Me c).1) g3 (by omega) (by omega)
  have q1:=Zgy a.Sp ((Zk a.Me c).1)
  have p2:=Zbi a.We ((ZI a.Sp ((Zk a.Me c).1)).1) g4 (by omega) (by omega)
  have q2:=Zg7 a.We ((ZI a.Sp ((Zk a.Me c).1)).1)
  unfold Z3H
  simp only [Z6,Zk] at *
  simp only [q0,q1,q2]
  repeat (rw [decide_eq_false (by omega),cond_false])
  try rfl
theorem Zc1 (a:Gb) (c:(List Int)) (x:Nat) (y:Int) (h0_0:a.Me.Pq.length≤9223372036854775807) (h0_1:a.Me.Tr.length≤9223372036854775807) (h0_2:∀ t∈a.Me.Tr,t.length≤9223372036854775807) (h0_3:a.Sp.length≤9223372036854775807) (h0_4:a.We.length≤9223372036854775807) (h1_0:c.length≤9223372036854775807):Z1n a c x y=true:=by
  unfold Z1n
  cases hc1:decide ((c.length:Int) > 1048576) with
  | true=>rfl
  | false =>
    simp only [decide_eq_false_iff_not] at hc1
    have z0:=ZcU a 1048576 h0_0 h0_1 h0_2 h0_3 h0_4 (by omega) (by omega)
    cases hc0:decide (Z2J a 1048576 < 0) with
    | true=>rfl
    | false =>
      simp only [decide_eq_false_iff_not] at hc0
      have hm0:=Z7q a 1 (by omega) (by omega) (fun t ht=>by have q:=z0.2.2.2.2.2.2 t ht;omega) (by omega) (by omega) (by omega) (by omega)
      have hm1:=Zg4 c ((Z6 a 1).1) (by omega) (by omega) (by omega)
      have l0:=ZbK a c x y
      have l1:=ZbL a c x y
      have l2:=ZbM a c x y
      have l3:=ZbN a c x y
      have v0:=Z7q (Z4 a c x y).1 1 (by omega) (by omega) (fun t ht=>by have q:=z0.2.2.2.2.2.2 t (Z8n a c x y t ht);omega) (by omega) (by omega) (by omega) (by omega)
      have w0:=Zco (Z4 a c x y).1 1 (by omega) (by omega) (fun t ht=>by have q:=z0.2.2.2.2.2.2 t (Z8n a c x y t ht);omega) (by omega) (by omega) (by omega) (by omega)
      simp only [Z6V] at *
      simp only [ZhU,ZdR,Zbb,w0,beq_self_eq_true,Bool.not_true,cond_true,cond_false,bne_self_eq_false]
      rw [decide_eq_false (by omega)]
      rw [decide_eq_false (by omega)]
      rfl
end Go.Ab
