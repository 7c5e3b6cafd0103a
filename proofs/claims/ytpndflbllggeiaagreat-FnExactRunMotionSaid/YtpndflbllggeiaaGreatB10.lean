/- The functions of this seat as plain Lean, and that the program's are these. Printed by a program of the prover's own. -/
import Derived.Test.YtpndflbllggeiaaGreatB9
set_option linter.unusedVariables false
set_option linter.unusedSimpArgs false
set_option maxRecDepth 100000
namespace Go.Ab
open Go.RowKit Go.Proofs.Tryz
theorem Zix (m:Gm) (h:List Int):Zy m h=ZY m h:=by kernel_rfl
theorem Ziy (b:Gb):Z1N b=Z1C b:=by kernel_rfl
theorem Ziz (b:Gb):Z1O b=Z1D b:=by kernel_rfl
theorem ZiA (b:Gb):Z1P b=Z1E b:=by kernel_rfl
theorem ZiB (b:Gb) (h:Z6 b.Me=Z2 b.Me):∀ (k:Nat) (x:Int) (r:List Nat),Z1G b k x r=Z1p b k x r:=by
  intro k
  induction k with
  | zero => intro x r; rfl
  | succ k ih =>
    intro x r
    rw [Z1G,Z1p,ih]
    unfold Z40 Z3L
    rw [h,Zix]
    rfl
theorem Zie (b:Gb) (ok:OkBd b):Z12 b=ZU b:=by
  have h:Z6 b.Me=Z2 b.Me:=by rw [Z6q _ ok.e,Z9a _ ok.e]
  unfold Z12 ZU Z4L Z4F Z2z Z2r Z2y Z2q Z2x Z2p
  rw [Ziy,Ziz,ZiA,ZiB b h,h]
theorem Zaj (b:Gb):(Z12 b).length=4:=by
  unfold Z12
  rw [Zbx,Zbw,Zbv,Zbu]; simp
theorem Zgw (Ya:Gb) (hp0:Ya.Me.Pq.length≤1073741824) (hp1:Ya.Me.Tr.length≤1073741824) (hp2:∀ t∈Ya.Me.Tr,t.length≤1073741824) (hp3:Ya.Sp.length≤1073741824) (hp4:Ya.We.length≤1073741824) (hp5:OkBd Ya)  : Fn prog 129 [.agg [.sl (Ya.Me.Pq.map Gv.c), .sl (Ya.Me.Tr.map (cL (cI .i64))), .sl (Ya.Sp.map Gs.c), .f .f32 Ya.Film, .f .f32 Ya.Bend, .sl (Ya.We.map (cF .f32)), .f .f32 Ya.Fall.X, .f .f32 Ya.Fall.Y, .f .f32 Ya.Fall.Z]] (.own 0) [.vec 27 1 ((Z12 Ya).map (cF .f32)) false]:=by
 have y0:(0:Int)≤4:=(by omega)
 have y1:(4:Int)≤2147483648:=(by omega)
 have y2:OkE Ya.Me.Pq.length Ya.Me.Tr:=(by exact hp5.e)
 refine fnS E0Ok Z4 (c:=X0 f129) [] (.own 0) [.vec 27 1 ((Z4L Ya).map (cF .f32)) false] func129 (sC (show (4:Int)=4 from rfl) <| sC y0 <| sC y1 <| sZ Gs.c Ya.Sp <| sL (mR false [0,4,10,5,98]) 2 (Xj (st2:=⟨.agg [.sl (Ya.Me.Pq.map Gv.c), .sl (Ya.Me.Tr.map (cL (cI .i64))), .sl (Ya.Sp.map Gs.c), .f .f32 Ya.Film, .f .f32 Ya.Bend, .sl (Ya.We.map (cF .f32)), .f .f32 Ya.Fall.X, .f .f32 Ya.Fall.Y, .f .f32 Ya.Fall.Z] :: .ptr 0 0 0 :: .nils :: .own 1 :: an 10 (.own 1 :: .ptr 0 0 2 :: .sl (Ya.Sp.map Gs.c) :: .i .i64 (Ya.Sp.length:Int) :: .i .i64 0 :: an 98 []),[.box 42 [.sl (Ya.Me.Pq.map Gv.c), .sl (Ya.Me.Tr.map (cL (cI .i64))), .sl (Ya.Sp.map Gs.c), .f .f32 Ya.Film, .f .f32 Ya.Bend, .sl (Ya.We.map (cF .f32)), .f .f32 Ya.Fall.X, .f .f32 Ya.Fall.Y, .f .f32 Ya.Fall.Z], .vec 27 1 (List.replicate (Int.toNat 4) [.f .f32 0]) false]⟩) (X1 (Z7Z Ya) (x:=(Z2x Ya)) (Zf8 Ya hp0 hp1 hp2 hp3 hp4 hp5 (((Ya.Sp.length:Int) - 0).toNat + 1) 0 (List.replicate 4 0) (show 0≤0 from (by omega)) (show (List.replicate 4 0).length=4 from (by simp; done)) (Nat.lt_succ_self _)) rfl) (by simp [Z80,cF])) <| sZ (cL (cI .i64)) Ya.Me.Tr <| sL (mR false [0,4,10,3,25,5,70]) 2 (X1 (Z81 Ya) (x:=(Z2y Ya)) (Zf9 Ya hp0 hp1 hp2 hp3 hp4 hp5 (((Ya.Me.Tr.length:Int) - 0).toNat + 1) 0 (Z2x Ya) (show 0≤0 from (by omega)) (show (Z2x Ya).length=(Z2x Ya).length from (by omega)) (Nat.lt_succ_self _)) rfl) <| sF (Zcc Ya.Me hp0 hp1 hp2 y2) <| sM (X28 (l:=(Z6 Ya.Me)) (f:=fun l => l.map (cI .i64))) <| sL Za5 3 (X1 (Z82 Ya) (x:=(Z2z Ya)) (Zfa Ya hp0 hp1 hp2 hp3 hp4 hp5 ((((Z6 Ya.Me).length:Int) - 0).toNat + 1) 0 (Z2y Ya) (show 0≤0 from (by omega)) (show (Z2y Ya).length=(Z2y Ya).length from (by omega)) (Nat.lt_succ_self _)) rfl) <| sZ Gv.c Ya.Me.Pq <| sL Za8 3 (X1 (Z83 Ya) (x:=(Z4L Ya)) (Zfb Ya hp0 hp1 hp2 hp3 hp4 hp5 (((Ya.Me.Pq.length:Int) - 0).toNat + 1) 0 (Z2z Ya) (show 0≤0 from (by omega)) (show (Z2z Ya).length=(Z2z Ya).length from (by omega)) (Nat.lt_succ_self _)) rfl) <| sK [1] sN) rfl (by kernel_rfl) (by kernel_rfl) rfl ?_ ?_
 · rfl
 · simp [Z12]
def Z7G (Ya:Gb):Nat:=(fop .add .f32 (fop .add .f32 (fop .add .f32 ((Z12 Ya).getD 0 default) ((Z12 Ya).getD 1 default)) ((Z12 Ya).getD 2 default)) ((Z12 Ya).getD 3 default))
def Z3J (Ya:Gb):Nat:=(Z7G Ya)
theorem ZhL (b:Gb) (ok:OkBd b):Z3J b=Z3e b:=by
  unfold Z3J Z3e Z7G Z70
  rw [Zie b ok]
theorem Zge (Ya:Gb) (hp0:Ya.Me.Pq.length≤1073741824) (hp1:Ya.Me.Tr.length≤1073741824) (hp2:∀ t∈Ya.Me.Tr,t.length≤1073741824) (hp3:Ya.Sp.length≤1073741824) (hp4:Ya.We.length≤1073741824) (hp5:OkBd Ya)  : Fn prog 85 [.agg [.sl (Ya.Me.Pq.map Gv.c), .sl (Ya.Me.Tr.map (cL (cI .i64))), .sl (Ya.Sp.map Gs.c), .f .f32 Ya.Film, .f .f32 Ya.Bend, .sl (Ya.We.map (cF .f32)), .f .f32 Ya.Fall.X, .f .f32 Ya.Fall.Y, .f .f32 Ya.Fall.Z]] (.f .f32 (Z3J Ya)) []:=by
 have y0:(0:Int)≤0:=(by omega)
 have y1:0 < ((Z12 Ya).length:Int):=(by have q:=Zaj Ya; omega)
 have y2:0 < (Z12 Ya).length:=(by omega)
 have y3:(0:Int)≤1:=(by omega)
 have y4:1 < ((Z12 Ya).length:Int):=(by have q:=Zaj Ya; omega)
 have y5:1 < (Z12 Ya).length:=(by omega)
 have y6:(0:Int)≤2:=(by omega)
 have y7:2 < ((Z12 Ya).length:Int):=(by have q:=Zaj Ya; omega)
 have y8:2 < (Z12 Ya).length:=(by omega)
 have y9:(0:Int)≤3:=(by omega)
 have y10:3 < ((Z12 Ya).length:Int):=(by have q:=Zaj Ya; omega)
 have y11:3 < (Z12 Ya).length:=(by omega)
 refine fnS E0Ok Z4 (c:=X0 f85) [] (.f .f32 (Z7G Ya)) [] func85 (sF (Zgw Ya hp0 hp1 hp2 hp3 hp4 hp5) <| sK [14,14] <| sX (cF .f32) (Z12 Ya) 0 y0 y1 <| sV (cF .f32) (Z12 Ya) 0 y2 <| sX (cF .f32) (Z12 Ya) 1 y3 y4 <| sV (cF .f32) (Z12 Ya) 1 y5 <| sX (cF .f32) (Z12 Ya) 2 y6 y7 <| sV (cF .f32) (Z12 Ya) 2 y8 <| sX (cF .f32) (Z12 Ya) 3 y9 y10 <| sV (cF .f32) (Z12 Ya) 3 y11 <| sK [] sN) rfl (by kernel_rfl) (by kernel_rfl) rfl ?_ ?_
 · rfl
 · rfl
theorem Zhj (m:Gn) (e:Zt m=true):m.Sd.length=m.Body.Me.Pq.length:=by
  unfold Zt at e
  cases h1:Z1I m.Body <;> rw [h1] at e <;> (try (cases e; done))
  rw [cond_true,beq_iff_eq] at e
  omega
theorem Zdu {m M:Gn} (e:m.Sd.length=m.Body.Me.Pq.length) (k:Z4P m M) (h:List Int) (a d t:Nat):Z4P m (Z9 M h a d t):=by
  unfold Z9
  refine ⟨by rw [Zhx]; exact Zg6 k.1 _ _,?_⟩
  simp only [Z4e,ZbR]
  rw [k.1.1,e]
def Z2A (Y3:Gn) (Y2:(List Int)) (Y6:Nat) (Y9:Nat) (Y5:Nat) (Yf:Int):Nat→Int→(List Gv)→(List (List Int))→(List Gs)→(List Nat)→(List Gv)→(List Nat)→Nat→Nat→Nat→Nat→Nat→Nat × Nat × Nat × Nat × Nat × (List Nat) × (List Gv) × (List (List Int)) × (List Gs) × (List Nat) × (List Gv)
  | 0,_,_,_,_,_,_,_,_,_,_,_,_ => default
  | k + 1,Y1,Yb,Yj,Yk,Yl,Ym,Yx,YI,YJ,YK,Yv,Yr => (cond (decide (Y1 < Yf))
    (Z2A Y3 Y2 Y6 Y9 Y5 Yf k (Y1 + 1) ((Z9 (⟨(⟨(⟨Yb,Yj⟩:Gm),Yk,YI,YJ,Yl,(⟨YK,Yv,Yr⟩:Gv)⟩:Gb),Ym⟩:Gn) Y2 Y6 Y9 Y5).Body.Me.Pq) ((Z9 (⟨(⟨(⟨Yb,Yj⟩:Gm),Yk,YI,YJ,Yl,(⟨YK,Yv,Yr⟩:Gv)⟩:Gb),Ym⟩:Gn) Y2 Y6 Y9 Y5).Body.Me.Tr) ((Z9 (⟨(⟨(⟨Yb,Yj⟩:Gm),Yk,YI,YJ,Yl,(⟨YK,Yv,Yr⟩:Gv)⟩:Gb),Ym⟩:Gn) Y2 Y6 Y9 Y5).Body.Sp) ((Z9 (⟨(⟨(⟨Yb,Yj⟩:Gm),Yk,YI,YJ,Yl,(⟨YK,Yv,Yr⟩:Gv)⟩:Gb),Ym⟩:Gn) Y2 Y6 Y9 Y5).Body.We) ((Z9 (⟨(⟨(⟨Yb,Yj⟩:Gm),Yk,YI,YJ,Yl,(⟨YK,Yv,Yr⟩:Gv)⟩:Gb),Ym⟩:Gn) Y2 Y6 Y9 Y5).Sd) (Yx ++ [(Z3J ((Z9 (⟨(⟨(⟨Yb,Yj⟩:Gm),Yk,YI,YJ,Yl,(⟨YK,Yv,Yr⟩:Gv)⟩:Gb),Ym⟩:Gn) Y2 Y6 Y9 Y5).Body))]) ((Z9 (⟨(⟨(⟨Yb,Yj⟩:Gm),Yk,YI,YJ,Yl,(⟨YK,Yv,Yr⟩:Gv)⟩:Gb),Ym⟩:Gn) Y2 Y6 Y9 Y5).Body.Film) ((Z9 (⟨(⟨(⟨Yb,Yj⟩:Gm),Yk,YI,YJ,Yl,(⟨YK,Yv,Yr⟩:Gv)⟩:Gb),Ym⟩:Gn) Y2 Y6 Y9 Y5).Body.Bend) ((Z9 (⟨(⟨(⟨Yb,Yj⟩:Gm),Yk,YI,YJ,Yl,(⟨YK,Yv,Yr⟩:Gv)⟩:Gb),Ym⟩:Gn) Y2 Y6 Y9 Y5).Body.Fall.X) ((Z9 (⟨(⟨(⟨Yb,Yj⟩:Gm),Yk,YI,YJ,Yl,(⟨YK,Yv,Yr⟩:Gv)⟩:Gb),Ym⟩:Gn) Y2 Y6 Y9 Y5).Body.Fall.Y) ((Z9 (⟨(⟨(⟨Yb,Yj⟩:Gm),Yk,YI,YJ,Yl,(⟨YK,Yv,Yr⟩:Gv)⟩:Gb),Ym⟩:Gn) Y2 Y6 Y9 Y5).Body.Fall.Z))
    (YI,YJ,YK,Yv,Yr,Yx,Yb,Yj,Yk,Yl,Ym))
def Z74 (Y3:Gn) (Y2:(List Int)) (Y6:Nat) (Y9:Nat) (Y5:Nat) (Yf:Int) (r:Nat × Nat × Nat × Nat × Nat × (List Nat) × (List Gv) × (List (List Int)) × (List Gs) × (List Nat) × (List Gv)):Ex × St:=((.exit 0),⟨.agg [.sl (Y3.Body.Me.Pq.map Gv.c), .sl (Y3.Body.Me.Tr.map (cL (cI .i64))), .sl (Y3.Body.Sp.map Gs.c), .f .f32 Y3.Body.Film, .f .f32 Y3.Body.Bend, .sl (Y3.Body.We.map (cF .f32)), .f .f32 Y3.Body.Fall.X, .f .f32 Y3.Body.Fall.Y, .f .f32 Y3.Body.Fall.Z, .sl (Y3.Sd.map Gv.c)] :: .sl (Y2.map (cI .i64)) :: .f .f32 Y6 :: .any :: .f .f32 Y5 :: .i .i64 Yf :: .ptr 0 0 0 :: an 5 (.ptr 1 0 0 :: .nils :: .b false :: .ptr 2 0 0 :: .own 3 :: .agg [.sl (Y3.Body.Me.Pq.map Gv.c), .sl (Y3.Body.Me.Tr.map (cL (cI .i64))), .sl (Y3.Body.Sp.map Gs.c), .f .f32 Y3.Body.Film, .f .f32 Y3.Body.Bend, .sl (Y3.Body.We.map (cF .f32)), .f .f32 Y3.Body.Fall.X, .f .f32 Y3.Body.Fall.Y, .f .f32 Y3.Body.Fall.Z, .sl (Y3.Sd.map Gv.c)] :: .b (Zt Y3) :: .b (!(Zt Y3)) :: .b (!(Zt Y3)) :: .ptr 0 0 0 :: .agg [.sl (Y3.Body.Me.Pq.map Gv.c), .sl (Y3.Body.Me.Tr.map (cL (cI .i64))), .sl (Y3.Body.Sp.map Gs.c), .f .f32 Y3.Body.Film, .f .f32 Y3.Body.Bend, .sl (Y3.Body.We.map (cF .f32)), .f .f32 Y3.Body.Fall.X, .f .f32 Y3.Body.Fall.Y, .f .f32 Y3.Body.Fall.Z] :: .sl (Y2.map (cI .i64)) :: .b (ZE Y3.Body Y2) :: .b (!(ZE Y3.Body Y2)) :: .b (!(ZE Y3.Body Y2)) :: .b (!(ZE Y3.Body Y2)) :: .f .f32 Y6 :: .b (Zh Y6) :: .b (!(Zh Y6)) :: .b (!(Zh Y6)) :: .b (!(Zh Y6)) :: .f .f32 Y5 :: .b (Zh Y5) :: .b (!(Zh Y5)) :: .b (!(Zh Y5)) :: .b (!(Zh Y5)) :: .i .i64 Yf :: .b (Zs Yf 0 40) :: .b (!(Zs Yf 0 40)) :: .b (!(Zs Yf 0 40)) :: .any :: .ptr 0 0 0 :: .agg [.sl (Y3.Body.Me.Pq.map Gv.c), .sl (Y3.Body.Me.Tr.map (cL (cI .i64))), .sl (Y3.Body.Sp.map Gs.c), .f .f32 Y3.Body.Film, .f .f32 Y3.Body.Bend, .sl (Y3.Body.We.map (cF .f32)), .f .f32 Y3.Body.Fall.X, .f .f32 Y3.Body.Fall.Y, .f .f32 Y3.Body.Fall.Z] :: .any :: .any :: .ptr 0 0 9 :: .sl (Y3.Sd.map Gv.c) :: an 21 []),[.box 66 [.sl (Y3.Body.Me.Pq.map Gv.c), .sl (Y3.Body.Me.Tr.map (cL (cI .i64))), .sl (Y3.Body.Sp.map Gs.c), .f .f32 Y3.Body.Film, .f .f32 Y3.Body.Bend, .sl (Y3.Body.We.map (cF .f32)), .f .f32 Y3.Body.Fall.X, .f .f32 Y3.Body.Fall.Y, .f .f32 Y3.Body.Fall.Z, .sl (Y3.Sd.map Gv.c)], .box 66 [.nils, .nils, .nils, .f .f32 0, .f .f32 0, .nils, .f .f32 0, .f .f32 0, .f .f32 0, .nils], .box 66 [.own 4, .own 5, .own 6, .f .f32 r.1, .f .f32 r.2.1, .own 7, .f .f32 r.2.2.1, .f .f32 r.2.2.2.1, .f .f32 r.2.2.2.2.1, .own 8], .vec 27 1 (r.2.2.2.2.2.1.map (cF .f32)) false, .vec 40 3 (r.2.2.2.2.2.2.1.map Gv.c) false, .nest 49 (r.2.2.2.2.2.2.2.1.map fun l => l.map (cI .i64)) false, .vec 133 4 (r.2.2.2.2.2.2.2.2.1.map Gs.c) false, .vec 27 1 (r.2.2.2.2.2.2.2.2.2.1.map (cF .f32)) false, .vec 40 3 (r.2.2.2.2.2.2.2.2.2.2.map Gv.c) false]⟩)
def Z75 (Y3:Gn) (Y2:(List Int)) (Y6:Nat) (Y9:Nat) (Y5:Nat) (Yf:Int) (Y1:Int) (Yb:(List Gv)) (Yj:(List (List Int))) (Yk:(List Gs)) (Yl:(List Nat)) (Ym:(List Gv)) (Yx:(List Nat)) (YI:Nat) (YJ:Nat) (YK:Nat) (Yv:Nat) (Yr:Nat):St:=⟨.agg [.sl (Y3.Body.Me.Pq.map Gv.c), .sl (Y3.Body.Me.Tr.map (cL (cI .i64))), .sl (Y3.Body.Sp.map Gs.c), .f .f32 Y3.Body.Film, .f .f32 Y3.Body.Bend, .sl (Y3.Body.We.map (cF .f32)), .f .f32 Y3.Body.Fall.X, .f .f32 Y3.Body.Fall.Y, .f .f32 Y3.Body.Fall.Z, .sl (Y3.Sd.map Gv.c)] :: .sl (Y2.map (cI .i64)) :: .f .f32 Y6 :: .f .f32 Y9 :: .f .f32 Y5 :: .i .i64 Yf :: .ptr 0 0 0 :: an 5 (.ptr 1 0 0 :: .nils :: .b false :: .ptr 8 0 0 :: .own 7 :: .agg [.sl (Y3.Body.Me.Pq.map Gv.c), .sl (Y3.Body.Me.Tr.map (cL (cI .i64))), .sl (Y3.Body.Sp.map Gs.c), .f .f32 Y3.Body.Film, .f .f32 Y3.Body.Bend, .sl (Y3.Body.We.map (cF .f32)), .f .f32 Y3.Body.Fall.X, .f .f32 Y3.Body.Fall.Y, .f .f32 Y3.Body.Fall.Z, .sl (Y3.Sd.map Gv.c)] :: .b (Zt Y3) :: .b (!(Zt Y3)) :: .b (!(Zt Y3)) :: .ptr 0 0 0 :: .agg [.sl (Y3.Body.Me.Pq.map Gv.c), .sl (Y3.Body.Me.Tr.map (cL (cI .i64))), .sl (Y3.Body.Sp.map Gs.c), .f .f32 Y3.Body.Film, .f .f32 Y3.Body.Bend, .sl (Y3.Body.We.map (cF .f32)), .f .f32 Y3.Body.Fall.X, .f .f32 Y3.Body.Fall.Y, .f .f32 Y3.Body.Fall.Z] :: .sl (Y2.map (cI .i64)) :: .b (ZE Y3.Body Y2) :: .b (!(ZE Y3.Body Y2)) :: .b (!(ZE Y3.Body Y2)) :: .b (!(ZE Y3.Body Y2)) :: .f .f32 Y6 :: .b (Zh Y6) :: .b (!(Zh Y6)) :: .b (!(Zh Y6)) :: .b (!(Zh Y6)) :: .f .f32 Y5 :: .b (Zh Y5) :: .b (!(Zh Y5)) :: .b (!(Zh Y5)) :: .b (!(Zh Y5)) :: .i .i64 Yf :: .b (Zs Yf 0 40) :: .b (!(Zs Yf 0 40)) :: .b (!(Zs Yf 0 40)) :: .any :: .ptr 0 0 0 :: .agg [.sl (Y3.Body.Me.Pq.map Gv.c), .sl (Y3.Body.Me.Tr.map (cL (cI .i64))), .sl (Y3.Body.Sp.map Gs.c), .f .f32 Y3.Body.Film, .f .f32 Y3.Body.Bend, .sl (Y3.Body.We.map (cF .f32)), .f .f32 Y3.Body.Fall.X, .f .f32 Y3.Body.Fall.Y, .f .f32 Y3.Body.Fall.Z] :: .any :: .any :: .ptr 0 0 9 :: .sl (Y3.Sd.map Gv.c) :: .any :: .any :: .any :: .i .i64 Yf :: .i .i64 Y1 :: an 16 []),[.box 66 [.sl (Y3.Body.Me.Pq.map Gv.c), .sl (Y3.Body.Me.Tr.map (cL (cI .i64))), .sl (Y3.Body.Sp.map Gs.c), .f .f32 Y3.Body.Film, .f .f32 Y3.Body.Bend, .sl (Y3.Body.We.map (cF .f32)), .f .f32 Y3.Body.Fall.X, .f .f32 Y3.Body.Fall.Y, .f .f32 Y3.Body.Fall.Z, .sl (Y3.Sd.map Gv.c)], .box 66 [.nils, .nils, .nils, .f .f32 0, .f .f32 0, .nils, .f .f32 0, .f .f32 0, .f .f32 0, .nils], .vec 40 3 (Yb.map Gv.c) false, .nest 49 (Yj.map fun l => l.map (cI .i64)) false, .vec 133 4 (Yk.map Gs.c) false, .vec 27 1 (Yl.map (cF .f32)) false, .vec 40 3 (Ym.map Gv.c) false, .vec 27 1 (Yx.map (cF .f32)) false, .box 66 [.own 2, .own 3, .own 4, .f .f32 YI, .f .f32 YJ, .own 5, .f .f32 YK, .f .f32 Yv, .f .f32 Yr, .own 6]]⟩
def Z8Q:List Bool:=(mR false [0,7,5,30,1,2,2,2,3,2,16])
def ZcP:List Bool:=(mR false [0,3,1,3,5,30,1,2,2,2,21])
set_option maxHeartbeats 1000000 in
theorem Ze5 (Y3:Gn) (Y2:(List Int)) (Y6:Nat) (Y9:Nat) (Y5:Nat) (Yf:Int) (hp0:Y3.Body.Me.Pq.length≤1073741824) (hp1:Y3.Body.Me.Tr.length≤1073741824) (hp2:∀ t∈Y3.Body.Me.Tr,t.length≤1073741824) (hp3:Y3.Body.Sp.length≤1073741824) (hp4:Y3.Body.We.length≤1073741824) (hp5:Y3.Sd.length≤1073741824) (hp6:Y2.length≤1073741824) (Z62:(ZE Y3.Body Y2)=true) (Z54:(Zt Y3)=true) (Z63:(Zs Yf 0 40)=true):∀ (k:Nat) (Y1:Int) (Yb:(List Gv)) (Yj:(List (List Int))) (Yk:(List Gs)) (Yl:(List Nat)) (Ym:(List Gv)) (Yx:(List Nat)) (YI:Nat) (YJ:Nat) (YK:Nat) (Yv:Nat) (Yr:Nat) (Z8R:0≤Y1) (Z3H:Z4P Y3 (⟨(⟨(⟨Yb,Yj⟩:Gm),Yk,YI,YJ,Yl,(⟨YK,Yv,Yr⟩:Gv)⟩:Gb),Ym⟩:Gn)) (Z8S:(Yx.length:Int)≤Y1) (hk:(Yf - Y1).toNat < k),Lp prog 0 (sub (X0 f46) [1,1,1,0,1,0,0]) (Z75 Y3 Y2 Y6 Y9 Y5 Yf Y1 Yb Yj Yk Yl Ym Yx YI YJ YK Yv Yr) (Z74 Y3 Y2 Y6 Y9 Y5 Yf (Z2A Y3 Y2 Y6 Y9 Y5 Yf k Y1 Yb Yj Yk Yl Ym Yx YI YJ YK Yv Yr)).1 (Z74 Y3 Y2 Y6 Y9 Y5 Yf (Z2A Y3 Y2 Y6 Y9 Y5 Yf k Y1 Yb Yj Yk Yl Ym Yx YI YJ YK Yv Yr)).2:=by
 intro k
 induction k with
 | zero => intro Y1 Yb Yj Yk Yl Ym Yx YI YJ YK Yv Yr Z8R Z3H Z8S hk; exact absurd hk (Nat.not_lt_zero _)
 | succ k ih =>
  intro Y1 Yb Yj Yk Yl Ym Yx YI YJ YK Yv Yr Z8R Z3H Z8S hk
  cases Yn:(decide (Y1 < Yf)) with
  | true =>
   have YM:=odt Yn
   have YS:(⟨(⟨(⟨Yb,Yj⟩:Gm),Yk,YI,YJ,Yl,(⟨YK,Yv,Yr⟩:Gv)⟩:Gb),Ym⟩:Gn).Body.Me.Pq.length≤1073741824:=(by have q:=Z42 Z3H; simp only at q ⊢; omega)
   have YT:(⟨(⟨(⟨Yb,Yj⟩:Gm),Yk,YI,YJ,Yl,(⟨YK,Yv,Yr⟩:Gv)⟩:Gb),Ym⟩:Gn).Body.Me.Tr.length≤1073741824:=(by have q:=Z42 Z3H; simp only at q ⊢; omega)
   have YY:∀ t∈(⟨(⟨(⟨Yb,Yj⟩:Gm),Yk,YI,YJ,Yl,(⟨YK,Yv,Yr⟩:Gv)⟩:Gb),Ym⟩:Gn).Body.Me.Tr,t.length≤1073741824:=(by with_reducible exact Zc8 hp2 (by with_reducible assumption))
   have YZ:(⟨(⟨(⟨Yb,Yj⟩:Gm),Yk,YI,YJ,Yl,(⟨YK,Yv,Yr⟩:Gv)⟩:Gb),Ym⟩:Gn).Body.Sp.length≤1073741824:=(by have q:=Z42 Z3H; simp only at q ⊢; omega)
   have y_4:(⟨(⟨(⟨Yb,Yj⟩:Gm),Yk,YI,YJ,Yl,(⟨YK,Yv,Yr⟩:Gv)⟩:Gb),Ym⟩:Gn).Body.We.length≤1073741824:=(by have q:=Z42 Z3H; simp only at q ⊢; omega)
   have y_5:(⟨(⟨(⟨Yb,Yj⟩:Gm),Yk,YI,YJ,Yl,(⟨YK,Yv,Yr⟩:Gv)⟩:Gb),Ym⟩:Gn).Sd.length≤1073741824:=(by have q:=Z42 Z3H; simp only at q ⊢; omega)
   have y_6:OkBd (⟨(⟨(⟨Yb,Yj⟩:Gm),Yk,YI,YJ,Yl,(⟨YK,Yv,Yr⟩:Gv)⟩:Gb),Ym⟩:Gn).Body:=(by with_reducible exact Z7O (ZbC _ (Zcd _ _ Z62).1) (by with_reducible assumption))
   have y_7:(⟨(⟨(⟨Yb,Yj⟩:Gm),Yk,YI,YJ,Yl,(⟨YK,Yv,Yr⟩:Gv)⟩:Gb),Ym⟩:Gn).Sd.length=(⟨(⟨(⟨Yb,Yj⟩:Gm),Yk,YI,YJ,Yl,(⟨YK,Yv,Yr⟩:Gv)⟩:Gb),Ym⟩:Gn).Body.Me.Pq.length:=(by with_reducible exact Zeq (Zhj _ Z54) (by with_reducible assumption))
   have y_8:OkIx (⟨(⟨(⟨Yb,Yj⟩:Gm),Yk,YI,YJ,Yl,(⟨YK,Yv,Yr⟩:Gv)⟩:Gb),Ym⟩:Gn).Body.Me.Pq.length (fun x => x) Y2:=(by with_reducible exact Zd8 (Zgp _ _ hp0 (Zcd _ _ Z62).2) (by with_reducible assumption))
   have l_1:=(ZdU (⟨(⟨(⟨Yb,Yj⟩:Gm),Yk,YI,YJ,Yl,(⟨YK,Yv,Yr⟩:Gv)⟩:Gb),Ym⟩:Gn) Y2 Y6 Y9 Y5)
   have l_2:=(ZdV (⟨(⟨(⟨Yb,Yj⟩:Gm),Yk,YI,YJ,Yl,(⟨YK,Yv,Yr⟩:Gv)⟩:Gb),Ym⟩:Gn) Y2 Y6 Y9 Y5)
   have l_3:=(ZdW (⟨(⟨(⟨Yb,Yj⟩:Gm),Yk,YI,YJ,Yl,(⟨YK,Yv,Yr⟩:Gv)⟩:Gb),Ym⟩:Gn) Y2 Y6 Y9 Y5)
   have l_4:=(ZdX (⟨(⟨(⟨Yb,Yj⟩:Gm),Yk,YI,YJ,Yl,(⟨YK,Yv,Yr⟩:Gv)⟩:Gb),Ym⟩:Gn) Y2 Y6 Y9 Y5)
   have l_5:=(ZdY (⟨(⟨(⟨Yb,Yj⟩:Gm),Yk,YI,YJ,Yl,(⟨YK,Yv,Yr⟩:Gv)⟩:Gb),Ym⟩:Gn) Y2 Y6 Y9 Y5)
   have y_9:((Z9 (⟨(⟨(⟨Yb,Yj⟩:Gm),Yk,YI,YJ,Yl,(⟨YK,Yv,Yr⟩:Gv)⟩:Gb),Ym⟩:Gn) Y2 Y6 Y9 Y5).Body).Me.Pq.length≤1073741824:=(by omega)
   have Y19:((Z9 (⟨(⟨(⟨Yb,Yj⟩:Gm),Yk,YI,YJ,Yl,(⟨YK,Yv,Yr⟩:Gv)⟩:Gb),Ym⟩:Gn) Y2 Y6 Y9 Y5).Body).Me.Tr.length≤1073741824:=(by omega)
   have Y1g:∀ t∈((Z9 (⟨(⟨(⟨Yb,Yj⟩:Gm),Yk,YI,YJ,Yl,(⟨YK,Yv,Yr⟩:Gv)⟩:Gb),Ym⟩:Gn) Y2 Y6 Y9 Y5).Body).Me.Tr,t.length≤1073741824:=(by with_reducible exact Zc8 hp2 (Zdu (Zhj _ Z54) (by with_reducible assumption) _ _ _ _))
   have Y1j:((Z9 (⟨(⟨(⟨Yb,Yj⟩:Gm),Yk,YI,YJ,Yl,(⟨YK,Yv,Yr⟩:Gv)⟩:Gb),Ym⟩:Gn) Y2 Y6 Y9 Y5).Body).Sp.length≤1073741824:=(by omega)
   have Y1k:((Z9 (⟨(⟨(⟨Yb,Yj⟩:Gm),Yk,YI,YJ,Yl,(⟨YK,Yv,Yr⟩:Gv)⟩:Gb),Ym⟩:Gn) Y2 Y6 Y9 Y5).Body).We.length≤1073741824:=(by omega)
   have Y1r:OkBd ((Z9 (⟨(⟨(⟨Yb,Yj⟩:Gm),Yk,YI,YJ,Yl,(⟨YK,Yv,Yr⟩:Gv)⟩:Gb),Ym⟩:Gn) Y2 Y6 Y9 Y5).Body):=(by with_reducible exact Z7O (ZbC _ (Zcd _ _ Z62).1) (Zdu (Zhj _ Z54) (by with_reducible assumption) _ _ _ _))
   have Y1s:Yx.length + ([(Z3J ((Z9 (⟨(⟨(⟨Yb,Yj⟩:Gm),Yk,YI,YJ,Yl,(⟨YK,Yv,Yr⟩:Gv)⟩:Gb),Ym⟩:Gn) Y2 Y6 Y9 Y5).Body))]).length≤1073741824:=(by have w:=in40 (n:=Yf) Z63; (simp; omega))
   have Y1t:(-9223372036854775808:Int)≤(Y1 + 1):=(by omega)
   have Y1u:(Y1 + 1)≤(9223372036854775807:Int):=(by have w:=in40 (n:=Yf) Z63; omega)
   have e:Z2A Y3 Y2 Y6 Y9 Y5 Yf (k + 1) Y1 Yb Yj Yk Yl Ym Yx YI YJ YK Yv Yr=(Z2A Y3 Y2 Y6 Y9 Y5 Yf k (Y1 + 1) ((Z9 (⟨(⟨(⟨Yb,Yj⟩:Gm),Yk,YI,YJ,Yl,(⟨YK,Yv,Yr⟩:Gv)⟩:Gb),Ym⟩:Gn) Y2 Y6 Y9 Y5).Body.Me.Pq) ((Z9 (⟨(⟨(⟨Yb,Yj⟩:Gm),Yk,YI,YJ,Yl,(⟨YK,Yv,Yr⟩:Gv)⟩:Gb),Ym⟩:Gn) Y2 Y6 Y9 Y5).Body.Me.Tr) ((Z9 (⟨(⟨(⟨Yb,Yj⟩:Gm),Yk,YI,YJ,Yl,(⟨YK,Yv,Yr⟩:Gv)⟩:Gb),Ym⟩:Gn) Y2 Y6 Y9 Y5).Body.Sp) ((Z9 (⟨(⟨(⟨Yb,Yj⟩:Gm),Yk,YI,YJ,Yl,(⟨YK,Yv,Yr⟩:Gv)⟩:Gb),Ym⟩:Gn) Y2 Y6 Y9 Y5).Body.We) ((Z9 (⟨(⟨(⟨Yb,Yj⟩:Gm),Yk,YI,YJ,Yl,(⟨YK,Yv,Yr⟩:Gv)⟩:Gb),Ym⟩:Gn) Y2 Y6 Y9 Y5).Sd) (Yx ++ [(Z3J ((Z9 (⟨(⟨(⟨Yb,Yj⟩:Gm),Yk,YI,YJ,Yl,(⟨YK,Yv,Yr⟩:Gv)⟩:Gb),Ym⟩:Gn) Y2 Y6 Y9 Y5).Body))]) ((Z9 (⟨(⟨(⟨Yb,Yj⟩:Gm),Yk,YI,YJ,Yl,(⟨YK,Yv,Yr⟩:Gv)⟩:Gb),Ym⟩:Gn) Y2 Y6 Y9 Y5).Body.Film) ((Z9 (⟨(⟨(⟨Yb,Yj⟩:Gm),Yk,YI,YJ,Yl,(⟨YK,Yv,Yr⟩:Gv)⟩:Gb),Ym⟩:Gn) Y2 Y6 Y9 Y5).Body.Bend) ((Z9 (⟨(⟨(⟨Yb,Yj⟩:Gm),Yk,YI,YJ,Yl,(⟨YK,Yv,Yr⟩:Gv)⟩:Gb),Ym⟩:Gn) Y2 Y6 Y9 Y5).Body.Fall.X) ((Z9 (⟨(⟨(⟨Yb,Yj⟩:Gm),Yk,YI,YJ,Yl,(⟨YK,Yv,Yr⟩:Gv)⟩:Gb),Ym⟩:Gn) Y2 Y6 Y9 Y5).Body.Fall.Y) ((Z9 (⟨(⟨(⟨Yb,Yj⟩:Gm),Yk,YI,YJ,Yl,(⟨YK,Yv,Yr⟩:Gv)⟩:Gb),Ym⟩:Gn) Y2 Y6 Y9 Y5).Body.Fall.Z)):=by simp only [Z2A,Yn,cond_true]
   rw [e]
   exact X8 E0Ok Z4 [] Z8Q [0,1,9,10,11,12,13,7,8] (⟨.agg [.sl (Y3.Body.Me.Pq.map Gv.c), .sl (Y3.Body.Me.Tr.map (cL (cI .i64))), .sl (Y3.Body.Sp.map Gs.c), .f .f32 Y3.Body.Film, .f .f32 Y3.Body.Bend, .sl (Y3.Body.We.map (cF .f32)), .f .f32 Y3.Body.Fall.X, .f .f32 Y3.Body.Fall.Y, .f .f32 Y3.Body.Fall.Z, .sl (Y3.Sd.map Gv.c)] :: .sl (Y2.map (cI .i64)) :: .f .f32 Y6 :: .f .f32 Y9 :: .f .f32 Y5 :: .i .i64 Yf :: .ptr 0 0 0 :: an 5 (.ptr 1 0 0 :: .nils :: .b false :: .ptr 8 0 0 :: .own 7 :: .agg [.sl (Y3.Body.Me.Pq.map Gv.c), .sl (Y3.Body.Me.Tr.map (cL (cI .i64))), .sl (Y3.Body.Sp.map Gs.c), .f .f32 Y3.Body.Film, .f .f32 Y3.Body.Bend, .sl (Y3.Body.We.map (cF .f32)), .f .f32 Y3.Body.Fall.X, .f .f32 Y3.Body.Fall.Y, .f .f32 Y3.Body.Fall.Z, .sl (Y3.Sd.map Gv.c)] :: .b (Zt Y3) :: .b (!(Zt Y3)) :: .b (!(Zt Y3)) :: .ptr 0 0 0 :: .agg [.sl (Y3.Body.Me.Pq.map Gv.c), .sl (Y3.Body.Me.Tr.map (cL (cI .i64))), .sl (Y3.Body.Sp.map Gs.c), .f .f32 Y3.Body.Film, .f .f32 Y3.Body.Bend, .sl (Y3.Body.We.map (cF .f32)), .f .f32 Y3.Body.Fall.X, .f .f32 Y3.Body.Fall.Y, .f .f32 Y3.Body.Fall.Z] :: .sl (Y2.map (cI .i64)) :: .b (ZE Y3.Body Y2) :: .b (!(ZE Y3.Body Y2)) :: .b (!(ZE Y3.Body Y2)) :: .b (!(ZE Y3.Body Y2)) :: .f .f32 Y6 :: .b (Zh Y6) :: .b (!(Zh Y6)) :: .b (!(Zh Y6)) :: .b (!(Zh Y6)) :: .f .f32 Y5 :: .b (Zh Y5) :: .b (!(Zh Y5)) :: .b (!(Zh Y5)) :: .b (!(Zh Y5)) :: .i .i64 Yf :: .b (Zs Yf 0 40) :: .b (!(Zs Yf 0 40)) :: .b (!(Zs Yf 0 40)) :: .any :: .ptr 0 0 0 :: .agg [.sl (Y3.Body.Me.Pq.map Gv.c), .sl (Y3.Body.Me.Tr.map (cL (cI .i64))), .sl (Y3.Body.Sp.map Gs.c), .f .f32 Y3.Body.Film, .f .f32 Y3.Body.Bend, .sl (Y3.Body.We.map (cF .f32)), .f .f32 Y3.Body.Fall.X, .f .f32 Y3.Body.Fall.Y, .f .f32 Y3.Body.Fall.Z] :: .any :: .any :: .ptr 0 0 9 :: .sl (Y3.Sd.map Gv.c) :: .any :: .any :: .any :: .i .i64 Yf :: .i .i64 (Y1 + 1) :: an 16 []),[.box 66 [.sl (Y3.Body.Me.Pq.map Gv.c), .sl (Y3.Body.Me.Tr.map (cL (cI .i64))), .sl (Y3.Body.Sp.map Gs.c), .f .f32 Y3.Body.Film, .f .f32 Y3.Body.Bend, .sl (Y3.Body.We.map (cF .f32)), .f .f32 Y3.Body.Fall.X, .f .f32 Y3.Body.Fall.Y, .f .f32 Y3.Body.Fall.Z, .sl (Y3.Sd.map Gv.c)], .box 66 [.nils, .nils, .nils, .f .f32 0, .f .f32 0, .nils, .f .f32 0, .f .f32 0, .f .f32 0, .nils], .vec 40 3 (((Z9 (⟨(⟨(⟨Yb,Yj⟩:Gm),Yk,YI,YJ,Yl,(⟨YK,Yv,Yr⟩:Gv)⟩:Gb),Ym⟩:Gn) Y2 Y6 Y9 Y5).Body.Me.Pq).map Gv.c) false, .nest 49 (((Z9 (⟨(⟨(⟨Yb,Yj⟩:Gm),Yk,YI,YJ,Yl,(⟨YK,Yv,Yr⟩:Gv)⟩:Gb),Ym⟩:Gn) Y2 Y6 Y9 Y5).Body.Me.Tr).map fun l => l.map (cI .i64)) false, .vec 133 4 (((Z9 (⟨(⟨(⟨Yb,Yj⟩:Gm),Yk,YI,YJ,Yl,(⟨YK,Yv,Yr⟩:Gv)⟩:Gb),Ym⟩:Gn) Y2 Y6 Y9 Y5).Body.Sp).map Gs.c) false, .vec 27 1 (((Z9 (⟨(⟨(⟨Yb,Yj⟩:Gm),Yk,YI,YJ,Yl,(⟨YK,Yv,Yr⟩:Gv)⟩:Gb),Ym⟩:Gn) Y2 Y6 Y9 Y5).Body.We).map (cF .f32)) false, .vec 40 3 (((Z9 (⟨(⟨(⟨Yb,Yj⟩:Gm),Yk,YI,YJ,Yl,(⟨YK,Yv,Yr⟩:Gv)⟩:Gb),Ym⟩:Gn) Y2 Y6 Y9 Y5).Sd).map Gv.c) false, .vec 27 1 ((Yx.map (cF .f32)) ++ ([[.f .f32 (Z3J ((Z9 (⟨(⟨(⟨Yb,Yj⟩:Gm),Yk,YI,YJ,Yl,(⟨YK,Yv,Yr⟩:Gv)⟩:Gb),Ym⟩:Gn) Y2 Y6 Y9 Y5).Body))]]:List (List AV))) false, .box 66 [.own 2, .own 3, .own 4, .f .f32 ((Z9 (⟨(⟨(⟨Yb,Yj⟩:Gm),Yk,YI,YJ,Yl,(⟨YK,Yv,Yr⟩:Gv)⟩:Gb),Ym⟩:Gn) Y2 Y6 Y9 Y5).Body.Film), .f .f32 ((Z9 (⟨(⟨(⟨Yb,Yj⟩:Gm),Yk,YI,YJ,Yl,(⟨YK,Yv,Yr⟩:Gv)⟩:Gb),Ym⟩:Gn) Y2 Y6 Y9 Y5).Body.Bend), .own 5, .f .f32 ((Z9 (⟨(⟨(⟨Yb,Yj⟩:Gm),Yk,YI,YJ,Yl,(⟨YK,Yv,Yr⟩:Gv)⟩:Gb),Ym⟩:Gn) Y2 Y6 Y9 Y5).Body.Fall.X), .f .f32 ((Z9 (⟨(⟨(⟨Yb,Yj⟩:Gm),Yk,YI,YJ,Yl,(⟨YK,Yv,Yr⟩:Gv)⟩:Gb),Ym⟩:Gn) Y2 Y6 Y9 Y5).Body.Fall.Y), .f .f32 ((Z9 (⟨(⟨(⟨Yb,Yj⟩:Gm),Yk,YI,YJ,Yl,(⟨YK,Yv,Yr⟩:Gv)⟩:Gb),Ym⟩:Gn) Y2 Y6 Y9 Y5).Body.Fall.Z), .own 6]]⟩) (sB Yn <| sF (Fn.castA (args':=[.agg [.sl (Yb.map Gv.c), .sl ((Yj.map fun l => l.map (cI .i64)).map fun l => [.sl l]), .sl (Yk.map Gs.c), .f .f32 YI, .f .f32 YJ, .sl (Yl.map (cF .f32)), .f .f32 YK, .f .f32 Yv, .f .f32 Yr, .sl (Ym.map Gv.c)], .sl (Y2.map (cI .i64)), .f .f32 Y6, .f .f32 Y9, .f .f32 Y5]) (Zf7 (⟨(⟨(⟨Yb,Yj⟩:Gm),Yk,YI,YJ,Yl,(⟨YK,Yv,Yr⟩:Gv)⟩:Gb),Ym⟩:Gn) Y2 Y6 Y9 Y5 YS YT YY YZ y_4 y_5 hp6 y_6 y_7 y_8) (by simp [cL,Function.comp_def]; done)) <| sF (Fn.castA (args':=[.agg [.sl (((Z9 (⟨(⟨(⟨Yb,Yj⟩:Gm),Yk,YI,YJ,Yl,(⟨YK,Yv,Yr⟩:Gv)⟩:Gb),Ym⟩:Gn) Y2 Y6 Y9 Y5).Body.Me.Pq).map Gv.c), .sl ((((Z9 (⟨(⟨(⟨Yb,Yj⟩:Gm),Yk,YI,YJ,Yl,(⟨YK,Yv,Yr⟩:Gv)⟩:Gb),Ym⟩:Gn) Y2 Y6 Y9 Y5).Body.Me.Tr).map fun l => l.map (cI .i64)).map fun l => [.sl l]), .sl (((Z9 (⟨(⟨(⟨Yb,Yj⟩:Gm),Yk,YI,YJ,Yl,(⟨YK,Yv,Yr⟩:Gv)⟩:Gb),Ym⟩:Gn) Y2 Y6 Y9 Y5).Body.Sp).map Gs.c), .f .f32 ((Z9 (⟨(⟨(⟨Yb,Yj⟩:Gm),Yk,YI,YJ,Yl,(⟨YK,Yv,Yr⟩:Gv)⟩:Gb),Ym⟩:Gn) Y2 Y6 Y9 Y5).Body.Film), .f .f32 ((Z9 (⟨(⟨(⟨Yb,Yj⟩:Gm),Yk,YI,YJ,Yl,(⟨YK,Yv,Yr⟩:Gv)⟩:Gb),Ym⟩:Gn) Y2 Y6 Y9 Y5).Body.Bend), .sl (((Z9 (⟨(⟨(⟨Yb,Yj⟩:Gm),Yk,YI,YJ,Yl,(⟨YK,Yv,Yr⟩:Gv)⟩:Gb),Ym⟩:Gn) Y2 Y6 Y9 Y5).Body.We).map (cF .f32)), .f .f32 ((Z9 (⟨(⟨(⟨Yb,Yj⟩:Gm),Yk,YI,YJ,Yl,(⟨YK,Yv,Yr⟩:Gv)⟩:Gb),Ym⟩:Gn) Y2 Y6 Y9 Y5).Body.Fall.X), .f .f32 ((Z9 (⟨(⟨(⟨Yb,Yj⟩:Gm),Yk,YI,YJ,Yl,(⟨YK,Yv,Yr⟩:Gv)⟩:Gb),Ym⟩:Gn) Y2 Y6 Y9 Y5).Body.Fall.Y), .f .f32 ((Z9 (⟨(⟨(⟨Yb,Yj⟩:Gm),Yk,YI,YJ,Yl,(⟨YK,Yv,Yr⟩:Gv)⟩:Gb),Ym⟩:Gn) Y2 Y6 Y9 Y5).Body.Fall.Z)]]) (Zge ((Z9 (⟨(⟨(⟨Yb,Yj⟩:Gm),Yk,YI,YJ,Yl,(⟨YK,Yv,Yr⟩:Gv)⟩:Gb),Ym⟩:Gn) Y2 Y6 Y9 Y5).Body) y_9 Y19 Y1g Y1j Y1k Y1r) (by simp [cL,Function.comp_def]; done)) <| sC (show (Yx.map (cF .f32)).length + ([[.f .f32 (Z3J ((Z9 (⟨(⟨(⟨Yb,Yj⟩:Gm),Yk,YI,YJ,Yl,(⟨YK,Yv,Yr⟩:Gv)⟩:Gb),Ym⟩:Gn) Y2 Y6 Y9 Y5).Body))]]:List (List AV)).length≤1073741824 from (by simpa using Y1s)) <| sI (Y1 + 1) Y1t Y1u <| sN) (by kernel_rfl) (by simp [Z75,cF]) (ih (Y1 + 1) ((Z9 (⟨(⟨(⟨Yb,Yj⟩:Gm),Yk,YI,YJ,Yl,(⟨YK,Yv,Yr⟩:Gv)⟩:Gb),Ym⟩:Gn) Y2 Y6 Y9 Y5).Body.Me.Pq) ((Z9 (⟨(⟨(⟨Yb,Yj⟩:Gm),Yk,YI,YJ,Yl,(⟨YK,Yv,Yr⟩:Gv)⟩:Gb),Ym⟩:Gn) Y2 Y6 Y9 Y5).Body.Me.Tr) ((Z9 (⟨(⟨(⟨Yb,Yj⟩:Gm),Yk,YI,YJ,Yl,(⟨YK,Yv,Yr⟩:Gv)⟩:Gb),Ym⟩:Gn) Y2 Y6 Y9 Y5).Body.Sp) ((Z9 (⟨(⟨(⟨Yb,Yj⟩:Gm),Yk,YI,YJ,Yl,(⟨YK,Yv,Yr⟩:Gv)⟩:Gb),Ym⟩:Gn) Y2 Y6 Y9 Y5).Body.We) ((Z9 (⟨(⟨(⟨Yb,Yj⟩:Gm),Yk,YI,YJ,Yl,(⟨YK,Yv,Yr⟩:Gv)⟩:Gb),Ym⟩:Gn) Y2 Y6 Y9 Y5).Sd) (Yx ++ [(Z3J ((Z9 (⟨(⟨(⟨Yb,Yj⟩:Gm),Yk,YI,YJ,Yl,(⟨YK,Yv,Yr⟩:Gv)⟩:Gb),Ym⟩:Gn) Y2 Y6 Y9 Y5).Body))]) ((Z9 (⟨(⟨(⟨Yb,Yj⟩:Gm),Yk,YI,YJ,Yl,(⟨YK,Yv,Yr⟩:Gv)⟩:Gb),Ym⟩:Gn) Y2 Y6 Y9 Y5).Body.Film) ((Z9 (⟨(⟨(⟨Yb,Yj⟩:Gm),Yk,YI,YJ,Yl,(⟨YK,Yv,Yr⟩:Gv)⟩:Gb),Ym⟩:Gn) Y2 Y6 Y9 Y5).Body.Bend) ((Z9 (⟨(⟨(⟨Yb,Yj⟩:Gm),Yk,YI,YJ,Yl,(⟨YK,Yv,Yr⟩:Gv)⟩:Gb),Ym⟩:Gn) Y2 Y6 Y9 Y5).Body.Fall.X) ((Z9 (⟨(⟨(⟨Yb,Yj⟩:Gm),Yk,YI,YJ,Yl,(⟨YK,Yv,Yr⟩:Gv)⟩:Gb),Ym⟩:Gn) Y2 Y6 Y9 Y5).Body.Fall.Y) ((Z9 (⟨(⟨(⟨Yb,Yj⟩:Gm),Yk,YI,YJ,Yl,(⟨YK,Yv,Yr⟩:Gv)⟩:Gb),Ym⟩:Gn) Y2 Y6 Y9 Y5).Body.Fall.Z) (show 0≤(Y1 + 1) from (by omega)) (show Z4P Y3 (⟨(⟨(⟨((Z9 (⟨(⟨(⟨Yb,Yj⟩:Gm),Yk,YI,YJ,Yl,(⟨YK,Yv,Yr⟩:Gv)⟩:Gb),Ym⟩:Gn) Y2 Y6 Y9 Y5).Body.Me.Pq),((Z9 (⟨(⟨(⟨Yb,Yj⟩:Gm),Yk,YI,YJ,Yl,(⟨YK,Yv,Yr⟩:Gv)⟩:Gb),Ym⟩:Gn) Y2 Y6 Y9 Y5).Body.Me.Tr)⟩:Gm),((Z9 (⟨(⟨(⟨Yb,Yj⟩:Gm),Yk,YI,YJ,Yl,(⟨YK,Yv,Yr⟩:Gv)⟩:Gb),Ym⟩:Gn) Y2 Y6 Y9 Y5).Body.Sp),((Z9 (⟨(⟨(⟨Yb,Yj⟩:Gm),Yk,YI,YJ,Yl,(⟨YK,Yv,Yr⟩:Gv)⟩:Gb),Ym⟩:Gn) Y2 Y6 Y9 Y5).Body.Film),((Z9 (⟨(⟨(⟨Yb,Yj⟩:Gm),Yk,YI,YJ,Yl,(⟨YK,Yv,Yr⟩:Gv)⟩:Gb),Ym⟩:Gn) Y2 Y6 Y9 Y5).Body.Bend),((Z9 (⟨(⟨(⟨Yb,Yj⟩:Gm),Yk,YI,YJ,Yl,(⟨YK,Yv,Yr⟩:Gv)⟩:Gb),Ym⟩:Gn) Y2 Y6 Y9 Y5).Body.We),(⟨((Z9 (⟨(⟨(⟨Yb,Yj⟩:Gm),Yk,YI,YJ,Yl,(⟨YK,Yv,Yr⟩:Gv)⟩:Gb),Ym⟩:Gn) Y2 Y6 Y9 Y5).Body.Fall.X),((Z9 (⟨(⟨(⟨Yb,Yj⟩:Gm),Yk,YI,YJ,Yl,(⟨YK,Yv,Yr⟩:Gv)⟩:Gb),Ym⟩:Gn) Y2 Y6 Y9 Y5).Body.Fall.Y),((Z9 (⟨(⟨(⟨Yb,Yj⟩:Gm),Yk,YI,YJ,Yl,(⟨YK,Yv,Yr⟩:Gv)⟩:Gb),Ym⟩:Gn) Y2 Y6 Y9 Y5).Body.Fall.Z)⟩:Gv)⟩:Gb),((Z9 (⟨(⟨(⟨Yb,Yj⟩:Gm),Yk,YI,YJ,Yl,(⟨YK,Yv,Yr⟩:Gv)⟩:Gb),Ym⟩:Gn) Y2 Y6 Y9 Y5).Sd)⟩:Gn) from (by with_reducible exact Zd7 (Zdu (Zhj _ Z54) (by with_reducible assumption) _ _ _ _))) (show ((Yx ++ [(Z3J ((Z9 (⟨(⟨(⟨Yb,Yj⟩:Gm),Yk,YI,YJ,Yl,(⟨YK,Yv,Yr⟩:Gv)⟩:Gb),Ym⟩:Gn) Y2 Y6 Y9 Y5).Body))]).length:Int)≤(Y1 + 1) from (by have w:=in40 (n:=Yf) Z63; (simp; omega))) (by omega))
  | false =>
   have YM:=odf Yn
   have e:Z2A Y3 Y2 Y6 Y9 Y5 Yf (k + 1) Y1 Yb Yj Yk Yl Ym Yx YI YJ YK Yv Yr=(YI,YJ,YK,Yv,Yr,Yx,Yb,Yj,Yk,Yl,Ym):=by simp only [Z2A,Yn,cond_false]
   rw [e]
   exact outR (e:=(.exit 0)) E0Ok Z4 [] ZcP [0,1,8,7,2,3,4,5,6] (sB Yn <| sN) (by kernel_rfl) (by intro h; cases h)
def ZC (Y3:Gn) (Y2:(List Int)) (Y6:Nat) (Y9:Nat) (Y5:Nat) (Yf:Int):Nat × Nat × Nat × Nat × Nat × (List Nat) × (List Gv) × (List (List Int)) × (List Gs) × (List Nat) × (List Gv):=(Z2A Y3 Y2 Y6 Y9 Y5 Yf ((Yf - 0).toNat + 1) 0 Y3.Body.Me.Pq Y3.Body.Me.Tr Y3.Body.Sp Y3.Body.We (([]:List Gv) ++ Y3.Sd) ([]:List Nat) Y3.Body.Film Y3.Body.Bend Y3.Body.Fall.X Y3.Body.Fall.Y Y3.Body.Fall.Z)
def Z1 (Y3:Gn) (Y2:(List Int)) (Y6:Nat) (Y9:Nat) (Y5:Nat) (Yf:Int):Gn × (List Nat) × Bool:=(cond (Zt Y3)
  (cond (ZE Y3.Body Y2)
    (cond (Zh Y6)
      (cond (Zh Y5)
        (cond (Zs Yf 0 40)
          ((⟨(⟨(⟨(ZC Y3 Y2 Y6 Y9 Y5 Yf).2.2.2.2.2.2.1,(ZC Y3 Y2 Y6 Y9 Y5 Yf).2.2.2.2.2.2.2.1⟩:Gm),(ZC Y3 Y2 Y6 Y9 Y5 Yf).2.2.2.2.2.2.2.2.1,(ZC Y3 Y2 Y6 Y9 Y5 Yf).1,(ZC Y3 Y2 Y6 Y9 Y5 Yf).2.1,(ZC Y3 Y2 Y6 Y9 Y5 Yf).2.2.2.2.2.2.2.2.2.1,(⟨(ZC Y3 Y2 Y6 Y9 Y5 Yf).2.2.1,(ZC Y3 Y2 Y6 Y9 Y5 Yf).2.2.2.1,(ZC Y3 Y2 Y6 Y9 Y5 Yf).2.2.2.2.1⟩:Gv)⟩:Gb),(ZC Y3 Y2 Y6 Y9 Y5 Yf).2.2.2.2.2.2.2.2.2.2⟩:Gn),(ZC Y3 Y2 Y6 Y9 Y5 Yf).2.2.2.2.2.1,true)
          ((⟨(⟨(⟨([]:List Gv),([]:List (List Int))⟩:Gm),([]:List Gs),0,0,([]:List Nat),(⟨0,0,0⟩:Gv)⟩:Gb),([]:List Gv)⟩:Gn),([]:List Nat),false))
        ((⟨(⟨(⟨([]:List Gv),([]:List (List Int))⟩:Gm),([]:List Gs),0,0,([]:List Nat),(⟨0,0,0⟩:Gv)⟩:Gb),([]:List Gv)⟩:Gn),([]:List Nat),false))
      ((⟨(⟨(⟨([]:List Gv),([]:List (List Int))⟩:Gm),([]:List Gs),0,0,([]:List Nat),(⟨0,0,0⟩:Gv)⟩:Gb),([]:List Gv)⟩:Gn),([]:List Nat),false))
    ((⟨(⟨(⟨([]:List Gv),([]:List (List Int))⟩:Gm),([]:List Gs),0,0,([]:List Nat),(⟨0,0,0⟩:Gv)⟩:Gb),([]:List Gv)⟩:Gn),([]:List Nat),false))
  ((⟨(⟨(⟨([]:List Gv),([]:List (List Int))⟩:Gm),([]:List Gs),0,0,([]:List Nat),(⟨0,0,0⟩:Gv)⟩:Gb),([]:List Gv)⟩:Gn),([]:List Nat),false))
theorem Zj3 (m:Gn) (h:List Int) (a d t:Nat) (n:Int) (ok:OkBd m.Body) (hs:m.Sd.length=m.Body.Me.Pq.length) (hh:OkIx m.Body.Me.Pq.length (fun x => x) h):∀ (k:Nat) (x:Int) P T S W V E f g x1 x2 x3,Z4P m ⟨⟨⟨P,T⟩,S,f,g,W,⟨x1,x2,x3⟩⟩,V⟩ →
    Z2A m h a d t n k x P T S W V E f g x1 x2 x3=(Z26 m h a d t n k (n - x) P T S W V f g x1 x2 x3 E).2:=by
  intro k
  induction k with
  | zero => intros; rfl
  | succ k ih =>
    intro x P T S W V E f g x1 x2 x3 hL
    rw [Z2A,Z26,show decide (n - x > 0)=decide (x < n) from decide_eq_decide.2 (by omega)]
    cases decide (x < n) with
    | false => rfl
    | true =>
      rw [cond_true,cond_true,Zhd _ _ _ _ _ (Z7O ok hL) (Zeq hs hL) (Zd8 hh hL),ih _ _ _ _ _ _ _ _ _ _ _ _ (Zd7 (Z7P hL _ _ _ _)),ZhL _ (Z7O ok (Z7P hL _ _ _ _)),show n - (x + 1)=n - x - 1 from by omega]
theorem Z4T (m:Gn) (h:List Int) (a d t:Nat) (n:Int):Z1 m h a d t n=Z7 m h a d t n:=by
  have e0:ZM m h a t=cond (Zt m) (cond (ZE m.Body h) (cond (Zh a) (Zh t) false) false) false:=by
    unfold ZM
    rw [Zgt,Zey,show Zh=Z2J from rfl]
    unfold Z4C
    cases Z1z m.Body <;> rfl
  unfold Z1 Z7
  rw [show Zs n 0 40=Zj n 0 40 from rfl]
  cases e:ZM m h a t with
  | true =>
    obtain ⟨h1,h2,h3,h4,h5⟩:=Zej m h a t e
    have hl:=(ZgM _ (ZgL _ h1)).1
    rw [e] at e0
    have e1:Zt m=true:=by cases h6:Zt m <;> rw [h6] at e0 <;> cases e0
    have e2:ZE m.Body h=true:=by rw [Zey,h1,h3]; rfl
    rw [e1,e2,show Zh a=true from h4,show Zh t=true from h5,cond_true,cond_true,cond_true,cond_true,cond_true]
    unfold ZC Zv
    rw [Zj3 m h a d t n (ZbC _ h1) h2 (Zgp _ _ (by omega) h3) _ _ m.Body.Me.Pq m.Body.Me.Tr m.Body.Sp m.Body.We (([]:List Gv) ++ m.Sd) ([]:List Nat) m.Body.Film m.Body.Bend m.Body.Fall.X m.Body.Fall.Y m.Body.Fall.Z ⟨⟨rfl,rfl,rfl,rfl⟩,rfl⟩,Int.sub_zero]
  | false =>
    rw [e] at e0
    cases h1:Zt m with
    | false => rfl
    | true =>
      cases h2:ZE m.Body h with
      | false => rfl
      | true =>
        cases h3:Zh a with
        | false => rfl
        | true =>
          cases h4:Zh t with
          | false => rfl
          | true => rw [h1,h2,h3,h4] at e0; cases e0
theorem ZaJ (m:Gn) (h:List Int) (a d t:Nat) (n:Int):(Z1 m h a d t n).1.Body.Me.Pq.length≤m.Body.Me.Pq.length:=by rw [Z4T]; exact Zay m h a d t n
theorem ZaK (m:Gn) (h:List Int) (a d t:Nat) (n:Int):(Z1 m h a d t n).1.Body.Me.Tr.length≤m.Body.Me.Tr.length:=by rw [Z4T]; exact Zaz m h a d t n
theorem ZaL (m:Gn) (h:List Int) (a d t:Nat) (n:Int):(Z1 m h a d t n).1.Body.We.length≤m.Body.We.length:=by rw [Z4T]; exact ZaA m h a d t n
theorem ZaM (m:Gn) (h:List Int) (a d t:Nat) (n:Int):(Z1 m h a d t n).1.Body.Sp.length≤m.Body.Sp.length:=by rw [Z4T]; exact ZaB m h a d t n
theorem ZaN (m:Gn) (h:List Int) (a d t:Nat) (n:Int):(Z1 m h a d t n).1.Sd.length≤m.Sd.length:=by rw [Z4T]; exact ZaC m h a d t n
theorem ZaO (m:Gn) (h:List Int) (a d t:Nat) (n:Int):(Z1 m h a d t n).2.1.length≤41:=by rw [Z4T]; exact ZaD m h a d t n
theorem Z7H (m:Gn) (h:List Int) (a d t:Nat) (n:Int):∀ u∈(Z1 m h a d t n).1.Body.Me.Tr,u∈m.Body.Me.Tr:=by rw [Z4T]; exact ZaE m h a d t n
set_option maxHeartbeats 1000000 in
theorem ZbS (Y3:Gn) (Y2:(List Int)) (Y6:Nat) (Y9:Nat) (Y5:Nat) (Yf:Int) (hp0:Y3.Body.Me.Pq.length≤1073741824) (hp1:Y3.Body.Me.Tr.length≤1073741824) (hp2:∀ t∈Y3.Body.Me.Tr,t.length≤1073741824) (hp3:Y3.Body.Sp.length≤1073741824) (hp4:Y3.Body.We.length≤1073741824) (hp5:Y3.Sd.length≤1073741824) (hp6:Y2.length≤1073741824)  : Fn prog 46 [.agg [.sl (Y3.Body.Me.Pq.map Gv.c), .sl (Y3.Body.Me.Tr.map (cL (cI .i64))), .sl (Y3.Body.Sp.map Gs.c), .f .f32 Y3.Body.Film, .f .f32 Y3.Body.Bend, .sl (Y3.Body.We.map (cF .f32)), .f .f32 Y3.Body.Fall.X, .f .f32 Y3.Body.Fall.Y, .f .f32 Y3.Body.Fall.Z, .sl (Y3.Sd.map Gv.c)], .sl (Y2.map (cI .i64)), .f .f32 Y6, .f .f32 Y9, .f .f32 Y5, .i .i64 Yf] (.tup [.agg [.own 0, .own 1, .own 2, .f .f32 ((Z1 Y3 Y2 Y6 Y9 Y5 Yf).1.Body.Film), .f .f32 ((Z1 Y3 Y2 Y6 Y9 Y5 Yf).1.Body.Bend), .own 3, .f .f32 ((Z1 Y3 Y2 Y6 Y9 Y5 Yf).1.Body.Fall.X), .f .f32 ((Z1 Y3 Y2 Y6 Y9 Y5 Yf).1.Body.Fall.Y), .f .f32 ((Z1 Y3 Y2 Y6 Y9 Y5 Yf).1.Body.Fall.Z), .own 4], .own 5, .b ((Z1 Y3 Y2 Y6 Y9 Y5 Yf).2.2)]) [.vec 40 3 (((Z1 Y3 Y2 Y6 Y9 Y5 Yf).1.Body.Me.Pq).map Gv.c) false, .nest 49 (((Z1 Y3 Y2 Y6 Y9 Y5 Yf).1.Body.Me.Tr).map fun l => l.map (cI .i64)) false, .vec 133 4 (((Z1 Y3 Y2 Y6 Y9 Y5 Yf).1.Body.Sp).map Gs.c) false, .vec 27 1 (((Z1 Y3 Y2 Y6 Y9 Y5 Yf).1.Body.We).map (cF .f32)) false, .vec 40 3 (((Z1 Y3 Y2 Y6 Y9 Y5 Yf).1.Sd).map Gv.c) false, .vec 27 1 (((Z1 Y3 Y2 Y6 Y9 Y5 Yf).2.1).map (cF .f32)) false]:=by
 have p {a C} (s:Scr a C):=sF (Zex Y3 hp0 hp1 hp2 hp3 hp4 hp5) <| s
 cases h0:(Zt Y3) with
 | true =>
  have q {a C} (s:Scr a C):=p (sB' h0 <| sB' h0 <| sB' h0 <| sB' h0 <| sF (Zh3 Y3.Body Y2 hp0 hp1 hp2 hp3 hp4 hp6) <| sB' h0 <| sB' h0 <| s)
  clear p
  cases h1:(ZE Y3.Body Y2) with
  | true =>
   have p {a C} (s:Scr a C):=q (sB' h1 <| sB' h1 <| sF (Zdz Y6) <| sB' h1 <| sB' h1 <| s)
   clear q
   cases h2:(Zh Y6) with
   | true =>
    have q {a C} (s:Scr a C):=p (sB' h2 <| sB' h2 <| sF (Zdz Y5) <| sB' h2 <| sB' h2 <| s)
    clear p
    cases h3:(Zh Y5) with
    | true =>
     have p {a C} (s:Scr a C):=q (sB' h3 <| sB' h3 <| sF (Z6A Yf 0 40) <| sB' h3 <| sB' h3 <| s)
     clear q
     cases h4:(Zs Yf 0 40) with
     | true =>
      have y0:Xt Y3.Body.Me.Pq.length Y3.Body.Me.Tr:=by clear p; exact (by exact (ZbC _ (Zcd _ _ (by assumption)).1).e.tris)
      have y1:([]:List Gv).length + Y3.Sd.length≤1073741824:=by clear p; exact (by simp_all <;> omega)
      refine fnS E0Ok Z4 (c:=X0 f46) [] (.tup [.agg [.own 0, .own 1, .own 2, .f .f32 ((ZC Y3 Y2 Y6 Y9 Y5 Yf).1), .f .f32 ((ZC Y3 Y2 Y6 Y9 Y5 Yf).2.1), .own 3, .f .f32 ((ZC Y3 Y2 Y6 Y9 Y5 Yf).2.2.1), .f .f32 ((ZC Y3 Y2 Y6 Y9 Y5 Yf).2.2.2.1), .f .f32 ((ZC Y3 Y2 Y6 Y9 Y5 Yf).2.2.2.2.1), .own 4], .own 5, .b true]) [.vec 40 3 (((ZC Y3 Y2 Y6 Y9 Y5 Yf).2.2.2.2.2.2.1).map Gv.c) false, .nest 49 (((ZC Y3 Y2 Y6 Y9 Y5 Yf).2.2.2.2.2.2.2.1).map fun l => l.map (cI .i64)) false, .vec 133 4 (((ZC Y3 Y2 Y6 Y9 Y5 Yf).2.2.2.2.2.2.2.2.1).map Gs.c) false, .vec 27 1 (((ZC Y3 Y2 Y6 Y9 Y5 Yf).2.2.2.2.2.2.2.2.2.1).map (cF .f32)) false, .vec 40 3 (((ZC Y3 Y2 Y6 Y9 Y5 Yf).2.2.2.2.2.2.2.2.2.2).map Gv.c) false, .vec 27 1 (((ZC Y3 Y2 Y6 Y9 Y5 Yf).2.2.2.2.2.1).map (cF .f32)) false] func46 (p (sB' h4 <| sR (X6h E0Ok Z4 (id:=3) (ops:=X7D (sub (X0 f46) [1,1,0])) (⟨.agg [.sl (Y3.Body.Me.Pq.map Gv.c), .sl (Y3.Body.Me.Tr.map (cL (cI .i64))), .sl (Y3.Body.Sp.map Gs.c), .f .f32 Y3.Body.Film, .f .f32 Y3.Body.Bend, .sl (Y3.Body.We.map (cF .f32)), .f .f32 Y3.Body.Fall.X, .f .f32 Y3.Body.Fall.Y, .f .f32 Y3.Body.Fall.Z, .sl (Y3.Sd.map Gv.c)] :: .sl (Y2.map (cI .i64)) :: .f .f32 Y6 :: .f .f32 Y9 :: .f .f32 Y5 :: .i .i64 Yf :: .ptr 0 0 0 :: an 5 (.ptr 1 0 0 :: .nils :: .b false :: .any :: .any :: .agg [.sl (Y3.Body.Me.Pq.map Gv.c), .sl (Y3.Body.Me.Tr.map (cL (cI .i64))), .sl (Y3.Body.Sp.map Gs.c), .f .f32 Y3.Body.Film, .f .f32 Y3.Body.Bend, .sl (Y3.Body.We.map (cF .f32)), .f .f32 Y3.Body.Fall.X, .f .f32 Y3.Body.Fall.Y, .f .f32 Y3.Body.Fall.Z, .sl (Y3.Sd.map Gv.c)] :: .b (Zt Y3) :: .b (!(Zt Y3)) :: .b (!(Zt Y3)) :: .ptr 0 0 0 :: .agg [.sl (Y3.Body.Me.Pq.map Gv.c), .sl (Y3.Body.Me.Tr.map (cL (cI .i64))), .sl (Y3.Body.Sp.map Gs.c), .f .f32 Y3.Body.Film, .f .f32 Y3.Body.Bend, .sl (Y3.Body.We.map (cF .f32)), .f .f32 Y3.Body.Fall.X, .f .f32 Y3.Body.Fall.Y, .f .f32 Y3.Body.Fall.Z] :: .sl (Y2.map (cI .i64)) :: .b (ZE Y3.Body Y2) :: .b (!(ZE Y3.Body Y2)) :: .b (!(ZE Y3.Body Y2)) :: .b (!(ZE Y3.Body Y2)) :: .f .f32 Y6 :: .b (Zh Y6) :: .b (!(Zh Y6)) :: .b (!(Zh Y6)) :: .b (!(Zh Y6)) :: .f .f32 Y5 :: .b (Zh Y5) :: .b (!(Zh Y5)) :: .b (!(Zh Y5)) :: .b (!(Zh Y5)) :: .i .i64 Yf :: .b (Zs Yf 0 40) :: .b (!(Zs Yf 0 40)) :: .b (!(Zs Yf 0 40)) :: an 28 []),[.box 66 [.sl (Y3.Body.Me.Pq.map Gv.c), .sl (Y3.Body.Me.Tr.map (cL (cI .i64))), .sl (Y3.Body.Sp.map Gs.c), .f .f32 Y3.Body.Film, .f .f32 Y3.Body.Bend, .sl (Y3.Body.We.map (cF .f32)), .f .f32 Y3.Body.Fall.X, .f .f32 Y3.Body.Fall.Y, .f .f32 Y3.Body.Fall.Z, .sl (Y3.Sd.map Gv.c)], .box 66 [.nils, .nils, .nils, .f .f32 0, .f .f32 0, .nils, .f .f32 0, .f .f32 0, .f .f32 0, .nils]]⟩) (⟨.agg [.sl (Y3.Body.Me.Pq.map Gv.c), .sl (Y3.Body.Me.Tr.map (cL (cI .i64))), .sl (Y3.Body.Sp.map Gs.c), .f .f32 Y3.Body.Film, .f .f32 Y3.Body.Bend, .sl (Y3.Body.We.map (cF .f32)), .f .f32 Y3.Body.Fall.X, .f .f32 Y3.Body.Fall.Y, .f .f32 Y3.Body.Fall.Z, .sl (Y3.Sd.map Gv.c)] :: .sl (Y2.map (cI .i64)) :: .f .f32 Y6 :: .f .f32 Y9 :: .f .f32 Y5 :: .i .i64 Yf :: .ptr 0 0 0 :: an 5 (.ptr 1 0 0 :: .nils :: .b false :: .ptr 8 0 0 :: .own 7 :: .agg [.sl (Y3.Body.Me.Pq.map Gv.c), .sl (Y3.Body.Me.Tr.map (cL (cI .i64))), .sl (Y3.Body.Sp.map Gs.c), .f .f32 Y3.Body.Film, .f .f32 Y3.Body.Bend, .sl (Y3.Body.We.map (cF .f32)), .f .f32 Y3.Body.Fall.X, .f .f32 Y3.Body.Fall.Y, .f .f32 Y3.Body.Fall.Z, .sl (Y3.Sd.map Gv.c)] :: .b (Zt Y3) :: .b (!(Zt Y3)) :: .b (!(Zt Y3)) :: .ptr 0 0 0 :: .agg [.sl (Y3.Body.Me.Pq.map Gv.c), .sl (Y3.Body.Me.Tr.map (cL (cI .i64))), .sl (Y3.Body.Sp.map Gs.c), .f .f32 Y3.Body.Film, .f .f32 Y3.Body.Bend, .sl (Y3.Body.We.map (cF .f32)), .f .f32 Y3.Body.Fall.X, .f .f32 Y3.Body.Fall.Y, .f .f32 Y3.Body.Fall.Z] :: .sl (Y2.map (cI .i64)) :: .b (ZE Y3.Body Y2) :: .b (!(ZE Y3.Body Y2)) :: .b (!(ZE Y3.Body Y2)) :: .b (!(ZE Y3.Body Y2)) :: .f .f32 Y6 :: .b (Zh Y6) :: .b (!(Zh Y6)) :: .b (!(Zh Y6)) :: .b (!(Zh Y6)) :: .f .f32 Y5 :: .b (Zh Y5) :: .b (!(Zh Y5)) :: .b (!(Zh Y5)) :: .b (!(Zh Y5)) :: .i .i64 Yf :: .b (Zs Yf 0 40) :: .b (!(Zs Yf 0 40)) :: .b (!(Zs Yf 0 40)) :: .any :: .ptr 0 0 0 :: .agg [.sl (Y3.Body.Me.Pq.map Gv.c), .sl (Y3.Body.Me.Tr.map (cL (cI .i64))), .sl (Y3.Body.Sp.map Gs.c), .f .f32 Y3.Body.Film, .f .f32 Y3.Body.Bend, .sl (Y3.Body.We.map (cF .f32)), .f .f32 Y3.Body.Fall.X, .f .f32 Y3.Body.Fall.Y, .f .f32 Y3.Body.Fall.Z] :: .agg [.own 2, .own 3, .own 4, .f .f32 Y3.Body.Film, .f .f32 Y3.Body.Bend, .own 5, .f .f32 Y3.Body.Fall.X, .f .f32 Y3.Body.Fall.Y, .f .f32 Y3.Body.Fall.Z] :: .any :: .ptr 0 0 9 :: .sl (Y3.Sd.map Gv.c) :: .own 6 :: .agg [.own 2, .own 3, .own 4, .f .f32 Y3.Body.Film, .f .f32 Y3.Body.Bend, .own 5, .f .f32 Y3.Body.Fall.X, .f .f32 Y3.Body.Fall.Y, .f .f32 Y3.Body.Fall.Z, .own 6] :: .own 7 :: an 18 []),[.box 66 [.sl (Y3.Body.Me.Pq.map Gv.c), .sl (Y3.Body.Me.Tr.map (cL (cI .i64))), .sl (Y3.Body.Sp.map Gs.c), .f .f32 Y3.Body.Film, .f .f32 Y3.Body.Bend, .sl (Y3.Body.We.map (cF .f32)), .f .f32 Y3.Body.Fall.X, .f .f32 Y3.Body.Fall.Y, .f .f32 Y3.Body.Fall.Z, .sl (Y3.Sd.map Gv.c)], .box 66 [.nils, .nils, .nils, .f .f32 0, .f .f32 0, .nils, .f .f32 0, .f .f32 0, .f .f32 0, .nils], .vec 40 3 (Y3.Body.Me.Pq.map Gv.c) false, .nest 49 (Y3.Body.Me.Tr.map fun l => l.map (cI .i64)) false, .vec 133 4 (Y3.Body.Sp.map Gs.c) false, .vec 27 1 (Y3.Body.We.map (cF .f32)) false, .vec 40 3 (([]:List (List AV)) ++ (Y3.Sd.map Gv.c)) false, .vec 27 1 ([]:List (List AV)) true, .box 66 [.own 2, .own 3, .own 4, .f .f32 Y3.Body.Film, .f .f32 Y3.Body.Bend, .own 5, .f .f32 Y3.Body.Fall.X, .f .f32 Y3.Body.Fall.Y, .f .f32 Y3.Body.Fall.Z, .own 6]]⟩) 7 [(0,43, .ptr 0 0 0),(1,44, .agg [.sl (Y3.Body.Me.Pq.map Gv.c), .sl (Y3.Body.Me.Tr.map (cL (cI .i64))), .sl (Y3.Body.Sp.map Gs.c), .f .f32 Y3.Body.Film, .f .f32 Y3.Body.Bend, .sl (Y3.Body.We.map (cF .f32)), .f .f32 Y3.Body.Fall.X, .f .f32 Y3.Body.Fall.Y, .f .f32 Y3.Body.Fall.Z]),(2,45, .agg [.own 2, .own 3, .own 4, .f .f32 Y3.Body.Film, .f .f32 Y3.Body.Bend, .own 5, .f .f32 Y3.Body.Fall.X, .f .f32 Y3.Body.Fall.Y, .f .f32 Y3.Body.Fall.Z]),(3,46, .own 6),(4,47, .ptr 0 0 9),(5,48, .sl (Y3.Sd.map Gv.c)),(6,46, .any),(6,49, .own 6),(7,50, .agg [.own 2, .own 3, .own 4, .f .f32 Y3.Body.Film, .f .f32 Y3.Body.Bend, .own 5, .f .f32 Y3.Body.Fall.X, .f .f32 Y3.Body.Fall.Y, .f .f32 Y3.Body.Fall.Z, .own 6]),(8,51, .own 7),(9,15, .ptr 8 0 0),(11,16, .own 7)] [(2,2, .vec 40 3 (Y3.Body.Me.Pq.map Gv.c) false),(2,3, .nest 49 (Y3.Body.Me.Tr.map fun l => l.map (cI .i64)) false),(2,4, .vec 133 4 (Y3.Body.Sp.map Gs.c) false),(2,5, .vec 27 1 (Y3.Body.We.map (cF .f32)) false),(3,6, .vec 40 3 ([]:List (List AV)) true),(6,6, .vec 40 3 (([]:List (List AV)) ++ (Y3.Sd.map Gv.c)) false),(8,7, .vec 27 1 ([]:List (List AV)) true),(9,8, .box 66 [.nils, .nils, .nils, .f .f32 0, .f .f32 0, .nils, .f .f32 0, .f .f32 0, .f .f32 0, .nils]),(10,8, .box 66 [.own 2, .own 3, .own 4, .f .f32 Y3.Body.Film, .f .f32 Y3.Body.Bend, .own 5, .f .f32 Y3.Body.Fall.X, .f .f32 Y3.Body.Fall.Y, .f .f32 Y3.Body.Fall.Z, .own 6])] [2,2,2,6,7,7,7,7,7,8,9,9] [⟨_,_,sN⟩,⟨_,_,sN⟩,⟨_,_,sF (Zc9 Y3.Body hp0 hp1 hp2 hp3 hp4 y0) <| sN⟩,⟨_,_,sN⟩,⟨_,_,sN⟩,⟨_,_,sN⟩,⟨_,_,sC (show ([]:List (List AV)).length + (Y3.Sd.map Gv.c).length≤1073741824 from (by simpa using y1)) <| sC (show (Y3.Sd.map Gv.c).all (fun cs => cs.length == 3 && cs.all isS)=true from (X1f (fun _ => rfl))) <| sN⟩,⟨_,_,sN⟩,⟨_,_,sN⟩,⟨_,_,sN⟩,⟨_,_,sN⟩,⟨_,_,sN⟩] [0,1,8,16,256,512,3,9,17,257,513,24,264,520,48,272,528,768,7,11,19,259,515,25,265,521,49,273,529,769,56,280,536,776,304,560,784,15,23,263,519,27,267,523,51,275,531,771,57,281,537,777,305,561,785,312,568,792,816,31,271,527,55,279,535,775,59,283,539,779,307,563,787,313,569,793,817,824,63,287,543,783,311,567,791,315,571,795,819,825,127,319,575,799,823,827,255,383,639,831,511,767,895,1023,1791,2047,4095] (by kernel_rfl) (by kernel_rfl) (by kernel_rfl) (by kernel_rfl)) <| sL Z8Q 9 (Xj (st2:=⟨.agg [.sl (Y3.Body.Me.Pq.map Gv.c), .sl (Y3.Body.Me.Tr.map (cL (cI .i64))), .sl (Y3.Body.Sp.map Gs.c), .f .f32 Y3.Body.Film, .f .f32 Y3.Body.Bend, .sl (Y3.Body.We.map (cF .f32)), .f .f32 Y3.Body.Fall.X, .f .f32 Y3.Body.Fall.Y, .f .f32 Y3.Body.Fall.Z, .sl (Y3.Sd.map Gv.c)] :: .sl (Y2.map (cI .i64)) :: .f .f32 Y6 :: .f .f32 Y9 :: .f .f32 Y5 :: .i .i64 Yf :: .ptr 0 0 0 :: an 5 (.ptr 1 0 0 :: .nils :: .b false :: .ptr 8 0 0 :: .own 7 :: .agg [.sl (Y3.Body.Me.Pq.map Gv.c), .sl (Y3.Body.Me.Tr.map (cL (cI .i64))), .sl (Y3.Body.Sp.map Gs.c), .f .f32 Y3.Body.Film, .f .f32 Y3.Body.Bend, .sl (Y3.Body.We.map (cF .f32)), .f .f32 Y3.Body.Fall.X, .f .f32 Y3.Body.Fall.Y, .f .f32 Y3.Body.Fall.Z, .sl (Y3.Sd.map Gv.c)] :: .b (Zt Y3) :: .b (!(Zt Y3)) :: .b (!(Zt Y3)) :: .ptr 0 0 0 :: .agg [.sl (Y3.Body.Me.Pq.map Gv.c), .sl (Y3.Body.Me.Tr.map (cL (cI .i64))), .sl (Y3.Body.Sp.map Gs.c), .f .f32 Y3.Body.Film, .f .f32 Y3.Body.Bend, .sl (Y3.Body.We.map (cF .f32)), .f .f32 Y3.Body.Fall.X, .f .f32 Y3.Body.Fall.Y, .f .f32 Y3.Body.Fall.Z] :: .sl (Y2.map (cI .i64)) :: .b (ZE Y3.Body Y2) :: .b (!(ZE Y3.Body Y2)) :: .b (!(ZE Y3.Body Y2)) :: .b (!(ZE Y3.Body Y2)) :: .f .f32 Y6 :: .b (Zh Y6) :: .b (!(Zh Y6)) :: .b (!(Zh Y6)) :: .b (!(Zh Y6)) :: .f .f32 Y5 :: .b (Zh Y5) :: .b (!(Zh Y5)) :: .b (!(Zh Y5)) :: .b (!(Zh Y5)) :: .i .i64 Yf :: .b (Zs Yf 0 40) :: .b (!(Zs Yf 0 40)) :: .b (!(Zs Yf 0 40)) :: .any :: .ptr 0 0 0 :: .agg [.sl (Y3.Body.Me.Pq.map Gv.c), .sl (Y3.Body.Me.Tr.map (cL (cI .i64))), .sl (Y3.Body.Sp.map Gs.c), .f .f32 Y3.Body.Film, .f .f32 Y3.Body.Bend, .sl (Y3.Body.We.map (cF .f32)), .f .f32 Y3.Body.Fall.X, .f .f32 Y3.Body.Fall.Y, .f .f32 Y3.Body.Fall.Z] :: .any :: .any :: .ptr 0 0 9 :: .sl (Y3.Sd.map Gv.c) :: .any :: .any :: .any :: .i .i64 Yf :: .i .i64 0 :: an 16 []),[.box 66 [.sl (Y3.Body.Me.Pq.map Gv.c), .sl (Y3.Body.Me.Tr.map (cL (cI .i64))), .sl (Y3.Body.Sp.map Gs.c), .f .f32 Y3.Body.Film, .f .f32 Y3.Body.Bend, .sl (Y3.Body.We.map (cF .f32)), .f .f32 Y3.Body.Fall.X, .f .f32 Y3.Body.Fall.Y, .f .f32 Y3.Body.Fall.Z, .sl (Y3.Sd.map Gv.c)], .box 66 [.nils, .nils, .nils, .f .f32 0, .f .f32 0, .nils, .f .f32 0, .f .f32 0, .f .f32 0, .nils], .vec 40 3 (Y3.Body.Me.Pq.map Gv.c) false, .nest 49 (Y3.Body.Me.Tr.map fun l => l.map (cI .i64)) false, .vec 133 4 (Y3.Body.Sp.map Gs.c) false, .vec 27 1 (Y3.Body.We.map (cF .f32)) false, .vec 40 3 (([]:List (List AV)) ++ (Y3.Sd.map Gv.c)) false, .vec 27 1 ([]:List (List AV)) false, .box 66 [.own 2, .own 3, .own 4, .f .f32 Y3.Body.Film, .f .f32 Y3.Body.Bend, .own 5, .f .f32 Y3.Body.Fall.X, .f .f32 Y3.Body.Fall.Y, .f .f32 Y3.Body.Fall.Z, .own 6]]⟩) (X1 (Z74 Y3 Y2 Y6 Y9 Y5 Yf) (x:=(ZC Y3 Y2 Y6 Y9 Y5 Yf)) (Ze5 Y3 Y2 Y6 Y9 Y5 Yf hp0 hp1 hp2 hp3 hp4 hp5 hp6 h1 h0 h4 ((Yf - 0).toNat + 1) 0 Y3.Body.Me.Pq Y3.Body.Me.Tr Y3.Body.Sp Y3.Body.We (([]:List Gv) ++ Y3.Sd) ([]:List Nat) Y3.Body.Film Y3.Body.Bend Y3.Body.Fall.X Y3.Body.Fall.Y Y3.Body.Fall.Z (show 0≤0 from (by omega)) (show Z4P Y3 (⟨(⟨(⟨Y3.Body.Me.Pq,Y3.Body.Me.Tr⟩:Gm),Y3.Body.Sp,Y3.Body.Film,Y3.Body.Bend,Y3.Body.We,(⟨Y3.Body.Fall.X,Y3.Body.Fall.Y,Y3.Body.Fall.Z⟩:Gv)⟩:Gb),(([]:List Gv) ++ Y3.Sd)⟩:Gn) from (by exact ⟨⟨rfl,rfl,rfl,rfl⟩,rfl⟩)) (show (([]:List Nat).length:Int)≤0 from (by simp; done)) (Nat.lt_succ_self _)) rfl) (by simp [Z75,Gv.c,cF])) <| sK [4,5,6,7,8,3] sN)) rfl (by kernel_rfl) (by kernel_rfl) rfl ?_ ?_
      · simp only [Z1,h0,h1,h2,h3,h4,cond_true]
      · simp [Z1,h0,h1,h2,h3,h4]
     | false =>
      refine fnS E0Ok Z4 (c:=X0 f46) [(.row 1 0, .vec 40 3 [] false),(.row 1 1, .nest 49 [] false),(.row 1 2, .vec 133 4 [] false),(.row 1 5, .vec 27 1 [] false),(.row 1 9, .vec 40 3 [] false),(.tm 13, .vec 27 1 [] false)] (.tup [.agg [.own 0, .own 1, .own 2, .f .f32 0, .f .f32 0, .own 3, .f .f32 0, .f .f32 0, .f .f32 0, .own 4], .own 5, .b false]) [.vec 40 3 [] false, .nest 49 [] false, .vec 133 4 [] false, .vec 27 1 [] false, .vec 40 3 [] false, .vec 27 1 [] false] func46 (p (sB' h4 <| sK [2,3,4,5,6,7] sN)) rfl (by kernel_rfl) (by kernel_rfl) rfl ?_ ?_
      · simp only [Z1,h0,h1,h2,h3,h4,cond_true,cond_false]
      · simp [Z1,h0,h1,h2,h3,h4,Gv.c,cL,cI,Gs.c,cF]
    | false =>
     refine fnS E0Ok Z4 (c:=X0 f46) [(.row 1 0, .vec 40 3 [] false),(.row 1 1, .nest 49 [] false),(.row 1 2, .vec 133 4 [] false),(.row 1 5, .vec 27 1 [] false),(.row 1 9, .vec 40 3 [] false),(.tm 13, .vec 27 1 [] false)] (.tup [.agg [.own 0, .own 1, .own 2, .f .f32 0, .f .f32 0, .own 3, .f .f32 0, .f .f32 0, .f .f32 0, .own 4], .own 5, .b false]) [.vec 40 3 [] false, .nest 49 [] false, .vec 133 4 [] false, .vec 27 1 [] false, .vec 40 3 [] false, .vec 27 1 [] false] func46 (q (sB' h3 <| sB' h3 <| sB' h3 <| sB' h3 <| sB (show true=true from rfl) <| sK [2,3,4,5,6,7] sN)) rfl (by kernel_rfl) (by kernel_rfl) rfl ?_ ?_
     · simp only [Z1,h0,h1,h2,h3,cond_true,cond_false]
     · simp [Z1,h0,h1,h2,h3,Gv.c,cL,cI,Gs.c,cF]
   | false =>
    refine fnS E0Ok Z4 (c:=X0 f46) [(.row 1 0, .vec 40 3 [] false),(.row 1 1, .nest 49 [] false),(.row 1 2, .vec 133 4 [] false),(.row 1 5, .vec 27 1 [] false),(.row 1 9, .vec 40 3 [] false),(.tm 13, .vec 27 1 [] false)] (.tup [.agg [.own 0, .own 1, .own 2, .f .f32 0, .f .f32 0, .own 3, .f .f32 0, .f .f32 0, .f .f32 0, .own 4], .own 5, .b false]) [.vec 40 3 [] false, .nest 49 [] false, .vec 133 4 [] false, .vec 27 1 [] false, .vec 40 3 [] false, .vec 27 1 [] false] func46 (p (sB' h2 <| sB' h2 <| sB' h2 <| sB' h2 <| sB (show true=true from rfl) <| sB (show true=true from rfl) <| sB (show true=true from rfl) <| sB (show true=true from rfl) <| sB (show true=true from rfl) <| sK [2,3,4,5,6,7] sN)) rfl (by kernel_rfl) (by kernel_rfl) rfl ?_ ?_
    · simp only [Z1,h0,h1,h2,cond_true,cond_false]
    · simp [Z1,h0,h1,h2,Gv.c,cL,cI,Gs.c,cF]
  | false =>
   refine fnS E0Ok Z4 (c:=X0 f46) [(.row 1 0, .vec 40 3 [] false),(.row 1 1, .nest 49 [] false),(.row 1 2, .vec 133 4 [] false),(.row 1 5, .vec 27 1 [] false),(.row 1 9, .vec 40 3 [] false),(.tm 13, .vec 27 1 [] false)] (.tup [.agg [.own 0, .own 1, .own 2, .f .f32 0, .f .f32 0, .own 3, .f .f32 0, .f .f32 0, .f .f32 0, .own 4], .own 5, .b false]) [.vec 40 3 [] false, .nest 49 [] false, .vec 133 4 [] false, .vec 27 1 [] false, .vec 40 3 [] false, .vec 27 1 [] false] func46 (q (sB' h1 <| sB' h1 <| sB' h1 <| sB' h1 <| sB (show true=true from rfl) <| sB (show true=true from rfl) <| sB (show true=true from rfl) <| sB (show true=true from rfl) <| sB (show true=true from rfl) <| sB (show true=true from rfl) <| sB (show true=true from rfl) <| sB (show true=true from rfl) <| sB (show true=true from rfl) <| sK [2,3,4,5,6,7] sN)) rfl (by kernel_rfl) (by kernel_rfl) rfl ?_ ?_
   · simp only [Z1,h0,h1,cond_true,cond_false]
   · simp [Z1,h0,h1,Gv.c,cL,cI,Gs.c,cF]
 | false =>
  refine fnS E0Ok Z4 (c:=X0 f46) [(.row 1 0, .vec 40 3 [] false),(.row 1 1, .nest 49 [] false),(.row 1 2, .vec 133 4 [] false),(.row 1 5, .vec 27 1 [] false),(.row 1 9, .vec 40 3 [] false),(.tm 13, .vec 27 1 [] false)] (.tup [.agg [.own 0, .own 1, .own 2, .f .f32 0, .f .f32 0, .own 3, .f .f32 0, .f .f32 0, .f .f32 0, .own 4], .own 5, .b false]) [.vec 40 3 [] false, .nest 49 [] false, .vec 133 4 [] false, .vec 27 1 [] false, .vec 40 3 [] false, .vec 27 1 [] false] func46 (p (sB' h0 <| sB' h0 <| sB' h0 <| sB' h0 <| sB' h0 <| sB' h0 <| sB (show true=true from rfl) <| sB (show true=true from rfl) <| sB (show true=true from rfl) <| sB (show true=true from rfl) <| sB (show true=true from rfl) <| sB (show true=true from rfl) <| sB (show true=true from rfl) <| sB (show true=true from rfl) <| sB (show true=true from rfl) <| sB (show true=true from rfl) <| sB (show true=true from rfl) <| sB (show true=true from rfl) <| sB (show true=true from rfl) <| sK [2,3,4,5,6,7] sN)) rfl (by kernel_rfl) (by kernel_rfl) rfl ?_ ?_
  · simp only [Z1,h0,cond_false]
  · simp [Z1,h0,Gv.c,cL,cI,Gs.c,cF]
def ZL (Y7:Nat) (Yo:Nat):Bool:=(cond (fcmp .neq .f64 Y7 Y7)
  (fcmp .neq .f64 Yo Yo)
  (cond (fcmp .neq .f64 Yo Yo)
    false
    (cond (fcmp .eql .f64 Y7 0)
      (cond (fcmp .eql .f64 Yo 0)
        ((fcmp .gtr .f64 (fop .quo .f64 4607182418800017408 Y7) 0) == (fcmp .gtr .f64 (fop .quo .f64 4607182418800017408 Yo) 0))
        (fcmp .eql .f64 Y7 Yo))
      (fcmp .eql .f64 Y7 Yo))))
theorem Z46 (Y7:Nat) (Yo:Nat)   : Fn prog 23 [.f .f64 Y7, .f .f64 Yo] (.b (ZL Y7 Yo)) []:=by
 cases h0:(fcmp .neq .f64 Y7 Y7) with
 | true =>
  refine fnS E0Ok Z4 (c:=X0 f23) [] (.b (fcmp .neq .f64 Yo Yo)) [] func23 (sB h0 <| sB h0 <| sB h0 <| sB h0 <| sB (show true=true from rfl) <| sB h0 <| sB h0 <| sB h0 <| sB h0 <| sK [] sN) rfl (by kernel_rfl) (by kernel_rfl) rfl ?_ ?_
  · simp only [ZL,h0,cond_true]
  · rfl
 | false =>
  have p {a C} (s:Scr a C):=sB h0 <| sB h0 <| sB h0 <| sB h0 <| s
  cases h1:(fcmp .neq .f64 Yo Yo) with
  | true =>
   refine fnS E0Ok Z4 (c:=X0 f23) [] (.b false) [] func23 (p (sB h1 <| sB h0 <| sB h0 <| sB h0 <| sB h0 <| sK [] sN)) rfl (by kernel_rfl) (by kernel_rfl) rfl ?_ ?_
   · simp only [ZL,h0,h1,cond_true,cond_false]
   · rfl
  | false =>
   have q {a C} (s:Scr a C):=p (sB h1 <| s)
   clear p
   cases h2:(fcmp .eql .f64 Y7 0) with
   | true =>
    have p {a C} (s:Scr a C):=q (sB h2 <| sB h2 <| sB h2 <| s)
    clear q
    cases h3:(fcmp .eql .f64 Yo 0) with
    | true =>
     refine fnS E0Ok Z4 (c:=X0 f23) [] (.b ((fcmp .gtr .f64 (fop .quo .f64 4607182418800017408 Y7) 0) == (fcmp .gtr .f64 (fop .quo .f64 4607182418800017408 Yo) 0))) [] func23 (p (sB h3 <| sK [] sN)) rfl (by kernel_rfl) (by kernel_rfl) rfl ?_ ?_
     · simp only [ZL,h0,h1,h2,h3,cond_true,cond_false]
     · rfl
    | false =>
     refine fnS E0Ok Z4 (c:=X0 f23) [] (.b (fcmp .eql .f64 Y7 Yo)) [] func23 (p (sB h3 <| sK [] sN)) rfl (by kernel_rfl) (by kernel_rfl) rfl ?_ ?_
     · simp only [ZL,h0,h1,h2,h3,cond_true,cond_false]
     · rfl
   | false =>
    refine fnS E0Ok Z4 (c:=X0 f23) [] (.b (fcmp .eql .f64 Y7 Yo)) [] func23 (q (sB h2 <| sB h2 <| sB h2 <| sB (show false=false from rfl) <| sK [] sN)) rfl (by kernel_rfl) (by kernel_rfl) rfl ?_ ?_
    · simp only [ZL,h0,h1,h2,cond_false]
    · rfl
theorem Z8T (x:Nat):ZL x x=true:=by
  unfold ZL
  cases h:fcmp .neq .f64 x x
  · simp only [cond_false]
    have h2:fcmp .eql .f64 x x=true:=by
      unfold fcmp at h ⊢
      simpa using h
    cases fcmp .eql .f64 x 0 <;> simp [h2]
  · rfl
def Z3a (Y7:Gv) (Yo:Gv):Bool:=(cond (ZL (fcv .f32 .f64 Y7.X) (fcv .f32 .f64 Yo.X))
  (cond (ZL (fcv .f32 .f64 Y7.Y) (fcv .f32 .f64 Yo.Y))
    (cond (ZL (fcv .f32 .f64 Y7.Z) (fcv .f32 .f64 Yo.Z))
      true
      false)
    false)
  false)
theorem Zcf (Y7:Gv) (Yo:Gv)   : Fn prog 58 [.agg [.f .f32 Y7.X, .f .f32 Y7.Y, .f .f32 Y7.Z], .agg [.f .f32 Yo.X, .f .f32 Yo.Y, .f .f32 Yo.Z]] (.b (Z3a Y7 Yo)) []:=by
 have p {a C} (s:Scr a C):=sC (Xo Y7.X) <| sC (Xo Yo.X) <| sF (Z46 (fcv .f32 .f64 Y7.X) (fcv .f32 .f64 Yo.X)) <| s
 cases h0:(ZL (fcv .f32 .f64 Y7.X) (fcv .f32 .f64 Yo.X)) with
 | true =>
  have q {a C} (s:Scr a C):=p (sB' h0 <| sC (Xo Y7.Y) <| sC (Xo Yo.Y) <| sF (Z46 (fcv .f32 .f64 Y7.Y) (fcv .f32 .f64 Yo.Y)) <| s)
  clear p
  cases h1:(ZL (fcv .f32 .f64 Y7.Y) (fcv .f32 .f64 Yo.Y)) with
  | true =>
   have p {a C} (s:Scr a C):=q (sB' h1 <| sC (Xo Y7.Z) <| sC (Xo Yo.Z) <| sF (Z46 (fcv .f32 .f64 Y7.Z) (fcv .f32 .f64 Yo.Z)) <| s)
   clear q
   cases h2:(ZL (fcv .f32 .f64 Y7.Z) (fcv .f32 .f64 Yo.Z)) with
   | true =>
    refine fnS E0Ok Z4 (c:=X0 f58) [] (.b true) [] func58 (p (sB' h2 <| sK [] sN)) rfl (by kernel_rfl) (by kernel_rfl) rfl ?_ ?_
    · simp only [Z3a,h0,h1,h2,cond_true]
    · rfl
   | false =>
    refine fnS E0Ok Z4 (c:=X0 f58) [] (.b false) [] func58 (p (sB' h2 <| sK [] sN)) rfl (by kernel_rfl) (by kernel_rfl) rfl ?_ ?_
    · simp only [Z3a,h0,h1,h2,cond_true,cond_false]
    · rfl
  | false =>
   refine fnS E0Ok Z4 (c:=X0 f58) [] (.b false) [] func58 (q (sB' h1 <| sK [] sN)) rfl (by kernel_rfl) (by kernel_rfl) rfl ?_ ?_
   · simp only [Z3a,h0,h1,cond_true,cond_false]
   · rfl
 | false =>
  refine fnS E0Ok Z4 (c:=X0 f58) [] (.b false) [] func58 (p (sB' h0 <| sK [] sN)) rfl (by kernel_rfl) (by kernel_rfl) rfl ?_ ?_
  · simp only [Z3a,h0,cond_false]
  · rfl
theorem Zb5 (a:Gv):Z3a a a=true:=by
  simp [Z3a,Z8T]
def Z2k (Y7:(List Gv)) (Yo:(List Gv)):Nat→Int→(Unit) ⊕ (Unit)
  | 0,_ => .inl default
  | k + 1,Yc => (cond (decide (Yc < (Y7.length:Int)))
    (cond (Z3a (Y7.getD Yc.toNat default) (Yo.getD Yc.toNat default))
      (Z2k Y7 Yo k (Yc + 1))
      (.inl ()))
    (.inr ()))
def Z5G (Y7:(List Gv)) (Yo:(List Gv)):(Unit) ⊕ (Unit)→Ex × St
  | .inl r => (.ret,⟨an 4 (.b false :: an 22 []),[]⟩)
  | .inr r => ((.exit 0),⟨.sl (Y7.map Gv.c) :: .sl (Yo.map Gv.c) :: an 4 (.sl (Y7.map Gv.c) :: .i .i64 (Y7.length:Int) :: .sl (Yo.map Gv.c) :: .i .i64 (Yo.length:Int) :: .b ((Y7.length:Int) != (Yo.length:Int)) :: an 16 []),[]⟩)
def Ze6 (Y7:(List Gv)) (Yo:(List Gv)) (Yc:Int):St:=⟨.sl (Y7.map Gv.c) :: .sl (Yo.map Gv.c) :: .any :: .any :: .any :: .i .i64 Yc :: .sl (Y7.map Gv.c) :: .i .i64 (Y7.length:Int) :: .sl (Yo.map Gv.c) :: .i .i64 (Yo.length:Int) :: .b ((Y7.length:Int) != (Yo.length:Int)) :: an 16 [],[]⟩
theorem Zab (Y7:(List Gv)) (Yo:(List Gv)) (hp0:Y7.length≤1073741824) (hp1:Yo.length≤1073741824) (Zi3:((Y7.length:Int) != (Yo.length:Int))=false):∀ (k:Nat) (Yc:Int) (Z8U:0≤Yc) (hk:((Y7.length:Int) - Yc).toNat < k),Lp prog 0 (sub (X0 f15) [1,1,0,1,0,0]) (Ze6 Y7 Yo Yc) (Z5G Y7 Yo (Z2k Y7 Yo k Yc)).1 (Z5G Y7 Yo (Z2k Y7 Yo k Yc)).2:=by
 intro k
 induction k with
 | zero => intro Yc Z8U hk; exact absurd hk (Nat.not_lt_zero _)
 | succ k ih =>
  intro Yc Z8U hk
  have p {a C} (s:Scr a C):=sZ Gv.c Y7 <| s
  cases Yn:(decide (Yc < (Y7.length:Int))) with
  | true =>
   have YM:=odt Yn
   have YS:(0:Int)≤Yc:=by clear p; exact (by assumption)
   have YT:Yc < (Y7.length:Int):=by clear p; exact (by assumption)
   have YY:Yc < (Yo.length:Int):=by clear p; exact (by simp_all <;> omega)
   have q {a C} (s:Scr a C):=p (sB Yn <| sK [8,8] <| sG Gv.c Y7 Yc YS YT <| sG Gv.c Yo Yc YS YY <| sF (Zcf (Y7.getD Yc.toNat default) (Yo.getD Yc.toNat default)) <| s)
   clear p
   cases YL:(Z3a (Y7.getD Yc.toNat default) (Yo.getD Yc.toNat default)) with
   | true =>
    have YZ:(-9223372036854775808:Int)≤(Yc + 1):=by clear q; exact (by omega)
    have y_4:(Yc + 1)≤(9223372036854775807:Int):=by clear q; exact (by omega)
    have e:Z2k Y7 Yo (k + 1) Yc=(Z2k Y7 Yo k (Yc + 1)):=by simp only [Z2k,Yn,YL,cond_true]
    rw [e]
    exact X9 E0Ok Z4 [] (mR false [0,2,3,6,16]) [] (ih (Yc + 1) (show 0≤(Yc + 1) from (by omega)) (by omega)) (q (sB' YL <| sI (Yc + 1) YZ y_4 <| sN)) (by kernel_rfl)
   | false =>
    have e:Z2k Y7 Yo (k + 1) Yc=(.inl ()):=by simp only [Z2k,Yn,YL,cond_true,cond_false]
    rw [e]
    exact outR (e := .ret) E0Ok Z4 [] (mR false [4,1,22]) [] (q (sB' YL <| sN)) (by kernel_rfl) (by intro h; cases h)
  | false =>
   have YM:=odf Yn
   have e:Z2k Y7 Yo (k + 1) Yc=(.inr ()):=by simp only [Z2k,Yn,cond_false]
   rw [e]
   exact outR (e:=(.exit 0)) E0Ok Z4 [] (mR false [0,2,4,5,16]) [] (p (sB Yn <| sN)) (by kernel_rfl) (by intro h; cases h)
def Z4z (Y7:(List Gv)) (Yo:(List Gv)):(Unit) ⊕ (Unit):=(Z2k Y7 Yo (((Y7.length:Int) - 0).toNat + 1) 0)
def Z3w (Y7:(List Gv)) (Yo:(List Gv)):Bool:=(cond ((Y7.length:Int) != (Yo.length:Int))
  false
  (match (Z4z Y7 Yo) with
    | .inl r2 => false
    | .inr r2 => true))
theorem ZbT (Y7:(List Gv)) (Yo:(List Gv)) (hp0:Y7.length≤1073741824) (hp1:Yo.length≤1073741824)  : Fn prog 15 [.sl (Y7.map Gv.c), .sl (Yo.map Gv.c)] (.b (Z3w Y7 Yo)) []:=by
 have p {a C} (s:Scr a C):=sZ Gv.c Y7 <| sZ Gv.c Yo <| s
 cases h0:((Y7.length:Int) != (Yo.length:Int)) with
 | true =>
  have gh0:=bne_iff_ne.1 h0
  refine fnS E0Ok Z4 (c:=X0 f15) [] (.b false) [] func15 (p (sB h0 <| sK [] sN)) rfl (by kernel_rfl) (by kernel_rfl) rfl ?_ ?_
  · simp only [Z3w,h0,cond_true]
  · rfl
 | false =>
  have gh0:=bne_eq_false_iff_eq.1 h0
  have q {a C} (s:Scr a C):=p (sB h0 <| s)
  clear p
  cases h1:(Z4z Y7 Yo) with
  | inl r2 =>
   refine fnS E0Ok Z4 (c:=X0 f15) [] (.b false) [] func15 (q (sL (mR false [0,2,3,6,16]) 0 (X1 (Z5G Y7 Yo) (x:=(Z4z Y7 Yo)) (Zab Y7 Yo hp0 hp1 h0 (((Y7.length:Int) - 0).toNat + 1) 0 (show 0≤0 from (by omega)) (Nat.lt_succ_self _)) h1) <| sK [] sN)) rfl (by kernel_rfl) (by kernel_rfl) rfl ?_ ?_
   · simp only [Z3w,h0,h1,cond_false]
   · rfl
  | inr r2 =>
   refine fnS E0Ok Z4 (c:=X0 f15) [] (.b true) [] func15 (q (sL (mR false [0,2,3,6,16]) 0 (X1 (Z5G Y7 Yo) (x:=(Z4z Y7 Yo)) (Zab Y7 Yo hp0 hp1 h0 (((Y7.length:Int) - 0).toNat + 1) 0 (show 0≤0 from (by omega)) (Nat.lt_succ_self _)) h1) <| sK [] sN)) rfl (by kernel_rfl) (by kernel_rfl) rfl ?_ ?_
   · simp only [Z3w,h0,h1,cond_false]
   · rfl
theorem ZcQ (a:List Gv):Z3w a a=true:=by
  unfold Z3w Z4z
  rw [X7m (a:=a) (p:=fun v => Z3a v v) (lo:=Z2k a a) (x:=()) (y:=()) (fun k i => rfl) (fun v _ => Zb5 v) _ _ (Int.le_refl 0) (Nat.lt_succ_self _)]
  simp
def Z2e (Y7:(List Int)) (Yo:(List Int)):Nat→Int→(Unit) ⊕ (Unit)
  | 0,_ => .inl default
  | k + 1,Yc => (cond (decide (Yc < (Y7.length:Int)))
    (cond ((Y7.getD Yc.toNat default) != (Yo.getD Yc.toNat default))
      (.inl ())
      (Z2e Y7 Yo k (Yc + 1)))
    (.inr ()))
def Z5R (Y7:(List Int)) (Yo:(List Int)):(Unit) ⊕ (Unit)→Ex × St
  | .inl r => (.ret,⟨an 4 (.b false :: an 21 []),[]⟩)
  | .inr r => ((.exit 0),⟨.sl (Y7.map (cI .i64)) :: .sl (Yo.map (cI .i64)) :: an 4 (.sl (Y7.map (cI .i64)) :: .i .i64 (Y7.length:Int) :: .sl (Yo.map (cI .i64)) :: .i .i64 (Yo.length:Int) :: .b ((Y7.length:Int) != (Yo.length:Int)) :: an 15 []),[]⟩)
def ZeN (Y7:(List Int)) (Yo:(List Int)) (Yc:Int):St:=⟨.sl (Y7.map (cI .i64)) :: .sl (Yo.map (cI .i64)) :: .any :: .any :: .any :: .i .i64 Yc :: .sl (Y7.map (cI .i64)) :: .i .i64 (Y7.length:Int) :: .sl (Yo.map (cI .i64)) :: .i .i64 (Yo.length:Int) :: .b ((Y7.length:Int) != (Yo.length:Int)) :: an 15 [],[]⟩
theorem ZaP (Y7:(List Int)) (Yo:(List Int)) (hp0:Y7.length≤1073741824) (hp1:Yo.length≤1073741824) (Zif:((Y7.length:Int) != (Yo.length:Int))=false):∀ (k:Nat) (Yc:Int) (Z9I:0≤Yc) (hk:((Y7.length:Int) - Yc).toNat < k),Lp prog 0 (sub (X0 f24) [1,1,0,1,0,0]) (ZeN Y7 Yo Yc) (Z5R Y7 Yo (Z2e Y7 Yo k Yc)).1 (Z5R Y7 Yo (Z2e Y7 Yo k Yc)).2:=by
 intro k
 induction k with
 | zero => intro Yc Z9I hk; exact absurd hk (Nat.not_lt_zero _)
 | succ k ih =>
  intro Yc Z9I hk
  have p {a C} (s:Scr a C):=sZ (cI .i64) Y7 <| s
  cases Yn:(decide (Yc < (Y7.length:Int))) with
  | true =>
   have YM:=odt Yn
   have YS:(0:Int)≤Yc:=by clear p; exact (by assumption)
   have YT:Yc < (Y7.length:Int):=by clear p; exact (by assumption)
   have YY:Yc < (Yo.length:Int):=by clear p; exact (by simp_all <;> omega)
   have q {a C} (s:Scr a C):=p (sB Yn <| sK [8,8] <| sG (cI .i64) Y7 Yc YS YT <| sG (cI .i64) Yo Yc YS YY <| s)
   clear p
   cases YL:((Y7.getD Yc.toNat default) != (Yo.getD Yc.toNat default)) with
   | true =>
    have Y1a:=bne_iff_ne.1 YL
    have e:Z2e Y7 Yo (k + 1) Yc=(.inl ()):=by simp only [Z2e,Yn,YL,cond_true]
    rw [e]
    exact outR (e := .ret) E0Ok Z4 [] (mR false [4,1,21]) [] (q (sB YL <| sN)) (by kernel_rfl) (by intro h; cases h)
   | false =>
    have Y1a:=bne_eq_false_iff_eq.1 YL
    have YZ:(-9223372036854775808:Int)≤(Yc + 1):=by clear q; exact (by omega)
    have y_4:(Yc + 1)≤(9223372036854775807:Int):=by clear q; exact (by omega)
    have e:Z2e Y7 Yo (k + 1) Yc=(Z2e Y7 Yo k (Yc + 1)):=by simp only [Z2e,Yn,YL,cond_true,cond_false]
    rw [e]
    exact X9 E0Ok Z4 [] (mR false [0,2,3,6,15]) [] (ih (Yc + 1) (show 0≤(Yc + 1) from (by omega)) (by omega)) (q (sB YL <| sI (Yc + 1) YZ y_4 <| sN)) (by kernel_rfl)
  | false =>
   have YM:=odf Yn
   have e:Z2e Y7 Yo (k + 1) Yc=(.inr ()):=by simp only [Z2e,Yn,cond_false]
   rw [e]
   exact outR (e:=(.exit 0)) E0Ok Z4 [] (mR false [0,2,4,5,15]) [] (p (sB Yn <| sN)) (by kernel_rfl) (by intro h; cases h)
def Z4H (Y7:(List Int)) (Yo:(List Int)):(Unit) ⊕ (Unit):=(Z2e Y7 Yo (((Y7.length:Int) - 0).toNat + 1) 0)
def Z3b (Y7:(List Int)) (Yo:(List Int)):Bool:=(cond ((Y7.length:Int) != (Yo.length:Int))
  false
  (match (Z4H Y7 Yo) with
    | .inl r2 => false
    | .inr r2 => true))
theorem Zcg (Y7:(List Int)) (Yo:(List Int)) (hp0:Y7.length≤1073741824) (hp1:Yo.length≤1073741824)  : Fn prog 24 [.sl (Y7.map (cI .i64)), .sl (Yo.map (cI .i64))] (.b (Z3b Y7 Yo)) []:=by
 have p {a C} (s:Scr a C):=sZ (cI .i64) Y7 <| sZ (cI .i64) Yo <| s
 cases h0:((Y7.length:Int) != (Yo.length:Int)) with
 | true =>
  have gh0:=bne_iff_ne.1 h0
  refine fnS E0Ok Z4 (c:=X0 f24) [] (.b false) [] func24 (p (sB h0 <| sK [] sN)) rfl (by kernel_rfl) (by kernel_rfl) rfl ?_ ?_
  · simp only [Z3b,h0,cond_true]
  · rfl
 | false =>
  have gh0:=bne_eq_false_iff_eq.1 h0
  have q {a C} (s:Scr a C):=p (sB h0 <| s)
  clear p
  cases h1:(Z4H Y7 Yo) with
  | inl r2 =>
   refine fnS E0Ok Z4 (c:=X0 f24) [] (.b false) [] func24 (q (sL (mR false [0,2,3,6,15]) 0 (X1 (Z5R Y7 Yo) (x:=(Z4H Y7 Yo)) (ZaP Y7 Yo hp0 hp1 h0 (((Y7.length:Int) - 0).toNat + 1) 0 (show 0≤0 from (by omega)) (Nat.lt_succ_self _)) h1) <| sK [] sN)) rfl (by kernel_rfl) (by kernel_rfl) rfl ?_ ?_
   · simp only [Z3b,h0,h1,cond_false]
   · rfl
  | inr r2 =>
   refine fnS E0Ok Z4 (c:=X0 f24) [] (.b true) [] func24 (q (sL (mR false [0,2,3,6,15]) 0 (X1 (Z5R Y7 Yo) (x:=(Z4H Y7 Yo)) (ZaP Y7 Yo hp0 hp1 h0 (((Y7.length:Int) - 0).toNat + 1) 0 (show 0≤0 from (by omega)) (Nat.lt_succ_self _)) h1) <| sK [] sN)) rfl (by kernel_rfl) (by kernel_rfl) rfl ?_ ?_
   · simp only [Z3b,h0,h1,cond_false]
   · rfl
theorem ZdB (a:List Int):Z3b a a=true:=by
  unfold Z3b Z4H
  rw [XJ (a:=a) (p:=fun v => !(v != v)) (lo:=Z2e a a) (x:=()) (y:=()) (fun k i => by rw [Z2e]; cases (a.getD i.toNat default != a.getD i.toNat default) <;> rfl)]
  rw [show (a.all fun v => !(v != v))=true from by rw [List.all_eq_true]; intro v _; simp]
  simp
def Z2l (Y7:(List (List Int))) (Yo:(List (List Int))):Nat→Int→(Unit) ⊕ (Unit)
  | 0,_ => .inl default
  | k + 1,Yc => (cond (decide (Yc < (Y7.length:Int)))
    (cond (Z3b (Y7.getD Yc.toNat default) (Yo.getD Yc.toNat default))
      (Z2l Y7 Yo k (Yc + 1))
      (.inl ()))
    (.inr ()))
def Z5H (Y7:(List (List Int))) (Yo:(List (List Int))):(Unit) ⊕ (Unit)→Ex × St
  | .inl r => (.ret,⟨an 4 (.b false :: an 22 []),[]⟩)
  | .inr r => ((.exit 0),⟨.sl (Y7.map (cL (cI .i64))) :: .sl (Yo.map (cL (cI .i64))) :: an 4 (.sl (Y7.map (cL (cI .i64))) :: .i .i64 (Y7.length:Int) :: .sl (Yo.map (cL (cI .i64))) :: .i .i64 (Yo.length:Int) :: .b ((Y7.length:Int) != (Yo.length:Int)) :: an 16 []),[]⟩)
def Ze7 (Y7:(List (List Int))) (Yo:(List (List Int))) (Yc:Int):St:=⟨.sl (Y7.map (cL (cI .i64))) :: .sl (Yo.map (cL (cI .i64))) :: .any :: .any :: .any :: .i .i64 Yc :: .sl (Y7.map (cL (cI .i64))) :: .i .i64 (Y7.length:Int) :: .sl (Yo.map (cL (cI .i64))) :: .i .i64 (Yo.length:Int) :: .b ((Y7.length:Int) != (Yo.length:Int)) :: an 16 [],[]⟩
theorem Zac (Y7:(List (List Int))) (Yo:(List (List Int))) (hp0:Y7.length≤1073741824) (hp1:∀ t∈Y7,t.length≤1073741824) (hp2:Yo.length≤1073741824) (hp3:∀ t∈Yo,t.length≤1073741824) (Zi4:((Y7.length:Int) != (Yo.length:Int))=false):∀ (k:Nat) (Yc:Int) (Z8V:0≤Yc) (hk:((Y7.length:Int) - Yc).toNat < k),Lp prog 0 (sub (X0 f117) [1,1,0,1,0,0]) (Ze7 Y7 Yo Yc) (Z5H Y7 Yo (Z2l Y7 Yo k Yc)).1 (Z5H Y7 Yo (Z2l Y7 Yo k Yc)).2:=by
 intro k
 induction k with
 | zero => intro Yc Z8V hk; exact absurd hk (Nat.not_lt_zero _)
 | succ k ih =>
  intro Yc Z8V hk
  have p {a C} (s:Scr a C):=sZ (cL (cI .i64)) Y7 <| s
  cases Yn:(decide (Yc < (Y7.length:Int))) with
  | true =>
   have YM:=odt Yn
   have YS:(0:Int)≤Yc:=by clear p; exact (by assumption)
   have YT:Yc < (Y7.length:Int):=by clear p; exact (by assumption)
   have YY:Yc < (Yo.length:Int):=by clear p; exact (by simp_all <;> omega)
   have YZ:(Y7.getD Yc.toNat default).length≤1073741824:=by clear p; exact (by simp_all <;> omega)
   have y_4:(Yo.getD Yc.toNat default).length≤1073741824:=by clear p; exact (by simp_all <;> omega)
   have q {a C} (s:Scr a C):=p (sB Yn <| sK [8,8] <| sG (cL (cI .i64)) Y7 Yc YS YT <| sG (cL (cI .i64)) Yo Yc YS YY <| sF (Zcg (Y7.getD Yc.toNat default) (Yo.getD Yc.toNat default) YZ y_4) <| s)
   clear p
   cases YL:(Z3b (Y7.getD Yc.toNat default) (Yo.getD Yc.toNat default)) with
   | true =>
    have y_5:(-9223372036854775808:Int)≤(Yc + 1):=by clear q; exact (by omega)
    have y_6:(Yc + 1)≤(9223372036854775807:Int):=by clear q; exact (by omega)
    have e:Z2l Y7 Yo (k + 1) Yc=(Z2l Y7 Yo k (Yc + 1)):=by simp only [Z2l,Yn,YL,cond_true]
    rw [e]
    exact X9 E0Ok Z4 [] (mR false [0,2,3,6,16]) [] (ih (Yc + 1) (show 0≤(Yc + 1) from (by omega)) (by omega)) (q (sB' YL <| sI (Yc + 1) y_5 y_6 <| sN)) (by kernel_rfl)
   | false =>
    have e:Z2l Y7 Yo (k + 1) Yc=(.inl ()):=by simp only [Z2l,Yn,YL,cond_true,cond_false]
    rw [e]
    exact outR (e := .ret) E0Ok Z4 [] (mR false [4,1,22]) [] (q (sB' YL <| sN)) (by kernel_rfl) (by intro h; cases h)
  | false =>
   have YM:=odf Yn
   have e:Z2l Y7 Yo (k + 1) Yc=(.inr ()):=by simp only [Z2l,Yn,cond_false]
   rw [e]
   exact outR (e:=(.exit 0)) E0Ok Z4 [] (mR false [0,2,4,5,16]) [] (p (sB Yn <| sN)) (by kernel_rfl) (by intro h; cases h)
end Go.Ab
