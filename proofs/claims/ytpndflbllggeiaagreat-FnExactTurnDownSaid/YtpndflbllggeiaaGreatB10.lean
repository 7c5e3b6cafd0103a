/- The functions of this seat as plain Lean, and that the program's are these. Printed by a program of the prover's own. -/
import Derived.Test.YtpndflbllggeiaaGreatB9
set_option linter.unusedVariables false
set_option linter.unusedSimpArgs false
set_option maxRecDepth 100000
namespace Go.Ab
open Go.RowKit Go.Proofs.Tryz
theorem Z8z (b:Gb) (l:List Int) (ok:OkBd b):Z9 b l=Z1 b l:=by
  unfold Z9 Z1 Z4B Z4Z
  rw [ZhR b ok,show Z1m b l=Z1R b l from by kernel_rfl]
theorem Z62 (b:Gb) (hs:List Int) (h:Z2K b hs=true):Zt b=true∧Zq b hs=true:=by
  rw [Zh1] at h
  cases h1:Zt b<;>rw [h1] at h<;>(try (cases h;done))
  exact ⟨rfl,h⟩
theorem Z69 (Yd:Gb) (Y3:(List Int)) (hp0:Yd.Me.Pq.length≤1073741824) (hp1:Yd.Me.Tr.length≤1073741824) (hp2:∀ t∈Yd.Me.Tr,t.length≤1073741824) (hp3:Yd.Sp.length≤1073741824) (hp4:Yd.We.length≤1073741824) (hp5:Y3.length≤1073741824) (hp6:OkBd Yd) (hp7:OkIx Yd.Me.Pq.length (fun x=>x) Y3)  : Fn prog 68 [.agg [.sl (Yd.Me.Pq.map Gv.c), .sl (Yd.Me.Tr.map (cL (cI .i64))), .sl (Yd.Sp.map Gs.c), .f .f32 Yd.Film, .f .f32 Yd.Bend, .sl (Yd.We.map (cF .f32)), .f .f32 Yd.Fall.X, .f .f32 Yd.Fall.Y, .f .f32 Yd.Fall.Z], .sl (Y3.map (cI .i64))] (.own 0) [.vec 40 3 ((Z9 Yd Y3).map Gv.c) false]:=by
 refine fnS E0Ok Z7 (c:=X0 f68) [] (.own 0) [.vec 40 3 ((Z4B Yd Y3).map Gv.c) false] func68 (sF (Zgr Yd hp0 hp1 hp2 hp3 hp4 hp6)<|sZ (cI .i64) Y3<|sL (mR false [0,3,1,2,2,5,9]) 2 (X1 (Z6G Yd Y3) (x:=(Z4B Yd Y3)) (ZdJ Yd Y3 hp0 hp1 hp2 hp3 hp4 hp5 hp6 hp7 (((Y3.length:Int) - 0).toNat + 1) 0 (Z3F Yd) (show 0≤0 from (by omega)) (show (Z3F Yd).length=Yd.Me.Pq.length from (by simp;done)) (Nat.lt_succ_self _)) rfl)<|sK [1] sN) rfl (by kernel_rfl) (by kernel_rfl) rfl ?_ ?_
 · rfl
 · simp [Z9]
def Z4x (Yd:Gb) (Y1:Int):Nat:=(fop .mul .f32 (fop .sub .f32 (ZJ (ZF Yd (Yd.Sp.getD Y1.toNat default))) ((Yd.Sp.getD Y1.toNat default).Long)) (fop .sub .f32 (ZJ (ZF Yd (Yd.Sp.getD Y1.toNat default))) ((Yd.Sp.getD Y1.toNat default).Long)))
def Z1S (Yd:Gb):Nat→Int→(List Nat)→(List Nat)
  | 0,_,_=>default
  | k + 1,Y1,Yl=>(cond (decide (Y1 < (Yd.Sp.length:Int)))
    (Z1S Yd k (Y1 + 1) (Yl.set 0 (fop .add .f32 (Yl.getD 0 default) (fop .mul .f32 (fop .mul .f32 1056964608 ((Yd.Sp.getD Y1.toNat default).Stiff)) (Z4x Yd Y1)))))
    Yl)
def Z8e (Yd:Gb) (r:(List Nat)):Ex × St:=((.exit 0),⟨.agg [.sl (Yd.Me.Pq.map Gv.c), .sl (Yd.Me.Tr.map (cL (cI .i64))), .sl (Yd.Sp.map Gs.c), .f .f32 Yd.Film, .f .f32 Yd.Bend, .sl (Yd.We.map (cF .f32)), .f .f32 Yd.Fall.X, .f .f32 Yd.Fall.Y, .f .f32 Yd.Fall.Z] :: .ptr 0 0 0 :: .nils :: .own 1 :: an 10 (.own 1 :: .ptr 0 0 2 :: .sl (Yd.Sp.map Gs.c) :: an 100 []),[.box 42 [.sl (Yd.Me.Pq.map Gv.c), .sl (Yd.Me.Tr.map (cL (cI .i64))), .sl (Yd.Sp.map Gs.c), .f .f32 Yd.Film, .f .f32 Yd.Bend, .sl (Yd.We.map (cF .f32)), .f .f32 Yd.Fall.X, .f .f32 Yd.Fall.Y, .f .f32 Yd.Fall.Z], .vec 27 1 (r.map (cF .f32)) false]⟩)
def Z8f (Yd:Gb) (Y1:Int) (Yl:(List Nat)):St:=⟨.agg [.sl (Yd.Me.Pq.map Gv.c), .sl (Yd.Me.Tr.map (cL (cI .i64))), .sl (Yd.Sp.map Gs.c), .f .f32 Yd.Film, .f .f32 Yd.Bend, .sl (Yd.We.map (cF .f32)), .f .f32 Yd.Fall.X, .f .f32 Yd.Fall.Y, .f .f32 Yd.Fall.Z] :: .ptr 0 0 0 :: .nils :: .own 1 :: an 10 (.own 1 :: .ptr 0 0 2 :: .sl (Yd.Sp.map Gs.c) :: .i .i64 (Yd.Sp.length:Int) :: .i .i64 Y1 :: an 98 []),[.box 42 [.sl (Yd.Me.Pq.map Gv.c), .sl (Yd.Me.Tr.map (cL (cI .i64))), .sl (Yd.Sp.map Gs.c), .f .f32 Yd.Film, .f .f32 Yd.Bend, .sl (Yd.We.map (cF .f32)), .f .f32 Yd.Fall.X, .f .f32 Yd.Fall.Y, .f .f32 Yd.Fall.Z], .vec 27 1 (Yl.map (cF .f32)) false]⟩
theorem Zfk (Yd:Gb) (hp0:Yd.Me.Pq.length≤1073741824) (hp1:Yd.Me.Tr.length≤1073741824) (hp2:∀ t∈Yd.Me.Tr,t.length≤1073741824) (hp3:Yd.Sp.length≤1073741824) (hp4:Yd.We.length≤1073741824) (hp5:OkBd Yd):∀ (k:Nat) (Y1:Int) (Yl:(List Nat)) (Zan:0≤Y1) (Zao:Yl.length=4) (hk:((Yd.Sp.length:Int) - Y1).toNat < k),Lp prog 0 (sub (X0 f129) [1,1,0,1,0,0]) (Z8f Yd Y1 Yl) (Z8e Yd (Z1S Yd k Y1 Yl)).1 (Z8e Yd (Z1S Yd k Y1 Yl)).2:=by
 intro k
 induction k with
 | zero=>intro Y1 Yl Zan Zao hk;exact absurd hk (Nat.not_lt_zero _)
 | succ k ih =>
  intro Y1 Yl Zan Zao hk
  cases Yv:(decide (Y1 < (Yd.Sp.length:Int))) with
  | true =>
   have YI:=odt Yv
   have YT:(0:Int)≤Y1:=(by assumption)
   have YV:Y1 < (Yd.Sp.length:Int):=(by assumption)
   have YX:0≤(Yd.Sp.getD Y1.toNat default).A:=(by have q:=Z3O hp5 (by assumption) Yv;omega)
   have YZ:(Yd.Sp.getD Y1.toNat default).A < (Yd.Me.Pq.length:Int):=(by have q:=Z3O hp5 (by assumption) Yv;omega)
   have y_4:0≤(Yd.Sp.getD Y1.toNat default).B:=(by have q:=Z3O hp5 (by assumption) Yv;omega)
   have y_5:(Yd.Sp.getD Y1.toNat default).B < (Yd.Me.Pq.length:Int):=(by have q:=Z3O hp5 (by assumption) Yv;omega)
   have y_6:(0:Int)≤0:=(by omega)
   have y_7:0 < (Yl.length:Int):=(by omega)
   have y_8:0 < Yl.length:=(by omega)
   have y_9:(-9223372036854775808:Int)≤(Y1 + 1):=(by omega)
   have Y1b:(Y1 + 1)≤(9223372036854775807:Int):=(by omega)
   have e:Z1S Yd (k + 1) Y1 Yl=(Z1S Yd k (Y1 + 1) (Yl.set 0 (fop .add .f32 (Yl.getD 0 default) (fop .mul .f32 (fop .mul .f32 1056964608 ((Yd.Sp.getD Y1.toNat default).Stiff)) (Z4x Yd Y1))))):=by simp only [Z1S,Yv,cond_true]
   rw [e]
   exact X9 E0Ok Z7 [] (mR false [0,4,10,5,98]) [0,1] (⟨.agg [.sl (Yd.Me.Pq.map Gv.c), .sl (Yd.Me.Tr.map (cL (cI .i64))), .sl (Yd.Sp.map Gs.c), .f .f32 Yd.Film, .f .f32 Yd.Bend, .sl (Yd.We.map (cF .f32)), .f .f32 Yd.Fall.X, .f .f32 Yd.Fall.Y, .f .f32 Yd.Fall.Z] :: .ptr 0 0 0 :: .nils :: .own 1 :: an 10 (.own 1 :: .ptr 0 0 2 :: .sl (Yd.Sp.map Gs.c) :: .i .i64 (Yd.Sp.length:Int) :: .i .i64 (Y1 + 1) :: an 98 []),[.box 42 [.sl (Yd.Me.Pq.map Gv.c), .sl (Yd.Me.Tr.map (cL (cI .i64))), .sl (Yd.Sp.map Gs.c), .f .f32 Yd.Film, .f .f32 Yd.Bend, .sl (Yd.We.map (cF .f32)), .f .f32 Yd.Fall.X, .f .f32 Yd.Fall.Y, .f .f32 Yd.Fall.Z], .vec 27 1 ((Yl.map (cF .f32)).set 0 [.f .f32 (fop .add .f32 (Yl.getD 0 default) (fop .mul .f32 (fop .mul .f32 1056964608 ((Yd.Sp.getD Y1.toNat default).Stiff)) (Z4x Yd Y1)))]) false]⟩) (sB Yv<|sG Gs.c Yd.Sp Y1 YT YV<|sK [6,6]<|sF (Zb3 Yd (Yd.Sp.getD Y1.toNat default) hp0 hp1 hp2 hp3 hp4 YX YZ y_4 y_5)<|sF (Z8y (ZF Yd (Yd.Sp.getD Y1.toNat default)))<|sK [10,10]<|sX (cF .f32) Yl 0 y_6 y_7<|sV (cF .f32) Yl 0 y_8<|sX (cF .f32) Yl 0 y_6 y_7<|sC (Xl (c:=(cF .f32)) (l:=Yl) y_8)<|sI (Y1 + 1) y_9 Y1b<|sN) (by kernel_rfl) (by simp [Z8f,List.map_set,cF]) (ih (Y1 + 1) (Yl.set 0 (fop .add .f32 (Yl.getD 0 default) (fop .mul .f32 (fop .mul .f32 1056964608 ((Yd.Sp.getD Y1.toNat default).Stiff)) (Z4x Yd Y1)))) (show 0≤(Y1 + 1) from (by omega)) (show (Yl.set 0 (fop .add .f32 (Yl.getD 0 default) (fop .mul .f32 (fop .mul .f32 1056964608 ((Yd.Sp.getD Y1.toNat default).Stiff)) (Z4x Yd Y1)))).length=4 from (by simp_all<;>omega)) (by omega))
  | false =>
   have YI:=odf Yv
   have e:Z1S Yd (k + 1) Y1 Yl=Yl:=by simp only [Z1S,Yv,cond_false]
   rw [e]
   exact outR (e:=(.exit 0)) E0Ok Z7 [] (mR false [0,4,10,3,100]) [0,1] (sB Yv<|sN) (by kernel_rfl) (by intro h;cases h)
theorem Ze8 (Yd:Gb):∀ (k:Nat) (Y1:Int) (Yl:(List Nat)) (hk:((Yd.Sp.length:Int) - Y1).toNat < k),(Z1S Yd k Y1 Yl).length=Yl.length:=by
  intro k
  induction k with
  | zero=>intro Y1 Yl hk;exact absurd hk (Nat.not_lt_zero _)
  | succ k ih =>
    intro Y1 Yl hk
    cases Yv:(decide (Y1 < (Yd.Sp.length:Int))) with
    | true =>
      have e:Z1S Yd (k + 1) Y1 Yl=(Z1S Yd k (Y1 + 1) (Yl.set 0 (fop .add .f32 (Yl.getD 0 default) (fop .mul .f32 (fop .mul .f32 1056964608 ((Yd.Sp.getD Y1.toNat default).Stiff)) (Z4x Yd Y1))))):=by simp only [Z1S,Yv,cond_true]
      rw [e,ih (Y1 + 1) (Yl.set 0 (fop .add .f32 (Yl.getD 0 default) (fop .mul .f32 (fop .mul .f32 1056964608 ((Yd.Sp.getD Y1.toNat default).Stiff)) (Z4x Yd Y1)))) (by simp_all<;>omega)];simp
    | false =>
      have e:Z1S Yd (k + 1) Y1 Yl=Yl:=by simp only [Z1S,Yv,cond_false]
      first | (rw [e];done) | (rw [e];rfl)
def Z2A (Yd:Gb):(List Nat):=(Z1S Yd (((Yd.Sp.length:Int) - 0).toNat + 1) 0 (List.replicate 4 0))
@[simp] theorem ZbT (Yd:Gb):(Z2A Yd).length=((List.replicate 4 0):(List Nat)).length:=Ze8 Yd (((Yd.Sp.length:Int) - 0).toNat + 1) 0 (List.replicate 4 0) (by exact Nat.lt_succ_self _)
def Z4y (Yd:Gb) (Y1:Int) (Yl:(List Nat)):Nat:=(fop .add .f32 (Yl.getD 1 default) (fop .mul .f32 Yd.Film (fop .mul .f32 1056964608 (ZJ (Zf Yd.Me (Yd.Me.Tr.getD Y1.toNat default))))))
def Z1T (Yd:Gb):Nat→Int→(List Nat)→(List Nat)
  | 0,_,_=>default
  | k + 1,Y1,Yl=>(cond (decide (Y1 < (Yd.Me.Tr.length:Int)))
    (Z1T Yd k (Y1 + 1) (Yl.set 1 (Z4y Yd Y1 Yl)))
    Yl)
def Z8g (Yd:Gb) (r:(List Nat)):Ex × St:=((.exit 2),⟨.agg [.sl (Yd.Me.Pq.map Gv.c), .sl (Yd.Me.Tr.map (cL (cI .i64))), .sl (Yd.Sp.map Gs.c), .f .f32 Yd.Film, .f .f32 Yd.Bend, .sl (Yd.We.map (cF .f32)), .f .f32 Yd.Fall.X, .f .f32 Yd.Fall.Y, .f .f32 Yd.Fall.Z] :: .ptr 0 0 0 :: .nils :: .own 1 :: an 10 (.own 1 :: .ptr 0 0 2 :: .sl (Yd.Sp.map Gs.c) :: an 25 (.ptr 0 0 0 :: .ptr 0 0 1 :: .sl (Yd.Me.Tr.map (cL (cI .i64))) :: an 72 [])),[.box 42 [.sl (Yd.Me.Pq.map Gv.c), .sl (Yd.Me.Tr.map (cL (cI .i64))), .sl (Yd.Sp.map Gs.c), .f .f32 Yd.Film, .f .f32 Yd.Bend, .sl (Yd.We.map (cF .f32)), .f .f32 Yd.Fall.X, .f .f32 Yd.Fall.Y, .f .f32 Yd.Fall.Z], .vec 27 1 (r.map (cF .f32)) false]⟩)
def ZbF (Yd:Gb) (Y1:Int) (Yl:(List Nat)):St:=⟨.agg [.sl (Yd.Me.Pq.map Gv.c), .sl (Yd.Me.Tr.map (cL (cI .i64))), .sl (Yd.Sp.map Gs.c), .f .f32 Yd.Film, .f .f32 Yd.Bend, .sl (Yd.We.map (cF .f32)), .f .f32 Yd.Fall.X, .f .f32 Yd.Fall.Y, .f .f32 Yd.Fall.Z] :: .ptr 0 0 0 :: .nils :: .own 1 :: an 10 (.own 1 :: .ptr 0 0 2 :: .sl (Yd.Sp.map Gs.c) :: an 25 (.ptr 0 0 0 :: .ptr 0 0 1 :: .sl (Yd.Me.Tr.map (cL (cI .i64))) :: .i .i64 (Yd.Me.Tr.length:Int) :: .i .i64 Y1 :: an 70 [])),[.box 42 [.sl (Yd.Me.Pq.map Gv.c), .sl (Yd.Me.Tr.map (cL (cI .i64))), .sl (Yd.Sp.map Gs.c), .f .f32 Yd.Film, .f .f32 Yd.Bend, .sl (Yd.We.map (cF .f32)), .f .f32 Yd.Fall.X, .f .f32 Yd.Fall.Y, .f .f32 Yd.Fall.Z], .vec 27 1 (Yl.map (cF .f32)) false]⟩
theorem Zfl (Yd:Gb) (hp0:Yd.Me.Pq.length≤1073741824) (hp1:Yd.Me.Tr.length≤1073741824) (hp2:∀ t∈Yd.Me.Tr,t.length≤1073741824) (hp3:Yd.Sp.length≤1073741824) (hp4:Yd.We.length≤1073741824) (hp5:OkBd Yd):∀ (k:Nat) (Y1:Int) (Yl:(List Nat)) (Zap:0≤Y1) (Zaq:Yl.length=(Z2A Yd).length) (hk:((Yd.Me.Tr.length:Int) - Y1).toNat < k),Lp prog 0 (sub (X0 f129) [1,1,1,0,1,0,0]) (ZbF Yd Y1 Yl) (Z8g Yd (Z1T Yd k Y1 Yl)).1 (Z8g Yd (Z1T Yd k Y1 Yl)).2:=by
 intro k
 induction k with
 | zero=>intro Y1 Yl Zap Zaq hk;exact absurd hk (Nat.not_lt_zero _)
 | succ k ih =>
  intro Y1 Yl Zap Zaq hk
  cases Yv:(decide (Y1 < (Yd.Me.Tr.length:Int))) with
  | true =>
   have YI:=odt Yv
   have YT:(0:Int)≤Y1:=(by assumption)
   have YV:Y1 < (Yd.Me.Tr.length:Int):=(by assumption)
   have YX:(0:Int)≤1:=(by omega)
   have YZ:1 < (Yl.length:Int):=(by simp_all<;>omega)
   have y_4:1 < Yl.length:=(by omega)
   have y_5:(Yd.Me.Tr.getD Y1.toNat default).length≤1073741824:=(by exact X4Q hp5.e (by assumption) Yv)
   have y_6:(Yd.Me.Tr.getD Y1.toNat default).length=3∧∀ x∈(Yd.Me.Tr.getD Y1.toNat default),0≤x∧x < (Yd.Me.Pq.length:Int):=(by exact tri3 hp5.e (by assumption) Yv)
   have y_7:(-9223372036854775808:Int)≤(Y1 + 1):=(by omega)
   have y_8:(Y1 + 1)≤(9223372036854775807:Int):=(by omega)
   have e:Z1T Yd (k + 1) Y1 Yl=(Z1T Yd k (Y1 + 1) (Yl.set 1 (Z4y Yd Y1 Yl))):=by simp only [Z1T,Yv,cond_true]
   rw [e]
   exact X9 E0Ok Z7 [] (mR false [0,4,10,3,25,5,70]) [0,1] (⟨.agg [.sl (Yd.Me.Pq.map Gv.c), .sl (Yd.Me.Tr.map (cL (cI .i64))), .sl (Yd.Sp.map Gs.c), .f .f32 Yd.Film, .f .f32 Yd.Bend, .sl (Yd.We.map (cF .f32)), .f .f32 Yd.Fall.X, .f .f32 Yd.Fall.Y, .f .f32 Yd.Fall.Z] :: .ptr 0 0 0 :: .nils :: .own 1 :: an 10 (.own 1 :: .ptr 0 0 2 :: .sl (Yd.Sp.map Gs.c) :: an 25 (.ptr 0 0 0 :: .ptr 0 0 1 :: .sl (Yd.Me.Tr.map (cL (cI .i64))) :: .i .i64 (Yd.Me.Tr.length:Int) :: .i .i64 (Y1 + 1) :: an 70 [])),[.box 42 [.sl (Yd.Me.Pq.map Gv.c), .sl (Yd.Me.Tr.map (cL (cI .i64))), .sl (Yd.Sp.map Gs.c), .f .f32 Yd.Film, .f .f32 Yd.Bend, .sl (Yd.We.map (cF .f32)), .f .f32 Yd.Fall.X, .f .f32 Yd.Fall.Y, .f .f32 Yd.Fall.Z], .vec 27 1 ((Yl.map (cF .f32)).set 1 [.f .f32 (Z4y Yd Y1 Yl)]) false]⟩) (sB Yv<|sG (cL (cI .i64)) Yd.Me.Tr Y1 YT YV<|sK [12,12]<|sX (cF .f32) Yl 1 YX YZ<|sV (cF .f32) Yl 1 y_4<|sF (Zcx Yd.Me (Yd.Me.Tr.getD Y1.toNat default) hp0 hp1 hp2 y_5 y_6)<|sF (Z8y (Zf Yd.Me (Yd.Me.Tr.getD Y1.toNat default)))<|sX (cF .f32) Yl 1 YX YZ<|sC (Xl (c:=(cF .f32)) (l:=Yl) y_4)<|sI (Y1 + 1) y_7 y_8<|sN) (by kernel_rfl) (by simp [ZbF,List.map_set,cF]) (ih (Y1 + 1) (Yl.set 1 (Z4y Yd Y1 Yl)) (show 0≤(Y1 + 1) from (by omega)) (show (Yl.set 1 (Z4y Yd Y1 Yl)).length=(Z2A Yd).length from (by simp_all<;>omega)) (by omega))
  | false =>
   have YI:=odf Yv
   have e:Z1T Yd (k + 1) Y1 Yl=Yl:=by simp only [Z1T,Yv,cond_false]
   rw [e]
   exact outR (e:=(.exit 2)) E0Ok Z7 [] (mR false [0,4,10,3,25,3,72]) [0,1] (sB Yv<|sN) (by kernel_rfl) (by intro h;cases h)
theorem Ze9 (Yd:Gb):∀ (k:Nat) (Y1:Int) (Yl:(List Nat)) (hk:((Yd.Me.Tr.length:Int) - Y1).toNat < k),(Z1T Yd k Y1 Yl).length=Yl.length:=by
  intro k
  induction k with
  | zero=>intro Y1 Yl hk;exact absurd hk (Nat.not_lt_zero _)
  | succ k ih =>
    intro Y1 Yl hk
    cases Yv:(decide (Y1 < (Yd.Me.Tr.length:Int))) with
    | true =>
      have e:Z1T Yd (k + 1) Y1 Yl=(Z1T Yd k (Y1 + 1) (Yl.set 1 (Z4y Yd Y1 Yl))):=by simp only [Z1T,Yv,cond_true]
      rw [e,ih (Y1 + 1) (Yl.set 1 (Z4y Yd Y1 Yl)) (by simp_all<;>omega)];simp
    | false =>
      have e:Z1T Yd (k + 1) Y1 Yl=Yl:=by simp only [Z1T,Yv,cond_false]
      first | (rw [e];done) | (rw [e];rfl)
def Z2B (Yd:Gb):(List Nat):=(Z1T Yd (((Yd.Me.Tr.length:Int) - 0).toNat + 1) 0 (Z2A Yd))
@[simp] theorem ZbU (Yd:Gb):(Z2B Yd).length=((Z2A Yd):(List Nat)).length:=Ze9 Yd (((Yd.Me.Tr.length:Int) - 0).toNat + 1) 0 (Z2A Yd) (by exact Nat.lt_succ_self _)
def Z47 (Yd:Gb) (Y1:Int):Nat:=(Z4q (ZG Yd.Me ((Za Yd.Me).getD Y1.toNat default)) (ZG Yd.Me ((Za Yd.Me).getD Y1.toNat default)))
def Z1M (Yd:Gb):Nat→Int→(List Nat)→(List Nat)
  | 0,_,_=>default
  | k + 1,Y1,Yl=>(cond (decide (Y1 < ((Za Yd.Me).length:Int)))
    (Z1M Yd k (Y1 + 1) (Yl.set 2 (fop .add .f32 (Yl.getD 2 default) (fop .mul .f32 (fop .mul .f32 1056964608 Yd.Bend) (Z47 Yd Y1)))))
    Yl)
def Z8h (Yd:Gb) (r:(List Nat)):Ex × St:=((.exit 4),⟨.agg [.sl (Yd.Me.Pq.map Gv.c), .sl (Yd.Me.Tr.map (cL (cI .i64))), .sl (Yd.Sp.map Gs.c), .f .f32 Yd.Film, .f .f32 Yd.Bend, .sl (Yd.We.map (cF .f32)), .f .f32 Yd.Fall.X, .f .f32 Yd.Fall.Y, .f .f32 Yd.Fall.Z] :: .ptr 0 0 0 :: .nils :: .own 1 :: an 10 (.own 1 :: .ptr 0 0 2 :: .sl (Yd.Sp.map Gs.c) :: an 25 (.ptr 0 0 0 :: .ptr 0 0 1 :: .sl (Yd.Me.Tr.map (cL (cI .i64))) :: an 20 (.ptr 0 0 0 :: .agg [.sl (Yd.Me.Pq.map Gv.c), .sl (Yd.Me.Tr.map (cL (cI .i64)))] :: .own 2 :: an 49 []))),[.box 42 [.sl (Yd.Me.Pq.map Gv.c), .sl (Yd.Me.Tr.map (cL (cI .i64))), .sl (Yd.Sp.map Gs.c), .f .f32 Yd.Film, .f .f32 Yd.Bend, .sl (Yd.We.map (cF .f32)), .f .f32 Yd.Fall.X, .f .f32 Yd.Fall.Y, .f .f32 Yd.Fall.Z], .vec 27 1 (r.map (cF .f32)) false, .nest 49 ((Za Yd.Me).map fun l=>l.map (cI .i64)) false]⟩)
def ZbG (Yd:Gb) (Y1:Int) (Yl:(List Nat)):St:=⟨.agg [.sl (Yd.Me.Pq.map Gv.c), .sl (Yd.Me.Tr.map (cL (cI .i64))), .sl (Yd.Sp.map Gs.c), .f .f32 Yd.Film, .f .f32 Yd.Bend, .sl (Yd.We.map (cF .f32)), .f .f32 Yd.Fall.X, .f .f32 Yd.Fall.Y, .f .f32 Yd.Fall.Z] :: .ptr 0 0 0 :: .nils :: .own 1 :: an 10 (.own 1 :: .ptr 0 0 2 :: .sl (Yd.Sp.map Gs.c) :: an 25 (.ptr 0 0 0 :: .ptr 0 0 1 :: .sl (Yd.Me.Tr.map (cL (cI .i64))) :: an 20 (.ptr 0 0 0 :: .agg [.sl (Yd.Me.Pq.map Gv.c), .sl (Yd.Me.Tr.map (cL (cI .i64)))] :: .own 2 :: .i .i64 ((Za Yd.Me).length:Int) :: .i .i64 Y1 :: an 47 []))),[.box 42 [.sl (Yd.Me.Pq.map Gv.c), .sl (Yd.Me.Tr.map (cL (cI .i64))), .sl (Yd.Sp.map Gs.c), .f .f32 Yd.Film, .f .f32 Yd.Bend, .sl (Yd.We.map (cF .f32)), .f .f32 Yd.Fall.X, .f .f32 Yd.Fall.Y, .f .f32 Yd.Fall.Z], .vec 27 1 (Yl.map (cF .f32)) false, .nest 49 ((Za Yd.Me).map fun l=>l.map (cI .i64)) false]⟩
def Zar:List Bool:=(mR false [0,4,10,3,25,3,20,5,47])
def Zea:List Bool:=(mR false [0,4,10,3,25,3,20,3,49])
theorem Zfm (Yd:Gb) (hp0:Yd.Me.Pq.length≤1073741824) (hp1:Yd.Me.Tr.length≤1073741824) (hp2:∀ t∈Yd.Me.Tr,t.length≤1073741824) (hp3:Yd.Sp.length≤1073741824) (hp4:Yd.We.length≤1073741824) (hp5:OkBd Yd):∀ (k:Nat) (Y1:Int) (Yl:(List Nat)) (Zas:0≤Y1) (Zat:Yl.length=(Z2B Yd).length) (hk:(((Za Yd.Me).length:Int) - Y1).toNat < k),Lp prog 0 (sub (X0 f129) [1,1,1,1,0,1,0,0]) (ZbG Yd Y1 Yl) (Z8h Yd (Z1M Yd k Y1 Yl)).1 (Z8h Yd (Z1M Yd k Y1 Yl)).2:=by
 intro k
 induction k with
 | zero=>intro Y1 Yl Zas Zat hk;exact absurd hk (Nat.not_lt_zero _)
 | succ k ih =>
  intro Y1 Yl Zas Zat hk
  cases Yv:(decide (Y1 < ((Za Yd.Me).length:Int))) with
  | true =>
   have YI:=odt Yv
   have YT:(0:Int)≤Y1:=(by assumption)
   have YV:Int.toNat Y1 < (Za Yd.Me).length:=(by omega)
   have YX:Y1.toNat < (Za Yd.Me).length:=(by assumption)
   have YZ:((Za Yd.Me).getD Y1.toNat default).length≤1073741824:=(by exact ZiE hp5.e (by assumption) Yv)
   have y_4:((Za Yd.Me).getD Y1.toNat default).length=4∧∀ x∈((Za Yd.Me).getD Y1.toNat default),0≤x∧x < (Yd.Me.Pq.length:Int):=(by exact Z7m hp5.e (by assumption) Yv)
   have y_5:(0:Int)≤2:=(by omega)
   have y_6:2 < (Yl.length:Int):=(by simp_all<;>omega)
   have y_7:2 < Yl.length:=(by omega)
   have y_8:(-9223372036854775808:Int)≤(Y1 + 1):=(by omega)
   have y_9:(Y1 + 1)≤(9223372036854775807:Int):=(by have q:=hp5.w;(have q:=ZbE _ hp5.e;omega))
   have e:Z1M Yd (k + 1) Y1 Yl=(Z1M Yd k (Y1 + 1) (Yl.set 2 (fop .add .f32 (Yl.getD 2 default) (fop .mul .f32 (fop .mul .f32 1056964608 Yd.Bend) (Z47 Yd Y1))))):=by simp only [Z1M,Yv,cond_true]
   rw [e]
   exact X9 E0Ok Z7 [] Zar [0,1,2] (⟨.agg [.sl (Yd.Me.Pq.map Gv.c), .sl (Yd.Me.Tr.map (cL (cI .i64))), .sl (Yd.Sp.map Gs.c), .f .f32 Yd.Film, .f .f32 Yd.Bend, .sl (Yd.We.map (cF .f32)), .f .f32 Yd.Fall.X, .f .f32 Yd.Fall.Y, .f .f32 Yd.Fall.Z] :: .ptr 0 0 0 :: .nils :: .own 1 :: an 10 (.own 1 :: .ptr 0 0 2 :: .sl (Yd.Sp.map Gs.c) :: an 25 (.ptr 0 0 0 :: .ptr 0 0 1 :: .sl (Yd.Me.Tr.map (cL (cI .i64))) :: an 20 (.ptr 0 0 0 :: .agg [.sl (Yd.Me.Pq.map Gv.c), .sl (Yd.Me.Tr.map (cL (cI .i64)))] :: .own 2 :: .i .i64 ((Za Yd.Me).length:Int) :: .i .i64 (Y1 + 1) :: an 47 []))),[.box 42 [.sl (Yd.Me.Pq.map Gv.c), .sl (Yd.Me.Tr.map (cL (cI .i64))), .sl (Yd.Sp.map Gs.c), .f .f32 Yd.Film, .f .f32 Yd.Bend, .sl (Yd.We.map (cF .f32)), .f .f32 Yd.Fall.X, .f .f32 Yd.Fall.Y, .f .f32 Yd.Fall.Z], .vec 27 1 ((Yl.map (cF .f32)).set 2 [.f .f32 (fop .add .f32 (Yl.getD 2 default) (fop .mul .f32 (fop .mul .f32 1056964608 Yd.Bend) (Z47 Yd Y1)))]) false, .nest 49 ((Za Yd.Me).map fun l=>l.map (cI .i64)) false]⟩) (sB Yv<|sC (X1V (c:=(cI .i64)) (l:=(Za Yd.Me)) (i:=Y1) YT YV)<|sC (X2g (c:=(cI .i64)) (l:=(Za Yd.Me)) YX)<|sF (Fn.castA (args':=[.agg [.sl (Yd.Me.Pq.map Gv.c), .sl (Yd.Me.Tr.map (cL (cI .i64)))], .sl (((Za Yd.Me).map fun l=>l.map (cI .i64)).getD Y1.toNat [])]) (ZdP Yd.Me ((Za Yd.Me).getD Y1.toNat default) hp0 hp1 hp2 YZ y_4) (by simp [cI];done))<|sK [10,10]<|sX (cF .f32) Yl 2 y_5 y_6<|sV (cF .f32) Yl 2 y_7<|sF (Z83 (ZG Yd.Me ((Za Yd.Me).getD Y1.toNat default)) (ZG Yd.Me ((Za Yd.Me).getD Y1.toNat default)))<|sX (cF .f32) Yl 2 y_5 y_6<|sC (Xl (c:=(cF .f32)) (l:=Yl) y_7)<|sI (Y1 + 1) y_8 y_9<|sN) (by kernel_rfl) (by simp [ZbG,List.map_set,cF]) (ih (Y1 + 1) (Yl.set 2 (fop .add .f32 (Yl.getD 2 default) (fop .mul .f32 (fop .mul .f32 1056964608 Yd.Bend) (Z47 Yd Y1)))) (show 0≤(Y1 + 1) from (by omega)) (show (Yl.set 2 (fop .add .f32 (Yl.getD 2 default) (fop .mul .f32 (fop .mul .f32 1056964608 Yd.Bend) (Z47 Yd Y1)))).length=(Z2B Yd).length from (by simp_all<;>omega)) (by omega))
  | false =>
   have YI:=odf Yv
   have e:Z1M Yd (k + 1) Y1 Yl=Yl:=by simp only [Z1M,Yv,cond_false]
   rw [e]
   exact outR (e:=(.exit 4)) E0Ok Z7 [] Zea [0,1,2] (sB Yv<|sN) (by kernel_rfl) (by intro h;cases h)
theorem Zeb (Yd:Gb):∀ (k:Nat) (Y1:Int) (Yl:(List Nat)) (hk:(((Za Yd.Me).length:Int) - Y1).toNat < k),(Z1M Yd k Y1 Yl).length=Yl.length:=by
  intro k
  induction k with
  | zero=>intro Y1 Yl hk;exact absurd hk (Nat.not_lt_zero _)
  | succ k ih =>
    intro Y1 Yl hk
    cases Yv:(decide (Y1 < ((Za Yd.Me).length:Int))) with
    | true =>
      have e:Z1M Yd (k + 1) Y1 Yl=(Z1M Yd k (Y1 + 1) (Yl.set 2 (fop .add .f32 (Yl.getD 2 default) (fop .mul .f32 (fop .mul .f32 1056964608 Yd.Bend) (Z47 Yd Y1))))):=by simp only [Z1M,Yv,cond_true]
      rw [e,ih (Y1 + 1) (Yl.set 2 (fop .add .f32 (Yl.getD 2 default) (fop .mul .f32 (fop .mul .f32 1056964608 Yd.Bend) (Z47 Yd Y1)))) (by simp_all<;>omega)];simp
    | false =>
      have e:Z1M Yd (k + 1) Y1 Yl=Yl:=by simp only [Z1M,Yv,cond_false]
      first | (rw [e];done) | (rw [e];rfl)
def Z2C (Yd:Gb):(List Nat):=(Z1M Yd ((((Za Yd.Me).length:Int) - 0).toNat + 1) 0 (Z2B Yd))
@[simp] theorem ZbV (Yd:Gb):(Z2C Yd).length=((Z2B Yd):(List Nat)).length:=Zeb Yd ((((Za Yd.Me).length:Int) - 0).toNat + 1) 0 (Z2B Yd) (by exact Nat.lt_succ_self _)
def Z4z (Yd:Gb) (Y1:Int) (Yl:(List Nat)):Nat:=(fop .add .f32 (Yl.getD 3 default) (fneg .f32 (fop .mul .f32 (Yd.We.getD Y1.toNat default) (Z4q Yd.Fall (Yd.Me.Pq.getD Y1.toNat default)))))
def Z1U (Yd:Gb):Nat→Int→(List Nat)→(List Nat)
  | 0,_,_=>default
  | k + 1,Y1,Yl=>(cond (decide (Y1 < (Yd.Me.Pq.length:Int)))
    (Z1U Yd k (Y1 + 1) (Yl.set 3 (Z4z Yd Y1 Yl)))
    Yl)
def Z8i (Yd:Gb) (r:(List Nat)):Ex × St:=((.exit 6),⟨.agg [.sl (Yd.Me.Pq.map Gv.c), .sl (Yd.Me.Tr.map (cL (cI .i64))), .sl (Yd.Sp.map Gs.c), .f .f32 Yd.Film, .f .f32 Yd.Bend, .sl (Yd.We.map (cF .f32)), .f .f32 Yd.Fall.X, .f .f32 Yd.Fall.Y, .f .f32 Yd.Fall.Z] :: .ptr 0 0 0 :: .nils :: .own 1 :: an 10 (.own 1 :: .ptr 0 0 2 :: .sl (Yd.Sp.map Gs.c) :: an 25 (.ptr 0 0 0 :: .ptr 0 0 1 :: .sl (Yd.Me.Tr.map (cL (cI .i64))) :: an 20 (.ptr 0 0 0 :: .agg [.sl (Yd.Me.Pq.map Gv.c), .sl (Yd.Me.Tr.map (cL (cI .i64)))] :: .own 2 :: an 22 (.ptr 0 0 0 :: .ptr 0 0 0 :: .sl (Yd.Me.Pq.map Gv.c) :: an 24 [])))),[.box 42 [.sl (Yd.Me.Pq.map Gv.c), .sl (Yd.Me.Tr.map (cL (cI .i64))), .sl (Yd.Sp.map Gs.c), .f .f32 Yd.Film, .f .f32 Yd.Bend, .sl (Yd.We.map (cF .f32)), .f .f32 Yd.Fall.X, .f .f32 Yd.Fall.Y, .f .f32 Yd.Fall.Z], .vec 27 1 (r.map (cF .f32)) false, .nest 49 ((Za Yd.Me).map fun l=>l.map (cI .i64)) false]⟩)
def ZbH (Yd:Gb) (Y1:Int) (Yl:(List Nat)):St:=⟨.agg [.sl (Yd.Me.Pq.map Gv.c), .sl (Yd.Me.Tr.map (cL (cI .i64))), .sl (Yd.Sp.map Gs.c), .f .f32 Yd.Film, .f .f32 Yd.Bend, .sl (Yd.We.map (cF .f32)), .f .f32 Yd.Fall.X, .f .f32 Yd.Fall.Y, .f .f32 Yd.Fall.Z] :: .ptr 0 0 0 :: .nils :: .own 1 :: an 10 (.own 1 :: .ptr 0 0 2 :: .sl (Yd.Sp.map Gs.c) :: an 25 (.ptr 0 0 0 :: .ptr 0 0 1 :: .sl (Yd.Me.Tr.map (cL (cI .i64))) :: an 20 (.ptr 0 0 0 :: .agg [.sl (Yd.Me.Pq.map Gv.c), .sl (Yd.Me.Tr.map (cL (cI .i64)))] :: .own 2 :: an 22 (.ptr 0 0 0 :: .ptr 0 0 0 :: .sl (Yd.Me.Pq.map Gv.c) :: .i .i64 (Yd.Me.Pq.length:Int) :: .i .i64 Y1 :: an 22 [])))),[.box 42 [.sl (Yd.Me.Pq.map Gv.c), .sl (Yd.Me.Tr.map (cL (cI .i64))), .sl (Yd.Sp.map Gs.c), .f .f32 Yd.Film, .f .f32 Yd.Bend, .sl (Yd.We.map (cF .f32)), .f .f32 Yd.Fall.X, .f .f32 Yd.Fall.Y, .f .f32 Yd.Fall.Z], .vec 27 1 (Yl.map (cF .f32)) false, .nest 49 ((Za Yd.Me).map fun l=>l.map (cI .i64)) false]⟩
def Zau:List Bool:=(mR false [0,4,10,3,25,3,20,3,22,5,22])
def Zec:List Bool:=(mR false [0,4,10,3,25,3,20,3,22,3,24])
theorem Zfn (Yd:Gb) (hp0:Yd.Me.Pq.length≤1073741824) (hp1:Yd.Me.Tr.length≤1073741824) (hp2:∀ t∈Yd.Me.Tr,t.length≤1073741824) (hp3:Yd.Sp.length≤1073741824) (hp4:Yd.We.length≤1073741824) (hp5:OkBd Yd):∀ (k:Nat) (Y1:Int) (Yl:(List Nat)) (Zav:0≤Y1) (Zaw:Yl.length=(Z2C Yd).length) (hk:((Yd.Me.Pq.length:Int) - Y1).toNat < k),Lp prog 0 (sub (X0 f129) [1,1,1,1,1,0,1,0,0]) (ZbH Yd Y1 Yl) (Z8i Yd (Z1U Yd k Y1 Yl)).1 (Z8i Yd (Z1U Yd k Y1 Yl)).2:=by
 intro k
 induction k with
 | zero=>intro Y1 Yl Zav Zaw hk;exact absurd hk (Nat.not_lt_zero _)
 | succ k ih =>
  intro Y1 Yl Zav Zaw hk
  cases Yv:(decide (Y1 < (Yd.Me.Pq.length:Int))) with
  | true =>
   have YI:=odt Yv
   have YT:(0:Int)≤Y1:=(by assumption)
   have YV:Y1 < (Yd.Me.Pq.length:Int):=(by assumption)
   have YX:(0:Int)≤3:=(by omega)
   have YZ:3 < (Yl.length:Int):=(by simp_all<;>omega)
   have y_4:3 < Yl.length:=(by omega)
   have y_5:Y1 < (Yd.We.length:Int):=(by have q:=hp5.w;omega)
   have y_6:(-9223372036854775808:Int)≤(Y1 + 1):=(by omega)
   have y_7:(Y1 + 1)≤(9223372036854775807:Int):=(by omega)
   have e:Z1U Yd (k + 1) Y1 Yl=(Z1U Yd k (Y1 + 1) (Yl.set 3 (Z4z Yd Y1 Yl))):=by simp only [Z1U,Yv,cond_true]
   rw [e]
   exact X9 E0Ok Z7 [] Zau [0,1,2] (⟨.agg [.sl (Yd.Me.Pq.map Gv.c), .sl (Yd.Me.Tr.map (cL (cI .i64))), .sl (Yd.Sp.map Gs.c), .f .f32 Yd.Film, .f .f32 Yd.Bend, .sl (Yd.We.map (cF .f32)), .f .f32 Yd.Fall.X, .f .f32 Yd.Fall.Y, .f .f32 Yd.Fall.Z] :: .ptr 0 0 0 :: .nils :: .own 1 :: an 10 (.own 1 :: .ptr 0 0 2 :: .sl (Yd.Sp.map Gs.c) :: an 25 (.ptr 0 0 0 :: .ptr 0 0 1 :: .sl (Yd.Me.Tr.map (cL (cI .i64))) :: an 20 (.ptr 0 0 0 :: .agg [.sl (Yd.Me.Pq.map Gv.c), .sl (Yd.Me.Tr.map (cL (cI .i64)))] :: .own 2 :: an 22 (.ptr 0 0 0 :: .ptr 0 0 0 :: .sl (Yd.Me.Pq.map Gv.c) :: .i .i64 (Yd.Me.Pq.length:Int) :: .i .i64 (Y1 + 1) :: an 22 [])))),[.box 42 [.sl (Yd.Me.Pq.map Gv.c), .sl (Yd.Me.Tr.map (cL (cI .i64))), .sl (Yd.Sp.map Gs.c), .f .f32 Yd.Film, .f .f32 Yd.Bend, .sl (Yd.We.map (cF .f32)), .f .f32 Yd.Fall.X, .f .f32 Yd.Fall.Y, .f .f32 Yd.Fall.Z], .vec 27 1 ((Yl.map (cF .f32)).set 3 [.f .f32 (Z4z Yd Y1 Yl)]) false, .nest 49 ((Za Yd.Me).map fun l=>l.map (cI .i64)) false]⟩) (sB Yv<|sG Gv.c Yd.Me.Pq Y1 YT YV<|sK [14,14]<|sX (cF .f32) Yl 3 YX YZ<|sV (cF .f32) Yl 3 y_4<|sG (cF .f32) Yd.We Y1 YT y_5<|sF (Z83 Yd.Fall (Yd.Me.Pq.getD Y1.toNat default))<|sX (cF .f32) Yl 3 YX YZ<|sC (Xl (c:=(cF .f32)) (l:=Yl) y_4)<|sI (Y1 + 1) y_6 y_7<|sN) (by kernel_rfl) (by simp [ZbH,List.map_set,cF]) (ih (Y1 + 1) (Yl.set 3 (Z4z Yd Y1 Yl)) (show 0≤(Y1 + 1) from (by omega)) (show (Yl.set 3 (Z4z Yd Y1 Yl)).length=(Z2C Yd).length from (by simp_all<;>omega)) (by omega))
  | false =>
   have YI:=odf Yv
   have e:Z1U Yd (k + 1) Y1 Yl=Yl:=by simp only [Z1U,Yv,cond_false]
   rw [e]
   exact outR (e:=(.exit 6)) E0Ok Z7 [] Zec [0,1,2] (sB Yv<|sN) (by kernel_rfl) (by intro h;cases h)
theorem Zed (Yd:Gb):∀ (k:Nat) (Y1:Int) (Yl:(List Nat)) (hk:((Yd.Me.Pq.length:Int) - Y1).toNat < k),(Z1U Yd k Y1 Yl).length=Yl.length:=by
  intro k
  induction k with
  | zero=>intro Y1 Yl hk;exact absurd hk (Nat.not_lt_zero _)
  | succ k ih =>
    intro Y1 Yl hk
    cases Yv:(decide (Y1 < (Yd.Me.Pq.length:Int))) with
    | true =>
      have e:Z1U Yd (k + 1) Y1 Yl=(Z1U Yd k (Y1 + 1) (Yl.set 3 (Z4z Yd Y1 Yl))):=by simp only [Z1U,Yv,cond_true]
      rw [e,ih (Y1 + 1) (Yl.set 3 (Z4z Yd Y1 Yl)) (by simp_all<;>omega)];simp
    | false =>
      have e:Z1U Yd (k + 1) Y1 Yl=Yl:=by simp only [Z1U,Yv,cond_false]
      first | (rw [e];done) | (rw [e];rfl)
def Z50 (Yd:Gb):(List Nat):=(Z1U Yd (((Yd.Me.Pq.length:Int) - 0).toNat + 1) 0 (Z2C Yd))
@[simp] theorem ZbW (Yd:Gb):(Z50 Yd).length=((Z2C Yd):(List Nat)).length:=Zed Yd (((Yd.Me.Pq.length:Int) - 0).toNat + 1) 0 (Z2C Yd) (by exact Nat.lt_succ_self _)
def Z19 (Yd:Gb):(List Nat):=(Z50 Yd)
theorem ZiF (m:Gm) (h:List Int):ZG m h=Z15 m h:=by kernel_rfl
theorem ZiG (b:Gb):Z1S b=Z1G b:=by kernel_rfl
theorem ZiH (b:Gb):Z1T b=Z1H b:=by kernel_rfl
theorem ZiI (b:Gb):Z1U b=Z1I b:=by kernel_rfl
theorem ZiJ (b:Gb) (h:Za b.Me=Z2 b.Me):∀ (k:Nat) (x:Int) (r:List Nat),Z1M b k x r=Z1s b k x r:=by
  intro k
  induction k with
  | zero=>intro x r;rfl
  | succ k ih =>
    intro x r
    rw [Z1M,Z1s,ih]
    unfold Z47 Z3Q
    rw [h,ZiF]
    rfl
theorem Zip (b:Gb) (ok:OkBd b):Z19 b=Z10 b:=by
  have h:Za b.Me=Z2 b.Me:=by rw [Z6C _ ok.e,Z9m _ ok.e]
  unfold Z19 Z10 Z50 Z4T Z2C Z2t Z2B Z2s Z2A Z2r
  rw [ZiG,ZiH,ZiI,ZiJ b h,h]
theorem ZaL (b:Gb):(Z19 b).length=4:=by
  unfold Z19
  rw [ZbW,ZbV,ZbU,ZbT];simp
theorem ZgH (Yd:Gb) (hp0:Yd.Me.Pq.length≤1073741824) (hp1:Yd.Me.Tr.length≤1073741824) (hp2:∀ t∈Yd.Me.Tr,t.length≤1073741824) (hp3:Yd.Sp.length≤1073741824) (hp4:Yd.We.length≤1073741824) (hp5:OkBd Yd)  : Fn prog 129 [.agg [.sl (Yd.Me.Pq.map Gv.c), .sl (Yd.Me.Tr.map (cL (cI .i64))), .sl (Yd.Sp.map Gs.c), .f .f32 Yd.Film, .f .f32 Yd.Bend, .sl (Yd.We.map (cF .f32)), .f .f32 Yd.Fall.X, .f .f32 Yd.Fall.Y, .f .f32 Yd.Fall.Z]] (.own 0) [.vec 27 1 ((Z19 Yd).map (cF .f32)) false]:=by
 have y0:(0:Int)≤4:=(by omega)
 have y1:(4:Int)≤2147483648:=(by omega)
 have y2:OkE Yd.Me.Pq.length Yd.Me.Tr:=(by exact hp5.e)
 refine fnS E0Ok Z7 (c:=X0 f129) [] (.own 0) [.vec 27 1 ((Z50 Yd).map (cF .f32)) false] func129 (sC (show (4:Int)=4 from rfl)<|sC y0<|sC y1<|sZ Gs.c Yd.Sp<|sL (mR false [0,4,10,5,98]) 2 (Xk (st2:=⟨.agg [.sl (Yd.Me.Pq.map Gv.c), .sl (Yd.Me.Tr.map (cL (cI .i64))), .sl (Yd.Sp.map Gs.c), .f .f32 Yd.Film, .f .f32 Yd.Bend, .sl (Yd.We.map (cF .f32)), .f .f32 Yd.Fall.X, .f .f32 Yd.Fall.Y, .f .f32 Yd.Fall.Z] :: .ptr 0 0 0 :: .nils :: .own 1 :: an 10 (.own 1 :: .ptr 0 0 2 :: .sl (Yd.Sp.map Gs.c) :: .i .i64 (Yd.Sp.length:Int) :: .i .i64 0 :: an 98 []),[.box 42 [.sl (Yd.Me.Pq.map Gv.c), .sl (Yd.Me.Tr.map (cL (cI .i64))), .sl (Yd.Sp.map Gs.c), .f .f32 Yd.Film, .f .f32 Yd.Bend, .sl (Yd.We.map (cF .f32)), .f .f32 Yd.Fall.X, .f .f32 Yd.Fall.Y, .f .f32 Yd.Fall.Z], .vec 27 1 (List.replicate (Int.toNat 4) [.f .f32 0]) false]⟩) (X1 (Z8e Yd) (x:=(Z2A Yd)) (Zfk Yd hp0 hp1 hp2 hp3 hp4 hp5 (((Yd.Sp.length:Int) - 0).toNat + 1) 0 (List.replicate 4 0) (show 0≤0 from (by omega)) (show (List.replicate 4 0).length=4 from (by simp;done)) (Nat.lt_succ_self _)) rfl) (by simp [Z8f,cF]))<|sZ (cL (cI .i64)) Yd.Me.Tr<|sL (mR false [0,4,10,3,25,5,70]) 2 (X1 (Z8g Yd) (x:=(Z2B Yd)) (Zfl Yd hp0 hp1 hp2 hp3 hp4 hp5 (((Yd.Me.Tr.length:Int) - 0).toNat + 1) 0 (Z2A Yd) (show 0≤0 from (by omega)) (show (Z2A Yd).length=(Z2A Yd).length from (by omega)) (Nat.lt_succ_self _)) rfl)<|sF (Zcz Yd.Me hp0 hp1 hp2 y2)<|sM (X26 (l:=(Za Yd.Me)) (f:=fun l=>l.map (cI .i64)))<|sL Zar 3 (X1 (Z8h Yd) (x:=(Z2C Yd)) (Zfm Yd hp0 hp1 hp2 hp3 hp4 hp5 ((((Za Yd.Me).length:Int) - 0).toNat + 1) 0 (Z2B Yd) (show 0≤0 from (by omega)) (show (Z2B Yd).length=(Z2B Yd).length from (by omega)) (Nat.lt_succ_self _)) rfl)<|sZ Gv.c Yd.Me.Pq<|sL Zau 3 (X1 (Z8i Yd) (x:=(Z50 Yd)) (Zfn Yd hp0 hp1 hp2 hp3 hp4 hp5 (((Yd.Me.Pq.length:Int) - 0).toNat + 1) 0 (Z2C Yd) (show 0≤0 from (by omega)) (show (Z2C Yd).length=(Z2C Yd).length from (by omega)) (Nat.lt_succ_self _)) rfl)<|sK [1] sN) rfl (by kernel_rfl) (by kernel_rfl) rfl ?_ ?_
 · rfl
 · simp [Z19]
def Z7T (Yd:Gb):Nat:=(fop .add .f32 (fop .add .f32 (fop .add .f32 ((Z19 Yd).getD 0 default) ((Z19 Yd).getD 1 default)) ((Z19 Yd).getD 2 default)) ((Z19 Yd).getD 3 default))
def Z3h (Yd:Gb):Nat:=(Z7T Yd)
theorem Zfv (b:Gb) (ok:OkBd b):Z3h b=Z30 b:=by
  unfold Z3h Z30 Z7T Z7d
  rw [Zip b ok]
theorem ZcA (Yd:Gb) (hp0:Yd.Me.Pq.length≤1073741824) (hp1:Yd.Me.Tr.length≤1073741824) (hp2:∀ t∈Yd.Me.Tr,t.length≤1073741824) (hp3:Yd.Sp.length≤1073741824) (hp4:Yd.We.length≤1073741824) (hp5:OkBd Yd)  : Fn prog 85 [.agg [.sl (Yd.Me.Pq.map Gv.c), .sl (Yd.Me.Tr.map (cL (cI .i64))), .sl (Yd.Sp.map Gs.c), .f .f32 Yd.Film, .f .f32 Yd.Bend, .sl (Yd.We.map (cF .f32)), .f .f32 Yd.Fall.X, .f .f32 Yd.Fall.Y, .f .f32 Yd.Fall.Z]] (.f .f32 (Z3h Yd)) []:=by
 have y0:(0:Int)≤0:=(by omega)
 have y1:0 < ((Z19 Yd).length:Int):=(by have q:=ZaL Yd;omega)
 have y2:0 < (Z19 Yd).length:=(by omega)
 have y3:(0:Int)≤1:=(by omega)
 have y4:1 < ((Z19 Yd).length:Int):=(by have q:=ZaL Yd;omega)
 have y5:1 < (Z19 Yd).length:=(by omega)
 have y6:(0:Int)≤2:=(by omega)
 have y7:2 < ((Z19 Yd).length:Int):=(by have q:=ZaL Yd;omega)
 have y8:2 < (Z19 Yd).length:=(by omega)
 have y9:(0:Int)≤3:=(by omega)
 have y10:3 < ((Z19 Yd).length:Int):=(by have q:=ZaL Yd;omega)
 have y11:3 < (Z19 Yd).length:=(by omega)
 refine fnS E0Ok Z7 (c:=X0 f85) [] (.f .f32 (Z7T Yd)) [] func85 (sF (ZgH Yd hp0 hp1 hp2 hp3 hp4 hp5)<|sK [14,14]<|sX (cF .f32) (Z19 Yd) 0 y0 y1<|sV (cF .f32) (Z19 Yd) 0 y2<|sX (cF .f32) (Z19 Yd) 1 y3 y4<|sV (cF .f32) (Z19 Yd) 1 y5<|sX (cF .f32) (Z19 Yd) 2 y6 y7<|sV (cF .f32) (Z19 Yd) 2 y8<|sX (cF .f32) (Z19 Yd) 3 y9 y10<|sV (cF .f32) (Z19 Yd) 3 y11<|sK [] sN) rfl (by kernel_rfl) (by kernel_rfl) rfl ?_ ?_
 · rfl
 · rfl
def Z28 (Yd:Gb) (Yz:(List Gv)) (Yy:Nat):Nat→Int→(List Gv)→(List Gv)
  | 0,_,_=>default
  | k + 1,Y1,Ys=>(cond (decide (Y1 < (Yz.length:Int)))
    (Z28 Yd Yz Yy k (Y1 + 1) (Ys.set Y1.toNat (ZD (Ys.getD Y1.toNat default) (ZC (Yz.getD Y1.toNat default) Yy))))
    Ys)
def Za1 (Yd:Gb) (Yz:(List Gv)) (Yy:Nat) (r:(List Gv)):Ex × St:=((.exit 0),⟨.agg [.sl (Yd.Me.Pq.map Gv.c), .sl (Yd.Me.Tr.map (cL (cI .i64))), .sl (Yd.Sp.map Gs.c), .f .f32 Yd.Film, .f .f32 Yd.Bend, .sl (Yd.We.map (cF .f32)), .f .f32 Yd.Fall.X, .f .f32 Yd.Fall.Y, .f .f32 Yd.Fall.Z] :: .sl (Yz.map Gv.c) :: .any :: .ptr 0 0 0 :: .any :: .any :: .ptr 1 0 0 :: .ptr 2 0 0 :: .any :: .any :: .agg [.sl (Yd.Me.Pq.map Gv.c), .sl (Yd.Me.Tr.map (cL (cI .i64))), .sl (Yd.Sp.map Gs.c), .f .f32 Yd.Film, .f .f32 Yd.Bend, .sl (Yd.We.map (cF .f32)), .f .f32 Yd.Fall.X, .f .f32 Yd.Fall.Y, .f .f32 Yd.Fall.Z] :: .agg [.own 3, .own 4, .own 5, .f .f32 Yd.Film, .f .f32 Yd.Bend, .own 6, .f .f32 Yd.Fall.X, .f .f32 Yd.Fall.Y, .f .f32 Yd.Fall.Z] :: .sl (Yz.map Gv.c) :: an 23 [],[.box 42 [.sl (Yd.Me.Pq.map Gv.c), .sl (Yd.Me.Tr.map (cL (cI .i64))), .sl (Yd.Sp.map Gs.c), .f .f32 Yd.Film, .f .f32 Yd.Bend, .sl (Yd.We.map (cF .f32)), .f .f32 Yd.Fall.X, .f .f32 Yd.Fall.Y, .f .f32 Yd.Fall.Z], .box 42 [.nils, .nils, .nils, .f .f32 0, .f .f32 0, .nils, .f .f32 0, .f .f32 0, .f .f32 0], .box 42 [.own 3, .own 4, .own 5, .f .f32 Yd.Film, .f .f32 Yd.Bend, .own 6, .f .f32 Yd.Fall.X, .f .f32 Yd.Fall.Y, .f .f32 Yd.Fall.Z], .vec 40 3 (r.map Gv.c) false, .nest 49 (Yd.Me.Tr.map fun l=>l.map (cI .i64)) false, .vec 133 4 (Yd.Sp.map Gs.c) false, .vec 27 1 (Yd.We.map (cF .f32)) false]⟩)
def ZcB (Yd:Gb) (Yz:(List Gv)) (Yy:Nat) (Y1:Int) (Ys:(List Gv)):St:=⟨.agg [.sl (Yd.Me.Pq.map Gv.c), .sl (Yd.Me.Tr.map (cL (cI .i64))), .sl (Yd.Sp.map Gs.c), .f .f32 Yd.Film, .f .f32 Yd.Bend, .sl (Yd.We.map (cF .f32)), .f .f32 Yd.Fall.X, .f .f32 Yd.Fall.Y, .f .f32 Yd.Fall.Z] :: .sl (Yz.map Gv.c) :: .f .f32 Yy :: .ptr 0 0 0 :: .any :: .any :: .ptr 1 0 0 :: .ptr 6 0 0 :: .any :: .any :: .agg [.sl (Yd.Me.Pq.map Gv.c), .sl (Yd.Me.Tr.map (cL (cI .i64))), .sl (Yd.Sp.map Gs.c), .f .f32 Yd.Film, .f .f32 Yd.Bend, .sl (Yd.We.map (cF .f32)), .f .f32 Yd.Fall.X, .f .f32 Yd.Fall.Y, .f .f32 Yd.Fall.Z] :: .agg [.own 2, .own 3, .own 4, .f .f32 Yd.Film, .f .f32 Yd.Bend, .own 5, .f .f32 Yd.Fall.X, .f .f32 Yd.Fall.Y, .f .f32 Yd.Fall.Z] :: .sl (Yz.map Gv.c) :: .i .i64 (Yz.length:Int) :: .i .i64 Y1 :: an 21 [],[.box 42 [.sl (Yd.Me.Pq.map Gv.c), .sl (Yd.Me.Tr.map (cL (cI .i64))), .sl (Yd.Sp.map Gs.c), .f .f32 Yd.Film, .f .f32 Yd.Bend, .sl (Yd.We.map (cF .f32)), .f .f32 Yd.Fall.X, .f .f32 Yd.Fall.Y, .f .f32 Yd.Fall.Z], .box 42 [.nils, .nils, .nils, .f .f32 0, .f .f32 0, .nils, .f .f32 0, .f .f32 0, .f .f32 0], .vec 40 3 (Ys.map Gv.c) false, .nest 49 (Yd.Me.Tr.map fun l=>l.map (cI .i64)) false, .vec 133 4 (Yd.Sp.map Gs.c) false, .vec 27 1 (Yd.We.map (cF .f32)) false, .box 42 [.own 2, .own 3, .own 4, .f .f32 Yd.Film, .f .f32 Yd.Bend, .own 5, .f .f32 Yd.Fall.X, .f .f32 Yd.Fall.Y, .f .f32 Yd.Fall.Z]]⟩
theorem Zgs (Yd:Gb) (Yz:(List Gv)) (Yy:Nat) (hp0:Yd.Me.Pq.length≤1073741824) (hp1:Yd.Me.Tr.length≤1073741824) (hp2:∀ t∈Yd.Me.Tr,t.length≤1073741824) (hp3:Yd.Sp.length≤1073741824) (hp4:Yd.We.length≤1073741824) (hp5:Yz.length≤1073741824) (hp6:Xr Yd.Me.Pq.length Yd.Me.Tr) (hp7:Yz.length≤Yd.Me.Pq.length):∀ (k:Nat) (Y1:Int) (Ys:(List Gv)) (ZbI:0≤Y1) (ZbJ:Ys.length=Yd.Me.Pq.length) (hk:((Yz.length:Int) - Y1).toNat < k),Lp prog 0 (sub (X0 f124) [1,1,0,1,0,0]) (ZcB Yd Yz Yy Y1 Ys) (Za1 Yd Yz Yy (Z28 Yd Yz Yy k Y1 Ys)).1 (Za1 Yd Yz Yy (Z28 Yd Yz Yy k Y1 Ys)).2:=by
 intro k
 induction k with
 | zero=>intro Y1 Ys ZbI ZbJ hk;exact absurd hk (Nat.not_lt_zero _)
 | succ k ih =>
  intro Y1 Ys ZbI ZbJ hk
  cases Yv:(decide (Y1 < (Yz.length:Int))) with
  | true =>
   have YI:=odt Yv
   have YT:(0:Int)≤Y1:=(by assumption)
   have YV:Y1 < (Yz.length:Int):=(by assumption)
   have YX:Y1 < (Ys.length:Int):=(by omega)
   have YZ:Y1.toNat < Ys.length:=(by omega)
   have y_4:(-9223372036854775808:Int)≤(Y1 + 1):=(by omega)
   have y_5:(Y1 + 1)≤(9223372036854775807:Int):=(by omega)
   have e:Z28 Yd Yz Yy (k + 1) Y1 Ys=(Z28 Yd Yz Yy k (Y1 + 1) (Ys.set Y1.toNat (ZD (Ys.getD Y1.toNat default) (ZC (Yz.getD Y1.toNat default) Yy)))):=by simp only [Z28,Yv,cond_true]
   rw [e]
   exact X9 E0Ok Z7 [] (mR false [0,4,2,2,2,5,21]) [0,1,2,3,4,5,6] (⟨.agg [.sl (Yd.Me.Pq.map Gv.c), .sl (Yd.Me.Tr.map (cL (cI .i64))), .sl (Yd.Sp.map Gs.c), .f .f32 Yd.Film, .f .f32 Yd.Bend, .sl (Yd.We.map (cF .f32)), .f .f32 Yd.Fall.X, .f .f32 Yd.Fall.Y, .f .f32 Yd.Fall.Z] :: .sl (Yz.map Gv.c) :: .f .f32 Yy :: .ptr 0 0 0 :: .any :: .any :: .ptr 1 0 0 :: .ptr 6 0 0 :: .any :: .any :: .agg [.sl (Yd.Me.Pq.map Gv.c), .sl (Yd.Me.Tr.map (cL (cI .i64))), .sl (Yd.Sp.map Gs.c), .f .f32 Yd.Film, .f .f32 Yd.Bend, .sl (Yd.We.map (cF .f32)), .f .f32 Yd.Fall.X, .f .f32 Yd.Fall.Y, .f .f32 Yd.Fall.Z] :: .agg [.own 2, .own 3, .own 4, .f .f32 Yd.Film, .f .f32 Yd.Bend, .own 5, .f .f32 Yd.Fall.X, .f .f32 Yd.Fall.Y, .f .f32 Yd.Fall.Z] :: .sl (Yz.map Gv.c) :: .i .i64 (Yz.length:Int) :: .i .i64 (Y1 + 1) :: an 21 [],[.box 42 [.sl (Yd.Me.Pq.map Gv.c), .sl (Yd.Me.Tr.map (cL (cI .i64))), .sl (Yd.Sp.map Gs.c), .f .f32 Yd.Film, .f .f32 Yd.Bend, .sl (Yd.We.map (cF .f32)), .f .f32 Yd.Fall.X, .f .f32 Yd.Fall.Y, .f .f32 Yd.Fall.Z], .box 42 [.nils, .nils, .nils, .f .f32 0, .f .f32 0, .nils, .f .f32 0, .f .f32 0, .f .f32 0], .vec 40 3 ((Ys.map Gv.c).set Y1.toNat [.f .f32 ((ZD (Ys.getD Y1.toNat default) (ZC (Yz.getD Y1.toNat default) Yy)).X), .f .f32 ((ZD (Ys.getD Y1.toNat default) (ZC (Yz.getD Y1.toNat default) Yy)).Y), .f .f32 ((ZD (Ys.getD Y1.toNat default) (ZC (Yz.getD Y1.toNat default) Yy)).Z)]) false, .nest 49 (Yd.Me.Tr.map fun l=>l.map (cI .i64)) false, .vec 133 4 (Yd.Sp.map Gs.c) false, .vec 27 1 (Yd.We.map (cF .f32)) false, .box 42 [.own 2, .own 3, .own 4, .f .f32 Yd.Film, .f .f32 Yd.Bend, .own 5, .f .f32 Yd.Fall.X, .f .f32 Yd.Fall.Y, .f .f32 Yd.Fall.Z]]⟩) (sB Yv<|sG Gv.c Yz Y1 YT YV<|sK [14,14]<|sX Gv.c Ys Y1 YT YX<|sV Gv.c Ys Y1.toNat YZ<|sF (Z60 (Yz.getD Y1.toNat default) Yy)<|sF (Z4X (Ys.getD Y1.toNat default) (ZC (Yz.getD Y1.toNat default) Yy))<|sX Gv.c Ys Y1 YT YX<|sC (Xl (c:=Gv.c) (l:=Ys) YZ)<|sI (Y1 + 1) y_4 y_5<|sN) (by kernel_rfl) (by simp [ZcB,List.map_set,Gv.c]) (ih (Y1 + 1) (Ys.set Y1.toNat (ZD (Ys.getD Y1.toNat default) (ZC (Yz.getD Y1.toNat default) Yy))) (show 0≤(Y1 + 1) from (by omega)) (show (Ys.set Y1.toNat (ZD (Ys.getD Y1.toNat default) (ZC (Yz.getD Y1.toNat default) Yy))).length=Yd.Me.Pq.length from (by simp_all<;>omega)) (by omega))
  | false =>
   have YI:=odf Yv
   have e:Z28 Yd Yz Yy (k + 1) Y1 Ys=Ys:=by simp only [Z28,Yv,cond_false]
   rw [e]
   exact outR (e:=(.exit 0)) E0Ok Z7 [] (mR false [0,2,1,1,2,2,2,3,23]) [0,1,6,2,3,4,5] (sB Yv<|sN) (by kernel_rfl) (by intro h;cases h)
theorem Zfo (Yd:Gb) (Yz:(List Gv)) (Yy:Nat):∀ (k:Nat) (Y1:Int) (Ys:(List Gv)) (hk:((Yz.length:Int) - Y1).toNat < k),(Z28 Yd Yz Yy k Y1 Ys).length=Ys.length:=by
  intro k
  induction k with
  | zero=>intro Y1 Ys hk;exact absurd hk (Nat.not_lt_zero _)
  | succ k ih =>
    intro Y1 Ys hk
    cases Yv:(decide (Y1 < (Yz.length:Int))) with
    | true =>
      have e:Z28 Yd Yz Yy (k + 1) Y1 Ys=(Z28 Yd Yz Yy k (Y1 + 1) (Ys.set Y1.toNat (ZD (Ys.getD Y1.toNat default) (ZC (Yz.getD Y1.toNat default) Yy)))):=by simp only [Z28,Yv,cond_true]
      rw [e,ih (Y1 + 1) (Ys.set Y1.toNat (ZD (Ys.getD Y1.toNat default) (ZC (Yz.getD Y1.toNat default) Yy))) (by simp_all<;>omega)];simp
    | false =>
      have e:Z28 Yd Yz Yy (k + 1) Y1 Ys=Ys:=by simp only [Z28,Yv,cond_false]
      first | (rw [e];done) | (rw [e];rfl)
def Z5k (Yd:Gb) (Yz:(List Gv)) (Yy:Nat):(List Gv):=(Z28 Yd Yz Yy (((Yz.length:Int) - 0).toNat + 1) 0 Yd.Me.Pq)
@[simp] theorem ZhI (Yd:Gb) (Yz:(List Gv)) (Yy:Nat):(Z5k Yd Yz Yy).length=(Yd.Me.Pq:(List Gv)).length:=Zfo Yd Yz Yy (((Yz.length:Int) - 0).toNat + 1) 0 Yd.Me.Pq (by exact Nat.lt_succ_self _)
def Zx (Yd:Gb) (Yz:(List Gv)) (Yy:Nat):Gb:=(⟨(⟨(Z5k Yd Yz Yy),Yd.Me.Tr⟩:Gm),Yd.Sp,Yd.Film,Yd.Bend,Yd.We,Yd.Fall⟩:Gb)
theorem ZgI (b:Gb) (v:List Gv) (s:Nat):(Zx b v s).Me.Pq.length≤b.Me.Pq.length:=by
  unfold Zx
  simp
theorem ZgJ (b:Gb) (v:List Gv) (s:Nat):(Zx b v s).Me.Tr.length≤b.Me.Tr.length:=by
  unfold Zx
  simp
theorem ZgK (b:Gb) (v:List Gv) (s:Nat):(Zx b v s).We.length≤b.We.length:=by
  unfold Zx
  simp
theorem ZgL (b:Gb) (v:List Gv) (s:Nat):(Zx b v s).Sp.length≤b.Sp.length:=by
  unfold Zx
  simp
theorem ZhE (Yd:Gb) (Yz:(List Gv)) (Yy:Nat) (hp0:Yd.Me.Pq.length≤1073741824) (hp1:Yd.Me.Tr.length≤1073741824) (hp2:∀ t∈Yd.Me.Tr,t.length≤1073741824) (hp3:Yd.Sp.length≤1073741824) (hp4:Yd.We.length≤1073741824) (hp5:Yz.length≤1073741824) (hp6:Xr Yd.Me.Pq.length Yd.Me.Tr) (hp7:Yz.length≤Yd.Me.Pq.length)  : Fn prog 124 [.agg [.sl (Yd.Me.Pq.map Gv.c), .sl (Yd.Me.Tr.map (cL (cI .i64))), .sl (Yd.Sp.map Gs.c), .f .f32 Yd.Film, .f .f32 Yd.Bend, .sl (Yd.We.map (cF .f32)), .f .f32 Yd.Fall.X, .f .f32 Yd.Fall.Y, .f .f32 Yd.Fall.Z], .sl (Yz.map Gv.c), .f .f32 Yy] (.agg [.own 0, .own 1, .own 2, .f .f32 ((Zx Yd Yz Yy).Film), .f .f32 ((Zx Yd Yz Yy).Bend), .own 3, .f .f32 ((Zx Yd Yz Yy).Fall.X), .f .f32 ((Zx Yd Yz Yy).Fall.Y), .f .f32 ((Zx Yd Yz Yy).Fall.Z)]) [.vec 40 3 (((Zx Yd Yz Yy).Me.Pq).map Gv.c) false, .nest 49 (((Zx Yd Yz Yy).Me.Tr).map fun l=>l.map (cI .i64)) false, .vec 133 4 (((Zx Yd Yz Yy).Sp).map Gs.c) false, .vec 27 1 (((Zx Yd Yz Yy).We).map (cF .f32)) false]:=by
 refine fnS E0Ok Z7 (c:=X0 f124) [] (.agg [.own 0, .own 1, .own 2, .f .f32 Yd.Film, .f .f32 Yd.Bend, .own 3, .f .f32 Yd.Fall.X, .f .f32 Yd.Fall.Y, .f .f32 Yd.Fall.Z]) [.vec 40 3 ((Z5k Yd Yz Yy).map Gv.c) false, .nest 49 (Yd.Me.Tr.map fun l=>l.map (cI .i64)) false, .vec 133 4 (Yd.Sp.map Gs.c) false, .vec 27 1 (Yd.We.map (cF .f32)) false] func124 (sF (Z9L Yd hp0 hp1 hp2 hp3 hp4 hp6)<|sZ Gv.c Yz<|sL (mR false [0,4,2,2,2,5,21]) 7 (X1 (Za1 Yd Yz Yy) (x:=(Z5k Yd Yz Yy)) (Zgs Yd Yz Yy hp0 hp1 hp2 hp3 hp4 hp5 hp6 hp7 (((Yz.length:Int) - 0).toNat + 1) 0 Yd.Me.Pq (show 0≤0 from (by omega)) (show Yd.Me.Pq.length=Yd.Me.Pq.length from (by simp)) (Nat.lt_succ_self _)) rfl)<|sK [3,4,5,6] sN) rfl (by kernel_rfl) (by kernel_rfl) rfl ?_ ?_
 · rfl
 · simp [Zx]
theorem ZiW (b:Gb) (v:List Gv) (s:Nat):∀ (k:Nat) (i:Int) (r:List Gv),0≤i→(∀ j,i.toNat≤j→r.getD j default=b.Me.Pq.getD j default)→Z28 b v s k i r=Z1t b v s k i r:=by
  intro k
  induction k with
  | zero=>intros;rfl
  | succ k ih =>
    intro i r h0 hr
    rw [Z28,Z1t,hr _ (Nat.le_refl _)]
    cases decide (i < (v.length:Int)) with
    | false=>rfl
    | true =>
      rw [cond_true,cond_true]
      rw [ih (i + 1) _ (by omega) (fun j hj=>by rw [List.getD_eq_getElem?_getD,List.getElem?_set_ne (by omega),← List.getD_eq_getElem?_getD];exact hr j (by omega))]
      rfl
theorem ZfX (b:Gb) (v:List Gv) (s:Nat):Zx b v s=Zi b v s:=by
  unfold Zx Zi Z5k Z4l
  rw [ZiW b v s _ _ _ (Int.le_refl 0) (fun _ _=>rfl)]
def Z1z (Yd:Gb) (YK:(List Gv)) (Y4:Nat):Nat→Nat→Int→(Int × Nat × Nat × Nat × Nat × Nat × (List Gv) × (List (List Int)) × (List Gs) × (List Nat)) ⊕ (Unit)
  | 0,_,_ => .inl default
  | k + 1,Yx,YU=>(cond (decide (YU≤20))
    (cond (fcmp .lss .f32 (Z3h (Zx Yd YK Yx)) (Z3h Yd))
      (.inl (YU,(Zx Yd YK Yx).Film,(Zx Yd YK Yx).Bend,(Zx Yd YK Yx).Fall.X,(Zx Yd YK Yx).Fall.Y,(Zx Yd YK Yx).Fall.Z,(Zx Yd YK Yx).Me.Pq,(Zx Yd YK Yx).Me.Tr,(Zx Yd YK Yx).Sp,(Zx Yd YK Yx).We))
      (Z1z Yd YK Y4 k (fop .quo .f32 Yx 1073741824) (YU + 1)))
    (.inr ()))
def Z5N (Yd:Gb) (YK:(List Gv)) (Y4:Nat):(Int × Nat × Nat × Nat × Nat × Nat × (List Gv) × (List (List Int)) × (List Gs) × (List Nat)) ⊕ (Unit)→Ex × St
  | .inl r=>(.ret,⟨an 6 (.ptr 0 0 0 :: .i .i64 r.1 :: .b true :: an 23 []),[.box 42 [.own 1, .own 2, .own 3, .f .f32 r.2.1, .f .f32 r.2.2.1, .own 4, .f .f32 r.2.2.2.1, .f .f32 r.2.2.2.2.1, .f .f32 r.2.2.2.2.2.1], .vec 40 3 (r.2.2.2.2.2.2.1.map Gv.c) false, .nest 49 (r.2.2.2.2.2.2.2.1.map fun l=>l.map (cI .i64)) false, .vec 133 4 (r.2.2.2.2.2.2.2.2.1.map Gs.c) false, .vec 27 1 (r.2.2.2.2.2.2.2.2.2.map (cF .f32)) false]⟩)
  | .inr r=>((.exit 0),⟨.agg [.sl (Yd.Me.Pq.map Gv.c), .sl (Yd.Me.Tr.map (cL (cI .i64))), .sl (Yd.Sp.map Gs.c), .f .f32 Yd.Film, .f .f32 Yd.Bend, .sl (Yd.We.map (cF .f32)), .f .f32 Yd.Fall.X, .f .f32 Yd.Fall.Y, .f .f32 Yd.Fall.Z] :: .any :: .any :: .ptr 0 0 0 :: .any :: .any :: .ptr 1 0 0 :: an 5 (.agg [.sl (Yd.Me.Pq.map Gv.c), .sl (Yd.Me.Tr.map (cL (cI .i64))), .sl (Yd.Sp.map Gs.c), .f .f32 Yd.Film, .f .f32 Yd.Bend, .sl (Yd.We.map (cF .f32)), .f .f32 Yd.Fall.X, .f .f32 Yd.Fall.Y, .f .f32 Yd.Fall.Z] :: .f .f32 (Z3h Yd) :: an 18 []),[.box 42 [.sl (Yd.Me.Pq.map Gv.c), .sl (Yd.Me.Tr.map (cL (cI .i64))), .sl (Yd.Sp.map Gs.c), .f .f32 Yd.Film, .f .f32 Yd.Bend, .sl (Yd.We.map (cF .f32)), .f .f32 Yd.Fall.X, .f .f32 Yd.Fall.Y, .f .f32 Yd.Fall.Z], .box 42 [.nils, .nils, .nils, .f .f32 0, .f .f32 0, .nils, .f .f32 0, .f .f32 0, .f .f32 0]]⟩)
def Zee (Yd:Gb) (YK:(List Gv)) (Y4:Nat) (Yx:Nat) (YU:Int):St:=⟨.agg [.sl (Yd.Me.Pq.map Gv.c), .sl (Yd.Me.Tr.map (cL (cI .i64))), .sl (Yd.Sp.map Gs.c), .f .f32 Yd.Film, .f .f32 Yd.Bend, .sl (Yd.We.map (cF .f32)), .f .f32 Yd.Fall.X, .f .f32 Yd.Fall.Y, .f .f32 Yd.Fall.Z] :: .sl (YK.map Gv.c) :: .f .f32 Yx :: .ptr 0 0 0 :: .any :: .any :: .ptr 1 0 0 :: .any :: .any :: .f .f32 (Z3h Yd) :: .i .i64 YU :: .any :: .agg [.sl (Yd.Me.Pq.map Gv.c), .sl (Yd.Me.Tr.map (cL (cI .i64))), .sl (Yd.Sp.map Gs.c), .f .f32 Yd.Film, .f .f32 Yd.Bend, .sl (Yd.We.map (cF .f32)), .f .f32 Yd.Fall.X, .f .f32 Yd.Fall.Y, .f .f32 Yd.Fall.Z] :: .f .f32 (Z3h Yd) :: an 18 [],[.box 42 [.sl (Yd.Me.Pq.map Gv.c), .sl (Yd.Me.Tr.map (cL (cI .i64))), .sl (Yd.Sp.map Gs.c), .f .f32 Yd.Film, .f .f32 Yd.Bend, .sl (Yd.We.map (cF .f32)), .f .f32 Yd.Fall.X, .f .f32 Yd.Fall.Y, .f .f32 Yd.Fall.Z], .box 42 [.nils, .nils, .nils, .f .f32 0, .f .f32 0, .nils, .f .f32 0, .f .f32 0, .f .f32 0]]⟩
theorem Zax (Yd:Gb) (YK:(List Gv)) (Y4:Nat) (hp0:Yd.Me.Pq.length≤1073741824) (hp1:Yd.Me.Tr.length≤1073741824) (hp2:∀ t∈Yd.Me.Tr,t.length≤1073741824) (hp3:Yd.Sp.length≤1073741824) (hp4:Yd.We.length≤1073741824) (hp5:YK.length≤1073741824) (hp6:OkBd Yd) (hp7:YK.length≤Yd.Me.Pq.length):∀ (k:Nat) (Yx:Nat) (YU:Int) (Z96:0≤YU) (hk:(21 + (YK.length:Int) - YU).toNat < k),Lp prog 0 (sub (X0 f72) [1,1,0,1,0,0]) (Zee Yd YK Y4 Yx YU) (Z5N Yd YK Y4 (Z1z Yd YK Y4 k Yx YU)).1 (Z5N Yd YK Y4 (Z1z Yd YK Y4 k Yx YU)).2:=by
 intro k
 induction k with
 | zero=>intro Yx YU Z96 hk;exact absurd hk (Nat.not_lt_zero _)
 | succ k ih =>
  intro Yx YU Z96 hk
  cases Yv:(decide (YU≤20)) with
  | true =>
   have YI:=odt Yv
   have YT:Xr Yd.Me.Pq.length Yd.Me.Tr:=(by exact hp6.e.tris)
   have l_1:=(ZgI Yd YK Yx)
   have l_2:=(ZgJ Yd YK Yx)
   have l_3:=(ZgK Yd YK Yx)
   have l_4:=(ZgL Yd YK Yx)
   have YV:(Zx Yd YK Yx).Me.Pq.length≤1073741824:=(by omega)
   have YX:(Zx Yd YK Yx).Me.Tr.length≤1073741824:=(by assumption)
   have YZ:∀ t∈(Zx Yd YK Yx).Me.Tr,t.length≤1073741824:=(by assumption)
   have y_4:(Zx Yd YK Yx).Sp.length≤1073741824:=(by assumption)
   have y_5:(Zx Yd YK Yx).We.length≤1073741824:=(by assumption)
   have y_6:OkBd (Zx Yd YK Yx):=(by rw [ZfX];exact Zdt hp6 _ _)
   have p {a C} (s:Scr a C):=sB Yv<|sF (ZhE Yd YK Yx hp0 hp1 hp2 hp3 hp4 hp5 YT hp7)<|sF (Fn.castA (args':=[.agg [.sl (((Zx Yd YK Yx).Me.Pq).map Gv.c), .sl ((((Zx Yd YK Yx).Me.Tr).map fun l=>l.map (cI .i64)).map fun l => [.sl l]), .sl (((Zx Yd YK Yx).Sp).map Gs.c), .f .f32 ((Zx Yd YK Yx).Film), .f .f32 ((Zx Yd YK Yx).Bend), .sl (((Zx Yd YK Yx).We).map (cF .f32)), .f .f32 ((Zx Yd YK Yx).Fall.X), .f .f32 ((Zx Yd YK Yx).Fall.Y), .f .f32 ((Zx Yd YK Yx).Fall.Z)]]) (ZcA (Zx Yd YK Yx) YV YX YZ y_4 y_5 y_6) (by simp [cL,Function.comp_def];done))<|s
   cases YF:(fcmp .lss .f32 (Z3h (Zx Yd YK Yx)) (Z3h Yd)) with
   | true =>
    have e:Z1z Yd YK Y4 (k + 1) Yx YU=(.inl (YU,(Zx Yd YK Yx).Film,(Zx Yd YK Yx).Bend,(Zx Yd YK Yx).Fall.X,(Zx Yd YK Yx).Fall.Y,(Zx Yd YK Yx).Fall.Z,(Zx Yd YK Yx).Me.Pq,(Zx Yd YK Yx).Me.Tr,(Zx Yd YK Yx).Sp,(Zx Yd YK Yx).We)):=by simp only [Z1z,Yv,YF,cond_true]
    rw [e]
    exact outR (e := .ret) E0Ok Z7 [] (mR false [6,3,23]) [1,2,3,4,5] (p (sB YF<|sN)) (by kernel_rfl) (by intro h;cases h)
   | false =>
    have y_7:(-9223372036854775808:Int)≤(YU + 1):=by clear p;exact (by omega)
    have y_8:(YU + 1)≤(9223372036854775807:Int):=by clear p;exact (by omega)
    have e:Z1z Yd YK Y4 (k + 1) Yx YU=(Z1z Yd YK Y4 k (fop .quo .f32 Yx 1073741824) (YU + 1)):=by simp only [Z1z,Yv,YF,cond_true,cond_false]
    rw [e]
    exact X8 E0Ok Z7 [] (mR false [0,4,2,1,2,2,1,2,18]) [0,1] (ih (fop .quo .f32 Yx 1073741824) (YU + 1) (show 0≤(YU + 1) from (by omega)) (by omega)) (p (sB YF<|sI (YU + 1) y_7 y_8<|sN)) (by kernel_rfl)
  | false =>
   have YI:=odf Yv
   have e:Z1z Yd YK Y4 (k + 1) Yx YU=(.inr ()):=by simp only [Z1z,Yv,cond_false]
   rw [e]
   exact outR (e:=(.exit 0)) E0Ok Z7 [] (mR false [0,1,2,1,2,1,5,2,18]) [0,1] (sB Yv<|sN) (by kernel_rfl) (by intro h;cases h)
def Z4b (Yd:Gb) (YK:(List Gv)) (Y4:Nat):(Int × Nat × Nat × Nat × Nat × Nat × (List Gv) × (List (List Int)) × (List Gs) × (List Nat)) ⊕ (Unit):=(Z1z Yd YK Y4 ((21 + (YK.length:Int) - 0).toNat + 1) Y4 0)
def Z5 (Yd:Gb) (YK:(List Gv)) (Y4:Nat):Gb × Int × Bool:=(match (Z4b Yd YK Y4) with
  | .inl r1=>((⟨(⟨r1.2.2.2.2.2.2.1,r1.2.2.2.2.2.2.2.1⟩:Gm),r1.2.2.2.2.2.2.2.2.1,r1.2.1,r1.2.2.1,r1.2.2.2.2.2.2.2.2.2,(⟨r1.2.2.2.1,r1.2.2.2.2.1,r1.2.2.2.2.2.1⟩:Gv)⟩:Gb),r1.1,true)
  | .inr r1=>(Yd,20,false))
theorem ZeW (b:Gb) (v:List Gv) (s:Nat) (ok:OkBd b):Z5 b v s=Z0 b v s:=by
  have h:∀ (k x:Nat) (n:Int),Z1z b v s k x n=Z1Z b v s k x n:=by
    intro k
    induction k with
    | zero=>intros;rfl
    | succ k ih =>
      intro x n
      rw [Z1z,Z1Z,ih,ZfX,Zfv b ok,Zfv _ (Zdt ok v x)]
  unfold Z5 Z0 Z4b Z4H
  rw [h]
  generalize Z1Z b v s _ s 0=r
  cases r<;>rfl
theorem Zj4 (b:Gb) (v:List Gv) (s:Nat):∀ (k x:Nat) (n:Int),(21 + (v.length:Int) - n).toNat < k→∀ r,Z1z b v s k x n = .inl r→∃ y,(⟨(⟨r.2.2.2.2.2.2.1,r.2.2.2.2.2.2.2.1⟩:Gm),r.2.2.2.2.2.2.2.2.1,r.2.1,r.2.2.1,r.2.2.2.2.2.2.2.2.2,(⟨r.2.2.2.1,r.2.2.2.2.1,r.2.2.2.2.2.1⟩:Gv)⟩:Gb)=Zi b v y:=by
  intro k
  induction k with
  | zero=>intro x n hk;exact absurd hk (Nat.not_lt_zero _)
  | succ k ih =>
    intro x n hk r e
    rw [Z1z] at e
    cases h:decide (n≤20) with
    | false=>rw [h] at e;cases e
    | true =>
      have hn:=odt h
      rw [h,cond_true] at e
      cases h2:fcmp .lss .f32 (Z3h (Zx b v x)) (Z3h b) with
      | true=>rw [h2,cond_true] at e;cases e;exact ⟨x,ZfX b v x⟩
      | false=>rw [h2,cond_false] at e;exact ih _ _ (by omega) r e
theorem Zb6 (b:Gb) (v:List Gv) (s:Nat):(Z5 b v s).1=b∨∃ y,(Z5 b v s).1=Zi b v y:=by
  unfold Z5 Z4b
  cases h:Z1z b v s ((21 + (v.length:Int) - 0).toNat + 1) s 0 with
  | inl r=>exact .inr (Zj4 b v s _ s 0 (Nat.lt_succ_self _) r h)
  | inr r=>exact .inl rfl
theorem Zb7 (b:Gb) (v:List Gv) (s:Nat):(Z5 b v s).1.Me.Pq.length≤b.Me.Pq.length:=by
  rcases Zb6 b v s with h | ⟨y,h⟩<;>rw [h]
  · exact Nat.le_refl _
  · exact Z88 b v y
theorem Zb8 (b:Gb) (v:List Gv) (s:Nat):(Z5 b v s).1.Me.Tr.length≤b.Me.Tr.length:=by
  rcases Zb6 b v s with h | ⟨y,h⟩<;>rw [h]
  · exact Nat.le_refl _
  · exact Z89 b v y
theorem Zb9 (b:Gb) (v:List Gv) (s:Nat):(Z5 b v s).1.We.length≤b.We.length:=by
  rcases Zb6 b v s with h | ⟨y,h⟩<;>rw [h]
  · exact Nat.le_refl _
  · exact Z8a b v y
theorem Zba (b:Gb) (v:List Gv) (s:Nat):(Z5 b v s).1.Sp.length≤b.Sp.length:=by
  rcases Zb6 b v s with h | ⟨y,h⟩<;>rw [h]
  · exact Nat.le_refl _
  · exact Z8b b v y
theorem Zcf (Yd:Gb) (YK:(List Gv)) (Y4:Nat) (hp0:Yd.Me.Pq.length≤1073741824) (hp1:Yd.Me.Tr.length≤1073741824) (hp2:∀ t∈Yd.Me.Tr,t.length≤1073741824) (hp3:Yd.Sp.length≤1073741824) (hp4:Yd.We.length≤1073741824) (hp5:YK.length≤1073741824) (hp6:OkBd Yd) (hp7:YK.length≤Yd.Me.Pq.length)  : Fn prog 72 [.agg [.sl (Yd.Me.Pq.map Gv.c), .sl (Yd.Me.Tr.map (cL (cI .i64))), .sl (Yd.Sp.map Gs.c), .f .f32 Yd.Film, .f .f32 Yd.Bend, .sl (Yd.We.map (cF .f32)), .f .f32 Yd.Fall.X, .f .f32 Yd.Fall.Y, .f .f32 Yd.Fall.Z], .sl (YK.map Gv.c), .f .f32 Y4] (.tup [.agg [.own 0, .own 1, .own 2, .f .f32 ((Z5 Yd YK Y4).1.Film), .f .f32 ((Z5 Yd YK Y4).1.Bend), .own 3, .f .f32 ((Z5 Yd YK Y4).1.Fall.X), .f .f32 ((Z5 Yd YK Y4).1.Fall.Y), .f .f32 ((Z5 Yd YK Y4).1.Fall.Z)], .i .i64 ((Z5 Yd YK Y4).2.1), .b ((Z5 Yd YK Y4).2.2)]) [.vec 40 3 (((Z5 Yd YK Y4).1.Me.Pq).map Gv.c) false, .nest 49 (((Z5 Yd YK Y4).1.Me.Tr).map fun l=>l.map (cI .i64)) false, .vec 133 4 (((Z5 Yd YK Y4).1.Sp).map Gs.c) false, .vec 27 1 (((Z5 Yd YK Y4).1.We).map (cF .f32)) false]:=by
 have p {a C} (s:Scr a C):=sF (ZcA Yd hp0 hp1 hp2 hp3 hp4 hp6)<|s
 cases h0:(Z4b Yd YK Y4) with
 | inl r1 =>
  have hv:Z5 Yd YK Y4=((⟨(⟨r1.2.2.2.2.2.2.1,r1.2.2.2.2.2.2.2.1⟩:Gm),r1.2.2.2.2.2.2.2.2.1,r1.2.1,r1.2.2.1,r1.2.2.2.2.2.2.2.2.2,(⟨r1.2.2.2.1,r1.2.2.2.2.1,r1.2.2.2.2.2.1⟩:Gv)⟩:Gb),r1.1,true):=by unfold Z5;rw [h0]
  refine fnS E0Ok Z7 (c:=X0 f72) [] (.tup [.agg [.own 0, .own 1, .own 2, .f .f32 r1.2.1, .f .f32 r1.2.2.1, .own 3, .f .f32 r1.2.2.2.1, .f .f32 r1.2.2.2.2.1, .f .f32 r1.2.2.2.2.2.1], .i .i64 r1.1, .b true]) [.vec 40 3 (r1.2.2.2.2.2.2.1.map Gv.c) false, .nest 49 (r1.2.2.2.2.2.2.2.1.map fun l=>l.map (cI .i64)) false, .vec 133 4 (r1.2.2.2.2.2.2.2.2.1.map Gs.c) false, .vec 27 1 (r1.2.2.2.2.2.2.2.2.2.map (cF .f32)) false] func72 (p (sL (mR false [0,4,2,1,2,2,1,2,18]) 2 (X1 (Z5N Yd YK Y4) (x:=(Z4b Yd YK Y4)) (Zax Yd YK Y4 hp0 hp1 hp2 hp3 hp4 hp5 hp6 hp7 ((21 + (YK.length:Int) - 0).toNat + 1) Y4 0 (show 0≤0 from (by omega)) (Nat.lt_succ_self _)) h0)<|sK [1,2,3,4] sN)) rfl (by kernel_rfl) (by kernel_rfl) rfl ?_ ?_
  · rw [hv]
  · rw [hv]
 | inr r1 =>
  have y0:Xr Yd.Me.Pq.length Yd.Me.Tr:=by clear p;exact (by exact hp6.e.tris)
  have hv:Z5 Yd YK Y4=(Yd,20,false):=by unfold Z5;rw [h0]
  refine fnS E0Ok Z7 (c:=X0 f72) [] (.tup [.agg [.own 0, .own 1, .own 2, .f .f32 Yd.Film, .f .f32 Yd.Bend, .own 3, .f .f32 Yd.Fall.X, .f .f32 Yd.Fall.Y, .f .f32 Yd.Fall.Z], .i .i64 20, .b false]) [.vec 40 3 (Yd.Me.Pq.map Gv.c) false, .nest 49 (Yd.Me.Tr.map fun l=>l.map (cI .i64)) false, .vec 133 4 (Yd.Sp.map Gs.c) false, .vec 27 1 (Yd.We.map (cF .f32)) false] func72 (p (sL (mR false [0,4,2,1,2,2,1,2,18]) 2 (X1 (Z5N Yd YK Y4) (x:=(Z4b Yd YK Y4)) (Zax Yd YK Y4 hp0 hp1 hp2 hp3 hp4 hp5 hp6 hp7 ((21 + (YK.length:Int) - 0).toNat + 1) Y4 0 (show 0≤0 from (by omega)) (Nat.lt_succ_self _)) h0)<|sF (Z9L Yd hp0 hp1 hp2 hp3 hp4 y0)<|sK [2,3,4,5] sN)) rfl (by kernel_rfl) (by kernel_rfl) rfl ?_ ?_
  · rw [hv]
  · rw [hv]
def Z3G (Yg:(List Gv)) (Yw:(List Gv)):Nat→Nat→Int→Nat
  | 0,_,_=>default
  | k + 1,Y18,YJ=>(cond (decide (YJ < (Yg.length:Int)))
    (Z3G Yg Yw k (fop .add .f32 Y18 (Z4q (Yg.getD YJ.toNat default) (Yw.getD YJ.toNat default))) (YJ + 1))
    Y18)
def Z7U (Yg:(List Gv)) (Yw:(List Gv)) (r:Nat):Ex × St:=((.exit 0),⟨.sl (Yg.map Gv.c) :: .any :: .any :: .any :: .f .f32 0 :: .f .f32 r :: .any :: .any :: .sl (Yg.map Gv.c) :: an 16 [],[]⟩)
def ZeX (Yg:(List Gv)) (Yw:(List Gv)) (Y18:Nat) (YJ:Int):St:=⟨.sl (Yg.map Gv.c) :: .sl (Yw.map Gv.c) :: .any :: .any :: .f .f32 0 :: .f .f32 Y18 :: .any :: .any :: .sl (Yg.map Gv.c) :: .i .i64 (Yg.length:Int) :: .i .i64 YJ :: an 14 [],[]⟩
theorem ZeY (Yg:(List Gv)) (Yw:(List Gv)) (hp0:Yg.length≤1073741824) (hp1:Yw.length≤1073741824) (hp2:Yg.length=Yw.length):∀ (k:Nat) (Y18:Nat) (YJ:Int) (Za2:0≤YJ) (hk:((Yg.length:Int) - YJ).toNat < k),Lp prog 0 (sub (X0 f132) [1,1,0,1,0,0]) (ZeX Yg Yw Y18 YJ) (Z7U Yg Yw (Z3G Yg Yw k Y18 YJ)).1 (Z7U Yg Yw (Z3G Yg Yw k Y18 YJ)).2:=by
 intro k
 induction k with
 | zero=>intro Y18 YJ Za2 hk;exact absurd hk (Nat.not_lt_zero _)
 | succ k ih =>
  intro Y18 YJ Za2 hk
  cases Yv:(decide (YJ < (Yg.length:Int))) with
  | true =>
   have YI:=odt Yv
   have YT:(0:Int)≤YJ:=(by assumption)
   have YV:YJ < (Yg.length:Int):=(by assumption)
   have YX:YJ < (Yw.length:Int):=(by omega)
   have YZ:(-9223372036854775808:Int)≤(YJ + 1):=(by omega)
   have y_4:(YJ + 1)≤(9223372036854775807:Int):=(by omega)
   have e:Z3G Yg Yw (k + 1) Y18 YJ=(Z3G Yg Yw k (fop .add .f32 Y18 (Z4q (Yg.getD YJ.toNat default) (Yw.getD YJ.toNat default))) (YJ + 1)):=by simp only [Z3G,Yv,cond_true]
   rw [e]
   exact X8 E0Ok Z7 [] (mR false [0,2,2,2,2,3,14]) [] (ih (fop .add .f32 Y18 (Z4q (Yg.getD YJ.toNat default) (Yw.getD YJ.toNat default))) (YJ + 1) (show 0≤(YJ + 1) from (by omega)) (by omega)) (sB Yv<|sG Gv.c Yg YJ YT YV<|sK [7,7]<|sG Gv.c Yw YJ YT YX<|sF (Z83 (Yg.getD YJ.toNat default) (Yw.getD YJ.toNat default))<|sI (YJ + 1) YZ y_4<|sN) (by kernel_rfl)
  | false =>
   have YI:=odf Yv
   have e:Z3G Yg Yw (k + 1) Y18 YJ=Y18:=by simp only [Z3G,Yv,cond_false]
   rw [e]
   exact outR (e:=(.exit 0)) E0Ok Z7 [] (mR false [0,1,3,2,2,1,16]) [] (sB Yv<|sN) (by kernel_rfl) (by intro h;cases h)
def Z6H (Yg:(List Gv)) (Yw:(List Gv)):Nat:=(Z3G Yg Yw (((Yg.length:Int) - 0).toNat + 1) 0 0)
def Zj (Yg:(List Gv)) (Yw:(List Gv)):Nat:=(Z6H Yg Yw)
theorem ZcC (Yg:(List Gv)) (Yw:(List Gv)) (hp0:Yg.length≤1073741824) (hp1:Yw.length≤1073741824) (hp2:Yg.length=Yw.length)  : Fn prog 132 [.sl (Yg.map Gv.c), .sl (Yw.map Gv.c)] (.f .f32 (Zj Yg Yw)) []:=by
 refine fnS E0Ok Z7 (c:=X0 f132) [] (.f .f32 (Z6H Yg Yw)) [] func132 (sZ Gv.c Yg<|sL (mR false [0,2,2,2,2,3,14]) 0 (X1 (Z7U Yg Yw) (x:=(Z6H Yg Yw)) (ZeY Yg Yw hp0 hp1 hp2 (((Yg.length:Int) - 0).toNat + 1) 0 0 (show 0≤0 from (by omega)) (Nat.lt_succ_self _)) rfl)<|sK [] sN) rfl (by kernel_rfl) (by kernel_rfl) rfl ?_ ?_
 · rfl
 · rfl
def Z32 (Yn:(List Gv)) (Yr:(List Gv)) (YL:(List Gv)) (Y1:Int):Gv:=(ZD (Yr.getD Y1.toNat default) (ZC (YL.getD Y1.toNat default) (fop .quo .f32 (Zj Yr Yr) (Zj Yn Yn))))
def Z3u (Yn:(List Gv)) (Yr:(List Gv)) (YL:(List Gv)):Nat→Int→(List Gv)→(List Gv)
  | 0,_,_=>default
  | k + 1,Y1,Ye=>(cond (decide (Y1 < (Yr.length:Int)))
    (Z3u Yn Yr YL k (Y1 + 1) (Ye ++ [(Z32 Yn Yr YL Y1)]))
    Ye)
def Z8j (Yn:(List Gv)) (Yr:(List Gv)) (YL:(List Gv)) (r:(List Gv)):Ex × St:=((.exit 0),⟨.sl (Yn.map Gv.c) :: .sl (Yr.map Gv.c) :: an 4 (.nils :: .any :: .f .f32 (Zj Yn Yn) :: .own 0 :: .any :: .any :: .sl (Yn.map Gv.c) :: .sl (Yn.map Gv.c) :: .f .f32 (Zj Yn Yn) :: .f .f32 (Zj Yn Yn) :: .b (fcmp .gtr .f32 (Zj Yn Yn) 0) :: .sl (Yr.map Gv.c) :: .sl (Yr.map Gv.c) :: .f .f32 (Zj Yr Yr) :: .f .f32 (Zj Yn Yn) :: .f .f32 (fop .quo .f32 (Zj Yr Yr) (Zj Yn Yn)) :: .any :: .sl (Yr.map Gv.c) :: an 19 []),[.vec 40 3 (r.map Gv.c) false]⟩)
def Z8k (Yn:(List Gv)) (Yr:(List Gv)) (YL:(List Gv)) (Y1:Int) (Ye:(List Gv)):St:=⟨.sl (Yn.map Gv.c) :: .sl (Yr.map Gv.c) :: .sl (YL.map Gv.c) :: .any :: .any :: .any :: .nils :: .f .f32 (fop .quo .f32 (Zj Yr Yr) (Zj Yn Yn)) :: .f .f32 (Zj Yn Yn) :: .own 0 :: .any :: .any :: .sl (Yn.map Gv.c) :: .sl (Yn.map Gv.c) :: .f .f32 (Zj Yn Yn) :: .f .f32 (Zj Yn Yn) :: .b (fcmp .gtr .f32 (Zj Yn Yn) 0) :: .sl (Yr.map Gv.c) :: .sl (Yr.map Gv.c) :: .f .f32 (Zj Yr Yr) :: .f .f32 (Zj Yn Yn) :: .f .f32 (fop .quo .f32 (Zj Yr Yr) (Zj Yn Yn)) :: .any :: .sl (Yr.map Gv.c) :: .i .i64 (Yr.length:Int) :: .i .i64 Y1 :: an 17 [],[.vec 40 3 (Ye.map Gv.c) false]⟩
def Zay:List Bool:=(mR false [0,3,3,4,2,10,1,3,17])
def Zef:List Bool:=(mR false [0,2,4,1,1,2,2,10,1,1,19])
theorem Zfp (Yn:(List Gv)) (Yr:(List Gv)) (YL:(List Gv)) (hp0:Yn.length≤1073741824) (hp1:Yr.length≤1073741824) (hp2:YL.length≤1073741824) (hp3:Yr.length≤YL.length):∀ (k:Nat) (Y1:Int) (Ye:(List Gv)) (Zaz:0≤Y1) (ZaA:(Ye.length:Int)=Y1) (hk:((Yr.length:Int) - Y1).toNat < k),Lp prog 0 (sub (X0 f91) [1,1,1,1,0,1,0,0]) (Z8k Yn Yr YL Y1 Ye) (Z8j Yn Yr YL (Z3u Yn Yr YL k Y1 Ye)).1 (Z8j Yn Yr YL (Z3u Yn Yr YL k Y1 Ye)).2:=by
 intro k
 induction k with
 | zero=>intro Y1 Ye Zaz ZaA hk;exact absurd hk (Nat.not_lt_zero _)
 | succ k ih =>
  intro Y1 Ye Zaz ZaA hk
  cases Yv:(decide (Y1 < (Yr.length:Int))) with
  | true =>
   have YI:=odt Yv
   have YT:(0:Int)≤Y1:=(by assumption)
   have YV:Y1 < (Yr.length:Int):=(by assumption)
   have YX:Y1 < (YL.length:Int):=(by omega)
   have YZ:Ye.length + ([(Z32 Yn Yr YL Y1)]).length≤1073741824:=(by simp_all<;>omega)
   have y_4:(-9223372036854775808:Int)≤(Y1 + 1):=(by omega)
   have y_5:(Y1 + 1)≤(9223372036854775807:Int):=(by omega)
   have e:Z3u Yn Yr YL (k + 1) Y1 Ye=(Z3u Yn Yr YL k (Y1 + 1) (Ye ++ [(Z32 Yn Yr YL Y1)])):=by simp only [Z3u,Yv,cond_true]
   rw [e]
   exact X9 E0Ok Z7 [] Zay [0] (⟨.sl (Yn.map Gv.c) :: .sl (Yr.map Gv.c) :: .sl (YL.map Gv.c) :: .any :: .any :: .any :: .nils :: .f .f32 (fop .quo .f32 (Zj Yr Yr) (Zj Yn Yn)) :: .f .f32 (Zj Yn Yn) :: .own 0 :: .any :: .any :: .sl (Yn.map Gv.c) :: .sl (Yn.map Gv.c) :: .f .f32 (Zj Yn Yn) :: .f .f32 (Zj Yn Yn) :: .b (fcmp .gtr .f32 (Zj Yn Yn) 0) :: .sl (Yr.map Gv.c) :: .sl (Yr.map Gv.c) :: .f .f32 (Zj Yr Yr) :: .f .f32 (Zj Yn Yn) :: .f .f32 (fop .quo .f32 (Zj Yr Yr) (Zj Yn Yn)) :: .any :: .sl (Yr.map Gv.c) :: .i .i64 (Yr.length:Int) :: .i .i64 (Y1 + 1) :: an 17 [],[.vec 40 3 ((Ye.map Gv.c) ++ ([[.f .f32 ((Z32 Yn Yr YL Y1).X), .f .f32 ((Z32 Yn Yr YL Y1).Y), .f .f32 ((Z32 Yn Yr YL Y1).Z)]]:List (List AV))) false]⟩) (sB Yv<|sG Gv.c Yr Y1 YT YV<|sK [10,10]<|sG Gv.c YL Y1 YT YX<|sF (Z60 (YL.getD Y1.toNat default) (fop .quo .f32 (Zj Yr Yr) (Zj Yn Yn)))<|sF (Z4X (Yr.getD Y1.toNat default) (ZC (YL.getD Y1.toNat default) (fop .quo .f32 (Zj Yr Yr) (Zj Yn Yn))))<|sC (show (Ye.map Gv.c).length + ([[.f .f32 ((Z32 Yn Yr YL Y1).X), .f .f32 ((Z32 Yn Yr YL Y1).Y), .f .f32 ((Z32 Yn Yr YL Y1).Z)]]:List (List AV)).length≤1073741824 from (by simpa using YZ))<|sI (Y1 + 1) y_4 y_5<|sN) (by kernel_rfl) (by simp [Z8k,Gv.c]) (ih (Y1 + 1) (Ye ++ [(Z32 Yn Yr YL Y1)]) (show 0≤(Y1 + 1) from (by omega)) (show ((Ye ++ [(Z32 Yn Yr YL Y1)]).length:Int)=(Y1 + 1) from (by simp_all<;>omega)) (by omega))
  | false =>
   have YI:=odf Yv
   have e:Z3u Yn Yr YL (k + 1) Y1 Ye=Ye:=by simp only [Z3u,Yv,cond_false]
   rw [e]
   exact outR (e:=(.exit 0)) E0Ok Z7 [] Zef [0] (sB Yv<|sN) (by kernel_rfl) (by intro h;cases h)
def Z5O (Yn:(List Gv)) (Yr:(List Gv)) (YL:(List Gv)):(List Gv):=(Z3u Yn Yr YL (((Yr.length:Int) - 0).toNat + 1) 0 ([]:List Gv))
def Z3v (Yn:(List Gv)) (Yr:(List Gv)) (YL:(List Gv)):Nat→Int→(List Gv)→(List Gv)
  | 0,_,_=>default
  | k + 1,Y1,Ye=>(cond (decide (Y1 < (Yr.length:Int)))
    (Z3v Yn Yr YL k (Y1 + 1) (Ye ++ [(ZD (Yr.getD Y1.toNat default) (ZC (YL.getD Y1.toNat default) 0))]))
    Ye)
def Z8l (Yn:(List Gv)) (Yr:(List Gv)) (YL:(List Gv)) (r:(List Gv)):Ex × St:=((.exit 0),⟨.sl (Yn.map Gv.c) :: .sl (Yr.map Gv.c) :: an 4 (.nils :: .any :: .f .f32 (Zj Yn Yn) :: .own 0 :: .any :: .any :: .sl (Yn.map Gv.c) :: .sl (Yn.map Gv.c) :: .f .f32 (Zj Yn Yn) :: .f .f32 (Zj Yn Yn) :: .b (fcmp .gtr .f32 (Zj Yn Yn) 0) :: an 6 (.sl (Yr.map Gv.c) :: an 19 [])),[.vec 40 3 (r.map Gv.c) false]⟩)
def Z8m (Yn:(List Gv)) (Yr:(List Gv)) (YL:(List Gv)) (Y1:Int) (Ye:(List Gv)):St:=⟨.sl (Yn.map Gv.c) :: .sl (Yr.map Gv.c) :: .sl (YL.map Gv.c) :: .any :: .any :: .any :: .nils :: .f .f32 0 :: .f .f32 (Zj Yn Yn) :: .own 0 :: .any :: .any :: .sl (Yn.map Gv.c) :: .sl (Yn.map Gv.c) :: .f .f32 (Zj Yn Yn) :: .f .f32 (Zj Yn Yn) :: .b (fcmp .gtr .f32 (Zj Yn Yn) 0) :: an 6 (.sl (Yr.map Gv.c) :: .i .i64 (Yr.length:Int) :: .i .i64 Y1 :: an 17 []),[.vec 40 3 (Ye.map Gv.c) false]⟩
def Zeg:List Bool:=(mR false [0,2,4,1,1,2,2,5,6,1,19])
theorem Zfq (Yn:(List Gv)) (Yr:(List Gv)) (YL:(List Gv)) (hp0:Yn.length≤1073741824) (hp1:Yr.length≤1073741824) (hp2:YL.length≤1073741824) (hp3:Yr.length≤YL.length):∀ (k:Nat) (Y1:Int) (Ye:(List Gv)) (ZaB:0≤Y1) (ZaC:(Ye.length:Int)=Y1) (hk:((Yr.length:Int) - Y1).toNat < k),Lp prog 0 (sub (X0 f91) [1,1,1,1,0,1,0,0]) (Z8m Yn Yr YL Y1 Ye) (Z8l Yn Yr YL (Z3v Yn Yr YL k Y1 Ye)).1 (Z8l Yn Yr YL (Z3v Yn Yr YL k Y1 Ye)).2:=by
 intro k
 induction k with
 | zero=>intro Y1 Ye ZaB ZaC hk;exact absurd hk (Nat.not_lt_zero _)
 | succ k ih =>
  intro Y1 Ye ZaB ZaC hk
  cases Yv:(decide (Y1 < (Yr.length:Int))) with
  | true =>
   have YI:=odt Yv
   have YT:(0:Int)≤Y1:=(by assumption)
   have YV:Y1 < (Yr.length:Int):=(by assumption)
   have YX:Y1 < (YL.length:Int):=(by omega)
   have YZ:Ye.length + ([(ZD (Yr.getD Y1.toNat default) (ZC (YL.getD Y1.toNat default) 0))]).length≤1073741824:=(by simp_all<;>omega)
   have y_4:(-9223372036854775808:Int)≤(Y1 + 1):=(by omega)
   have y_5:(Y1 + 1)≤(9223372036854775807:Int):=(by omega)
   have e:Z3v Yn Yr YL (k + 1) Y1 Ye=(Z3v Yn Yr YL k (Y1 + 1) (Ye ++ [(ZD (Yr.getD Y1.toNat default) (ZC (YL.getD Y1.toNat default) 0))])):=by simp only [Z3v,Yv,cond_true]
   rw [e]
   exact X9 E0Ok Z7 [] (mR false [0,3,3,4,2,5,6,3,17]) [0] (⟨.sl (Yn.map Gv.c) :: .sl (Yr.map Gv.c) :: .sl (YL.map Gv.c) :: .any :: .any :: .any :: .nils :: .f .f32 0 :: .f .f32 (Zj Yn Yn) :: .own 0 :: .any :: .any :: .sl (Yn.map Gv.c) :: .sl (Yn.map Gv.c) :: .f .f32 (Zj Yn Yn) :: .f .f32 (Zj Yn Yn) :: .b (fcmp .gtr .f32 (Zj Yn Yn) 0) :: an 6 (.sl (Yr.map Gv.c) :: .i .i64 (Yr.length:Int) :: .i .i64 (Y1 + 1) :: an 17 []),[.vec 40 3 ((Ye.map Gv.c) ++ ([[.f .f32 ((ZD (Yr.getD Y1.toNat default) (ZC (YL.getD Y1.toNat default) 0)).X), .f .f32 ((ZD (Yr.getD Y1.toNat default) (ZC (YL.getD Y1.toNat default) 0)).Y), .f .f32 ((ZD (Yr.getD Y1.toNat default) (ZC (YL.getD Y1.toNat default) 0)).Z)]]:List (List AV))) false]⟩) (sB Yv<|sG Gv.c Yr Y1 YT YV<|sK [10,10]<|sG Gv.c YL Y1 YT YX<|sF (Z60 (YL.getD Y1.toNat default) 0)<|sF (Z4X (Yr.getD Y1.toNat default) (ZC (YL.getD Y1.toNat default) 0))<|sC (show (Ye.map Gv.c).length + ([[.f .f32 ((ZD (Yr.getD Y1.toNat default) (ZC (YL.getD Y1.toNat default) 0)).X), .f .f32 ((ZD (Yr.getD Y1.toNat default) (ZC (YL.getD Y1.toNat default) 0)).Y), .f .f32 ((ZD (Yr.getD Y1.toNat default) (ZC (YL.getD Y1.toNat default) 0)).Z)]]:List (List AV)).length≤1073741824 from (by simpa using YZ))<|sI (Y1 + 1) y_4 y_5<|sN) (by kernel_rfl) (by simp [Z8m,Gv.c]) (ih (Y1 + 1) (Ye ++ [(ZD (Yr.getD Y1.toNat default) (ZC (YL.getD Y1.toNat default) 0))]) (show 0≤(Y1 + 1) from (by omega)) (show ((Ye ++ [(ZD (Yr.getD Y1.toNat default) (ZC (YL.getD Y1.toNat default) 0))]).length:Int)=(Y1 + 1) from (by simp_all<;>omega)) (by omega))
  | false =>
   have YI:=odf Yv
   have e:Z3v Yn Yr YL (k + 1) Y1 Ye=Ye:=by simp only [Z3v,Yv,cond_false]
   rw [e]
   exact outR (e:=(.exit 0)) E0Ok Z7 [] Zeg [0] (sB Yv<|sN) (by kernel_rfl) (by intro h;cases h)
def Z5P (Yn:(List Gv)) (Yr:(List Gv)) (YL:(List Gv)):(List Gv):=(Z3v Yn Yr YL (((Yr.length:Int) - 0).toNat + 1) 0 ([]:List Gv))
def Z23 (Yn:(List Gv)) (Yr:(List Gv)) (YL:(List Gv)):(List Gv):=(cond (fcmp .gtr .f32 (Zj Yn Yn) 0)
  (Z5O Yn Yr YL)
  (Z5P Yn Yr YL))
theorem ZiY (f g w:List Gv) (j:Nat):(Z23 f g w)[j]? = if j < g.length then some (Zv (g.getD j default) (Zo (w.getD j default) (Zu (Zb g g) (Zb f f)))) else none:=by
  unfold Z23 Z5O Z5P
  have go:∀ (H:Nat) (lo:Nat→Int→List Gv→List Gv),(∀ k i r,lo (k + 1) i r=cond (decide (i < (g.length:Int))) (lo k (i + 1) (r ++ [Zv (g.getD i.toNat default) (Zo (w.getD i.toNat default) H)])) r) →
      (lo (((g.length:Int) - 0).toNat + 1) 0 [])[j]? = if j < g.length then some (Zv (g.getD j default) (Zo (w.getD j default) H)) else none:=by
    intro H lo h
    rw [X3C (f:=fun i=>Zv (g.getD i.toNat default) (Zo (w.getD i.toNat default) H)) (n:=(g.length:Int)) (lo:=lo) h _ _ _ (Nat.lt_succ_self _),List.nil_append,show ((g.length:Int) - 0).toNat=g.length from by omega,List.getElem?_map]
    by_cases hj:j < g.length
    · rw [List.getElem?_range hj,if_pos hj,Option.map_some,show ((0:Int) + (j:Int)).toNat=j from by omega]
    · rw [List.getElem?_eq_none (by simpa using hj),if_neg hj];rfl
  rw [show Zj=Zb from by kernel_rfl]
  unfold Zu
  cases h:fcmp .gtr .f32 (Zb f f) 0 with
  | true=>exact go _ (Z3u f g w) (fun k i r=>by kernel_rfl)
  | false=>exact go _ (Z3v f g w) (fun k i r=>by kernel_rfl)
theorem Zgt (f g w:List Gv):(Z23 f g w).length=g.length:=by
  have h:∀ j,(Z23 f g w)[j]? = none↔¬ j < g.length:=by
    intro j
    rw [ZiY]
    by_cases hj:j < g.length
    · rw [if_pos hj];simp [hj]
    · rw [if_neg hj];simp [hj]
  have h1:=(h (Z23 f g w).length).1 (List.getElem?_eq_none (Nat.le_refl _))
  have h2:=(h g.length).2 (by omega)
  rw [List.getElem?_eq_none_iff] at h2
  omega
end Go.Ab
