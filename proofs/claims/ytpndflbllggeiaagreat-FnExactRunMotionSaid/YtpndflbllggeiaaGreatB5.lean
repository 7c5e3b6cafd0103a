/- The functions of this seat as plain Lean, and that the program's are these. Printed by a program of the prover's own. -/
import Derived.Test.YtpndflbllggeiaaGreatB4
set_option linter.unusedVariables false
set_option linter.unusedSimpArgs false
set_option maxRecDepth 100000
namespace Go.Ab
open Go.RowKit Go.Proofs.Tryz
theorem Zhq (b:Gb) (v:List Gv) (s:Nat):(Z4b b v s).length=b.Me.Pq.length:=by simp
def Z1Z (Y3:Gn) (Y2:(List Int)) (Y6:Nat) (Y9:Nat) (Y5:Nat) (Y1:Int):Gv:=(Zr (ZI (Y3.Sd.getD Y1.toNat default) (Zr ((Z1K Y3.Body Y2).getD Y1.toNat default) (fop .quo .f32 Y5 Y6))) Y9)
def Z20 (Y3:Gn) (Y2:(List Int)) (Y6:Nat) (Y9:Nat) (Y5:Nat):Nat→Int→(List Gv)→(List Gv)
  | 0,_,_ => default
  | k + 1,Y1,Yb => (cond (decide (Y1 < (Y3.Sd.length:Int)))
    (cond (Z15 Y2 Y1)
      (Z20 Y3 Y2 Y6 Y9 Y5 k (Y1 + 1) (Yb ++ [(⟨0,0,0⟩:Gv)]))
      (Z20 Y3 Y2 Y6 Y9 Y5 k (Y1 + 1) (Yb ++ [(Z1Z Y3 Y2 Y6 Y9 Y5 Y1)])))
    Yb)
def Z7W (Y3:Gn) (Y2:(List Int)) (Y6:Nat) (Y9:Nat) (Y5:Nat) (r:(List Gv)):Ex × St:=((.exit 0),⟨.ref (Gn.c Y3) 0 :: .sl (Y2.map (cI .i64)) :: .any :: .any :: .f .f32 Y5 :: an 5 (.ptr 0 0 0 :: .any :: .own 1 :: .any :: .any :: .ref (Gn.c Y3) 0 :: .ref (Gn.c Y3) 0 :: .ref (Gn.c Y3) 0 :: .sl (Y2.map (cI .i64)) :: .own 2 :: .any :: .ref (Gn.c Y3) 0 :: .ref (Gn.c Y3) 0 :: .ref (Gn.c Y3) 9 :: .sl (Y3.Sd.map Gv.c) :: an 39 []),[.box 66 [.nils, .nils, .nils, .f .f32 0, .f .f32 0, .nils, .f .f32 0, .f .f32 0, .f .f32 0, .nils], .vec 40 3 (r.map Gv.c) false, .vec 40 3 ((Z1K Y3.Body Y2).map Gv.c) false]⟩)
def Z5V (Y3:Gn) (Y2:(List Int)) (Y6:Nat) (Y9:Nat) (Y5:Nat) (Y1:Int) (Yb:(List Gv)):St:=⟨.ref (Gn.c Y3) 0 :: .sl (Y2.map (cI .i64)) :: .f .f32 Y6 :: .f .f32 Y9 :: .f .f32 Y5 :: an 5 (.ptr 0 0 0 :: .own 1 :: .own 2 :: .any :: .any :: .ref (Gn.c Y3) 0 :: .ref (Gn.c Y3) 0 :: .ref (Gn.c Y3) 0 :: .sl (Y2.map (cI .i64)) :: .own 1 :: .any :: .ref (Gn.c Y3) 0 :: .ref (Gn.c Y3) 0 :: .ref (Gn.c Y3) 9 :: .sl (Y3.Sd.map Gv.c) :: .i .i64 (Y3.Sd.length:Int) :: .i .i64 Y1 :: an 37 []),[.box 66 [.nils, .nils, .nils, .f .f32 0, .f .f32 0, .nils, .f .f32 0, .f .f32 0, .f .f32 0, .nils], .vec 40 3 ((Z1K Y3.Body Y2).map Gv.c) false, .vec 40 3 (Yb.map Gv.c) false]⟩
def ZdP:List Bool:=(mR false [0,2,2,1,5,1,1,1,2,5,1,4,39])
theorem Zf3 (Y3:Gn) (Y2:(List Int)) (Y6:Nat) (Y9:Nat) (Y5:Nat) (hp0:Y3.Body.Me.Pq.length≤1073741824) (hp1:Y3.Body.Me.Tr.length≤1073741824) (hp2:∀ t∈Y3.Body.Me.Tr,t.length≤1073741824) (hp3:Y3.Body.Sp.length≤1073741824) (hp4:Y3.Body.We.length≤1073741824) (hp5:Y3.Sd.length≤1073741824) (hp6:Y2.length≤1073741824) (hp7:OkBd Y3.Body) (hp8:Y3.Sd.length=Y3.Body.Me.Pq.length) (hp9:OkIx Y3.Body.Me.Pq.length (fun x => x) Y2):∀ (k:Nat) (Y1:Int) (Yb:(List Gv)) (Z9V:0≤Y1) (Z9W:(Yb.length:Int)=Y1) (hk:((Y3.Sd.length:Int) - Y1).toNat < k),Lp prog 0 (sub (X0 f77) [1,1,1,0,1,0,0]) (Z5V Y3 Y2 Y6 Y9 Y5 Y1 Yb) (Z7W Y3 Y2 Y6 Y9 Y5 (Z20 Y3 Y2 Y6 Y9 Y5 k Y1 Yb)).1 (Z7W Y3 Y2 Y6 Y9 Y5 (Z20 Y3 Y2 Y6 Y9 Y5 k Y1 Yb)).2:=by
 intro k
 induction k with
 | zero => intro Y1 Yb Z9V Z9W hk; exact absurd hk (Nat.not_lt_zero _)
 | succ k ih =>
  intro Y1 Yb Z9V Z9W hk
  cases Yn:(decide (Y1 < (Y3.Sd.length:Int))) with
  | true =>
   have YM:=odt Yn
   have YS:(0:Int)≤Y1:=(by assumption)
   have YT:Y1 < (Y3.Sd.length:Int):=(by assumption)
   have YY:Y1 < ((Z1K Y3.Body Y2).length:Int):=(by have q:=Zd3 Y3.Body Y2; omega)
   have YZ:Y1.toNat < (Z1K Y3.Body Y2).length:=(by omega)
   have p {a C} (s:Scr a C):=sB Yn <| sK [19,19] <| sG Gv.c Y3.Sd Y1 YS YT <| sX Gv.c (Z1K Y3.Body Y2) Y1 YS YY <| sV Gv.c (Z1K Y3.Body Y2) Y1.toNat YZ <| sF (Z3o ((Z1K Y3.Body Y2).getD Y1.toNat default) (fop .quo .f32 Y5 Y6)) <| sF (Z3A (Y3.Sd.getD Y1.toNat default) (Zr ((Z1K Y3.Body Y2).getD Y1.toNat default) (fop .quo .f32 Y5 Y6))) <| sF (Z3o (ZI (Y3.Sd.getD Y1.toNat default) (Zr ((Z1K Y3.Body Y2).getD Y1.toNat default) (fop .quo .f32 Y5 Y6))) Y9) <| sF (Zb0 Y2 Y1 hp6) <| s
   cases YL:(Z15 Y2 Y1) with
   | true =>
    have y_4:Yb.length + ([(⟨0,0,0⟩:Gv)]).length≤1073741824:=by clear p; exact (by simp_all <;> omega)
    have y_5:(-9223372036854775808:Int)≤(Y1 + 1):=by clear p; exact (by omega)
    have y_6:(Y1 + 1)≤(9223372036854775807:Int):=by clear p; exact (by omega)
    have e:Z20 Y3 Y2 Y6 Y9 Y5 (k + 1) Y1 Yb=(Z20 Y3 Y2 Y6 Y9 Y5 k (Y1 + 1) (Yb ++ [(⟨0,0,0⟩:Gv)])):=by simp only [Z20,Yn,YL,cond_true]
    rw [e]
    exact X8 E0Ok Z4 [] (mR false [0,5,5,3,2,5,1,6,37]) [0,1,2] (⟨.ref (Gn.c Y3) 0 :: .sl (Y2.map (cI .i64)) :: .f .f32 Y6 :: .f .f32 Y9 :: .f .f32 Y5 :: an 5 (.ptr 0 0 0 :: .own 1 :: .own 2 :: .any :: .any :: .ref (Gn.c Y3) 0 :: .ref (Gn.c Y3) 0 :: .ref (Gn.c Y3) 0 :: .sl (Y2.map (cI .i64)) :: .own 1 :: .any :: .ref (Gn.c Y3) 0 :: .ref (Gn.c Y3) 0 :: .ref (Gn.c Y3) 9 :: .sl (Y3.Sd.map Gv.c) :: .i .i64 (Y3.Sd.length:Int) :: .i .i64 (Y1 + 1) :: an 37 []),[.box 66 [.nils, .nils, .nils, .f .f32 0, .f .f32 0, .nils, .f .f32 0, .f .f32 0, .f .f32 0, .nils], .vec 40 3 ((Z1K Y3.Body Y2).map Gv.c) false, .vec 40 3 ((Yb.map Gv.c) ++ ([[.f .f32 0, .f .f32 0, .f .f32 0]]:List (List AV))) false]⟩) (p (sB YL <| sC (show (Yb.map Gv.c).length + ([[.f .f32 0, .f .f32 0, .f .f32 0]]:List (List AV)).length≤1073741824 from (by simpa using y_4)) <| sI (Y1 + 1) y_5 y_6 <| sN)) (by kernel_rfl) (by simp [Z5V,Gv.c]) (ih (Y1 + 1) (Yb ++ [(⟨0,0,0⟩:Gv)]) (show 0≤(Y1 + 1) from (by omega)) (show ((Yb ++ [(⟨0,0,0⟩:Gv)]).length:Int)=(Y1 + 1) from (by simp_all <;> omega)) (by omega))
   | false =>
    have y_4:Yb.length + ([(Z1Z Y3 Y2 Y6 Y9 Y5 Y1)]).length≤1073741824:=by clear p; exact (by simp_all <;> omega)
    have y_5:(-9223372036854775808:Int)≤(Y1 + 1):=by clear p; exact (by omega)
    have y_6:(Y1 + 1)≤(9223372036854775807:Int):=by clear p; exact (by omega)
    have e:Z20 Y3 Y2 Y6 Y9 Y5 (k + 1) Y1 Yb=(Z20 Y3 Y2 Y6 Y9 Y5 k (Y1 + 1) (Yb ++ [(Z1Z Y3 Y2 Y6 Y9 Y5 Y1)])):=by simp only [Z20,Yn,YL,cond_true,cond_false]
    rw [e]
    exact X8 E0Ok Z4 [] (mR false [0,5,5,3,2,5,1,6,37]) [0,1,2] (⟨.ref (Gn.c Y3) 0 :: .sl (Y2.map (cI .i64)) :: .f .f32 Y6 :: .f .f32 Y9 :: .f .f32 Y5 :: an 5 (.ptr 0 0 0 :: .own 1 :: .own 2 :: .any :: .any :: .ref (Gn.c Y3) 0 :: .ref (Gn.c Y3) 0 :: .ref (Gn.c Y3) 0 :: .sl (Y2.map (cI .i64)) :: .own 1 :: .any :: .ref (Gn.c Y3) 0 :: .ref (Gn.c Y3) 0 :: .ref (Gn.c Y3) 9 :: .sl (Y3.Sd.map Gv.c) :: .i .i64 (Y3.Sd.length:Int) :: .i .i64 (Y1 + 1) :: an 37 []),[.box 66 [.nils, .nils, .nils, .f .f32 0, .f .f32 0, .nils, .f .f32 0, .f .f32 0, .f .f32 0, .nils], .vec 40 3 ((Z1K Y3.Body Y2).map Gv.c) false, .vec 40 3 ((Yb.map Gv.c) ++ ([[.f .f32 ((Z1Z Y3 Y2 Y6 Y9 Y5 Y1).X), .f .f32 ((Z1Z Y3 Y2 Y6 Y9 Y5 Y1).Y), .f .f32 ((Z1Z Y3 Y2 Y6 Y9 Y5 Y1).Z)]]:List (List AV))) false]⟩) (p (sB YL <| sC (show (Yb.map Gv.c).length + ([[.f .f32 ((Z1Z Y3 Y2 Y6 Y9 Y5 Y1).X), .f .f32 ((Z1Z Y3 Y2 Y6 Y9 Y5 Y1).Y), .f .f32 ((Z1Z Y3 Y2 Y6 Y9 Y5 Y1).Z)]]:List (List AV)).length≤1073741824 from (by simpa using y_4)) <| sI (Y1 + 1) y_5 y_6 <| sN)) (by kernel_rfl) (by simp [Z5V,Gv.c]) (ih (Y1 + 1) (Yb ++ [(Z1Z Y3 Y2 Y6 Y9 Y5 Y1)]) (show 0≤(Y1 + 1) from (by omega)) (show ((Yb ++ [(Z1Z Y3 Y2 Y6 Y9 Y5 Y1)]).length:Int)=(Y1 + 1) from (by simp_all <;> omega)) (by omega))
  | false =>
   have YM:=odf Yn
   have e:Z20 Y3 Y2 Y6 Y9 Y5 (k + 1) Y1 Yb=Yb:=by simp only [Z20,Yn,cond_false]
   rw [e]
   exact outR (e:=(.exit 0)) E0Ok Z4 [] ZdP [0,2,1] (sB Yn <| sN) (by kernel_rfl) (by intro h; cases h)
def Zk (Y3:Gn) (Y2:(List Int)) (Y6:Nat) (Y9:Nat) (Y5:Nat):(List Gv):=(Z20 Y3 Y2 Y6 Y9 Y5 (((Y3.Sd.length:Int) - 0).toNat + 1) 0 ([]:List Gv))
theorem ZhT (m:Gn) (h:List Int) (a d t:Nat):Zk m h a d t=(List.range m.Sd.length).map fun (j:Nat) => cond (Z15 h (j:Int)) (⟨0,0,0⟩:Gv) (Z1Z m h a d t (j:Int)):=by
  unfold Zk
  rw [X2W (f:=fun i => cond (Z15 h i) (⟨0,0,0⟩:Gv) (Z1Z m h a d t i)) (n:=(m.Sd.length:Int)) (lo:=Z20 m h a d t) (fun k i r => by rw [Z20]; cases Z15 h i <;> rfl) _ _ _ (Nat.lt_succ_self _),List.nil_append]
  rw [show ((m.Sd.length:Int) - 0).toNat=m.Sd.length from by omega]
  simp only [Int.zero_add]
theorem Zd5 (m:Gn) (h:List Int) (a d t:Nat):(Zk m h a d t).length=m.Sd.length:=by rw [ZhT]; simp
def Zb (Y3:Gn) (Y2:(List Int)) (Y6:Nat) (Y9:Nat) (Y5:Nat):Gn:=(⟨(Zo Y3.Body (Zk Y3 Y2 Y6 Y9 Y5) Y5),(Zk Y3 Y2 Y6 Y9 Y5)⟩:Gn)
theorem ZfB (m:Gn) (h:List Int) (a d t:Nat):(Zb m h a d t).Body.Me.Pq.length≤m.Body.Me.Pq.length:=Zbf m.Body _ t
theorem ZfC (m:Gn) (h:List Int) (a d t:Nat):(Zb m h a d t).Body.Me.Tr.length≤m.Body.Me.Tr.length:=Zbg m.Body _ t
theorem ZfD (m:Gn) (h:List Int) (a d t:Nat):(Zb m h a d t).Body.We.length≤m.Body.We.length:=Zbh m.Body _ t
theorem ZfE (m:Gn) (h:List Int) (a d t:Nat):(Zb m h a d t).Body.Sp.length≤m.Body.Sp.length:=Zbi m.Body _ t
theorem ZfF (m:Gn) (h:List Int) (a d t:Nat):(Zb m h a d t).Sd.length≤m.Sd.length:=Nat.le_of_eq (Zd5 m h a d t)
theorem Zgs (Y3:Gn) (Y2:(List Int)) (Y6:Nat) (Y9:Nat) (Y5:Nat) (hp0:Y3.Body.Me.Pq.length≤1073741824) (hp1:Y3.Body.Me.Tr.length≤1073741824) (hp2:∀ t∈Y3.Body.Me.Tr,t.length≤1073741824) (hp3:Y3.Body.Sp.length≤1073741824) (hp4:Y3.Body.We.length≤1073741824) (hp5:Y3.Sd.length≤1073741824) (hp6:Y2.length≤1073741824) (hp7:OkBd Y3.Body) (hp8:Y3.Sd.length=Y3.Body.Me.Pq.length) (hp9:OkIx Y3.Body.Me.Pq.length (fun x => x) Y2)  : Fn prog 77 [.ref (Gn.c Y3) 0, .sl (Y2.map (cI .i64)), .f .f32 Y6, .f .f32 Y9, .f .f32 Y5] (.agg [.own 0, .own 1, .own 2, .f .f32 ((Zb Y3 Y2 Y6 Y9 Y5).Body.Film), .f .f32 ((Zb Y3 Y2 Y6 Y9 Y5).Body.Bend), .own 3, .f .f32 ((Zb Y3 Y2 Y6 Y9 Y5).Body.Fall.X), .f .f32 ((Zb Y3 Y2 Y6 Y9 Y5).Body.Fall.Y), .f .f32 ((Zb Y3 Y2 Y6 Y9 Y5).Body.Fall.Z), .own 4]) [.vec 40 3 (((Zb Y3 Y2 Y6 Y9 Y5).Body.Me.Pq).map Gv.c) false, .nest 49 (((Zb Y3 Y2 Y6 Y9 Y5).Body.Me.Tr).map fun l => l.map (cI .i64)) false, .vec 133 4 (((Zb Y3 Y2 Y6 Y9 Y5).Body.Sp).map Gs.c) false, .vec 27 1 (((Zb Y3 Y2 Y6 Y9 Y5).Body.We).map (cF .f32)) false, .vec 40 3 (((Zb Y3 Y2 Y6 Y9 Y5).Sd).map Gv.c) false]:=by
 have y0:(Zk Y3 Y2 Y6 Y9 Y5).length≤1073741824:=(by have q:=Zd5 Y3 Y2 Y6 Y9 Y5; omega)
 have y1:(Zk Y3 Y2 Y6 Y9 Y5).length≤Y3.Body.Me.Pq.length:=(by have q:=Zd5 Y3 Y2 Y6 Y9 Y5; omega)
 have l1:=(Zbf Y3.Body (Zk Y3 Y2 Y6 Y9 Y5) Y5)
 have l2:=(Zbg Y3.Body (Zk Y3 Y2 Y6 Y9 Y5) Y5)
 have l3:=(Zbh Y3.Body (Zk Y3 Y2 Y6 Y9 Y5) Y5)
 have l4:=(Zbi Y3.Body (Zk Y3 Y2 Y6 Y9 Y5) Y5)
 refine fnS E0Ok Z4 (c:=X0 f77) [] (.agg [.own 0, .own 1, .own 2, .f .f32 ((Zo Y3.Body (Zk Y3 Y2 Y6 Y9 Y5) Y5).Film), .f .f32 ((Zo Y3.Body (Zk Y3 Y2 Y6 Y9 Y5) Y5).Bend), .own 3, .f .f32 ((Zo Y3.Body (Zk Y3 Y2 Y6 Y9 Y5) Y5).Fall.X), .f .f32 ((Zo Y3.Body (Zk Y3 Y2 Y6 Y9 Y5) Y5).Fall.Y), .f .f32 ((Zo Y3.Body (Zk Y3 Y2 Y6 Y9 Y5) Y5).Fall.Z), .own 4]) [.vec 40 3 (((Zo Y3.Body (Zk Y3 Y2 Y6 Y9 Y5) Y5).Me.Pq).map Gv.c) false, .nest 49 (((Zo Y3.Body (Zk Y3 Y2 Y6 Y9 Y5) Y5).Me.Tr).map fun l => l.map (cI .i64)) false, .vec 133 4 (((Zo Y3.Body (Zk Y3 Y2 Y6 Y9 Y5) Y5).Sp).map Gs.c) false, .vec 27 1 (((Zo Y3.Body (Zk Y3 Y2 Y6 Y9 Y5) Y5).We).map (cF .f32)) false, .vec 40 3 ((Zk Y3 Y2 Y6 Y9 Y5).map Gv.c) false] func77 (sF (Fn.sub (args:=[.ref (Gn.c Y3) 0, .sl (Y2.map (cI .i64))]) (r := .own 0) (new:=[.vec 40 3 ((Z1K Y3.Body Y2).map Gv.c) false]) [some 9,none] (Zgr Y3.Body Y2 hp0 hp1 hp2 hp3 hp4 hp6 hp7 hp9)) <| sZ Gv.c Y3.Sd <| sL (mR false [0,5,5,3,2,5,1,6,37]) 3 (Xj (st2:=⟨.ref (Gn.c Y3) 0 :: .sl (Y2.map (cI .i64)) :: .f .f32 Y6 :: .f .f32 Y9 :: .f .f32 Y5 :: an 5 (.ptr 0 0 0 :: .own 1 :: .own 2 :: .any :: .any :: .ref (Gn.c Y3) 0 :: .ref (Gn.c Y3) 0 :: .ref (Gn.c Y3) 0 :: .sl (Y2.map (cI .i64)) :: .own 1 :: .any :: .ref (Gn.c Y3) 0 :: .ref (Gn.c Y3) 0 :: .ref (Gn.c Y3) 9 :: .sl (Y3.Sd.map Gv.c) :: .i .i64 (Y3.Sd.length:Int) :: .i .i64 0 :: an 37 []),[.box 66 [.nils, .nils, .nils, .f .f32 0, .f .f32 0, .nils, .f .f32 0, .f .f32 0, .f .f32 0, .nils], .vec 40 3 ((Z1K Y3.Body Y2).map Gv.c) false, .vec 40 3 ([]:List (List AV)) false]⟩) (X1 (Z7W Y3 Y2 Y6 Y9 Y5) (x:=(Zk Y3 Y2 Y6 Y9 Y5)) (Zf3 Y3 Y2 Y6 Y9 Y5 hp0 hp1 hp2 hp3 hp4 hp5 hp6 hp7 hp8 hp9 (((Y3.Sd.length:Int) - 0).toNat + 1) 0 ([]:List Gv) (show 0≤0 from (by omega)) (show (([]:List Gv).length:Int)=0 from (by simp)) (Nat.lt_succ_self _)) rfl) (by simp [Z5V,Gv.c])) <| sF (Fn.sub (args:=[.ref (Gn.c Y3) 0, .sl ((Zk Y3 Y2 Y6 Y9 Y5).map Gv.c), .f .f32 Y5]) (r := .agg [.own 0, .own 1, .own 2, .f .f32 ((Zo Y3.Body (Zk Y3 Y2 Y6 Y9 Y5) Y5).Film), .f .f32 ((Zo Y3.Body (Zk Y3 Y2 Y6 Y9 Y5) Y5).Bend), .own 3, .f .f32 ((Zo Y3.Body (Zk Y3 Y2 Y6 Y9 Y5) Y5).Fall.X), .f .f32 ((Zo Y3.Body (Zk Y3 Y2 Y6 Y9 Y5) Y5).Fall.Y), .f .f32 ((Zo Y3.Body (Zk Y3 Y2 Y6 Y9 Y5) Y5).Fall.Z)]) (new:=[.vec 40 3 (((Zo Y3.Body (Zk Y3 Y2 Y6 Y9 Y5) Y5).Me.Pq).map Gv.c) false, .nest 49 (((Zo Y3.Body (Zk Y3 Y2 Y6 Y9 Y5) Y5).Me.Tr).map fun l => l.map (cI .i64)) false, .vec 133 4 (((Zo Y3.Body (Zk Y3 Y2 Y6 Y9 Y5) Y5).Sp).map Gs.c) false, .vec 27 1 (((Zo Y3.Body (Zk Y3 Y2 Y6 Y9 Y5) Y5).We).map (cF .f32)) false]) [some 9,none,none] (Zg5 Y3.Body (Zk Y3 Y2 Y6 Y9 Y5) Y5 hp0 hp1 hp2 hp3 hp4 y0 y1)) <| sK [3,4,5,6,1] sN) rfl (by kernel_rfl) (by kernel_rfl) rfl ?_ ?_
 · rfl
 · simp [Zb]
def Like (b B:Gb):Prop:=B.Me.Pq.length=b.Me.Pq.length∧B.Me.Tr=b.Me.Tr∧B.Sp=b.Sp∧B.We=b.We
theorem Zd6 {b B:Gb} (h:Like b B):B.Me.Pq.length=b.Me.Pq.length∧B.Me.Tr.length=b.Me.Tr.length∧B.Sp.length=b.Sp.length∧B.We.length=b.We.length:=⟨h.1,by rw [h.2.1],by rw [h.2.2.1],by rw [h.2.2.2]⟩
theorem Zg6 {b B:Gb} (h:Like b B) (v:List Gv) (s:Nat):Like b (Zo B v s):=⟨(Zhq B v s).trans h.1,h.2.1,h.2.2.1,h.2.2.2⟩
theorem Zio {b B:Gb} (ok:OkBd b) (h:Like b B):OkBd B:=⟨by rw [h.1,h.2.1]; exact ok.e,by rw [h.2.2.2,h.1]; exact ok.w,by rw [h.1,h.2.2.1]; exact ok.a,by rw [h.1,h.2.2.1]; exact ok.b⟩
theorem Zip {b B:Gb} {f:Int→Int} {l:List Int} (k:OkIx b.Me.Pq.length f l) (h:Like b B):OkIx B.Me.Pq.length f l:=by rw [h.1]; exact k
theorem ZiK {b B:Gb} {n:Nat} (k:∀ t∈b.Me.Tr,t.length≤n) (h:Like b B):∀ t∈B.Me.Tr,t.length≤n:=by rw [h.2.1]; exact k
def Z4P (m M:Gn):Prop:=Like m.Body M.Body∧M.Sd.length=m.Sd.length
theorem Z42 {m M:Gn} (h:Z4P m M):M.Body.Me.Pq.length=m.Body.Me.Pq.length∧M.Body.Me.Tr.length=m.Body.Me.Tr.length∧M.Body.Sp.length=m.Body.Sp.length∧M.Body.We.length=m.Body.We.length∧M.Sd.length=m.Sd.length:=⟨(Zd6 h.1).1,(Zd6 h.1).2.1,(Zd6 h.1).2.2.1,(Zd6 h.1).2.2.2,h.2⟩
theorem Zd7 {m X:Gn} (h:Z4P m X):Z4P m ⟨⟨⟨X.Body.Me.Pq,X.Body.Me.Tr⟩,X.Body.Sp,X.Body.Film,X.Body.Bend,X.Body.We,⟨X.Body.Fall.X,X.Body.Fall.Y,X.Body.Fall.Z⟩⟩,X.Sd⟩:=h
theorem Z7O {m M:Gn} (ok:OkBd m.Body) (h:Z4P m M):OkBd M.Body:=Zio ok h.1
theorem Zeq {m M:Gn} (e:m.Sd.length=m.Body.Me.Pq.length) (h:Z4P m M):M.Sd.length=M.Body.Me.Pq.length:=by rw [h.2,h.1.1]; exact e
theorem Zd8 {m M:Gn} {f:Int→Int} {l:List Int} (k:OkIx m.Body.Me.Pq.length f l) (h:Z4P m M):OkIx M.Body.Me.Pq.length f l:=Zip k h.1
theorem Zc8 {m M:Gn} {n:Nat} (k:∀ u∈m.Body.Me.Tr,u.length≤n) (h:Z4P m M):∀ u∈M.Body.Me.Tr,u.length≤n:=ZiK k h.1
theorem Z7P {m M:Gn} (k:Z4P m M) (h:List Int) (a d t:Nat):Z4P m (Zb M h a d t):=⟨Zg6 k.1 _ t,(Zd5 M h a d t).trans k.2⟩
def Z7q (Y0:Gb) (Y1:Int):Gv:=(Z24 (Y0.Me.Pq.getD ((Y0.Sp.getD Y1.toNat default).B).toNat default) (Y0.Me.Pq.getD ((Y0.Sp.getD Y1.toNat default).A).toNat default))
def Zer (Y0:Gb) (Y1:Int):Nat:=(fop .mul .f32 (fop .sub .f32 (Z2u (Z7q Y0 Y1)) ((Y0.Sp.getD Y1.toNat default).Long)) (fop .sub .f32 (Z2u (Z7q Y0 Y1)) ((Y0.Sp.getD Y1.toNat default).Long)))
def Z43 (Y0:Gb) (Y1:Int) (Y4:(List Nat)):Nat:=(fop .add .f32 (Y4.getD 0 default) (fop .mul .f32 (fop .mul .f32 1056964608 ((Y0.Sp.getD Y1.toNat default).Stiff)) (Zer Y0 Y1)))
def Z1C (Y0:Gb):Nat→Int→(List Nat)→(List Nat)
  | 0,_,_ => default
  | k + 1,Y1,Y4 => (cond (decide (Y1 < (Y0.Sp.length:Int)))
    (Z1C Y0 k (Y1 + 1) (Y4.set 0 (Z43 Y0 Y1 Y4)))
    Y4)
def Z7r (Y0:Gb) (r:(List Nat)):Ex × St:=((.exit 0),⟨.ref (Gb.c Y0) 0 :: .any :: .nils :: .own 0 :: .ref (Gb.c Y0) 0 :: an 8 (.own 0 :: .ref (Gb.c Y0) 0 :: .ref (Gb.c Y0) 0 :: .ref (Gb.c Y0) 0 :: .ref (Gb.c Y0) 0 :: .ref (Gb.c Y0) 0 :: .ref (Gb.c Y0) 2 :: .sl (Y0.Sp.map Gs.c) :: an 139 []),[.vec 27 1 (r.map (cF .f32)) false]⟩)
def Z7s (Y0:Gb) (Y1:Int) (Y4:(List Nat)):St:=⟨.ref (Gb.c Y0) 0 :: .any :: .nils :: .own 0 :: .ref (Gb.c Y0) 0 :: an 8 (.own 0 :: .ref (Gb.c Y0) 0 :: .ref (Gb.c Y0) 0 :: .ref (Gb.c Y0) 0 :: .ref (Gb.c Y0) 0 :: .ref (Gb.c Y0) 0 :: .ref (Gb.c Y0) 2 :: .sl (Y0.Sp.map Gs.c) :: .i .i64 (Y0.Sp.length:Int) :: .i .i64 Y1 :: an 137 []),[.vec 27 1 (Y4.map (cF .f32)) false]⟩
theorem Zes (Y0:Gb) (hp0:Y0.Me.Pq.length≤1073741824) (hp1:Y0.Me.Tr.length≤1073741824) (hp2:∀ t∈Y0.Me.Tr,t.length≤1073741824) (hp3:Y0.Sp.length≤1073741824) (hp4:Y0.We.length≤1073741824) (hp5:OkBd Y0):∀ (k:Nat) (Y1:Int) (Y4:(List Nat)) (Z9d:0≤Y1) (Z9e:Y4.length=4) (hk:((Y0.Sp.length:Int) - Y1).toNat < k),Lp prog 0 (sub (X0 f133) [1,1,1,0,1,0,0]) (Z7s Y0 Y1 Y4) (Z7r Y0 (Z1C Y0 k Y1 Y4)).1 (Z7r Y0 (Z1C Y0 k Y1 Y4)).2:=by
 intro k
 induction k with
 | zero => intro Y1 Y4 Z9d Z9e hk; exact absurd hk (Nat.not_lt_zero _)
 | succ k ih =>
  intro Y1 Y4 Z9d Z9e hk
  cases Yn:(decide (Y1 < (Y0.Sp.length:Int))) with
  | true =>
   have YM:=odt Yn
   have YS:(0:Int)≤Y1:=(by assumption)
   have YT:Y1 < (Y0.Sp.length:Int):=(by assumption)
   have YY:(0:Int)≤((Y0.Sp.getD Y1.toNat default).B):=(by (have q:=hp5.w; (have q:=Z3E hp5 (by assumption) Yn; omega)))
   have YZ:((Y0.Sp.getD Y1.toNat default).B) < (Y0.Me.Pq.length:Int):=(by (have q:=hp5.w; (have q:=Z3E hp5 (by assumption) Yn; omega)))
   have y_4:(0:Int)≤((Y0.Sp.getD Y1.toNat default).A):=(by (have q:=hp5.w; (have q:=Z3E hp5 (by assumption) Yn; omega)))
   have y_5:((Y0.Sp.getD Y1.toNat default).A) < (Y0.Me.Pq.length:Int):=(by (have q:=hp5.w; (have q:=Z3E hp5 (by assumption) Yn; omega)))
   have y_6:(0:Int)≤0:=(by omega)
   have y_7:0 < (Y4.length:Int):=(by omega)
   have y_8:0 < Y4.length:=(by omega)
   have y_9:(-9223372036854775808:Int)≤(Y1 + 1):=(by omega)
   have Y19:(Y1 + 1)≤(9223372036854775807:Int):=(by omega)
   have e:Z1C Y0 (k + 1) Y1 Y4=(Z1C Y0 k (Y1 + 1) (Y4.set 0 (Z43 Y0 Y1 Y4))):=by simp only [Z1C,Yn,cond_true]
   rw [e]
   exact X8 E0Ok Z4 [] (mR false [0,1,1,3,8,10,137]) [0] (⟨.ref (Gb.c Y0) 0 :: .any :: .nils :: .own 0 :: .ref (Gb.c Y0) 0 :: an 8 (.own 0 :: .ref (Gb.c Y0) 0 :: .ref (Gb.c Y0) 0 :: .ref (Gb.c Y0) 0 :: .ref (Gb.c Y0) 0 :: .ref (Gb.c Y0) 0 :: .ref (Gb.c Y0) 2 :: .sl (Y0.Sp.map Gs.c) :: .i .i64 (Y0.Sp.length:Int) :: .i .i64 (Y1 + 1) :: an 137 []),[.vec 27 1 ((Y4.map (cF .f32)).set 0 [.f .f32 (Z43 Y0 Y1 Y4)]) false]⟩) (sB Yn <| sG Gs.c Y0.Sp Y1 YS YT <| sK [20,20] <| sG Gv.c Y0.Me.Pq ((Y0.Sp.getD Y1.toNat default).B) YY YZ <| sG Gv.c Y0.Me.Pq ((Y0.Sp.getD Y1.toNat default).A) y_4 y_5 <| sF (Z5u (Y0.Me.Pq.getD ((Y0.Sp.getD Y1.toNat default).B).toNat default) (Y0.Me.Pq.getD ((Y0.Sp.getD Y1.toNat default).A).toNat default)) <| sF (Z7N (Z7q Y0 Y1)) <| sK [10,10] <| sX (cF .f32) Y4 0 y_6 y_7 <| sV (cF .f32) Y4 0 y_8 <| sX (cF .f32) Y4 0 y_6 y_7 <| sC (Xn (c:=(cF .f32)) (l:=Y4) y_8) <| sI (Y1 + 1) y_9 Y19 <| sN) (by kernel_rfl) (by simp [Z7s,List.map_set,cF]) (ih (Y1 + 1) (Y4.set 0 (Z43 Y0 Y1 Y4)) (show 0≤(Y1 + 1) from (by omega)) (show (Y4.set 0 (Z43 Y0 Y1 Y4)).length=4 from (by simp_all <;> omega)) (by omega))
  | false =>
   have YM:=odf Yn
   have e:Z1C Y0 (k + 1) Y1 Y4=Y4:=by simp only [Z1C,Yn,cond_false]
   rw [e]
   exact outR (e:=(.exit 0)) E0Ok Z4 [] (mR false [0,1,1,3,8,8,139]) [0] (sB Yn <| sN) (by kernel_rfl) (by intro h; cases h)
theorem Zd9 (Y0:Gb):∀ (k:Nat) (Y1:Int) (Y4:(List Nat)) (hk:((Y0.Sp.length:Int) - Y1).toNat < k),(Z1C Y0 k Y1 Y4).length=Y4.length:=by
  intro k
  induction k with
  | zero => intro Y1 Y4 hk; exact absurd hk (Nat.not_lt_zero _)
  | succ k ih =>
    intro Y1 Y4 hk
    cases Yn:(decide (Y1 < (Y0.Sp.length:Int))) with
    | true =>
      have e:Z1C Y0 (k + 1) Y1 Y4=(Z1C Y0 k (Y1 + 1) (Y4.set 0 (Z43 Y0 Y1 Y4))):=by simp only [Z1C,Yn,cond_true]
      rw [e,ih (Y1 + 1) (Y4.set 0 (Z43 Y0 Y1 Y4)) (by simp_all <;> omega)]; simp
    | false =>
      have e:Z1C Y0 (k + 1) Y1 Y4=Y4:=by simp only [Z1C,Yn,cond_false]
      first | (rw [e]; done) | (rw [e]; rfl)
def Z2p (Y0:Gb):(List Nat):=(Z1C Y0 (((Y0.Sp.length:Int) - 0).toNat + 1) 0 (List.replicate 4 0))
@[simp] theorem Zb1 (Y0:Gb):(Z2p Y0).length=((List.replicate 4 0):(List Nat)).length:=Zd9 Y0 (((Y0.Sp.length:Int) - 0).toNat + 1) 0 (List.replicate 4 0) (by exact Nat.lt_succ_self _)
def Z44 (Y0:Gb) (Y1:Int) (Y4:(List Nat)):Nat:=(fop .add .f32 (Y4.getD 1 default) (fop .mul .f32 Y0.Film (fop .mul .f32 1056964608 (Z2u (Zg Y0.Me (Y0.Me.Tr.getD Y1.toNat default))))))
def Z1D (Y0:Gb):Nat→Int→(List Nat)→(List Nat)
  | 0,_,_ => default
  | k + 1,Y1,Y4 => (cond (decide (Y1 < (Y0.Me.Tr.length:Int)))
    (Z1D Y0 k (Y1 + 1) (Y4.set 1 (Z44 Y0 Y1 Y4)))
    Y4)
def Z7t (Y0:Gb) (r:(List Nat)):Ex × St:=((.exit 2),⟨.ref (Gb.c Y0) 0 :: .any :: .nils :: .own 0 :: .ref (Gb.c Y0) 0 :: an 8 (.own 0 :: .ref (Gb.c Y0) 0 :: .ref (Gb.c Y0) 0 :: .ref (Gb.c Y0) 0 :: .ref (Gb.c Y0) 0 :: .ref (Gb.c Y0) 0 :: .ref (Gb.c Y0) 2 :: .sl (Y0.Sp.map Gs.c) :: an 45 (.ref (Gb.c Y0) 0 :: .ref (Gb.c Y0) 0 :: .ref (Gb.c Y0) 1 :: .sl (Y0.Me.Tr.map (cL (cI .i64))) :: an 90 [])),[.vec 27 1 (r.map (cF .f32)) false]⟩)
def Zav (Y0:Gb) (Y1:Int) (Y4:(List Nat)):St:=⟨.ref (Gb.c Y0) 0 :: .any :: .nils :: .own 0 :: .ref (Gb.c Y0) 0 :: an 8 (.own 0 :: .ref (Gb.c Y0) 0 :: .ref (Gb.c Y0) 0 :: .ref (Gb.c Y0) 0 :: .ref (Gb.c Y0) 0 :: .ref (Gb.c Y0) 0 :: .ref (Gb.c Y0) 2 :: .sl (Y0.Sp.map Gs.c) :: an 45 (.ref (Gb.c Y0) 0 :: .ref (Gb.c Y0) 0 :: .ref (Gb.c Y0) 1 :: .sl (Y0.Me.Tr.map (cL (cI .i64))) :: .i .i64 (Y0.Me.Tr.length:Int) :: .i .i64 Y1 :: an 88 [])),[.vec 27 1 (Y4.map (cF .f32)) false]⟩
def Z9f:List Bool:=(mR false [0,1,1,3,8,8,45,6,88])
def Zda:List Bool:=(mR false [0,1,1,3,8,8,45,4,90])
theorem Zet (Y0:Gb) (hp0:Y0.Me.Pq.length≤1073741824) (hp1:Y0.Me.Tr.length≤1073741824) (hp2:∀ t∈Y0.Me.Tr,t.length≤1073741824) (hp3:Y0.Sp.length≤1073741824) (hp4:Y0.We.length≤1073741824) (hp5:OkBd Y0):∀ (k:Nat) (Y1:Int) (Y4:(List Nat)) (Z9g:0≤Y1) (Z9h:Y4.length=(Z2p Y0).length) (hk:((Y0.Me.Tr.length:Int) - Y1).toNat < k),Lp prog 0 (sub (X0 f133) [1,1,1,1,0,1,0,0]) (Zav Y0 Y1 Y4) (Z7t Y0 (Z1D Y0 k Y1 Y4)).1 (Z7t Y0 (Z1D Y0 k Y1 Y4)).2:=by
 intro k
 induction k with
 | zero => intro Y1 Y4 Z9g Z9h hk; exact absurd hk (Nat.not_lt_zero _)
 | succ k ih =>
  intro Y1 Y4 Z9g Z9h hk
  cases Yn:(decide (Y1 < (Y0.Me.Tr.length:Int))) with
  | true =>
   have YM:=odt Yn
   have YS:(0:Int)≤1:=(by omega)
   have YT:1 < (Y4.length:Int):=(by simp_all <;> omega)
   have YY:1 < Y4.length:=(by omega)
   have YZ:(0:Int)≤Y1:=(by assumption)
   have y_4:Y1 < (Y0.Me.Tr.length:Int):=(by assumption)
   have y_5:(Y0.Me.Tr.getD Y1.toNat default).length≤1073741824:=(by exact X4S hp5.e (by assumption) Yn)
   have y_6:(Y0.Me.Tr.getD Y1.toNat default).length=3∧∀ x∈(Y0.Me.Tr.getD Y1.toNat default),0≤x∧x < (Y0.Me.Pq.length:Int):=(by exact tri3 hp5.e (by assumption) Yn)
   have y_7:(-9223372036854775808:Int)≤(Y1 + 1):=(by omega)
   have y_8:(Y1 + 1)≤(9223372036854775807:Int):=(by omega)
   have e:Z1D Y0 (k + 1) Y1 Y4=(Z1D Y0 k (Y1 + 1) (Y4.set 1 (Z44 Y0 Y1 Y4))):=by simp only [Z1D,Yn,cond_true]
   rw [e]
   exact X8 E0Ok Z4 [] Z9f [0] (⟨.ref (Gb.c Y0) 0 :: .any :: .nils :: .own 0 :: .ref (Gb.c Y0) 0 :: an 8 (.own 0 :: .ref (Gb.c Y0) 0 :: .ref (Gb.c Y0) 0 :: .ref (Gb.c Y0) 0 :: .ref (Gb.c Y0) 0 :: .ref (Gb.c Y0) 0 :: .ref (Gb.c Y0) 2 :: .sl (Y0.Sp.map Gs.c) :: an 45 (.ref (Gb.c Y0) 0 :: .ref (Gb.c Y0) 0 :: .ref (Gb.c Y0) 1 :: .sl (Y0.Me.Tr.map (cL (cI .i64))) :: .i .i64 (Y0.Me.Tr.length:Int) :: .i .i64 (Y1 + 1) :: an 88 [])),[.vec 27 1 ((Y4.map (cF .f32)).set 1 [.f .f32 (Z44 Y0 Y1 Y4)]) false]⟩) (sB Yn <| sK [19,19] <| sX (cF .f32) Y4 1 YS YT <| sV (cF .f32) Y4 1 YY <| sG (cL (cI .i64)) Y0.Me.Tr Y1 YZ y_4 <| sF (Fn.sub (args:=[.ref (Gb.c Y0) 0, .sl ((Y0.Me.Tr.getD Y1.toNat default).map (cI .i64))]) (r := .agg [.f .f32 ((Zg Y0.Me (Y0.Me.Tr.getD Y1.toNat default)).X), .f .f32 ((Zg Y0.Me (Y0.Me.Tr.getD Y1.toNat default)).Y), .f .f32 ((Zg Y0.Me (Y0.Me.Tr.getD Y1.toNat default)).Z)]) (new:=[]) [some 2,none] (ZbI Y0.Me (Y0.Me.Tr.getD Y1.toNat default) hp0 hp1 hp2 y_5 y_6)) <| sF (Z7N (Zg Y0.Me (Y0.Me.Tr.getD Y1.toNat default))) <| sX (cF .f32) Y4 1 YS YT <| sC (Xn (c:=(cF .f32)) (l:=Y4) YY) <| sI (Y1 + 1) y_7 y_8 <| sN) (by kernel_rfl) (by simp [Zav,List.map_set,cF]) (ih (Y1 + 1) (Y4.set 1 (Z44 Y0 Y1 Y4)) (show 0≤(Y1 + 1) from (by omega)) (show (Y4.set 1 (Z44 Y0 Y1 Y4)).length=(Z2p Y0).length from (by simp_all <;> omega)) (by omega))
  | false =>
   have YM:=odf Yn
   have e:Z1D Y0 (k + 1) Y1 Y4=Y4:=by simp only [Z1D,Yn,cond_false]
   rw [e]
   exact outR (e:=(.exit 2)) E0Ok Z4 [] Zda [0] (sB Yn <| sN) (by kernel_rfl) (by intro h; cases h)
theorem Zdb (Y0:Gb):∀ (k:Nat) (Y1:Int) (Y4:(List Nat)) (hk:((Y0.Me.Tr.length:Int) - Y1).toNat < k),(Z1D Y0 k Y1 Y4).length=Y4.length:=by
  intro k
  induction k with
  | zero => intro Y1 Y4 hk; exact absurd hk (Nat.not_lt_zero _)
  | succ k ih =>
    intro Y1 Y4 hk
    cases Yn:(decide (Y1 < (Y0.Me.Tr.length:Int))) with
    | true =>
      have e:Z1D Y0 (k + 1) Y1 Y4=(Z1D Y0 k (Y1 + 1) (Y4.set 1 (Z44 Y0 Y1 Y4))):=by simp only [Z1D,Yn,cond_true]
      rw [e,ih (Y1 + 1) (Y4.set 1 (Z44 Y0 Y1 Y4)) (by simp_all <;> omega)]; simp
    | false =>
      have e:Z1D Y0 (k + 1) Y1 Y4=Y4:=by simp only [Z1D,Yn,cond_false]
      first | (rw [e]; done) | (rw [e]; rfl)
def Z2q (Y0:Gb):(List Nat):=(Z1D Y0 (((Y0.Me.Tr.length:Int) - 0).toNat + 1) 0 (Z2p Y0))
@[simp] theorem Zb2 (Y0:Gb):(Z2q Y0).length=((Z2p Y0):(List Nat)).length:=Zdb Y0 (((Y0.Me.Tr.length:Int) - 0).toNat + 1) 0 (Z2p Y0) (by exact Nat.lt_succ_self _)
def Z3L (Y0:Gb) (Y1:Int):Nat:=(Z4X (ZY Y0.Me ((Z2 Y0.Me).getD Y1.toNat default)) (ZY Y0.Me ((Z2 Y0.Me).getD Y1.toNat default)))
def Z1p (Y0:Gb):Nat→Int→(List Nat)→(List Nat)
  | 0,_,_ => default
  | k + 1,Y1,Y4 => (cond (decide (Y1 < ((Z2 Y0.Me).length:Int)))
    (Z1p Y0 k (Y1 + 1) (Y4.set 2 (fop .add .f32 (Y4.getD 2 default) (fop .mul .f32 (fop .mul .f32 1056964608 Y0.Bend) (Z3L Y0 Y1)))))
    Y4)
def Z7u (Y0:Gb) (r:(List Nat)):Ex × St:=((.exit 4),⟨.ref (Gb.c Y0) 0 :: .any :: .nils :: .own 0 :: .ref (Gb.c Y0) 0 :: an 4 (.own 1 :: .any :: .any :: .any :: .own 0 :: .ref (Gb.c Y0) 0 :: .ref (Gb.c Y0) 0 :: .ref (Gb.c Y0) 0 :: .ref (Gb.c Y0) 0 :: .ref (Gb.c Y0) 0 :: .ref (Gb.c Y0) 2 :: .sl (Y0.Sp.map Gs.c) :: an 45 (.ref (Gb.c Y0) 0 :: .ref (Gb.c Y0) 0 :: .ref (Gb.c Y0) 1 :: .sl (Y0.Me.Tr.map (cL (cI .i64))) :: an 26 (.ref (Gb.c Y0) 0 :: .own 1 :: .own 1 :: an 61 []))),[.vec 27 1 (r.map (cF .f32)) false, .nest 49 ((Z2 Y0.Me).map fun l => l.map (cI .i64)) false]⟩)
def Zaw (Y0:Gb) (Y1:Int) (Y4:(List Nat)):St:=⟨.ref (Gb.c Y0) 0 :: .any :: .nils :: .own 0 :: .ref (Gb.c Y0) 0 :: an 4 (.own 1 :: .any :: .any :: .any :: .own 0 :: .ref (Gb.c Y0) 0 :: .ref (Gb.c Y0) 0 :: .ref (Gb.c Y0) 0 :: .ref (Gb.c Y0) 0 :: .ref (Gb.c Y0) 0 :: .ref (Gb.c Y0) 2 :: .sl (Y0.Sp.map Gs.c) :: an 45 (.ref (Gb.c Y0) 0 :: .ref (Gb.c Y0) 0 :: .ref (Gb.c Y0) 1 :: .sl (Y0.Me.Tr.map (cL (cI .i64))) :: an 26 (.ref (Gb.c Y0) 0 :: .own 1 :: .own 1 :: .i .i64 ((Z2 Y0.Me).length:Int) :: .i .i64 Y1 :: an 59 []))),[.vec 27 1 (Y4.map (cF .f32)) false, .nest 49 ((Z2 Y0.Me).map fun l => l.map (cI .i64)) false]⟩
def Z9i:List Bool:=(mR false [0,1,1,3,4,1,3,8,45,4,26,5,59])
def Zdc:List Bool:=(mR false [0,1,1,3,4,1,3,8,45,4,26,3,61])
theorem Zeu (Y0:Gb) (hp0:Y0.Me.Pq.length≤1073741824) (hp1:Y0.Me.Tr.length≤1073741824) (hp2:∀ t∈Y0.Me.Tr,t.length≤1073741824) (hp3:Y0.Sp.length≤1073741824) (hp4:Y0.We.length≤1073741824) (hp5:OkBd Y0):∀ (k:Nat) (Y1:Int) (Y4:(List Nat)) (Z9j:0≤Y1) (Z9k:Y4.length=(Z2q Y0).length) (hk:(((Z2 Y0.Me).length:Int) - Y1).toNat < k),Lp prog 0 (sub (X0 f133) [1,1,1,1,1,1,0,1,0,0]) (Zaw Y0 Y1 Y4) (Z7u Y0 (Z1p Y0 k Y1 Y4)).1 (Z7u Y0 (Z1p Y0 k Y1 Y4)).2:=by
 intro k
 induction k with
 | zero => intro Y1 Y4 Z9j Z9k hk; exact absurd hk (Nat.not_lt_zero _)
 | succ k ih =>
  intro Y1 Y4 Z9j Z9k hk
  cases Yn:(decide (Y1 < ((Z2 Y0.Me).length:Int))) with
  | true =>
   have YM:=odt Yn
   have YS:(0:Int)≤Y1:=(by assumption)
   have YT:Int.toNat Y1 < (Z2 Y0.Me).length:=(by omega)
   have YY:Y1.toNat < (Z2 Y0.Me).length:=(by assumption)
   have YZ:((Z2 Y0.Me).getD Y1.toNat default).length≤1073741824:=(by exact ZiP hp5.e (by assumption) Yn)
   have y_4:((Z2 Y0.Me).getD Y1.toNat default).length=4∧∀ x∈((Z2 Y0.Me).getD Y1.toNat default),0≤x∧x < (Y0.Me.Pq.length:Int):=(by exact hin4 hp5.e (by assumption) Yn)
   have y_5:(0:Int)≤2:=(by omega)
   have y_6:2 < (Y4.length:Int):=(by simp_all <;> omega)
   have y_7:2 < Y4.length:=(by omega)
   have y_8:(-9223372036854775808:Int)≤(Y1 + 1):=(by omega)
   have y_9:(Y1 + 1)≤(9223372036854775807:Int):=(by have q:=hp5.w; (have q:=Z3Y _ hp5.e; omega))
   have e:Z1p Y0 (k + 1) Y1 Y4=(Z1p Y0 k (Y1 + 1) (Y4.set 2 (fop .add .f32 (Y4.getD 2 default) (fop .mul .f32 (fop .mul .f32 1056964608 Y0.Bend) (Z3L Y0 Y1))))):=by simp only [Z1p,Yn,cond_true]
   rw [e]
   exact X8 E0Ok Z4 [] Z9i [0,1] (⟨.ref (Gb.c Y0) 0 :: .any :: .nils :: .own 0 :: .ref (Gb.c Y0) 0 :: an 4 (.own 1 :: .any :: .any :: .any :: .own 0 :: .ref (Gb.c Y0) 0 :: .ref (Gb.c Y0) 0 :: .ref (Gb.c Y0) 0 :: .ref (Gb.c Y0) 0 :: .ref (Gb.c Y0) 0 :: .ref (Gb.c Y0) 2 :: .sl (Y0.Sp.map Gs.c) :: an 45 (.ref (Gb.c Y0) 0 :: .ref (Gb.c Y0) 0 :: .ref (Gb.c Y0) 1 :: .sl (Y0.Me.Tr.map (cL (cI .i64))) :: an 26 (.ref (Gb.c Y0) 0 :: .own 1 :: .own 1 :: .i .i64 ((Z2 Y0.Me).length:Int) :: .i .i64 (Y1 + 1) :: an 59 []))),[.vec 27 1 ((Y4.map (cF .f32)).set 2 [.f .f32 (fop .add .f32 (Y4.getD 2 default) (fop .mul .f32 (fop .mul .f32 1056964608 Y0.Bend) (Z3L Y0 Y1)))]) false, .nest 49 ((Z2 Y0.Me).map fun l => l.map (cI .i64)) false]⟩) (sB Yn <| sC (X1Y (c:=(cI .i64)) (l:=(Z2 Y0.Me)) (i:=Y1) YS YT) <| sC (X2j (c:=(cI .i64)) (l:=(Z2 Y0.Me)) YY) <| sF (Fn.sub (args:=[.ref (Gb.c Y0) 0, .sl (((Z2 Y0.Me).map fun l => l.map (cI .i64)).getD Y1.toNat [])]) (r := .agg [.f .f32 ((ZY Y0.Me ((Z2 Y0.Me).getD Y1.toNat default)).X), .f .f32 ((ZY Y0.Me ((Z2 Y0.Me).getD Y1.toNat default)).Y), .f .f32 ((ZY Y0.Me ((Z2 Y0.Me).getD Y1.toNat default)).Z)]) (new:=[]) [some 2,none] (Fn.castA (args':=[.ref [.sl (Y0.Me.Pq.map Gv.c), .sl (Y0.Me.Tr.map (cL (cI .i64)))] 0, .sl (((Z2 Y0.Me).map fun l => l.map (cI .i64)).getD Y1.toNat [])]) (Zcy Y0.Me ((Z2 Y0.Me).getD Y1.toNat default) hp0 hp1 hp2 YZ y_4) (by simp [cI]; rfl))) <| sK [12,12] <| sX (cF .f32) Y4 2 y_5 y_6 <| sV (cF .f32) Y4 2 y_7 <| sF (Z94 (ZY Y0.Me ((Z2 Y0.Me).getD Y1.toNat default)) (ZY Y0.Me ((Z2 Y0.Me).getD Y1.toNat default))) <| sX (cF .f32) Y4 2 y_5 y_6 <| sC (Xn (c:=(cF .f32)) (l:=Y4) y_7) <| sI (Y1 + 1) y_8 y_9 <| sN) (by kernel_rfl) (by simp [Zaw,List.map_set,cF]) (ih (Y1 + 1) (Y4.set 2 (fop .add .f32 (Y4.getD 2 default) (fop .mul .f32 (fop .mul .f32 1056964608 Y0.Bend) (Z3L Y0 Y1)))) (show 0≤(Y1 + 1) from (by omega)) (show (Y4.set 2 (fop .add .f32 (Y4.getD 2 default) (fop .mul .f32 (fop .mul .f32 1056964608 Y0.Bend) (Z3L Y0 Y1)))).length=(Z2q Y0).length from (by simp_all <;> omega)) (by omega))
  | false =>
   have YM:=odf Yn
   have e:Z1p Y0 (k + 1) Y1 Y4=Y4:=by simp only [Z1p,Yn,cond_false]
   rw [e]
   exact outR (e:=(.exit 4)) E0Ok Z4 [] Zdc [0,1] (sB Yn <| sN) (by kernel_rfl) (by intro h; cases h)
theorem Zdd (Y0:Gb):∀ (k:Nat) (Y1:Int) (Y4:(List Nat)) (hk:(((Z2 Y0.Me).length:Int) - Y1).toNat < k),(Z1p Y0 k Y1 Y4).length=Y4.length:=by
  intro k
  induction k with
  | zero => intro Y1 Y4 hk; exact absurd hk (Nat.not_lt_zero _)
  | succ k ih =>
    intro Y1 Y4 hk
    cases Yn:(decide (Y1 < ((Z2 Y0.Me).length:Int))) with
    | true =>
      have e:Z1p Y0 (k + 1) Y1 Y4=(Z1p Y0 k (Y1 + 1) (Y4.set 2 (fop .add .f32 (Y4.getD 2 default) (fop .mul .f32 (fop .mul .f32 1056964608 Y0.Bend) (Z3L Y0 Y1))))):=by simp only [Z1p,Yn,cond_true]
      rw [e,ih (Y1 + 1) (Y4.set 2 (fop .add .f32 (Y4.getD 2 default) (fop .mul .f32 (fop .mul .f32 1056964608 Y0.Bend) (Z3L Y0 Y1)))) (by simp_all <;> omega)]; simp
    | false =>
      have e:Z1p Y0 (k + 1) Y1 Y4=Y4:=by simp only [Z1p,Yn,cond_false]
      first | (rw [e]; done) | (rw [e]; rfl)
def Z2r (Y0:Gb):(List Nat):=(Z1p Y0 ((((Z2 Y0.Me).length:Int) - 0).toNat + 1) 0 (Z2q Y0))
@[simp] theorem Zb3 (Y0:Gb):(Z2r Y0).length=((Z2q Y0):(List Nat)).length:=Zdd Y0 ((((Z2 Y0.Me).length:Int) - 0).toNat + 1) 0 (Z2q Y0) (by exact Nat.lt_succ_self _)
def Z45 (Y0:Gb) (Y1:Int) (Y4:(List Nat)):Nat:=(fop .add .f32 (Y4.getD 3 default) (fneg .f32 (fop .mul .f32 (Y0.We.getD Y1.toNat default) (Z4X Y0.Fall (Y0.Me.Pq.getD Y1.toNat default)))))
def Z1E (Y0:Gb):Nat→Int→(List Nat)→(List Nat)
  | 0,_,_ => default
  | k + 1,Y1,Y4 => (cond (decide (Y1 < (Y0.Me.Pq.length:Int)))
    (Z1E Y0 k (Y1 + 1) (Y4.set 3 (Z45 Y0 Y1 Y4)))
    Y4)
def Z7v (Y0:Gb) (r:(List Nat)):Ex × St:=((.exit 6),⟨.ref (Gb.c Y0) 0 :: .any :: .nils :: .own 0 :: .ref (Gb.c Y0) 0 :: an 4 (.own 1 :: .any :: .any :: .any :: .own 0 :: .ref (Gb.c Y0) 0 :: .ref (Gb.c Y0) 0 :: .ref (Gb.c Y0) 0 :: .ref (Gb.c Y0) 0 :: .ref (Gb.c Y0) 0 :: .ref (Gb.c Y0) 2 :: .sl (Y0.Sp.map Gs.c) :: an 45 (.ref (Gb.c Y0) 0 :: .ref (Gb.c Y0) 0 :: .ref (Gb.c Y0) 1 :: .sl (Y0.Me.Tr.map (cL (cI .i64))) :: an 26 (.ref (Gb.c Y0) 0 :: .own 1 :: .own 1 :: an 25 (.ref (Gb.c Y0) 0 :: .ref (Gb.c Y0) 0 :: .ref (Gb.c Y0) 0 :: .sl (Y0.Me.Pq.map Gv.c) :: an 32 [])))),[.vec 27 1 (r.map (cF .f32)) false, .nest 49 ((Z2 Y0.Me).map fun l => l.map (cI .i64)) false]⟩)
def Zax (Y0:Gb) (Y1:Int) (Y4:(List Nat)):St:=⟨.ref (Gb.c Y0) 0 :: .any :: .nils :: .own 0 :: .ref (Gb.c Y0) 0 :: an 4 (.own 1 :: .any :: .any :: .any :: .own 0 :: .ref (Gb.c Y0) 0 :: .ref (Gb.c Y0) 0 :: .ref (Gb.c Y0) 0 :: .ref (Gb.c Y0) 0 :: .ref (Gb.c Y0) 0 :: .ref (Gb.c Y0) 2 :: .sl (Y0.Sp.map Gs.c) :: an 45 (.ref (Gb.c Y0) 0 :: .ref (Gb.c Y0) 0 :: .ref (Gb.c Y0) 1 :: .sl (Y0.Me.Tr.map (cL (cI .i64))) :: an 26 (.ref (Gb.c Y0) 0 :: .own 1 :: .own 1 :: an 25 (.ref (Gb.c Y0) 0 :: .ref (Gb.c Y0) 0 :: .ref (Gb.c Y0) 0 :: .sl (Y0.Me.Pq.map Gv.c) :: .i .i64 (Y0.Me.Pq.length:Int) :: .i .i64 Y1 :: an 30 [])))),[.vec 27 1 (Y4.map (cF .f32)) false, .nest 49 ((Z2 Y0.Me).map fun l => l.map (cI .i64)) false]⟩
def Z9l:List Bool:=(mR false [0,1,1,3,4,1,3,8,45,4,26,3,25,6,30])
def Zde:List Bool:=(mR false [0,1,1,3,4,1,3,8,45,4,26,3,25,4,32])
theorem Zev (Y0:Gb) (hp0:Y0.Me.Pq.length≤1073741824) (hp1:Y0.Me.Tr.length≤1073741824) (hp2:∀ t∈Y0.Me.Tr,t.length≤1073741824) (hp3:Y0.Sp.length≤1073741824) (hp4:Y0.We.length≤1073741824) (hp5:OkBd Y0):∀ (k:Nat) (Y1:Int) (Y4:(List Nat)) (Z9m:0≤Y1) (Z9n:Y4.length=(Z2r Y0).length) (hk:((Y0.Me.Pq.length:Int) - Y1).toNat < k),Lp prog 0 (sub (X0 f133) [1,1,1,1,1,1,1,0,1,0,0]) (Zax Y0 Y1 Y4) (Z7v Y0 (Z1E Y0 k Y1 Y4)).1 (Z7v Y0 (Z1E Y0 k Y1 Y4)).2:=by
 intro k
 induction k with
 | zero => intro Y1 Y4 Z9m Z9n hk; exact absurd hk (Nat.not_lt_zero _)
 | succ k ih =>
  intro Y1 Y4 Z9m Z9n hk
  cases Yn:(decide (Y1 < (Y0.Me.Pq.length:Int))) with
  | true =>
   have YM:=odt Yn
   have YS:(0:Int)≤3:=(by omega)
   have YT:3 < (Y4.length:Int):=(by simp_all <;> omega)
   have YY:3 < Y4.length:=(by omega)
   have YZ:(0:Int)≤Y1:=(by assumption)
   have y_4:Y1 < (Y0.We.length:Int):=(by have q:=hp5.w; omega)
   have y_5:Y1 < (Y0.Me.Pq.length:Int):=(by assumption)
   have y_6:(-9223372036854775808:Int)≤(Y1 + 1):=(by omega)
   have y_7:(Y1 + 1)≤(9223372036854775807:Int):=(by omega)
   have e:Z1E Y0 (k + 1) Y1 Y4=(Z1E Y0 k (Y1 + 1) (Y4.set 3 (Z45 Y0 Y1 Y4))):=by simp only [Z1E,Yn,cond_true]
   rw [e]
   exact X8 E0Ok Z4 [] Z9l [0,1] (⟨.ref (Gb.c Y0) 0 :: .any :: .nils :: .own 0 :: .ref (Gb.c Y0) 0 :: an 4 (.own 1 :: .any :: .any :: .any :: .own 0 :: .ref (Gb.c Y0) 0 :: .ref (Gb.c Y0) 0 :: .ref (Gb.c Y0) 0 :: .ref (Gb.c Y0) 0 :: .ref (Gb.c Y0) 0 :: .ref (Gb.c Y0) 2 :: .sl (Y0.Sp.map Gs.c) :: an 45 (.ref (Gb.c Y0) 0 :: .ref (Gb.c Y0) 0 :: .ref (Gb.c Y0) 1 :: .sl (Y0.Me.Tr.map (cL (cI .i64))) :: an 26 (.ref (Gb.c Y0) 0 :: .own 1 :: .own 1 :: an 25 (.ref (Gb.c Y0) 0 :: .ref (Gb.c Y0) 0 :: .ref (Gb.c Y0) 0 :: .sl (Y0.Me.Pq.map Gv.c) :: .i .i64 (Y0.Me.Pq.length:Int) :: .i .i64 (Y1 + 1) :: an 30 [])))),[.vec 27 1 ((Y4.map (cF .f32)).set 3 [.f .f32 (Z45 Y0 Y1 Y4)]) false, .nest 49 ((Z2 Y0.Me).map fun l => l.map (cI .i64)) false]⟩) (sB Yn <| sK [24,24] <| sX (cF .f32) Y4 3 YS YT <| sV (cF .f32) Y4 3 YY <| sG (cF .f32) Y0.We Y1 YZ y_4 <| sG Gv.c Y0.Me.Pq Y1 YZ y_5 <| sF (Z94 Y0.Fall (Y0.Me.Pq.getD Y1.toNat default)) <| sX (cF .f32) Y4 3 YS YT <| sC (Xn (c:=(cF .f32)) (l:=Y4) YY) <| sI (Y1 + 1) y_6 y_7 <| sN) (by kernel_rfl) (by simp [Zax,List.map_set,cF]) (ih (Y1 + 1) (Y4.set 3 (Z45 Y0 Y1 Y4)) (show 0≤(Y1 + 1) from (by omega)) (show (Y4.set 3 (Z45 Y0 Y1 Y4)).length=(Z2r Y0).length from (by simp_all <;> omega)) (by omega))
  | false =>
   have YM:=odf Yn
   have e:Z1E Y0 (k + 1) Y1 Y4=Y4:=by simp only [Z1E,Yn,cond_false]
   rw [e]
   exact outR (e:=(.exit 6)) E0Ok Z4 [] Zde [0,1] (sB Yn <| sN) (by kernel_rfl) (by intro h; cases h)
theorem Zdf (Y0:Gb):∀ (k:Nat) (Y1:Int) (Y4:(List Nat)) (hk:((Y0.Me.Pq.length:Int) - Y1).toNat < k),(Z1E Y0 k Y1 Y4).length=Y4.length:=by
  intro k
  induction k with
  | zero => intro Y1 Y4 hk; exact absurd hk (Nat.not_lt_zero _)
  | succ k ih =>
    intro Y1 Y4 hk
    cases Yn:(decide (Y1 < (Y0.Me.Pq.length:Int))) with
    | true =>
      have e:Z1E Y0 (k + 1) Y1 Y4=(Z1E Y0 k (Y1 + 1) (Y4.set 3 (Z45 Y0 Y1 Y4))):=by simp only [Z1E,Yn,cond_true]
      rw [e,ih (Y1 + 1) (Y4.set 3 (Z45 Y0 Y1 Y4)) (by simp_all <;> omega)]; simp
    | false =>
      have e:Z1E Y0 (k + 1) Y1 Y4=Y4:=by simp only [Z1E,Yn,cond_false]
      first | (rw [e]; done) | (rw [e]; rfl)
def Z4F (Y0:Gb):(List Nat):=(Z1E Y0 (((Y0.Me.Pq.length:Int) - 0).toNat + 1) 0 (Z2r Y0))
@[simp] theorem Zb4 (Y0:Gb):(Z4F Y0).length=((Z2r Y0):(List Nat)).length:=Zdf Y0 (((Y0.Me.Pq.length:Int) - 0).toNat + 1) 0 (Z2r Y0) (by exact Nat.lt_succ_self _)
def ZU (Y0:Gb):(List Nat):=(Z4F Y0)
theorem Z9o (b:Gb):(ZU b).length=4:=by
  unfold ZU
  rw [Zb4,Zb3,Zb2,Zb1]; simp
theorem Zg7 (Y0:Gb) (hp0:Y0.Me.Pq.length≤1073741824) (hp1:Y0.Me.Tr.length≤1073741824) (hp2:∀ t∈Y0.Me.Tr,t.length≤1073741824) (hp3:Y0.Sp.length≤1073741824) (hp4:Y0.We.length≤1073741824) (hp5:OkBd Y0)  : Fn prog 133 [.ref (Gb.c Y0) 0] (.own 0) [.vec 27 1 ((ZU Y0).map (cF .f32)) false]:=by
 have y0:(0:Int)≤4:=(by omega)
 have y1:(4:Int)≤2147483648:=(by omega)
 have y2:OkE Y0.Me.Pq.length Y0.Me.Tr:=(by exact hp5.e)
 refine fnS E0Ok Z4 (c:=X0 f133) [] (.own 0) [.vec 27 1 ((Z4F Y0).map (cF .f32)) false] func133 (sC (show (4:Int)=4 from rfl) <| sC y0 <| sC y1 <| sZ Gs.c Y0.Sp <| sL (mR false [0,1,1,3,8,10,137]) 1 (Xj (st2:=⟨.ref (Gb.c Y0) 0 :: .any :: .nils :: .own 0 :: .ref (Gb.c Y0) 0 :: an 8 (.own 0 :: .ref (Gb.c Y0) 0 :: .ref (Gb.c Y0) 0 :: .ref (Gb.c Y0) 0 :: .ref (Gb.c Y0) 0 :: .ref (Gb.c Y0) 0 :: .ref (Gb.c Y0) 2 :: .sl (Y0.Sp.map Gs.c) :: .i .i64 (Y0.Sp.length:Int) :: .i .i64 0 :: an 137 []),[.vec 27 1 (List.replicate (Int.toNat 4) [.f .f32 0]) false]⟩) (X1 (Z7r Y0) (x:=(Z2p Y0)) (Zes Y0 hp0 hp1 hp2 hp3 hp4 hp5 (((Y0.Sp.length:Int) - 0).toNat + 1) 0 (List.replicate 4 0) (show 0≤0 from (by omega)) (show (List.replicate 4 0).length=4 from (by simp; done)) (Nat.lt_succ_self _)) rfl) (by simp [Z7s,cF])) <| sZ (cL (cI .i64)) Y0.Me.Tr <| sL Z9f 1 (X1 (Z7t Y0) (x:=(Z2q Y0)) (Zet Y0 hp0 hp1 hp2 hp3 hp4 hp5 (((Y0.Me.Tr.length:Int) - 0).toNat + 1) 0 (Z2p Y0) (show 0≤0 from (by omega)) (show (Z2p Y0).length=(Z2p Y0).length from (by omega)) (Nat.lt_succ_self _)) rfl) <| sF (Fn.sub (args:=[.ref (Gb.c Y0) 0]) (r := .own 0) (new:=[.nest 49 ((Z2 Y0.Me).map fun l => l.map (cI .i64)) false]) [some 2] (ZbM Y0.Me hp0 hp1 hp2 y2)) <| sM (X28 (l:=(Z2 Y0.Me)) (f:=fun l => l.map (cI .i64))) <| sL Z9i 2 (X1 (Z7u Y0) (x:=(Z2r Y0)) (Zeu Y0 hp0 hp1 hp2 hp3 hp4 hp5 ((((Z2 Y0.Me).length:Int) - 0).toNat + 1) 0 (Z2q Y0) (show 0≤0 from (by omega)) (show (Z2q Y0).length=(Z2q Y0).length from (by omega)) (Nat.lt_succ_self _)) rfl) <| sZ Gv.c Y0.Me.Pq <| sL Z9l 2 (X1 (Z7v Y0) (x:=(Z4F Y0)) (Zev Y0 hp0 hp1 hp2 hp3 hp4 hp5 (((Y0.Me.Pq.length:Int) - 0).toNat + 1) 0 (Z2r Y0) (show 0≤0 from (by omega)) (show (Z2r Y0).length=(Z2r Y0).length from (by omega)) (Nat.lt_succ_self _)) rfl) <| sK [0] sN) rfl (by kernel_rfl) (by kernel_rfl) rfl ?_ ?_
 · rfl
 · simp [ZU]
def Z70 (Ya:Gb):Nat:=(fop .add .f32 (fop .add .f32 (fop .add .f32 ((ZU Ya).getD 0 default) ((ZU Ya).getD 1 default)) ((ZU Ya).getD 2 default)) ((ZU Ya).getD 3 default))
def Z3e (Ya:Gb):Nat:=(Z70 Ya)
theorem ZfG (Ya:Gb) (hp0:Ya.Me.Pq.length≤1073741824) (hp1:Ya.Me.Tr.length≤1073741824) (hp2:∀ t∈Ya.Me.Tr,t.length≤1073741824) (hp3:Ya.Sp.length≤1073741824) (hp4:Ya.We.length≤1073741824) (hp5:OkBd Ya)  : Fn prog 92 [.ref (Gb.c Ya) 0] (.f .f32 (Z3e Ya)) []:=by
 have y0:(0:Int)≤0:=(by omega)
 have y1:0 < ((ZU Ya).length:Int):=(by have q:=Z9o Ya; omega)
 have y2:0 < (ZU Ya).length:=(by omega)
 have y3:(0:Int)≤1:=(by omega)
 have y4:1 < ((ZU Ya).length:Int):=(by have q:=Z9o Ya; omega)
 have y5:1 < (ZU Ya).length:=(by omega)
 have y6:(0:Int)≤2:=(by omega)
 have y7:2 < ((ZU Ya).length:Int):=(by have q:=Z9o Ya; omega)
 have y8:2 < (ZU Ya).length:=(by omega)
 have y9:(0:Int)≤3:=(by omega)
 have y10:3 < ((ZU Ya).length:Int):=(by have q:=Z9o Ya; omega)
 have y11:3 < (ZU Ya).length:=(by omega)
 refine fnS E0Ok Z4 (c:=X0 f92) [] (.f .f32 (Z70 Ya)) [] func92 (sF (Zg7 Ya hp0 hp1 hp2 hp3 hp4 hp5) <| sK [14,14] <| sX (cF .f32) (ZU Ya) 0 y0 y1 <| sV (cF .f32) (ZU Ya) 0 y2 <| sX (cF .f32) (ZU Ya) 1 y3 y4 <| sV (cF .f32) (ZU Ya) 1 y5 <| sX (cF .f32) (ZU Ya) 2 y6 y7 <| sV (cF .f32) (ZU Ya) 2 y8 <| sX (cF .f32) (ZU Ya) 3 y9 y10 <| sV (cF .f32) (ZU Ya) 3 y11 <| sK [] sN) rfl (by kernel_rfl) (by kernel_rfl) rfl ?_ ?_
 · rfl
 · rfl
theorem in40 {n:Int} (h:Zj n 0 40=true):0≤n∧n≤40:=by
  unfold Zj at h
  by_cases h1:n ≥ 0 <;> simp [h1] at h
  omega
def Z26 (Y3:Gn) (Y2:(List Int)) (Y6:Nat) (Y9:Nat) (Y5:Nat) (Yf:Int):Nat→Int→(List Gv)→(List (List Int))→(List Gs)→(List Nat)→(List Gv)→Nat→Nat→Nat→Nat→Nat→(List Nat)→Int × Nat × Nat × Nat × Nat × Nat × (List Nat) × (List Gv) × (List (List Int)) × (List Gs) × (List Nat) × (List Gv)
  | 0,_,_,_,_,_,_,_,_,_,_,_,_ => default
  | k + 1,YQ,Yb,Yj,Yk,Yl,Ym,Yx,YE,YF,YG,Yt,Yr => (cond (decide (YQ > 0))
    (Z26 Y3 Y2 Y6 Y9 Y5 Yf k (YQ - 1) ((Zb (⟨(⟨(⟨Yb,Yj⟩:Gm),Yk,Yx,YE,Yl,(⟨YF,YG,Yt⟩:Gv)⟩:Gb),Ym⟩:Gn) Y2 Y6 Y9 Y5).Body.Me.Pq) ((Zb (⟨(⟨(⟨Yb,Yj⟩:Gm),Yk,Yx,YE,Yl,(⟨YF,YG,Yt⟩:Gv)⟩:Gb),Ym⟩:Gn) Y2 Y6 Y9 Y5).Body.Me.Tr) ((Zb (⟨(⟨(⟨Yb,Yj⟩:Gm),Yk,Yx,YE,Yl,(⟨YF,YG,Yt⟩:Gv)⟩:Gb),Ym⟩:Gn) Y2 Y6 Y9 Y5).Body.Sp) ((Zb (⟨(⟨(⟨Yb,Yj⟩:Gm),Yk,Yx,YE,Yl,(⟨YF,YG,Yt⟩:Gv)⟩:Gb),Ym⟩:Gn) Y2 Y6 Y9 Y5).Body.We) ((Zb (⟨(⟨(⟨Yb,Yj⟩:Gm),Yk,Yx,YE,Yl,(⟨YF,YG,Yt⟩:Gv)⟩:Gb),Ym⟩:Gn) Y2 Y6 Y9 Y5).Sd) ((Zb (⟨(⟨(⟨Yb,Yj⟩:Gm),Yk,Yx,YE,Yl,(⟨YF,YG,Yt⟩:Gv)⟩:Gb),Ym⟩:Gn) Y2 Y6 Y9 Y5).Body.Film) ((Zb (⟨(⟨(⟨Yb,Yj⟩:Gm),Yk,Yx,YE,Yl,(⟨YF,YG,Yt⟩:Gv)⟩:Gb),Ym⟩:Gn) Y2 Y6 Y9 Y5).Body.Bend) ((Zb (⟨(⟨(⟨Yb,Yj⟩:Gm),Yk,Yx,YE,Yl,(⟨YF,YG,Yt⟩:Gv)⟩:Gb),Ym⟩:Gn) Y2 Y6 Y9 Y5).Body.Fall.X) ((Zb (⟨(⟨(⟨Yb,Yj⟩:Gm),Yk,Yx,YE,Yl,(⟨YF,YG,Yt⟩:Gv)⟩:Gb),Ym⟩:Gn) Y2 Y6 Y9 Y5).Body.Fall.Y) ((Zb (⟨(⟨(⟨Yb,Yj⟩:Gm),Yk,Yx,YE,Yl,(⟨YF,YG,Yt⟩:Gv)⟩:Gb),Ym⟩:Gn) Y2 Y6 Y9 Y5).Body.Fall.Z) (Yr ++ [(Z3e ((Zb (⟨(⟨(⟨Yb,Yj⟩:Gm),Yk,Yx,YE,Yl,(⟨YF,YG,Yt⟩:Gv)⟩:Gb),Ym⟩:Gn) Y2 Y6 Y9 Y5).Body))]))
    (YQ,Yx,YE,YF,YG,Yt,Yr,Yb,Yj,Yk,Yl,Ym))
def Z71 (Y3:Gn) (Y2:(List Int)) (Y6:Nat) (Y9:Nat) (Y5:Nat) (Yf:Int) (r:Int × Nat × Nat × Nat × Nat × Nat × (List Nat) × (List Gv) × (List (List Int)) × (List Gs) × (List Nat) × (List Gv)):Ex × St:=((.exit 0),⟨.agg [.sl (Y3.Body.Me.Pq.map Gv.c), .sl (Y3.Body.Me.Tr.map (cL (cI .i64))), .sl (Y3.Body.Sp.map Gs.c), .f .f32 Y3.Body.Film, .f .f32 Y3.Body.Bend, .sl (Y3.Body.We.map (cF .f32)), .f .f32 Y3.Body.Fall.X, .f .f32 Y3.Body.Fall.Y, .f .f32 Y3.Body.Fall.Z, .sl (Y3.Sd.map Gv.c)] :: .sl (Y2.map (cI .i64)) :: .f .f32 Y6 :: .any :: .f .f32 Y5 :: .i .i64 r.1 :: .ptr 0 0 0 :: an 5 (.ptr 1 0 0 :: .nils :: .b false :: .ptr 2 0 0 :: .own 3 :: .sl (Y2.map (cI .i64)) :: .f .f32 Y6 :: .f .f32 Y5 :: .b (ZM Y3 Y2 Y6 Y5) :: .b (!(ZM Y3 Y2 Y6 Y5)) :: .b (!(ZM Y3 Y2 Y6 Y5)) :: .i .i64 Yf :: .b (Zj Yf 0 40) :: .b (!(Zj Yf 0 40)) :: .b (!(Zj Yf 0 40)) :: .any :: .ptr 0 0 0 :: .any :: .any :: .ptr 0 0 9 :: .sl (Y3.Sd.map Gv.c) :: an 19 []),[.box 66 [.sl (Y3.Body.Me.Pq.map Gv.c), .sl (Y3.Body.Me.Tr.map (cL (cI .i64))), .sl (Y3.Body.Sp.map Gs.c), .f .f32 Y3.Body.Film, .f .f32 Y3.Body.Bend, .sl (Y3.Body.We.map (cF .f32)), .f .f32 Y3.Body.Fall.X, .f .f32 Y3.Body.Fall.Y, .f .f32 Y3.Body.Fall.Z, .sl (Y3.Sd.map Gv.c)], .box 66 [.nils, .nils, .nils, .f .f32 0, .f .f32 0, .nils, .f .f32 0, .f .f32 0, .f .f32 0, .nils], .box 66 [.own 4, .own 5, .own 6, .f .f32 r.2.1, .f .f32 r.2.2.1, .own 7, .f .f32 r.2.2.2.1, .f .f32 r.2.2.2.2.1, .f .f32 r.2.2.2.2.2.1, .own 8], .vec 27 1 (r.2.2.2.2.2.2.1.map (cF .f32)) false, .vec 40 3 (r.2.2.2.2.2.2.2.1.map Gv.c) false, .nest 49 (r.2.2.2.2.2.2.2.2.1.map fun l => l.map (cI .i64)) false, .vec 133 4 (r.2.2.2.2.2.2.2.2.2.1.map Gs.c) false, .vec 27 1 (r.2.2.2.2.2.2.2.2.2.2.1.map (cF .f32)) false, .vec 40 3 (r.2.2.2.2.2.2.2.2.2.2.2.map Gv.c) false]⟩)
def Z72 (Y3:Gn) (Y2:(List Int)) (Y6:Nat) (Y9:Nat) (Y5:Nat) (Yf:Int) (YQ:Int) (Yb:(List Gv)) (Yj:(List (List Int))) (Yk:(List Gs)) (Yl:(List Nat)) (Ym:(List Gv)) (Yx:Nat) (YE:Nat) (YF:Nat) (YG:Nat) (Yt:Nat) (Yr:(List Nat)):St:=⟨.agg [.sl (Y3.Body.Me.Pq.map Gv.c), .sl (Y3.Body.Me.Tr.map (cL (cI .i64))), .sl (Y3.Body.Sp.map Gs.c), .f .f32 Y3.Body.Film, .f .f32 Y3.Body.Bend, .sl (Y3.Body.We.map (cF .f32)), .f .f32 Y3.Body.Fall.X, .f .f32 Y3.Body.Fall.Y, .f .f32 Y3.Body.Fall.Z, .sl (Y3.Sd.map Gv.c)] :: .sl (Y2.map (cI .i64)) :: .f .f32 Y6 :: .f .f32 Y9 :: .f .f32 Y5 :: .i .i64 YQ :: .ptr 0 0 0 :: an 5 (.ptr 1 0 0 :: .nils :: .b false :: .ptr 7 0 0 :: .own 8 :: .sl (Y2.map (cI .i64)) :: .f .f32 Y6 :: .f .f32 Y5 :: .b (ZM Y3 Y2 Y6 Y5) :: .b (!(ZM Y3 Y2 Y6 Y5)) :: .b (!(ZM Y3 Y2 Y6 Y5)) :: .i .i64 Yf :: .b (Zj Yf 0 40) :: .b (!(Zj Yf 0 40)) :: .b (!(Zj Yf 0 40)) :: .any :: .ptr 0 0 0 :: .any :: .any :: .ptr 0 0 9 :: .sl (Y3.Sd.map Gv.c) :: an 19 []),[.box 66 [.sl (Y3.Body.Me.Pq.map Gv.c), .sl (Y3.Body.Me.Tr.map (cL (cI .i64))), .sl (Y3.Body.Sp.map Gs.c), .f .f32 Y3.Body.Film, .f .f32 Y3.Body.Bend, .sl (Y3.Body.We.map (cF .f32)), .f .f32 Y3.Body.Fall.X, .f .f32 Y3.Body.Fall.Y, .f .f32 Y3.Body.Fall.Z, .sl (Y3.Sd.map Gv.c)], .box 66 [.nils, .nils, .nils, .f .f32 0, .f .f32 0, .nils, .f .f32 0, .f .f32 0, .f .f32 0, .nils], .vec 40 3 (Yb.map Gv.c) false, .nest 49 (Yj.map fun l => l.map (cI .i64)) false, .vec 133 4 (Yk.map Gs.c) false, .vec 27 1 (Yl.map (cF .f32)) false, .vec 40 3 (Ym.map Gv.c) false, .box 66 [.own 2, .own 3, .own 4, .f .f32 Yx, .f .f32 YE, .own 5, .f .f32 YF, .f .f32 YG, .f .f32 Yt, .own 6], .vec 27 1 (Yr.map (cF .f32)) false]⟩
def Z8J:List Bool:=(mR false [0,7,5,15,1,1,2,2,19])
def ZcI:List Bool:=(mR false [0,3,1,3,5,15,1,1,2,2,19])
set_option maxHeartbeats 1000000 in
theorem ZdQ (Y3:Gn) (Y2:(List Int)) (Y6:Nat) (Y9:Nat) (Y5:Nat) (Yf:Int) (hp0:Y3.Body.Me.Pq.length≤1073741824) (hp1:Y3.Body.Me.Tr.length≤1073741824) (hp2:∀ t∈Y3.Body.Me.Tr,t.length≤1073741824) (hp3:Y3.Body.Sp.length≤1073741824) (hp4:Y3.Body.We.length≤1073741824) (hp5:Y3.Sd.length≤1073741824) (hp6:Y2.length≤1073741824) (Z8K:(Zj Yf 0 40)=true) (Z53:(ZM Y3 Y2 Y6 Y5)=true):∀ (k:Nat) (YQ:Int) (Yb:(List Gv)) (Yj:(List (List Int))) (Yk:(List Gs)) (Yl:(List Nat)) (Ym:(List Gv)) (Yx:Nat) (YE:Nat) (YF:Nat) (YG:Nat) (Yt:Nat) (Yr:(List Nat)) (Z8L:0≤YQ) (Z3G:Z4P Y3 (⟨(⟨(⟨Yb,Yj⟩:Gm),Yk,Yx,YE,Yl,(⟨YF,YG,Yt⟩:Gv)⟩:Gb),Ym⟩:Gn)) (Z8M:(Yr.length:Int) + YQ≤Yf) (hk:YQ.toNat < k),Lp prog 0 (sub (X0 f45) [1,1,1,1,0,0,0]) (Z72 Y3 Y2 Y6 Y9 Y5 Yf YQ Yb Yj Yk Yl Ym Yx YE YF YG Yt Yr) (Z71 Y3 Y2 Y6 Y9 Y5 Yf (Z26 Y3 Y2 Y6 Y9 Y5 Yf k YQ Yb Yj Yk Yl Ym Yx YE YF YG Yt Yr)).1 (Z71 Y3 Y2 Y6 Y9 Y5 Yf (Z26 Y3 Y2 Y6 Y9 Y5 Yf k YQ Yb Yj Yk Yl Ym Yx YE YF YG Yt Yr)).2:=by
 intro k
 induction k with
 | zero => intro YQ Yb Yj Yk Yl Ym Yx YE YF YG Yt Yr Z8L Z3G Z8M hk; exact absurd hk (Nat.not_lt_zero _)
 | succ k ih =>
  intro YQ Yb Yj Yk Yl Ym Yx YE YF YG Yt Yr Z8L Z3G Z8M hk
  cases Yn:(decide (YQ > 0)) with
  | true =>
   have YM:=odt Yn
   have YS:(⟨(⟨(⟨Yb,Yj⟩:Gm),Yk,Yx,YE,Yl,(⟨YF,YG,Yt⟩:Gv)⟩:Gb),Ym⟩:Gn).Body.Me.Pq.length≤1073741824:=(by have q:=Z42 Z3G; simp only at q ⊢; omega)
   have YT:(⟨(⟨(⟨Yb,Yj⟩:Gm),Yk,Yx,YE,Yl,(⟨YF,YG,Yt⟩:Gv)⟩:Gb),Ym⟩:Gn).Body.Me.Tr.length≤1073741824:=(by have q:=Z42 Z3G; simp only at q ⊢; omega)
   have YY:∀ t∈(⟨(⟨(⟨Yb,Yj⟩:Gm),Yk,Yx,YE,Yl,(⟨YF,YG,Yt⟩:Gv)⟩:Gb),Ym⟩:Gn).Body.Me.Tr,t.length≤1073741824:=(by with_reducible exact Zc8 hp2 (by with_reducible assumption))
   have YZ:(⟨(⟨(⟨Yb,Yj⟩:Gm),Yk,Yx,YE,Yl,(⟨YF,YG,Yt⟩:Gv)⟩:Gb),Ym⟩:Gn).Body.Sp.length≤1073741824:=(by have q:=Z42 Z3G; simp only at q ⊢; omega)
   have y_4:(⟨(⟨(⟨Yb,Yj⟩:Gm),Yk,Yx,YE,Yl,(⟨YF,YG,Yt⟩:Gv)⟩:Gb),Ym⟩:Gn).Body.We.length≤1073741824:=(by have q:=Z42 Z3G; simp only at q ⊢; omega)
   have y_5:(⟨(⟨(⟨Yb,Yj⟩:Gm),Yk,Yx,YE,Yl,(⟨YF,YG,Yt⟩:Gv)⟩:Gb),Ym⟩:Gn).Sd.length≤1073741824:=(by have q:=Z42 Z3G; simp only at q ⊢; omega)
   have y_6:OkBd (⟨(⟨(⟨Yb,Yj⟩:Gm),Yk,Yx,YE,Yl,(⟨YF,YG,Yt⟩:Gv)⟩:Gb),Ym⟩:Gn).Body:=(by with_reducible exact Z7O (ZbC _ (Zej _ _ _ _ Z53).1) (by with_reducible assumption))
   have y_7:(⟨(⟨(⟨Yb,Yj⟩:Gm),Yk,Yx,YE,Yl,(⟨YF,YG,Yt⟩:Gv)⟩:Gb),Ym⟩:Gn).Sd.length=(⟨(⟨(⟨Yb,Yj⟩:Gm),Yk,Yx,YE,Yl,(⟨YF,YG,Yt⟩:Gv)⟩:Gb),Ym⟩:Gn).Body.Me.Pq.length:=(by with_reducible exact Zeq (Zej _ _ _ _ Z53).2.1 (by with_reducible assumption))
   have y_8:OkIx (⟨(⟨(⟨Yb,Yj⟩:Gm),Yk,Yx,YE,Yl,(⟨YF,YG,Yt⟩:Gv)⟩:Gb),Ym⟩:Gn).Body.Me.Pq.length (fun x => x) Y2:=(by with_reducible exact Zd8 (Zgp _ _ hp0 (Zej _ _ _ _ Z53).2.2.1) (by with_reducible assumption))
   have l_1:=(ZfB (⟨(⟨(⟨Yb,Yj⟩:Gm),Yk,Yx,YE,Yl,(⟨YF,YG,Yt⟩:Gv)⟩:Gb),Ym⟩:Gn) Y2 Y6 Y9 Y5)
   have l_2:=(ZfC (⟨(⟨(⟨Yb,Yj⟩:Gm),Yk,Yx,YE,Yl,(⟨YF,YG,Yt⟩:Gv)⟩:Gb),Ym⟩:Gn) Y2 Y6 Y9 Y5)
   have l_3:=(ZfD (⟨(⟨(⟨Yb,Yj⟩:Gm),Yk,Yx,YE,Yl,(⟨YF,YG,Yt⟩:Gv)⟩:Gb),Ym⟩:Gn) Y2 Y6 Y9 Y5)
   have l_4:=(ZfE (⟨(⟨(⟨Yb,Yj⟩:Gm),Yk,Yx,YE,Yl,(⟨YF,YG,Yt⟩:Gv)⟩:Gb),Ym⟩:Gn) Y2 Y6 Y9 Y5)
   have l_5:=(ZfF (⟨(⟨(⟨Yb,Yj⟩:Gm),Yk,Yx,YE,Yl,(⟨YF,YG,Yt⟩:Gv)⟩:Gb),Ym⟩:Gn) Y2 Y6 Y9 Y5)
   have y_9:((Zb (⟨(⟨(⟨Yb,Yj⟩:Gm),Yk,Yx,YE,Yl,(⟨YF,YG,Yt⟩:Gv)⟩:Gb),Ym⟩:Gn) Y2 Y6 Y9 Y5).Body).Me.Pq.length≤1073741824:=(by omega)
   have Y19:((Zb (⟨(⟨(⟨Yb,Yj⟩:Gm),Yk,Yx,YE,Yl,(⟨YF,YG,Yt⟩:Gv)⟩:Gb),Ym⟩:Gn) Y2 Y6 Y9 Y5).Body).Me.Tr.length≤1073741824:=(by omega)
   have Y1g:∀ t∈((Zb (⟨(⟨(⟨Yb,Yj⟩:Gm),Yk,Yx,YE,Yl,(⟨YF,YG,Yt⟩:Gv)⟩:Gb),Ym⟩:Gn) Y2 Y6 Y9 Y5).Body).Me.Tr,t.length≤1073741824:=(by with_reducible exact Zc8 hp2 (Z7P (by with_reducible assumption) _ _ _ _))
   have Y1j:((Zb (⟨(⟨(⟨Yb,Yj⟩:Gm),Yk,Yx,YE,Yl,(⟨YF,YG,Yt⟩:Gv)⟩:Gb),Ym⟩:Gn) Y2 Y6 Y9 Y5).Body).Sp.length≤1073741824:=(by omega)
   have Y1k:((Zb (⟨(⟨(⟨Yb,Yj⟩:Gm),Yk,Yx,YE,Yl,(⟨YF,YG,Yt⟩:Gv)⟩:Gb),Ym⟩:Gn) Y2 Y6 Y9 Y5).Body).We.length≤1073741824:=(by omega)
   have Y1r:OkBd ((Zb (⟨(⟨(⟨Yb,Yj⟩:Gm),Yk,Yx,YE,Yl,(⟨YF,YG,Yt⟩:Gv)⟩:Gb),Ym⟩:Gn) Y2 Y6 Y9 Y5).Body):=(by with_reducible exact Z7O (ZbC _ (Zej _ _ _ _ Z53).1) (Z7P (by with_reducible assumption) _ _ _ _))
   have Y1s:Yr.length + ([(Z3e ((Zb (⟨(⟨(⟨Yb,Yj⟩:Gm),Yk,Yx,YE,Yl,(⟨YF,YG,Yt⟩:Gv)⟩:Gb),Ym⟩:Gn) Y2 Y6 Y9 Y5).Body))]).length≤1073741824:=(by have w:=in40 (n:=Yf) Z8K; (simp; omega))
   have Y1t:(-9223372036854775808:Int)≤(YQ - 1):=(by omega)
   have Y1u:(YQ - 1)≤(9223372036854775807:Int):=(by have w:=in40 (n:=Yf) Z8K; omega)
   have e:Z26 Y3 Y2 Y6 Y9 Y5 Yf (k + 1) YQ Yb Yj Yk Yl Ym Yx YE YF YG Yt Yr=(Z26 Y3 Y2 Y6 Y9 Y5 Yf k (YQ - 1) ((Zb (⟨(⟨(⟨Yb,Yj⟩:Gm),Yk,Yx,YE,Yl,(⟨YF,YG,Yt⟩:Gv)⟩:Gb),Ym⟩:Gn) Y2 Y6 Y9 Y5).Body.Me.Pq) ((Zb (⟨(⟨(⟨Yb,Yj⟩:Gm),Yk,Yx,YE,Yl,(⟨YF,YG,Yt⟩:Gv)⟩:Gb),Ym⟩:Gn) Y2 Y6 Y9 Y5).Body.Me.Tr) ((Zb (⟨(⟨(⟨Yb,Yj⟩:Gm),Yk,Yx,YE,Yl,(⟨YF,YG,Yt⟩:Gv)⟩:Gb),Ym⟩:Gn) Y2 Y6 Y9 Y5).Body.Sp) ((Zb (⟨(⟨(⟨Yb,Yj⟩:Gm),Yk,Yx,YE,Yl,(⟨YF,YG,Yt⟩:Gv)⟩:Gb),Ym⟩:Gn) Y2 Y6 Y9 Y5).Body.We) ((Zb (⟨(⟨(⟨Yb,Yj⟩:Gm),Yk,Yx,YE,Yl,(⟨YF,YG,Yt⟩:Gv)⟩:Gb),Ym⟩:Gn) Y2 Y6 Y9 Y5).Sd) ((Zb (⟨(⟨(⟨Yb,Yj⟩:Gm),Yk,Yx,YE,Yl,(⟨YF,YG,Yt⟩:Gv)⟩:Gb),Ym⟩:Gn) Y2 Y6 Y9 Y5).Body.Film) ((Zb (⟨(⟨(⟨Yb,Yj⟩:Gm),Yk,Yx,YE,Yl,(⟨YF,YG,Yt⟩:Gv)⟩:Gb),Ym⟩:Gn) Y2 Y6 Y9 Y5).Body.Bend) ((Zb (⟨(⟨(⟨Yb,Yj⟩:Gm),Yk,Yx,YE,Yl,(⟨YF,YG,Yt⟩:Gv)⟩:Gb),Ym⟩:Gn) Y2 Y6 Y9 Y5).Body.Fall.X) ((Zb (⟨(⟨(⟨Yb,Yj⟩:Gm),Yk,Yx,YE,Yl,(⟨YF,YG,Yt⟩:Gv)⟩:Gb),Ym⟩:Gn) Y2 Y6 Y9 Y5).Body.Fall.Y) ((Zb (⟨(⟨(⟨Yb,Yj⟩:Gm),Yk,Yx,YE,Yl,(⟨YF,YG,Yt⟩:Gv)⟩:Gb),Ym⟩:Gn) Y2 Y6 Y9 Y5).Body.Fall.Z) (Yr ++ [(Z3e ((Zb (⟨(⟨(⟨Yb,Yj⟩:Gm),Yk,Yx,YE,Yl,(⟨YF,YG,Yt⟩:Gv)⟩:Gb),Ym⟩:Gn) Y2 Y6 Y9 Y5).Body))])):=by simp only [Z26,Yn,cond_true]
   rw [e]
   exact X8 E0Ok Z4 [] Z8J [0,1,9,10,11,12,13,7,8] (⟨.agg [.sl (Y3.Body.Me.Pq.map Gv.c), .sl (Y3.Body.Me.Tr.map (cL (cI .i64))), .sl (Y3.Body.Sp.map Gs.c), .f .f32 Y3.Body.Film, .f .f32 Y3.Body.Bend, .sl (Y3.Body.We.map (cF .f32)), .f .f32 Y3.Body.Fall.X, .f .f32 Y3.Body.Fall.Y, .f .f32 Y3.Body.Fall.Z, .sl (Y3.Sd.map Gv.c)] :: .sl (Y2.map (cI .i64)) :: .f .f32 Y6 :: .f .f32 Y9 :: .f .f32 Y5 :: .i .i64 (YQ - 1) :: .ptr 0 0 0 :: an 5 (.ptr 1 0 0 :: .nils :: .b false :: .ptr 7 0 0 :: .own 8 :: .sl (Y2.map (cI .i64)) :: .f .f32 Y6 :: .f .f32 Y5 :: .b (ZM Y3 Y2 Y6 Y5) :: .b (!(ZM Y3 Y2 Y6 Y5)) :: .b (!(ZM Y3 Y2 Y6 Y5)) :: .i .i64 Yf :: .b (Zj Yf 0 40) :: .b (!(Zj Yf 0 40)) :: .b (!(Zj Yf 0 40)) :: .any :: .ptr 0 0 0 :: .any :: .any :: .ptr 0 0 9 :: .sl (Y3.Sd.map Gv.c) :: an 19 []),[.box 66 [.sl (Y3.Body.Me.Pq.map Gv.c), .sl (Y3.Body.Me.Tr.map (cL (cI .i64))), .sl (Y3.Body.Sp.map Gs.c), .f .f32 Y3.Body.Film, .f .f32 Y3.Body.Bend, .sl (Y3.Body.We.map (cF .f32)), .f .f32 Y3.Body.Fall.X, .f .f32 Y3.Body.Fall.Y, .f .f32 Y3.Body.Fall.Z, .sl (Y3.Sd.map Gv.c)], .box 66 [.nils, .nils, .nils, .f .f32 0, .f .f32 0, .nils, .f .f32 0, .f .f32 0, .f .f32 0, .nils], .vec 40 3 (((Zb (⟨(⟨(⟨Yb,Yj⟩:Gm),Yk,Yx,YE,Yl,(⟨YF,YG,Yt⟩:Gv)⟩:Gb),Ym⟩:Gn) Y2 Y6 Y9 Y5).Body.Me.Pq).map Gv.c) false, .nest 49 (((Zb (⟨(⟨(⟨Yb,Yj⟩:Gm),Yk,Yx,YE,Yl,(⟨YF,YG,Yt⟩:Gv)⟩:Gb),Ym⟩:Gn) Y2 Y6 Y9 Y5).Body.Me.Tr).map fun l => l.map (cI .i64)) false, .vec 133 4 (((Zb (⟨(⟨(⟨Yb,Yj⟩:Gm),Yk,Yx,YE,Yl,(⟨YF,YG,Yt⟩:Gv)⟩:Gb),Ym⟩:Gn) Y2 Y6 Y9 Y5).Body.Sp).map Gs.c) false, .vec 27 1 (((Zb (⟨(⟨(⟨Yb,Yj⟩:Gm),Yk,Yx,YE,Yl,(⟨YF,YG,Yt⟩:Gv)⟩:Gb),Ym⟩:Gn) Y2 Y6 Y9 Y5).Body.We).map (cF .f32)) false, .vec 40 3 (((Zb (⟨(⟨(⟨Yb,Yj⟩:Gm),Yk,Yx,YE,Yl,(⟨YF,YG,Yt⟩:Gv)⟩:Gb),Ym⟩:Gn) Y2 Y6 Y9 Y5).Sd).map Gv.c) false, .box 66 [.own 2, .own 3, .own 4, .f .f32 ((Zb (⟨(⟨(⟨Yb,Yj⟩:Gm),Yk,Yx,YE,Yl,(⟨YF,YG,Yt⟩:Gv)⟩:Gb),Ym⟩:Gn) Y2 Y6 Y9 Y5).Body.Film), .f .f32 ((Zb (⟨(⟨(⟨Yb,Yj⟩:Gm),Yk,Yx,YE,Yl,(⟨YF,YG,Yt⟩:Gv)⟩:Gb),Ym⟩:Gn) Y2 Y6 Y9 Y5).Body.Bend), .own 5, .f .f32 ((Zb (⟨(⟨(⟨Yb,Yj⟩:Gm),Yk,Yx,YE,Yl,(⟨YF,YG,Yt⟩:Gv)⟩:Gb),Ym⟩:Gn) Y2 Y6 Y9 Y5).Body.Fall.X), .f .f32 ((Zb (⟨(⟨(⟨Yb,Yj⟩:Gm),Yk,Yx,YE,Yl,(⟨YF,YG,Yt⟩:Gv)⟩:Gb),Ym⟩:Gn) Y2 Y6 Y9 Y5).Body.Fall.Y), .f .f32 ((Zb (⟨(⟨(⟨Yb,Yj⟩:Gm),Yk,Yx,YE,Yl,(⟨YF,YG,Yt⟩:Gv)⟩:Gb),Ym⟩:Gn) Y2 Y6 Y9 Y5).Body.Fall.Z), .own 6], .vec 27 1 ((Yr.map (cF .f32)) ++ ([[.f .f32 (Z3e ((Zb (⟨(⟨(⟨Yb,Yj⟩:Gm),Yk,Yx,YE,Yl,(⟨YF,YG,Yt⟩:Gv)⟩:Gb),Ym⟩:Gn) Y2 Y6 Y9 Y5).Body))]]:List (List AV))) false]⟩) (sB Yn <| sF (Fn.castA (args':=[.ref [.sl (Yb.map Gv.c), .sl ((Yj.map fun l => l.map (cI .i64)).map fun l => [.sl l]), .sl (Yk.map Gs.c), .f .f32 Yx, .f .f32 YE, .sl (Yl.map (cF .f32)), .f .f32 YF, .f .f32 YG, .f .f32 Yt, .sl (Ym.map Gv.c)] 0, .sl (Y2.map (cI .i64)), .f .f32 Y6, .f .f32 Y9, .f .f32 Y5]) (Zgs (⟨(⟨(⟨Yb,Yj⟩:Gm),Yk,Yx,YE,Yl,(⟨YF,YG,Yt⟩:Gv)⟩:Gb),Ym⟩:Gn) Y2 Y6 Y9 Y5 YS YT YY YZ y_4 y_5 hp6 y_6 y_7 y_8) (by simp [cL,Function.comp_def]; rfl)) <| sF (Fn.sub (args:=[.ref [.sl (((Zb (⟨(⟨(⟨Yb,Yj⟩:Gm),Yk,Yx,YE,Yl,(⟨YF,YG,Yt⟩:Gv)⟩:Gb),Ym⟩:Gn) Y2 Y6 Y9 Y5).Body.Me.Pq).map Gv.c), .sl ((((Zb (⟨(⟨(⟨Yb,Yj⟩:Gm),Yk,Yx,YE,Yl,(⟨YF,YG,Yt⟩:Gv)⟩:Gb),Ym⟩:Gn) Y2 Y6 Y9 Y5).Body.Me.Tr).map fun l => l.map (cI .i64)).map fun l => [.sl l]), .sl (((Zb (⟨(⟨(⟨Yb,Yj⟩:Gm),Yk,Yx,YE,Yl,(⟨YF,YG,Yt⟩:Gv)⟩:Gb),Ym⟩:Gn) Y2 Y6 Y9 Y5).Body.Sp).map Gs.c), .f .f32 ((Zb (⟨(⟨(⟨Yb,Yj⟩:Gm),Yk,Yx,YE,Yl,(⟨YF,YG,Yt⟩:Gv)⟩:Gb),Ym⟩:Gn) Y2 Y6 Y9 Y5).Body.Film), .f .f32 ((Zb (⟨(⟨(⟨Yb,Yj⟩:Gm),Yk,Yx,YE,Yl,(⟨YF,YG,Yt⟩:Gv)⟩:Gb),Ym⟩:Gn) Y2 Y6 Y9 Y5).Body.Bend), .sl (((Zb (⟨(⟨(⟨Yb,Yj⟩:Gm),Yk,Yx,YE,Yl,(⟨YF,YG,Yt⟩:Gv)⟩:Gb),Ym⟩:Gn) Y2 Y6 Y9 Y5).Body.We).map (cF .f32)), .f .f32 ((Zb (⟨(⟨(⟨Yb,Yj⟩:Gm),Yk,Yx,YE,Yl,(⟨YF,YG,Yt⟩:Gv)⟩:Gb),Ym⟩:Gn) Y2 Y6 Y9 Y5).Body.Fall.X), .f .f32 ((Zb (⟨(⟨(⟨Yb,Yj⟩:Gm),Yk,Yx,YE,Yl,(⟨YF,YG,Yt⟩:Gv)⟩:Gb),Ym⟩:Gn) Y2 Y6 Y9 Y5).Body.Fall.Y), .f .f32 ((Zb (⟨(⟨(⟨Yb,Yj⟩:Gm),Yk,Yx,YE,Yl,(⟨YF,YG,Yt⟩:Gv)⟩:Gb),Ym⟩:Gn) Y2 Y6 Y9 Y5).Body.Fall.Z), .sl (((Zb (⟨(⟨(⟨Yb,Yj⟩:Gm),Yk,Yx,YE,Yl,(⟨YF,YG,Yt⟩:Gv)⟩:Gb),Ym⟩:Gn) Y2 Y6 Y9 Y5).Sd).map Gv.c)] 0]) (r := .f .f32 (Z3e ((Zb (⟨(⟨(⟨Yb,Yj⟩:Gm),Yk,Yx,YE,Yl,(⟨YF,YG,Yt⟩:Gv)⟩:Gb),Ym⟩:Gn) Y2 Y6 Y9 Y5).Body))) (new:=[]) [some 9] (Fn.castA (args':=[.ref [.sl (((Zb (⟨(⟨(⟨Yb,Yj⟩:Gm),Yk,Yx,YE,Yl,(⟨YF,YG,Yt⟩:Gv)⟩:Gb),Ym⟩:Gn) Y2 Y6 Y9 Y5).Body.Me.Pq).map Gv.c), .sl ((((Zb (⟨(⟨(⟨Yb,Yj⟩:Gm),Yk,Yx,YE,Yl,(⟨YF,YG,Yt⟩:Gv)⟩:Gb),Ym⟩:Gn) Y2 Y6 Y9 Y5).Body.Me.Tr).map fun l => l.map (cI .i64)).map fun l => [.sl l]), .sl (((Zb (⟨(⟨(⟨Yb,Yj⟩:Gm),Yk,Yx,YE,Yl,(⟨YF,YG,Yt⟩:Gv)⟩:Gb),Ym⟩:Gn) Y2 Y6 Y9 Y5).Body.Sp).map Gs.c), .f .f32 ((Zb (⟨(⟨(⟨Yb,Yj⟩:Gm),Yk,Yx,YE,Yl,(⟨YF,YG,Yt⟩:Gv)⟩:Gb),Ym⟩:Gn) Y2 Y6 Y9 Y5).Body.Film), .f .f32 ((Zb (⟨(⟨(⟨Yb,Yj⟩:Gm),Yk,Yx,YE,Yl,(⟨YF,YG,Yt⟩:Gv)⟩:Gb),Ym⟩:Gn) Y2 Y6 Y9 Y5).Body.Bend), .sl (((Zb (⟨(⟨(⟨Yb,Yj⟩:Gm),Yk,Yx,YE,Yl,(⟨YF,YG,Yt⟩:Gv)⟩:Gb),Ym⟩:Gn) Y2 Y6 Y9 Y5).Body.We).map (cF .f32)), .f .f32 ((Zb (⟨(⟨(⟨Yb,Yj⟩:Gm),Yk,Yx,YE,Yl,(⟨YF,YG,Yt⟩:Gv)⟩:Gb),Ym⟩:Gn) Y2 Y6 Y9 Y5).Body.Fall.X), .f .f32 ((Zb (⟨(⟨(⟨Yb,Yj⟩:Gm),Yk,Yx,YE,Yl,(⟨YF,YG,Yt⟩:Gv)⟩:Gb),Ym⟩:Gn) Y2 Y6 Y9 Y5).Body.Fall.Y), .f .f32 ((Zb (⟨(⟨(⟨Yb,Yj⟩:Gm),Yk,Yx,YE,Yl,(⟨YF,YG,Yt⟩:Gv)⟩:Gb),Ym⟩:Gn) Y2 Y6 Y9 Y5).Body.Fall.Z)] 0]) (ZfG ((Zb (⟨(⟨(⟨Yb,Yj⟩:Gm),Yk,Yx,YE,Yl,(⟨YF,YG,Yt⟩:Gv)⟩:Gb),Ym⟩:Gn) Y2 Y6 Y9 Y5).Body) y_9 Y19 Y1g Y1j Y1k Y1r) (by simp [cL,Function.comp_def]; rfl))) <| sC (show (Yr.map (cF .f32)).length + ([[.f .f32 (Z3e ((Zb (⟨(⟨(⟨Yb,Yj⟩:Gm),Yk,Yx,YE,Yl,(⟨YF,YG,Yt⟩:Gv)⟩:Gb),Ym⟩:Gn) Y2 Y6 Y9 Y5).Body))]]:List (List AV)).length≤1073741824 from (by simpa using Y1s)) <| sI (YQ - 1) Y1t Y1u <| sN) (by kernel_rfl) (by simp [Z72,cF]) (ih (YQ - 1) ((Zb (⟨(⟨(⟨Yb,Yj⟩:Gm),Yk,Yx,YE,Yl,(⟨YF,YG,Yt⟩:Gv)⟩:Gb),Ym⟩:Gn) Y2 Y6 Y9 Y5).Body.Me.Pq) ((Zb (⟨(⟨(⟨Yb,Yj⟩:Gm),Yk,Yx,YE,Yl,(⟨YF,YG,Yt⟩:Gv)⟩:Gb),Ym⟩:Gn) Y2 Y6 Y9 Y5).Body.Me.Tr) ((Zb (⟨(⟨(⟨Yb,Yj⟩:Gm),Yk,Yx,YE,Yl,(⟨YF,YG,Yt⟩:Gv)⟩:Gb),Ym⟩:Gn) Y2 Y6 Y9 Y5).Body.Sp) ((Zb (⟨(⟨(⟨Yb,Yj⟩:Gm),Yk,Yx,YE,Yl,(⟨YF,YG,Yt⟩:Gv)⟩:Gb),Ym⟩:Gn) Y2 Y6 Y9 Y5).Body.We) ((Zb (⟨(⟨(⟨Yb,Yj⟩:Gm),Yk,Yx,YE,Yl,(⟨YF,YG,Yt⟩:Gv)⟩:Gb),Ym⟩:Gn) Y2 Y6 Y9 Y5).Sd) ((Zb (⟨(⟨(⟨Yb,Yj⟩:Gm),Yk,Yx,YE,Yl,(⟨YF,YG,Yt⟩:Gv)⟩:Gb),Ym⟩:Gn) Y2 Y6 Y9 Y5).Body.Film) ((Zb (⟨(⟨(⟨Yb,Yj⟩:Gm),Yk,Yx,YE,Yl,(⟨YF,YG,Yt⟩:Gv)⟩:Gb),Ym⟩:Gn) Y2 Y6 Y9 Y5).Body.Bend) ((Zb (⟨(⟨(⟨Yb,Yj⟩:Gm),Yk,Yx,YE,Yl,(⟨YF,YG,Yt⟩:Gv)⟩:Gb),Ym⟩:Gn) Y2 Y6 Y9 Y5).Body.Fall.X) ((Zb (⟨(⟨(⟨Yb,Yj⟩:Gm),Yk,Yx,YE,Yl,(⟨YF,YG,Yt⟩:Gv)⟩:Gb),Ym⟩:Gn) Y2 Y6 Y9 Y5).Body.Fall.Y) ((Zb (⟨(⟨(⟨Yb,Yj⟩:Gm),Yk,Yx,YE,Yl,(⟨YF,YG,Yt⟩:Gv)⟩:Gb),Ym⟩:Gn) Y2 Y6 Y9 Y5).Body.Fall.Z) (Yr ++ [(Z3e ((Zb (⟨(⟨(⟨Yb,Yj⟩:Gm),Yk,Yx,YE,Yl,(⟨YF,YG,Yt⟩:Gv)⟩:Gb),Ym⟩:Gn) Y2 Y6 Y9 Y5).Body))]) (show 0≤(YQ - 1) from (by omega)) (show Z4P Y3 (⟨(⟨(⟨((Zb (⟨(⟨(⟨Yb,Yj⟩:Gm),Yk,Yx,YE,Yl,(⟨YF,YG,Yt⟩:Gv)⟩:Gb),Ym⟩:Gn) Y2 Y6 Y9 Y5).Body.Me.Pq),((Zb (⟨(⟨(⟨Yb,Yj⟩:Gm),Yk,Yx,YE,Yl,(⟨YF,YG,Yt⟩:Gv)⟩:Gb),Ym⟩:Gn) Y2 Y6 Y9 Y5).Body.Me.Tr)⟩:Gm),((Zb (⟨(⟨(⟨Yb,Yj⟩:Gm),Yk,Yx,YE,Yl,(⟨YF,YG,Yt⟩:Gv)⟩:Gb),Ym⟩:Gn) Y2 Y6 Y9 Y5).Body.Sp),((Zb (⟨(⟨(⟨Yb,Yj⟩:Gm),Yk,Yx,YE,Yl,(⟨YF,YG,Yt⟩:Gv)⟩:Gb),Ym⟩:Gn) Y2 Y6 Y9 Y5).Body.Film),((Zb (⟨(⟨(⟨Yb,Yj⟩:Gm),Yk,Yx,YE,Yl,(⟨YF,YG,Yt⟩:Gv)⟩:Gb),Ym⟩:Gn) Y2 Y6 Y9 Y5).Body.Bend),((Zb (⟨(⟨(⟨Yb,Yj⟩:Gm),Yk,Yx,YE,Yl,(⟨YF,YG,Yt⟩:Gv)⟩:Gb),Ym⟩:Gn) Y2 Y6 Y9 Y5).Body.We),(⟨((Zb (⟨(⟨(⟨Yb,Yj⟩:Gm),Yk,Yx,YE,Yl,(⟨YF,YG,Yt⟩:Gv)⟩:Gb),Ym⟩:Gn) Y2 Y6 Y9 Y5).Body.Fall.X),((Zb (⟨(⟨(⟨Yb,Yj⟩:Gm),Yk,Yx,YE,Yl,(⟨YF,YG,Yt⟩:Gv)⟩:Gb),Ym⟩:Gn) Y2 Y6 Y9 Y5).Body.Fall.Y),((Zb (⟨(⟨(⟨Yb,Yj⟩:Gm),Yk,Yx,YE,Yl,(⟨YF,YG,Yt⟩:Gv)⟩:Gb),Ym⟩:Gn) Y2 Y6 Y9 Y5).Body.Fall.Z)⟩:Gv)⟩:Gb),((Zb (⟨(⟨(⟨Yb,Yj⟩:Gm),Yk,Yx,YE,Yl,(⟨YF,YG,Yt⟩:Gv)⟩:Gb),Ym⟩:Gn) Y2 Y6 Y9 Y5).Sd)⟩:Gn) from (by with_reducible exact Zd7 (Z7P (by with_reducible assumption) _ _ _ _))) (show ((Yr ++ [(Z3e ((Zb (⟨(⟨(⟨Yb,Yj⟩:Gm),Yk,Yx,YE,Yl,(⟨YF,YG,Yt⟩:Gv)⟩:Gb),Ym⟩:Gn) Y2 Y6 Y9 Y5).Body))]).length:Int) + (YQ - 1)≤Yf from (by simp; omega)) (by omega))
  | false =>
   have YM:=odf Yn
   have e:Z26 Y3 Y2 Y6 Y9 Y5 Yf (k + 1) YQ Yb Yj Yk Yl Ym Yx YE YF YG Yt Yr=(YQ,Yx,YE,YF,YG,Yt,Yr,Yb,Yj,Yk,Yl,Ym):=by simp only [Z26,Yn,cond_false]
   rw [e]
   exact outR (e:=(.exit 0)) E0Ok Z4 [] ZcI [0,1,7,8,2,3,4,5,6] (sB Yn <| sN) (by kernel_rfl) (by intro h; cases h)
end Go.Ab
