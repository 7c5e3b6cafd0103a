/- The functions of this seat as plain Lean, and that the program's are these. Printed by a program of the prover's own. -/
import Derived.Test.YtiddhiepmakopaaB0
set_option linter.unusedVariables false
set_option linter.unusedSimpArgs false
set_option maxRecDepth 100000
namespace Go.Ab
open Go.RowKit Go.Proofs.Try
def Z1F (n_0:Int) (YP:Int) (YG:Int):Bool:=(cond (decide (n_0 ≥ YP))
  (decide (n_0≤YG))
  false)
theorem Z6d (n_0:Int) (YP:Int) (YG:Int)   : Fn prog 73 [.i .i64 n_0, .i .i64 YP, .i .i64 YG] (.b (Z1F n_0 YP YG)) []:=by
 cases h0:(decide (n_0 ≥ YP)) with
 | true =>
  have gh0:=odt h0
  refine fnS E0Ok Z5 (c:=X0 f73) [] (.b (decide (n_0≤YG))) [] func73 (sB h0<|sB h0<|sB h0<|sB h0<|sK [] sN) rfl (by kernel_rfl) (by kernel_rfl) rfl ?_ ?_
  · simp only [Z1F,h0,cond_true]
  · rfl
 | false =>
  have gh0:=odf h0
  refine fnS E0Ok Z5 (c:=X0 f73) [] (.b false) [] func73 (sB h0<|sB h0<|sB h0<|sB h0<|sK [] sN) rfl (by kernel_rfl) (by kernel_rfl) rfl ?_ ?_
  · simp only [Z1F,h0,cond_false]
  · rfl
def Z3g (Ys:Nat):Bool:=(fcmp .eql .f32 (fop .sub .f32 Ys Ys) 0)
theorem Z5x (Ys:Nat)   : Fn prog 44 [.f .f32 Ys] (.b (Z3g Ys)) []:=by
 refine fnS E0Ok Z5 (c:=X0 f44) [] (.b (fcmp .eql .f32 (fop .sub .f32 Ys Ys) 0)) [] func44 (sK [] sN) rfl (by kernel_rfl) (by kernel_rfl) rfl ?_ ?_
 · rfl
 · rfl
def Z1s (Ys:Nat):Bool:=(cond (Z3g Ys)
  (fcmp .gtr .f32 Ys 0)
  false)
theorem Z5P (Ys:Nat)   : Fn prog 41 [.f .f32 Ys] (.b (Z1s Ys)) []:=by
 have p {a C} (s:Scr a C):=sF (Z5x Ys)<|s
 cases h0:(Z3g Ys) with
 | true =>
  refine fnS E0Ok Z5 (c:=X0 f41) [] (.b (fcmp .gtr .f32 Ys 0)) [] func41 (p (sB h0<|sB h0<|sB h0<|sK [] sN)) rfl (by kernel_rfl) (by kernel_rfl) rfl ?_ ?_
  · simp only [Z1s,h0,cond_true]
  · rfl
 | false =>
  refine fnS E0Ok Z5 (c:=X0 f41) [] (.b false) [] func41 (p (sB h0<|sB h0<|sB h0<|sK [] sN)) rfl (by kernel_rfl) (by kernel_rfl) rfl ?_ ?_
  · simp only [Z1s,h0,cond_false]
  · rfl
def Z1c (Y7:Int) (Ye:Int):Int:=(cond (decide (Y7 < Ye))
  Y7
  Ye)
theorem Z4Z (Y7:Int) (Ye:Int)   : Fn prog 106 [.i .i64 Y7, .i .i64 Ye] (.i .i64 (Z1c Y7 Ye)) []:=by
 cases h0:(decide (Y7 < Ye)) with
 | true =>
  have gh0:=odt h0
  refine fnS E0Ok Z5 (c:=X0 f106) [] (.i .i64 Y7) [] func106 (sB h0<|sK [] sN) rfl (by kernel_rfl) (by kernel_rfl) rfl ?_ ?_
  · simp only [Z1c,h0,cond_true]
  · rfl
 | false =>
  have gh0:=odf h0
  refine fnS E0Ok Z5 (c:=X0 f106) [] (.i .i64 Ye) [] func106 (sB h0<|sK [] sN) rfl (by kernel_rfl) (by kernel_rfl) rfl ?_ ?_
  · simp only [Z1c,h0,cond_false]
  · rfl
theorem Z4i {a b n:Int} (h1:0≤a∧a < n) (h2:0≤b∧b < n):0≤Z1c a b∧Z1c a b < n:=by
  unfold Z1c;cases decide (a < b)<;>simp only [cond_true,cond_false]<;>omega
def Z1d (Y7:Int) (Ye:Int):Int:=(cond (decide (Y7 > Ye))
  Y7
  Ye)
theorem Z50 (Y7:Int) (Ye:Int)   : Fn prog 107 [.i .i64 Y7, .i .i64 Ye] (.i .i64 (Z1d Y7 Ye)) []:=by
 cases h0:(decide (Y7 > Ye)) with
 | true =>
  have gh0:=odt h0
  refine fnS E0Ok Z5 (c:=X0 f107) [] (.i .i64 Y7) [] func107 (sB h0<|sK [] sN) rfl (by kernel_rfl) (by kernel_rfl) rfl ?_ ?_
  · simp only [Z1d,h0,cond_true]
  · rfl
 | false =>
  have gh0:=odf h0
  refine fnS E0Ok Z5 (c:=X0 f107) [] (.i .i64 Ye) [] func107 (sB h0<|sK [] sN) rfl (by kernel_rfl) (by kernel_rfl) rfl ?_ ?_
  · simp only [Z1d,h0,cond_false]
  · rfl
theorem Z4j {a b n:Int} (h1:0≤a∧a < n) (h2:0≤b∧b < n):0≤Z1d a b∧Z1d a b < n:=by
  unfold Z1d;cases decide (a > b)<;>simp only [cond_true,cond_false]<;>omega
theorem Z4M (a b:Int):(⟨Z1c a b,Z1d a b⟩:Gedge)=mkE a b:=by
  unfold Z1c Z1d mkE
  by_cases h:a < b
  · rw [decide_eq_true h,decide_eq_false (by omega),if_pos (by omega)];rfl
  · rw [decide_eq_false h]
    by_cases h2:a > b
    · rw [decide_eq_true h2,if_neg (by omega)];rfl
    · rw [decide_eq_false h2,show a=b from by omega,if_pos (by omega)];rfl
def ZF (Y2:Gm) (Y5:Int) (Y9:Int):Int:=(Z1c ((Y2.Tr.getD Y5.toNat default).getD Y9.toNat default) ((Y2.Tr.getD Y5.toNat default).getD (Int.tmod (Y9 + 1) 3).toNat default))
def ZH (Y2:Gm) (Y5:Int) (Y9:Int):Int:=(Z1d ((Y2.Tr.getD Y5.toNat default).getD Y9.toNat default) ((Y2.Tr.getD Y5.toNat default).getD (Int.tmod (Y9 + 1) 3).toNat default))
def Zs (Y2:Gm) (Y5:Int) (Yh:(List Bool)):Nat→Int→(List Bool)→(List Bool)
  | 0,_,_=>default
  | k + 1,Y9,Ym=>(cond (decide (Y9 < 3))
    (Zs Y2 Y5 Yh k (Y9 + 1) (Ym.set ((IntKind.wrap .i64 ((IntKind.wrap .i64 ((ZF Y2 Y5 Y9) * (Y2.Pl.length:Int))) + (ZH Y2 Y5 Y9))).toNat) true))
    Ym)
def Z2R (Y2:Gm) (Y5:Int) (Yh:(List Bool)) (r:(List Bool)):Ex × St:=((.exit 2),⟨.ref (Gm.c Y2) 0 :: .any :: .nils :: .i .i64 (Y2.Pl.length:Int) :: .own 0 :: .i .i64 Y5 :: .sl ((Y2.Tr.getD Y5.toNat default).map (cI .i64)) :: an 6 (.ref (Gm.c Y2) 0 :: .ref (Gm.c Y2) 0 :: .ref (Gm.c Y2) 0 :: .sl (Y2.Pl.map Gv.c) :: .i .i64 (Y2.Pl.length:Int) :: .i .i64 (Y2.Pl.length:Int) :: .i .i64 (Y2.Pl.length:Int) :: .i .i64 (IntKind.wrap .i64 ((Y2.Pl.length:Int) * (Y2.Pl.length:Int))) :: .own 0 :: .i .i64 Y5 :: .ref (Gm.c Y2) 0 :: .ref (Gm.c Y2) 0 :: .ref (Gm.c Y2) 1 :: .sl (Y2.Tr.map (cL (cI .i64))) :: .i .i64 (Y2.Tr.length:Int) :: .b (decide (Y5 < (Y2.Tr.length:Int))) :: .any :: .any :: .ref (Gm.c Y2) 0 :: .ref (Gm.c Y2) 0 :: .ref (Gm.c Y2) 1 :: .sl (Y2.Tr.map (cL (cI .i64))) :: .i .i64 Y5 :: .ref [.sl ((Y2.Tr.getD Y5.toNat default).map (cI .i64))] 0 :: .sl ((Y2.Tr.getD Y5.toNat default).map (cI .i64)) :: an 53 []),[.vec 4 1 (r.map cB) false]⟩)
def Z3P (Y2:Gm) (Y5:Int) (Yh:(List Bool)) (Y9:Int) (Ym:(List Bool)):St:=⟨.ref (Gm.c Y2) 0 :: .any :: .nils :: .i .i64 (Y2.Pl.length:Int) :: .own 0 :: .i .i64 Y5 :: .sl ((Y2.Tr.getD Y5.toNat default).map (cI .i64)) :: .i .i64 Y9 :: an 5 (.ref (Gm.c Y2) 0 :: .ref (Gm.c Y2) 0 :: .ref (Gm.c Y2) 0 :: .sl (Y2.Pl.map Gv.c) :: .i .i64 (Y2.Pl.length:Int) :: .i .i64 (Y2.Pl.length:Int) :: .i .i64 (Y2.Pl.length:Int) :: .i .i64 (IntKind.wrap .i64 ((Y2.Pl.length:Int) * (Y2.Pl.length:Int))) :: .own 0 :: .i .i64 Y5 :: .ref (Gm.c Y2) 0 :: .ref (Gm.c Y2) 0 :: .ref (Gm.c Y2) 1 :: .sl (Y2.Tr.map (cL (cI .i64))) :: .i .i64 (Y2.Tr.length:Int) :: .b (decide (Y5 < (Y2.Tr.length:Int))) :: .any :: .any :: .ref (Gm.c Y2) 0 :: .ref (Gm.c Y2) 0 :: .ref (Gm.c Y2) 1 :: .sl (Y2.Tr.map (cL (cI .i64))) :: .i .i64 Y5 :: .ref [.sl ((Y2.Tr.getD Y5.toNat default).map (cI .i64))] 0 :: .sl ((Y2.Tr.getD Y5.toNat default).map (cI .i64)) :: an 53 []),[.vec 4 1 (Ym.map cB) false]⟩
def Z3s:List Bool:=(mR false [0,1,1,6,5,16,2,7,53])
def Z4N:List Bool:=(mR false [0,1,1,5,6,16,2,7,53])
set_option maxHeartbeats 1000000 in
theorem Z5a (Y2:Gm) (Y5:Int) (Yh:(List Bool)) (hp0:Y2.Pl.length≤1073741824) (hp1:Y2.Tr.length≤1073741824) (hp2:∀ t∈Y2.Tr,t.length≤1073741824) (hp3:OkE Y2.Pl.length Y2.Tr) (Z16:0≤Y5) (Z22:Yh.length=(IntKind.wrap .i64 ((Y2.Pl.length:Int) * (Y2.Pl.length:Int))).toNat) (Z6C:(decide (Y5 < (Y2.Tr.length:Int)))=true):∀ (k:Nat) (Y9:Int) (Ym:(List Bool)) (Z1p:0≤Y9) (Z3t:Ym.length=Yh.length) (hk:((3:Int) - Y9).toNat < k),Lp prog 0 (sub (X0 f66) [1,1,1,0,1,0,0,1,0,0,1,1,0,0]) (Z3P Y2 Y5 Yh Y9 Ym) (Z2R Y2 Y5 Yh (Zs Y2 Y5 Yh k Y9 Ym)).1 (Z2R Y2 Y5 Yh (Zs Y2 Y5 Yh k Y9 Ym)).2:=by
 intro k
 induction k with
 | zero=>intro Y9 Ym Z1p Z3t hk;exact absurd hk (Nat.not_lt_zero _)
 | succ k ih =>
  intro Y9 Ym Z1p Z3t hk
  cases Yy:(decide (Y9 < 3)) with
  | true =>
   have YT:=odt Yy
   have Y11:(0:Int)≤Y9:=(by assumption)
   have Y12:Y9 < ((Y2.Tr.getD Y5.toNat default).length:Int):=(by ((have q:=OkE.at (by assumption) Z16 (odt (by assumption)) Z1p (odt (by assumption));omega)))
   have YU:(-9223372036854775808:Int)≤(Y9 + 1):=(by omega)
   have YQ:(Y9 + 1)≤(9223372036854775807:Int):=(by omega)
   have Y13:(0:Int)≤(Int.tmod (Y9 + 1) 3):=(by ((have q:=OkE.at (by assumption) Z16 (odt (by assumption)) Z1p (odt (by assumption));omega)))
   have Y18:(Int.tmod (Y9 + 1) 3) < ((Y2.Tr.getD Y5.toNat default).length:Int):=(by ((have q:=OkE.at (by assumption) Z16 (odt (by assumption)) Z1p (odt (by assumption));omega)))
   have Y10:(0:Int)≤(IntKind.wrap .i64 ((IntKind.wrap .i64 ((ZF Y2 Y5 Y9) * (Y2.Pl.length:Int))) + (ZH Y2 Y5 Y9))):=(by ((have q:=OkE.at (by assumption) Z16 (odt (by assumption)) Z1p (odt (by assumption));have q2:=ix2F q.2.2.2.2.2.1 (Z4i q.2.2.2.1 q.2.2.2.2.1).1 (Z4i q.2.2.2.1 q.2.2.2.2.1).2 (Z4j q.2.2.2.1 q.2.2.2.2.1).1 (Z4j q.2.2.2.1 q.2.2.2.2.1).2;unfold ZF ZH;omega)))
   have Y16:(IntKind.wrap .i64 ((IntKind.wrap .i64 ((ZF Y2 Y5 Y9) * (Y2.Pl.length:Int))) + (ZH Y2 Y5 Y9))) < (Ym.length:Int):=(by ((have q:=OkE.at (by assumption) Z16 (odt (by assumption)) Z1p (odt (by assumption));have q2:=ix2F q.2.2.2.2.2.1 (Z4i q.2.2.2.1 q.2.2.2.2.1).1 (Z4i q.2.2.2.1 q.2.2.2.2.1).2 (Z4j q.2.2.2.1 q.2.2.2.2.1).1 (Z4j q.2.2.2.1 q.2.2.2.2.1).2;unfold ZF ZH;omega)))
   have Y1a:(IntKind.wrap .i64 ((IntKind.wrap .i64 ((ZF Y2 Y5 Y9) * (Y2.Pl.length:Int))) + (ZH Y2 Y5 Y9))).toNat < Ym.length:=(by omega)
   have e:Zs Y2 Y5 Yh (k + 1) Y9 Ym=(Zs Y2 Y5 Yh k (Y9 + 1) (Ym.set ((IntKind.wrap .i64 ((IntKind.wrap .i64 ((ZF Y2 Y5 Y9) * (Y2.Pl.length:Int))) + (ZH Y2 Y5 Y9))).toNat) true)):=by simp only [Zs,Yy,cond_true]
   rw [e]
   exact XZ E0Ok Z5 [] Z3s [0] (⟨.ref (Gm.c Y2) 0 :: .any :: .nils :: .i .i64 (Y2.Pl.length:Int) :: .own 0 :: .i .i64 Y5 :: .sl ((Y2.Tr.getD Y5.toNat default).map (cI .i64)) :: .i .i64 (Y9 + 1) :: an 5 (.ref (Gm.c Y2) 0 :: .ref (Gm.c Y2) 0 :: .ref (Gm.c Y2) 0 :: .sl (Y2.Pl.map Gv.c) :: .i .i64 (Y2.Pl.length:Int) :: .i .i64 (Y2.Pl.length:Int) :: .i .i64 (Y2.Pl.length:Int) :: .i .i64 (IntKind.wrap .i64 ((Y2.Pl.length:Int) * (Y2.Pl.length:Int))) :: .own 0 :: .i .i64 Y5 :: .ref (Gm.c Y2) 0 :: .ref (Gm.c Y2) 0 :: .ref (Gm.c Y2) 1 :: .sl (Y2.Tr.map (cL (cI .i64))) :: .i .i64 (Y2.Tr.length:Int) :: .b (decide (Y5 < (Y2.Tr.length:Int))) :: .any :: .any :: .ref (Gm.c Y2) 0 :: .ref (Gm.c Y2) 0 :: .ref (Gm.c Y2) 1 :: .sl (Y2.Tr.map (cL (cI .i64))) :: .i .i64 Y5 :: .ref [.sl ((Y2.Tr.getD Y5.toNat default).map (cI .i64))] 0 :: .sl ((Y2.Tr.getD Y5.toNat default).map (cI .i64)) :: an 53 []),[.vec 4 1 ((Ym.map cB).set ((IntKind.wrap .i64 ((IntKind.wrap .i64 ((ZF Y2 Y5 Y9) * (Y2.Pl.length:Int))) + (ZH Y2 Y5 Y9))).toNat) [.b true]) false]⟩) (sB Yy<|sG (cI .i64) (Y2.Tr.getD Y5.toNat default) Y9 Y11 Y12<|sI (Y9 + 1) YU YQ<|sC (show (3:Int)≠0 from (by decide))<|sQ (Int.tmod (Y9 + 1) 3)<|sG (cI .i64) (Y2.Tr.getD Y5.toNat default) (Int.tmod (Y9 + 1) 3) Y13 Y18<|sF (Z4Z ((Y2.Tr.getD Y5.toNat default).getD Y9.toNat default) ((Y2.Tr.getD Y5.toNat default).getD (Int.tmod (Y9 + 1) 3).toNat default))<|sW .i64 ((ZF Y2 Y5 Y9) * (Y2.Pl.length:Int))<|sF (Z50 ((Y2.Tr.getD Y5.toNat default).getD Y9.toNat default) ((Y2.Tr.getD Y5.toNat default).getD (Int.tmod (Y9 + 1) 3).toNat default))<|sW .i64 ((IntKind.wrap .i64 ((ZF Y2 Y5 Y9) * (Y2.Pl.length:Int))) + (ZH Y2 Y5 Y9))<|sX cB Ym (IntKind.wrap .i64 ((IntKind.wrap .i64 ((ZF Y2 Y5 Y9) * (Y2.Pl.length:Int))) + (ZH Y2 Y5 Y9))) Y10 Y16<|sC (X7D (c:=cB) (l:=Ym) Y1a)<|sI (Y9 + 1) YU YQ<|sN) (by kernel_rfl) (by simp [Z3P,cL,cI,cB]) (ih (Y9 + 1) (Ym.set ((IntKind.wrap .i64 ((IntKind.wrap .i64 ((ZF Y2 Y5 Y9) * (Y2.Pl.length:Int))) + (ZH Y2 Y5 Y9))).toNat) true) (show 0≤(Y9 + 1) from (by omega)) (show (Ym.set ((IntKind.wrap .i64 ((IntKind.wrap .i64 ((ZF Y2 Y5 Y9) * (Y2.Pl.length:Int))) + (ZH Y2 Y5 Y9))).toNat) true).length=Yh.length from (by simp_all<;>omega)) (by omega))
  | false =>
   have YT:=odf Yy
   have e:Zs Y2 Y5 Yh (k + 1) Y9 Ym=Ym:=by simp only [Zs,Yy,cond_false]
   rw [e]
   exact outR (e:=(.exit 2)) E0Ok Z5 [] Z4N [0] (sB Yy<|sN) (by kernel_rfl) (by intro h;cases h)
theorem Z4O (Y2:Gm) (Y5:Int) (Yh:(List Bool)):∀ (k:Nat) (Y9:Int) (Ym:(List Bool)) (hk:((3:Int) - Y9).toNat < k),(Zs Y2 Y5 Yh k Y9 Ym).length=Ym.length:=by
  intro k
  induction k with
  | zero=>intro Y9 Ym hk;exact absurd hk (Nat.not_lt_zero _)
  | succ k ih =>
    intro Y9 Ym hk
    cases Yy:(decide (Y9 < 3)) with
    | true =>
      have e:Zs Y2 Y5 Yh (k + 1) Y9 Ym=(Zs Y2 Y5 Yh k (Y9 + 1) (Ym.set ((IntKind.wrap .i64 ((IntKind.wrap .i64 ((ZF Y2 Y5 Y9) * (Y2.Pl.length:Int))) + (ZH Y2 Y5 Y9))).toNat) true)):=by simp only [Zs,Yy,cond_true]
      rw [e,ih (Y9 + 1) (Ym.set ((IntKind.wrap .i64 ((IntKind.wrap .i64 ((ZF Y2 Y5 Y9) * (Y2.Pl.length:Int))) + (ZH Y2 Y5 Y9))).toNat) true) (by simp_all<;>omega)];simp
    | false =>
      have e:Zs Y2 Y5 Yh (k + 1) Y9 Ym=Ym:=by simp only [Zs,Yy,cond_false]
      first | (rw [e];done) | (rw [e];rfl)
def ZU (Y2:Gm) (Y5:Int) (Yh:(List Bool)):(List Bool):=(Zs Y2 Y5 Yh (((3:Int) - 0).toNat + 1) 0 Yh)
@[simp] theorem Z43 (Y2:Gm) (Y5:Int) (Yh:(List Bool)):(ZU Y2 Y5 Yh).length=(Yh:(List Bool)).length:=Z4O Y2 Y5 Yh (((3:Int) - 0).toNat + 1) 0 Yh (by exact Nat.lt_succ_self _)
def ZB (Y2:Gm):Nat→Int→(List Bool)→(List Bool)
  | 0,_,_=>default
  | k + 1,Y5,Yh=>(cond (decide (Y5 < (Y2.Tr.length:Int)))
    (ZB Y2 k (Y5 + 1) (ZU Y2 Y5 Yh))
    Yh)
def Z2S (Y2:Gm) (r:(List Bool)):Ex × St:=((.exit 0),⟨.ref (Gm.c Y2) 0 :: .any :: .nils :: .i .i64 (Y2.Pl.length:Int) :: .own 0 :: an 8 (.ref (Gm.c Y2) 0 :: .ref (Gm.c Y2) 0 :: .ref (Gm.c Y2) 0 :: .sl (Y2.Pl.map Gv.c) :: .i .i64 (Y2.Pl.length:Int) :: .i .i64 (Y2.Pl.length:Int) :: .i .i64 (Y2.Pl.length:Int) :: .i .i64 (IntKind.wrap .i64 ((Y2.Pl.length:Int) * (Y2.Pl.length:Int))) :: .own 0 :: an 69 []),[.vec 4 1 (r.map cB) false]⟩)
def Z3Q (Y2:Gm) (Y5:Int) (Yh:(List Bool)):St:=⟨.ref (Gm.c Y2) 0 :: .any :: .nils :: .i .i64 (Y2.Pl.length:Int) :: .own 0 :: .i .i64 Y5 :: an 7 (.ref (Gm.c Y2) 0 :: .ref (Gm.c Y2) 0 :: .ref (Gm.c Y2) 0 :: .sl (Y2.Pl.map Gv.c) :: .i .i64 (Y2.Pl.length:Int) :: .i .i64 (Y2.Pl.length:Int) :: .i .i64 (Y2.Pl.length:Int) :: .i .i64 (IntKind.wrap .i64 ((Y2.Pl.length:Int) * (Y2.Pl.length:Int))) :: .own 0 :: an 69 []),[.vec 4 1 (Yh.map cB) false]⟩
theorem Z5b (Y2:Gm) (hp0:Y2.Pl.length≤1073741824) (hp1:Y2.Tr.length≤1073741824) (hp2:∀ t∈Y2.Tr,t.length≤1073741824) (hp3:OkE Y2.Pl.length Y2.Tr):∀ (k:Nat) (Y5:Int) (Yh:(List Bool)) (Z16:0≤Y5) (Z22:Yh.length=(IntKind.wrap .i64 ((Y2.Pl.length:Int) * (Y2.Pl.length:Int))).toNat) (hk:((Y2.Tr.length:Int) - Y5).toNat < k),Lp prog 0 (sub (X0 f66) [1,1,1,0,1,0,0]) (Z3Q Y2 Y5 Yh) (Z2S Y2 (ZB Y2 k Y5 Yh)).1 (Z2S Y2 (ZB Y2 k Y5 Yh)).2:=by
 intro k
 induction k with
 | zero=>intro Y5 Yh Z16 Z22 hk;exact absurd hk (Nat.not_lt_zero _)
 | succ k ih =>
  intro Y5 Yh Z16 Z22 hk
  have p {a C} (s:Scr a C):=sZ (cL (cI .i64)) Y2.Tr<|s
  cases Yj:(decide (Y5 < (Y2.Tr.length:Int))) with
  | true =>
   have Yt:=odt Yj
   have YE:(0:Int)≤Y5:=by clear p;exact (by assumption)
   have YC:Y5 < (Y2.Tr.length:Int):=by clear p;exact (by assumption)
   have YI:(-9223372036854775808:Int)≤(Y5 + 1):=by clear p;exact (by omega)
   have YL:(Y5 + 1)≤(9223372036854775807:Int):=by clear p;exact (by omega)
   have e:ZB Y2 (k + 1) Y5 Yh=(ZB Y2 k (Y5 + 1) (ZU Y2 Y5 Yh)):=by simp only [ZB,Yj,cond_true]
   rw [e]
   exact XM E0Ok Z5 [] (mR false [0,1,1,4,7,9,69]) [0] (ih (Y5 + 1) (ZU Y2 Y5 Yh) (show 0≤(Y5 + 1) from (by omega)) (show (ZU Y2 Y5 Yh).length=(IntKind.wrap .i64 ((Y2.Pl.length:Int) * (Y2.Pl.length:Int))).toNat from (by simp_all<;>omega)) (by omega)) (p (sB Yj<|sG (cL (cI .i64)) Y2.Tr Y5 YE YC<|sL Z3s 1 (X7 (Z2R Y2 Y5 Yh) (x:=(ZU Y2 Y5 Yh)) (Z5a Y2 Y5 Yh hp0 hp1 hp2 hp3 Z16 Z22 Yj (((3:Int) - 0).toNat + 1) 0 Yh (show 0≤0 from (by omega)) (show Yh.length=Yh.length from (by omega)) (Nat.lt_succ_self _)) rfl)<|sI (Y5 + 1) YI YL<|sN)) (by kernel_rfl)
  | false =>
   have Yt:=odf Yj
   have e:ZB Y2 (k + 1) Y5 Yh=Yh:=by simp only [ZB,Yj,cond_false]
   rw [e]
   exact outR (e:=(.exit 0)) E0Ok Z5 [] (mR false [0,1,1,3,8,9,69]) [0] (p (sB Yj<|sN)) (by kernel_rfl) (by intro h;cases h)
theorem Z4P (Y2:Gm):∀ (k:Nat) (Y5:Int) (Yh:(List Bool)) (hk:((Y2.Tr.length:Int) - Y5).toNat < k),(ZB Y2 k Y5 Yh).length=Yh.length:=by
  intro k
  induction k with
  | zero=>intro Y5 Yh hk;exact absurd hk (Nat.not_lt_zero _)
  | succ k ih =>
    intro Y5 Yh hk
    cases Yj:(decide (Y5 < (Y2.Tr.length:Int))) with
    | true =>
      have e:ZB Y2 (k + 1) Y5 Yh=(ZB Y2 k (Y5 + 1) (ZU Y2 Y5 Yh)):=by simp only [ZB,Yj,cond_true]
      rw [e,ih (Y5 + 1) (ZU Y2 Y5 Yh) (by simp_all<;>omega)];simp
    | false =>
      have e:ZB Y2 (k + 1) Y5 Yh=Yh:=by simp only [ZB,Yj,cond_false]
      first | (rw [e];done) | (rw [e];rfl)
def Zp (Y2:Gm):(List Bool):=(ZB Y2 (((Y2.Tr.length:Int) - 0).toNat + 1) 0 (List.replicate (IntKind.wrap .i64 ((Y2.Pl.length:Int) * (Y2.Pl.length:Int))).toNat false))
@[simp] theorem Z44 (Y2:Gm):(Zp Y2).length=((List.replicate (IntKind.wrap .i64 ((Y2.Pl.length:Int) * (Y2.Pl.length:Int))).toNat false):(List Bool)).length:=Z4P Y2 (((Y2.Tr.length:Int) - 0).toNat + 1) 0 (List.replicate (IntKind.wrap .i64 ((Y2.Pl.length:Int) * (Y2.Pl.length:Int))).toNat false) (by exact Nat.lt_succ_self _)
def ZC (Y2:Gm) (Yk:Int) (Yf:(List (List Int))):Nat→Int→(List (List Int))→(List (List Int))
  | 0,_,_=>default
  | k + 1,Yp,Y4=>(cond (decide (Yp < (Y2.Pl.length:Int)))
    (cond ((Zp Y2).getD ((IntKind.wrap .i64 ((IntKind.wrap .i64 (Yk * (Y2.Pl.length:Int))) + Yp)).toNat) default)
      (ZC Y2 Yk Yf k (Yp + 1) (Y4 ++ [[Yk,Yp]]))
      (ZC Y2 Yk Yf k (Yp + 1) Y4))
    Y4)
def Z2T (Y2:Gm) (Yk:Int) (Yf:(List (List Int))) (r:(List (List Int))):Ex × St:=((.exit 6),⟨.ref (Gm.c Y2) 0 :: .any :: .nils :: .i .i64 (Y2.Pl.length:Int) :: .own 0 :: an 5 (.own 1 :: .i .i64 Yk :: .any :: .ref (Gm.c Y2) 0 :: .ref (Gm.c Y2) 0 :: .ref (Gm.c Y2) 0 :: .sl (Y2.Pl.map Gv.c) :: .i .i64 (Y2.Pl.length:Int) :: .i .i64 (Y2.Pl.length:Int) :: .i .i64 (Y2.Pl.length:Int) :: .i .i64 (IntKind.wrap .i64 ((Y2.Pl.length:Int) * (Y2.Pl.length:Int))) :: .own 0 :: an 42 (.i .i64 Yk :: .i .i64 (Y2.Pl.length:Int) :: .b (decide (Yk < (Y2.Pl.length:Int))) :: .any :: .any :: .i .i64 Yk :: .i .i64 (Yk + 1) :: an 20 [])),[.vec 4 1 ((Zp Y2).map cB) false, .nest 79 (r.map fun l=>l.map (cI .i64)) false]⟩)
def Z3R (Y2:Gm) (Yk:Int) (Yf:(List (List Int))) (Yp:Int) (Y4:(List (List Int))):St:=⟨.ref (Gm.c Y2) 0 :: .any :: .nils :: .i .i64 (Y2.Pl.length:Int) :: .own 0 :: an 5 (.own 1 :: .i .i64 Yk :: .i .i64 Yp :: .ref (Gm.c Y2) 0 :: .ref (Gm.c Y2) 0 :: .ref (Gm.c Y2) 0 :: .sl (Y2.Pl.map Gv.c) :: .i .i64 (Y2.Pl.length:Int) :: .i .i64 (Y2.Pl.length:Int) :: .i .i64 (Y2.Pl.length:Int) :: .i .i64 (IntKind.wrap .i64 ((Y2.Pl.length:Int) * (Y2.Pl.length:Int))) :: .own 0 :: an 42 (.i .i64 Yk :: .i .i64 (Y2.Pl.length:Int) :: .b (decide (Yk < (Y2.Pl.length:Int))) :: .any :: .any :: .i .i64 Yk :: .i .i64 (Yk + 1) :: an 20 [])),[.vec 4 1 ((Zp Y2).map cB) false, .nest 79 (Y4.map fun l=>l.map (cI .i64)) false]⟩
def Z2B:List Bool:=(mR false [0,1,1,3,5,12,42,3,2,2,20])
def Z4Q:List Bool:=(mR false [0,1,1,3,5,2,1,9,42,3,2,2,20])
set_option maxHeartbeats 1000000 in
theorem Z5c (Y2:Gm) (Yk:Int) (Yf:(List (List Int))) (hp0:Y2.Pl.length≤1073741824) (hp1:Y2.Tr.length≤1073741824) (hp2:∀ t∈Y2.Tr,t.length≤1073741824) (hp3:OkE Y2.Pl.length Y2.Tr) (Z23:0≤Yk) (Z24:(Yf.length:Int)≤64 * Yk) (Z25:(decide (Yk < (Y2.Pl.length:Int)))=true):∀ (k:Nat) (Yp:Int) (Y4:(List (List Int))) (Z3u:Yk < Yp) (Z3v:(Y4.length:Int)≤(Yf.length:Int) + Yp) (hk:((Y2.Pl.length:Int) - Yp).toNat < k),Lp prog 0 (sub (X0 f66) [1,1,1,1,1,0,1,0,0,1,0,0,1,0,0]) (Z3R Y2 Yk Yf Yp Y4) (Z2T Y2 Yk Yf (ZC Y2 Yk Yf k Yp Y4)).1 (Z2T Y2 Yk Yf (ZC Y2 Yk Yf k Yp Y4)).2:=by
 intro k
 induction k with
 | zero=>intro Yp Y4 Z3u Z3v hk;exact absurd hk (Nat.not_lt_zero _)
 | succ k ih =>
  intro Yp Y4 Z3u Z3v hk
  cases Yy:(decide (Yp < (Y2.Pl.length:Int))) with
  | true =>
   have YT:=odt Yy
   have Y11:(0:Int)≤(IntKind.wrap .i64 ((IntKind.wrap .i64 (Yk * (Y2.Pl.length:Int))) + Yp)):=(by ((have:=hp3.1;have g4:=odt Z25;(have q2:=ix2F (n:=(Y2.Pl.length:Int)) (a:=Yk) (b:=Yp) (by omega) (by omega) (by omega) (by omega) (by omega);omega))))
   have Y12:(IntKind.wrap .i64 ((IntKind.wrap .i64 (Yk * (Y2.Pl.length:Int))) + Yp)) < ((Zp Y2).length:Int):=(by ((have:=hp3.1;have g4:=odt Z25;(have q2:=ix2F (n:=(Y2.Pl.length:Int)) (a:=Yk) (b:=Yp) (by omega) (by omega) (by omega) (by omega) (by omega);(simp only [Z44,List.length_replicate];omega)))))
   have YU:(IntKind.wrap .i64 ((IntKind.wrap .i64 (Yk * (Y2.Pl.length:Int))) + Yp)).toNat < (Zp Y2).length:=(by omega)
   have p {a C} (s:Scr a C):=sB Yy<|sW .i64 (Yk * (Y2.Pl.length:Int))<|sW .i64 ((IntKind.wrap .i64 (Yk * (Y2.Pl.length:Int))) + Yp)<|sX cB (Zp Y2) (IntKind.wrap .i64 ((IntKind.wrap .i64 (Yk * (Y2.Pl.length:Int))) + Yp)) Y11 Y12<|sV cB (Zp Y2) ((IntKind.wrap .i64 ((IntKind.wrap .i64 (Yk * (Y2.Pl.length:Int))) + Yp)).toNat) YU<|s
   cases YJ:((Zp Y2).getD ((IntKind.wrap .i64 ((IntKind.wrap .i64 (Yk * (Y2.Pl.length:Int))) + Yp)).toNat) default) with
   | true =>
    have YQ:Y4.length + [[Yk,Yp]].length≤1073741824:=by clear p;exact (by ((have:=hp3.1;have g4:=odt Z25;(simp only [List.length_append,List.length_cons,List.length_nil];omega))))
    have Y13:(-9223372036854775808:Int)≤(Yp + 1):=by clear p;exact (by omega)
    have Y18:(Yp + 1)≤(9223372036854775807:Int):=by clear p;exact (by omega)
    have e:ZC Y2 Yk Yf (k + 1) Yp Y4=(ZC Y2 Yk Yf k (Yp + 1) (Y4 ++ [[Yk,Yp]])):=by simp only [ZC,Yy,YJ,cond_true]
    rw [e]
    exact XZ E0Ok Z5 [] Z2B [0,1] (⟨.ref (Gm.c Y2) 0 :: .any :: .nils :: .i .i64 (Y2.Pl.length:Int) :: .own 0 :: an 5 (.own 1 :: .i .i64 Yk :: .i .i64 (Yp + 1) :: .ref (Gm.c Y2) 0 :: .ref (Gm.c Y2) 0 :: .ref (Gm.c Y2) 0 :: .sl (Y2.Pl.map Gv.c) :: .i .i64 (Y2.Pl.length:Int) :: .i .i64 (Y2.Pl.length:Int) :: .i .i64 (Y2.Pl.length:Int) :: .i .i64 (IntKind.wrap .i64 ((Y2.Pl.length:Int) * (Y2.Pl.length:Int))) :: .own 0 :: an 42 (.i .i64 Yk :: .i .i64 (Y2.Pl.length:Int) :: .b (decide (Yk < (Y2.Pl.length:Int))) :: .any :: .any :: .i .i64 Yk :: .i .i64 (Yk + 1) :: an 20 [])),[.vec 4 1 ((Zp Y2).map cB) false, .nest 79 ((Y4.map fun l=>l.map (cI .i64)) ++ [([[.i .i64 Yk],[.i .i64 Yp]]:List (List AV))]) false]⟩) (p (sB YJ<|sC (show (Y4.map fun l=>l.map (cI .i64)).length + [([[.i .i64 Yk],[.i .i64 Yp]]:List (List AV))].length≤1073741824 from (by simpa using YQ))<|sI (Yp + 1) Y13 Y18<|sN)) (by kernel_rfl) (by simp [Z3R,cL,cI,cB]) (ih (Yp + 1) (Y4 ++ [[Yk,Yp]]) (show Yk < (Yp + 1) from (by omega)) (show ((Y4 ++ [[Yk,Yp]]).length:Int)≤(Yf.length:Int) + (Yp + 1) from (by ((have:=hp3.1;have g4:=odt Z25;(simp only [List.length_append,List.length_cons,List.length_nil];omega))))) (by omega))
   | false =>
    have YQ:(-9223372036854775808:Int)≤(Yp + 1):=by clear p;exact (by omega)
    have Y13:(Yp + 1)≤(9223372036854775807:Int):=by clear p;exact (by omega)
    have e:ZC Y2 Yk Yf (k + 1) Yp Y4=(ZC Y2 Yk Yf k (Yp + 1) Y4):=by simp only [ZC,Yy,YJ,cond_true,cond_false]
    rw [e]
    exact XM E0Ok Z5 [] Z2B [0,1] (ih (Yp + 1) Y4 (show Yk < (Yp + 1) from (by omega)) (show (Y4.length:Int)≤(Yf.length:Int) + (Yp + 1) from (by omega)) (by omega)) (p (sB YJ<|sI (Yp + 1) YQ Y13<|sN)) (by kernel_rfl)
  | false =>
   have YT:=odf Yy
   have e:ZC Y2 Yk Yf (k + 1) Yp Y4=Y4:=by simp only [ZC,Yy,cond_false]
   rw [e]
   exact outR (e:=(.exit 6)) E0Ok Z5 [] Z4Q [0,1] (sB Yy<|sN) (by kernel_rfl) (by intro h;cases h)
def Z1g (Y2:Gm) (Yk:Int) (Yf:(List (List Int))):(List (List Int)):=(ZC Y2 Yk Yf (((Y2.Pl.length:Int) - (Yk + 1)).toNat + 1) (Yk + 1) Yf)
theorem Z6Z (m:Gm) (a:Int) (r1:List (List Int)):∀ (k:Nat) (b:Int) (r:List (List Int)),(ZC m a r1 k b r).length≤r.length + k:=by
  intro k
  induction k with
  | zero=>intro b r;exact Nat.zero_le _
  | succ k ih =>
    intro b r
    rw [ZC]
    cases decide (b < (m.Pl.length:Int)) with
    | false=>rw [cond_false];omega
    | true =>
      rw [cond_true]
      cases ((Zp m).getD ((IntKind.wrap .i64 ((IntKind.wrap .i64 (a * (m.Pl.length:Int))) + b)).toNat) default) with
      | true=>rw [cond_true];have:=ih (b + 1) (r ++ [[a,b]]);simp only [List.length_append,List.length_cons,List.length_nil] at this;omega
      | false=>rw [cond_false];have:=ih (b + 1) r;omega
def Z17 (Y2:Gm):Nat→Int→(List (List Int))→(List (List Int))
  | 0,_,_=>default
  | k + 1,Yk,Yf=>(cond (decide (Yk < (Y2.Pl.length:Int)))
    (Z17 Y2 k (Yk + 1) (Z1g Y2 Yk Yf))
    Yf)
def Z2U (Y2:Gm) (r:(List (List Int))):Ex × St:=((.exit 4),⟨.ref (Gm.c Y2) 0 :: .any :: .nils :: .i .i64 (Y2.Pl.length:Int) :: .own 0 :: an 5 (.own 1 :: .any :: .any :: .ref (Gm.c Y2) 0 :: .ref (Gm.c Y2) 0 :: .ref (Gm.c Y2) 0 :: .sl (Y2.Pl.map Gv.c) :: .i .i64 (Y2.Pl.length:Int) :: .i .i64 (Y2.Pl.length:Int) :: .i .i64 (Y2.Pl.length:Int) :: .i .i64 (IntKind.wrap .i64 ((Y2.Pl.length:Int) * (Y2.Pl.length:Int))) :: .own 0 :: an 69 []),[.vec 4 1 ((Zp Y2).map cB) false, .nest 79 (r.map fun l=>l.map (cI .i64)) false]⟩)
def Z3S (Y2:Gm) (Yk:Int) (Yf:(List (List Int))):St:=⟨.ref (Gm.c Y2) 0 :: .any :: .nils :: .i .i64 (Y2.Pl.length:Int) :: .own 0 :: an 5 (.own 1 :: .i .i64 Yk :: .any :: .ref (Gm.c Y2) 0 :: .ref (Gm.c Y2) 0 :: .ref (Gm.c Y2) 0 :: .sl (Y2.Pl.map Gv.c) :: .i .i64 (Y2.Pl.length:Int) :: .i .i64 (Y2.Pl.length:Int) :: .i .i64 (Y2.Pl.length:Int) :: .i .i64 (IntKind.wrap .i64 ((Y2.Pl.length:Int) * (Y2.Pl.length:Int))) :: .own 0 :: an 69 []),[.vec 4 1 ((Zp Y2).map cB) false, .nest 79 (Yf.map fun l=>l.map (cI .i64)) false]⟩
theorem Z5d (Y2:Gm) (hp0:Y2.Pl.length≤1073741824) (hp1:Y2.Tr.length≤1073741824) (hp2:∀ t∈Y2.Tr,t.length≤1073741824) (hp3:OkE Y2.Pl.length Y2.Tr):∀ (k:Nat) (Yk:Int) (Yf:(List (List Int))) (Z23:0≤Yk) (Z24:(Yf.length:Int)≤64 * Yk) (hk:((Y2.Pl.length:Int) - Yk).toNat < k),Lp prog 0 (sub (X0 f66) [1,1,1,1,1,0,1,0,0]) (Z3S Y2 Yk Yf) (Z2U Y2 (Z17 Y2 k Yk Yf)).1 (Z2U Y2 (Z17 Y2 k Yk Yf)).2:=by
 intro k
 induction k with
 | zero=>intro Yk Yf Z23 Z24 hk;exact absurd hk (Nat.not_lt_zero _)
 | succ k ih =>
  intro Yk Yf Z23 Z24 hk
  cases Yj:(decide (Yk < (Y2.Pl.length:Int))) with
  | true =>
   have Yt:=odt Yj
   have YE:(-9223372036854775808:Int)≤(Yk + 1):=(by omega)
   have YC:(Yk + 1)≤(9223372036854775807:Int):=(by omega)
   have e:Z17 Y2 (k + 1) Yk Yf=(Z17 Y2 k (Yk + 1) (Z1g Y2 Yk Yf)):=by simp only [Z17,Yj,cond_true]
   rw [e]
   exact XM E0Ok Z5 [] (mR false [0,1,1,3,5,2,1,9,69]) [0,1] (ih (Yk + 1) (Z1g Y2 Yk Yf) (show 0≤(Yk + 1) from (by omega)) (show ((Z1g Y2 Yk Yf).length:Int)≤64 * (Yk + 1) from (by ((have:=hp3.1;have g4:=odt Yj;have q:=Z6Z Y2 Yk Yf (((Y2.Pl.length:Int) - (Yk + 1)).toNat + 1) (Yk + 1) Yf;unfold Z1g;omega)))) (by omega)) (sB Yj<|sI (Yk + 1) YE YC<|sL Z2B 2 (X7 (Z2T Y2 Yk Yf) (x:=(Z1g Y2 Yk Yf)) (Z5c Y2 Yk Yf hp0 hp1 hp2 hp3 Z23 Z24 Yj (((Y2.Pl.length:Int) - (Yk + 1)).toNat + 1) (Yk + 1) Yf (show Yk < (Yk + 1) from (by omega)) (show (Yf.length:Int)≤(Yf.length:Int) + (Yk + 1) from (by omega)) (Nat.lt_succ_self _)) rfl)<|sI (Yk + 1) YE YC<|sN) (by kernel_rfl)
  | false =>
   have Yt:=odf Yj
   have e:Z17 Y2 (k + 1) Yk Yf=Yf:=by simp only [Z17,Yj,cond_false]
   rw [e]
   exact outR (e:=(.exit 4)) E0Ok Z5 [] (mR false [0,1,1,3,5,1,2,9,69]) [0,1] (sB Yj<|sN) (by kernel_rfl) (by intro h;cases h)
def Z26 (Y2:Gm):(List (List Int)):=(Z17 Y2 (((Y2.Pl.length:Int) - 0).toNat + 1) 0 ([]:List (List Int)))
def Z1S (Y2:Gm):(List (List Int)):=(Z26 Y2)
theorem Z6O (m:Gm) (i:Int) (r:List Bool):ZU m i r=((r.set (IntKind.wrap .i64 (IntKind.wrap .i64 (Z1c ((m.Tr.getD i.toNat default).getD 0 default) ((m.Tr.getD i.toNat default).getD 1 default) * (m.Pl.length:Int)) + Z1d ((m.Tr.getD i.toNat default).getD 0 default) ((m.Tr.getD i.toNat default).getD 1 default))).toNat true).set (IntKind.wrap .i64 (IntKind.wrap .i64 (Z1c ((m.Tr.getD i.toNat default).getD 1 default) ((m.Tr.getD i.toNat default).getD 2 default) * (m.Pl.length:Int)) + Z1d ((m.Tr.getD i.toNat default).getD 1 default) ((m.Tr.getD i.toNat default).getD 2 default))).toNat true).set (IntKind.wrap .i64 (IntKind.wrap .i64 (Z1c ((m.Tr.getD i.toNat default).getD 2 default) ((m.Tr.getD i.toNat default).getD 0 default) * (m.Pl.length:Int)) + Z1d ((m.Tr.getD i.toNat default).getD 2 default) ((m.Tr.getD i.toNat default).getD 0 default))).toNat true:=by
  have one:∀ (r0:List Bool) (k:Nat) (x:Int) (s:List Bool),x < 3→Zs m i r0 (k + 1) x s=Zs m i r0 k (x + 1) (s.set (IntKind.wrap .i64 (IntKind.wrap .i64 (ZF m i x * (m.Pl.length:Int)) + ZH m i x)).toNat true):=by
    intro r0 k x s hx
    rw [Zs,decide_eq_true hx,cond_true]
  unfold ZU
  show Zs m i r 4 0 r=_
  rw [one r 3 0 r (by omega),one r 2 (0 + 1) _ (by omega),one r 1 (0 + 1 + 1) _ (by omega),Zs]
  show cond (decide ((3:Int) < 3)) _ _=_
  rw [decide_eq_false (by omega),cond_false]
  rfl
theorem Z6P (m:Gm) (ok:OkE m.Pl.length m.Tr) {a b:Int} (ha:0≤a) (hab:a < b) (hb:b < (m.Pl.length:Int)):∀ (k:Nat) (i:Nat) (r:List Bool),i≤m.Tr.length→((m.Tr.length:Int) - i).toNat < k→r.length=(IntKind.wrap .i64 ((m.Pl.length:Int) * (m.Pl.length:Int))).toNat →
    (ZB m k i r).getD (IntKind.wrap .i64 (IntKind.wrap .i64 (a * (m.Pl.length:Int)) + b)).toNat default=(r.getD (IntKind.wrap .i64 (IntKind.wrap .i64 (a * (m.Pl.length:Int)) + b)).toNat default || (m.Tr.drop i).any fun t=>tHas t a b):=by
  intro k
  induction k with
  | zero=>intro i r _ hk;exact absurd hk (Nat.not_lt_zero _)
  | succ k ih =>
    intro i r hle hk hr
    rw [ZB]
    by_cases hi:(i:Int) < (m.Tr.length:Int)
    · have hn:i < m.Tr.length:=by omega
      rw [decide_eq_true hi,cond_true]
      have:=ih (i + 1) (ZU m i r) (by omega) (by omega) (by rw [Z43];exact hr)
      rw [show ((i:Int) + 1)=((i + 1:Nat):Int) from by omega,this,Z6O,List.drop_eq_getElem_cons hn,List.any_cons]
      have hg:m.Tr.getD ((i:Nat):Int).toNat default=m.Tr[i]:=by rw [show ((i:Nat):Int).toNat=i from by omega,List.getD_eq_getElem?_getD,List.getElem?_eq_getElem hn];rfl
      obtain ⟨x,y,z,ht,r1,r2,r3,n1,n2,n3⟩:=ok.2.2 _ (List.getElem_mem hn)
      have h64:(m.Pl.length:Int)≤64:=by have:=ok.1;omega
      rw [hg,ht]
      simp only [List.getD_cons_zero,List.getD_cons_succ]
      rw [X3A h64 (Z4M z x) (Z4i r3 r1) (Z4j r3 r1) ha hab hb (by simpa using hr),X3A h64 (Z4M y z) (Z4i r2 r3) (Z4j r2 r3) ha hab hb (by simpa using hr),X3A h64 (Z4M x y) (Z4i r1 r2) (Z4j r1 r2) ha hab hb hr]
      have hT:=X5L n1 n2 n3 hab
      unfold tE at hT
      simp only [List.getD_cons_zero,List.getD_cons_succ,List.mem_cons,List.not_mem_nil,or_false] at hT
      generalize r.getD (IntKind.wrap .i64 (IntKind.wrap .i64 (a * (m.Pl.length:Int)) + b)).toNat default=q
      generalize ((m.Tr.drop (i + 1)).any fun t=>tHas t a b)=q2
      have hB:tHas [x,y,z] a b=(decide ((⟨a,b⟩:Gedge)=mkE x y) || (decide ((⟨a,b⟩:Gedge)=mkE y z) || decide ((⟨a,b⟩:Gedge)=mkE z x))):=by
        rw [Bool.eq_iff_iff,← hT];simp only [Bool.or_eq_true,decide_eq_true_eq]
      rw [hB]
      cases decide ((⟨a,b⟩:Gedge)=mkE x y)<;>cases decide ((⟨a,b⟩:Gedge)=mkE y z)<;>cases decide ((⟨a,b⟩:Gedge)=mkE z x)<;>cases q<;>cases q2<;>rfl
    · rw [decide_eq_false hi,cond_false,List.drop_eq_nil_of_le (by omega)];simp
theorem Z70 (m:Gm) (ok:OkE m.Pl.length m.Tr) {a b:Int} (ha:0≤a) (hab:a < b) (hb:b < (m.Pl.length:Int)) :
    (Zp m).getD (IntKind.wrap .i64 (IntKind.wrap .i64 (a * (m.Pl.length:Int)) + b)).toNat default=m.Tr.any fun t=>tHas t a b:=by
  unfold Zp
  have:=Z6P m ok ha hab hb (((m.Tr.length:Int) - 0).toNat + 1) 0 (List.replicate (IntKind.wrap .i64 ((m.Pl.length:Int) * (m.Pl.length:Int))).toNat false) (Nat.zero_le _) (by omega) (by simp)
  rw [List.drop_zero] at this
  refine this.trans ?_
  rw [List.getD_eq_getElem?_getD,List.getElem?_replicate]
  split<;>simp
theorem Z6n (m:Gm) (ok:OkE m.Pl.length m.Tr):Z1S m=(edgL m.Pl.length m.Tr).map e2:=by
  rw [X7z]
  unfold Z1S Z26
  refine X7a (n:=m.Pl.length) (p:=fun a b=>m.Tr.any fun t=>tHas t a b) (g:=fun a b=>e2 ⟨a,b⟩) (lo:=Z17 m) (li:=Z1g m) (fun k a r=>rfl) (fun a r ha => ?_) _ 0 (Nat.zero_le _) (by omega)
  unfold Z1g
  have hf:=X77 (n:=(m.Pl.length:Int)) (f:=fun b => !((Zp m).getD ((IntKind.wrap .i64 ((IntKind.wrap .i64 ((a:Int) * (m.Pl.length:Int))) + b)).toNat) default)) (g:=fun b => [(a:Int),b]) (lo:=ZC m a r) (fun k i r'=>by
    rw [ZC]
    cases ((Zp m).getD ((IntKind.wrap .i64 ((IntKind.wrap .i64 ((a:Int) * (m.Pl.length:Int))) + i)).toNat) default)<;>rfl) (((m.Pl.length:Int) - ((a:Int) + 1)).toNat + 1) ((a:Int) + 1) r (Nat.lt_succ_self _)
  rw [hf,show ((m.Pl.length:Int) - ((a:Int) + 1)).toNat=m.Pl.length - (a + 1) from by omega]
  congr 1
  have hfc:((List.range (m.Pl.length - (a + 1))).filter fun (j:Nat) => !(!((Zp m).getD ((IntKind.wrap .i64 ((IntKind.wrap .i64 ((a:Int) * (m.Pl.length:Int))) + ((a:Int) + 1 + (j:Int)))).toNat) default)))=(List.range (m.Pl.length - (a + 1))).filter fun (j:Nat)=>m.Tr.any fun t=>tHas t a ((a:Int) + 1 + j):=by
    refine List.filter_congr fun j hj => ?_
    rw [List.mem_range] at hj
    rw [Bool.not_not,Z70 m ok (by omega) (by omega) (by omega)]
  rw [hfc]
  rfl
theorem Z5I (Y2:Gm) (hp0:Y2.Pl.length≤1073741824) (hp1:Y2.Tr.length≤1073741824) (hp2:∀ t∈Y2.Tr,t.length≤1073741824) (hp3:OkE Y2.Pl.length Y2.Tr)  : Fn prog 66 [.ref (Gm.c Y2) 0] (.own 0) [.nest 79 ((Z1S Y2).map fun l=>l.map (cI .i64)) false]:=by
 have y0:(0:Int)≤(IntKind.wrap .i64 ((Y2.Pl.length:Int) * (Y2.Pl.length:Int))):=(by (have q2:=ixN hp3.1;omega))
 have y1:((IntKind.wrap .i64 ((Y2.Pl.length:Int) * (Y2.Pl.length:Int))):Int)≤2147483648:=(by (have q2:=ixN hp3.1;omega))
 refine fnS E0Ok Z5 (c:=X0 f66) [] (.own 0) [.nest 79 ((Z26 Y2).map fun l=>l.map (cI .i64)) false] func66 (sZ Gv.c Y2.Pl<|sW .i64 ((Y2.Pl.length:Int) * (Y2.Pl.length:Int))<|sC (show (IntKind.wrap .i64 ((Y2.Pl.length:Int) * (Y2.Pl.length:Int)))=(IntKind.wrap .i64 ((Y2.Pl.length:Int) * (Y2.Pl.length:Int))) from rfl)<|sC y0<|sC y1<|sL (mR false [0,1,1,4,7,9,69]) 1 (X1I (st2:=⟨.ref (Gm.c Y2) 0 :: .any :: .nils :: .i .i64 (Y2.Pl.length:Int) :: .own 0 :: .i .i64 0 :: an 7 (.ref (Gm.c Y2) 0 :: .ref (Gm.c Y2) 0 :: .ref (Gm.c Y2) 0 :: .sl (Y2.Pl.map Gv.c) :: .i .i64 (Y2.Pl.length:Int) :: .i .i64 (Y2.Pl.length:Int) :: .i .i64 (Y2.Pl.length:Int) :: .i .i64 (IntKind.wrap .i64 ((Y2.Pl.length:Int) * (Y2.Pl.length:Int))) :: .own 0 :: an 69 []),[.vec 4 1 (List.replicate (Int.toNat (IntKind.wrap .i64 ((Y2.Pl.length:Int) * (Y2.Pl.length:Int)))) [.b false]) false]⟩) (X7 (Z2S Y2) (x:=(Zp Y2)) (Z5b Y2 hp0 hp1 hp2 hp3 (((Y2.Tr.length:Int) - 0).toNat + 1) 0 (List.replicate (IntKind.wrap .i64 ((Y2.Pl.length:Int) * (Y2.Pl.length:Int))).toNat false) (show 0≤0 from (by omega)) (show (List.replicate (IntKind.wrap .i64 ((Y2.Pl.length:Int) * (Y2.Pl.length:Int))).toNat false).length=(IntKind.wrap .i64 ((Y2.Pl.length:Int) * (Y2.Pl.length:Int))).toNat from (by simp)) (Nat.lt_succ_self _)) rfl) (by simp [Z3Q,cB]))<|sL (mR false [0,1,1,3,5,2,1,9,69]) 2 (X1I (st2:=⟨.ref (Gm.c Y2) 0 :: .any :: .nils :: .i .i64 (Y2.Pl.length:Int) :: .own 0 :: an 5 (.own 1 :: .i .i64 0 :: .any :: .ref (Gm.c Y2) 0 :: .ref (Gm.c Y2) 0 :: .ref (Gm.c Y2) 0 :: .sl (Y2.Pl.map Gv.c) :: .i .i64 (Y2.Pl.length:Int) :: .i .i64 (Y2.Pl.length:Int) :: .i .i64 (Y2.Pl.length:Int) :: .i .i64 (IntKind.wrap .i64 ((Y2.Pl.length:Int) * (Y2.Pl.length:Int))) :: .own 0 :: an 69 []),[.vec 4 1 ((Zp Y2).map cB) false, .nest 79 [] false]⟩) (X7 (Z2U Y2) (x:=(Z26 Y2)) (Z5d Y2 hp0 hp1 hp2 hp3 (((Y2.Pl.length:Int) - 0).toNat + 1) 0 ([]:List (List Int)) (show 0≤0 from (by omega)) (show (([]:List (List Int)).length:Int)≤64 * 0 from (by simp)) (Nat.lt_succ_self _)) rfl) (by simp [Z3S,cL,cI]))<|sK [1] sN) rfl (by kernel_rfl) (by kernel_rfl) rfl ?_ ?_
 · rfl
 · simp [Z1S]
def Z3d (Yd:(List Int)):(List Int):=(([]:List Int) ++ Yd)
theorem Z64 (Yd:(List Int)) (hp0:Yd.length≤1073741824)  : Fn prog 96 [.sl (Yd.map (cI .i64))] (.own 0) [.vec 2 1 ((Z3d Yd).map (cI .i64)) false]:=by
 have y0:([]:List Int).length + Yd.length≤1073741824:=(by simp_all<;>omega)
 refine fnS E0Ok Z5 (c:=X0 f96) [] (.own 0) [.vec 2 1 (([]:List (List AV)) ++ (Yd.map (cI .i64))) false] func96 (sC (show ([]:List (List AV)).length + (Yd.map (cI .i64)).length≤1073741824 from (by simpa using y0))<|sC (show (Yd.map (cI .i64)).all (fun cs=>cs.length == 1 && cs.all isS)=true from (X6Z (fun _=>rfl)))<|sK [0] sN) rfl (by kernel_rfl) (by kernel_rfl) rfl ?_ ?_
 · rfl
 · simp [Z3d,cI]
@[simp] theorem Z6G (l:List Int):Z3d l=l:=by simp [Z3d]
theorem Z65 (Yd:(List Int)) (hp0:Yd.length≤1073741824):Fn prog 96 [.sl (Yd.map (cI .i64))] (.own 0) [.vec 2 1 (Yd.map (cI .i64)) false]:=by
 simpa only [Z6G] using Z64  Yd hp0
def Z1h (Y2:Gm):Nat→Int→(List (List Int))→(List (List Int))
  | 0,_,_=>default
  | k + 1,Y5,YA=>(cond (decide (Y5 < (Y2.Tr.length:Int)))
    (Z1h Y2 k (Y5 + 1) (YA ++ [(Y2.Tr.getD Y5.toNat default)]))
    YA)
def Z3h (Y2:Gm) (r:(List (List Int))):Ex × St:=((.exit 0),⟨.ref (Gm.c Y2) 0 :: .any :: .ptr 0 0 0 :: .ptr 1 0 0 :: .any :: .any :: .ref (Gm.c Y2) 0 :: .ref (Gm.c Y2) 0 :: .ref (Gm.c Y2) 0 :: .sl (Y2.Pl.map Gv.c) :: .own 2 :: an 25 [],[.box 35 [.nils, .nils], .box 35 [.own 2, .own 3], .vec 62 3 (([]:List (List AV)) ++ (Y2.Pl.map Gv.c)) false, .nest 79 (r.map fun l=>l.map (cI .i64)) false]⟩)
def Z3i (Y2:Gm) (Y5:Int) (YA:(List (List Int))):St:=⟨.ref (Gm.c Y2) 0 :: .any :: .ptr 0 0 0 :: .ptr 3 0 0 :: .i .i64 Y5 :: .any :: .ref (Gm.c Y2) 0 :: .ref (Gm.c Y2) 0 :: .ref (Gm.c Y2) 0 :: .sl (Y2.Pl.map Gv.c) :: .own 1 :: an 25 [],[.box 35 [.nils, .nils], .vec 62 3 (([]:List (List AV)) ++ (Y2.Pl.map Gv.c)) false, .nest 79 (YA.map fun l=>l.map (cI .i64)) false, .box 35 [.own 1, .own 2]]⟩
theorem Z5y (Y2:Gm) (hp0:Y2.Pl.length≤1073741824) (hp1:Y2.Tr.length≤1073741824) (hp2:∀ t∈Y2.Tr,t.length≤1073741824):∀ (k:Nat) (Y5:Int) (YA:(List (List Int))) (Z3T:0≤Y5) (Z3U:(YA.length:Int)=Y5) (hk:((Y2.Tr.length:Int) - Y5).toNat < k),Lp prog 0 (sub (X0 f46) [1,1,0,1,0,0]) (Z3i Y2 Y5 YA) (Z3h Y2 (Z1h Y2 k Y5 YA)).1 (Z3h Y2 (Z1h Y2 k Y5 YA)).2:=by
 intro k
 induction k with
 | zero=>intro Y5 YA Z3T Z3U hk;exact absurd hk (Nat.not_lt_zero _)
 | succ k ih =>
  intro Y5 YA Z3T Z3U hk
  have p {a C} (s:Scr a C):=sZ (cL (cI .i64)) Y2.Tr<|s
  cases Yj:(decide (Y5 < (Y2.Tr.length:Int))) with
  | true =>
   have Yt:=odt Yj
   have YE:(0:Int)≤Y5:=by clear p;exact (by assumption)
   have YC:Y5 < (Y2.Tr.length:Int):=by clear p;exact (by assumption)
   have YI:(Y2.Tr.getD Y5.toNat default).length≤1073741824:=by clear p;exact (by simp_all<;>omega)
   have YL:YA.length + [(Y2.Tr.getD Y5.toNat default)].length≤1073741824:=by clear p;exact (by simp_all<;>omega)
   have YO:(-9223372036854775808:Int)≤(Y5 + 1):=by clear p;exact (by omega)
   have YS:(Y5 + 1)≤(9223372036854775807:Int):=by clear p;exact (by omega)
   have e:Z1h Y2 (k + 1) Y5 YA=(Z1h Y2 k (Y5 + 1) (YA ++ [(Y2.Tr.getD Y5.toNat default)])):=by simp only [Z1h,Yj,cond_true]
   rw [e]
   exact XZ E0Ok Z5 [] (mR false [0,1,1,3,1,5,25]) [0,1,2,3] (⟨.ref (Gm.c Y2) 0 :: .any :: .ptr 0 0 0 :: .ptr 3 0 0 :: .i .i64 (Y5 + 1) :: .any :: .ref (Gm.c Y2) 0 :: .ref (Gm.c Y2) 0 :: .ref (Gm.c Y2) 0 :: .sl (Y2.Pl.map Gv.c) :: .own 1 :: an 25 [],[.box 35 [.nils, .nils], .vec 62 3 (([]:List (List AV)) ++ (Y2.Pl.map Gv.c)) false, .nest 79 ((YA.map fun l=>l.map (cI .i64)) ++ [((Y2.Tr.getD Y5.toNat default).map (cI .i64))]) false, .box 35 [.own 1, .own 2]]⟩) (p (sB Yj<|sK [11,11]<|sG (cL (cI .i64)) Y2.Tr Y5 YE YC<|sF (Z65 (Y2.Tr.getD Y5.toNat default) YI)<|sC (show (YA.map fun l=>l.map (cI .i64)).length + [((Y2.Tr.getD Y5.toNat default).map (cI .i64))].length≤1073741824 from (by simpa using YL))<|sI (Y5 + 1) YO YS<|sN)) (by kernel_rfl) (by simp [Z3i,Gv.c,cL,cI]) (ih (Y5 + 1) (YA ++ [(Y2.Tr.getD Y5.toNat default)]) (show 0≤(Y5 + 1) from (by omega)) (show ((YA ++ [(Y2.Tr.getD Y5.toNat default)]).length:Int)=(Y5 + 1) from (by simp_all<;>omega)) (by omega))
  | false =>
   have Yt:=odf Yj
   have e:Z1h Y2 (k + 1) Y5 YA=YA:=by simp only [Z1h,Yj,cond_false]
   rw [e]
   exact outR (e:=(.exit 0)) E0Ok Z5 [] (mR false [0,1,1,2,2,5,25]) [0,3,1,2] (p (sB Yj<|sN)) (by kernel_rfl) (by intro h;cases h)
def Z2n (Y2:Gm):(List (List Int)):=(Z1h Y2 (((Y2.Tr.length:Int) - 0).toNat + 1) 0 ([]:List (List Int)))
def Z2D (Y2:Gm):Gm:=(⟨(([]:List Gv) ++ Y2.Pl),(Z2n Y2)⟩:Gm)
theorem Z66 (Y2:Gm) (hp0:Y2.Pl.length≤1073741824) (hp1:Y2.Tr.length≤1073741824) (hp2:∀ t∈Y2.Tr,t.length≤1073741824)  : Fn prog 46 [.ref (Gm.c Y2) 0] (.agg [.own 0, .own 1]) [.vec 62 3 (((Z2D Y2).Pl).map Gv.c) false, .nest 79 (((Z2D Y2).Tr).map fun l=>l.map (cI .i64)) false]:=by
 have y0:([]:List Gv).length + Y2.Pl.length≤1073741824:=(by simp_all<;>omega)
 refine fnS E0Ok Z5 (c:=X0 f46) [] (.agg [.own 0, .own 1]) [.vec 62 3 (([]:List (List AV)) ++ (Y2.Pl.map Gv.c)) false, .nest 79 ((Z2n Y2).map fun l=>l.map (cI .i64)) false] func46 (sC (show ([]:List (List AV)).length + (Y2.Pl.map Gv.c).length≤1073741824 from (by simpa using y0))<|sC (show (Y2.Pl.map Gv.c).all (fun cs=>cs.length == 3 && cs.all isS)=true from (X6Z (fun _=>rfl)))<|sL (mR false [0,1,1,3,1,5,25]) 4 (X1I (st2:=⟨.ref (Gm.c Y2) 0 :: .any :: .ptr 0 0 0 :: .ptr 3 0 0 :: .i .i64 0 :: .any :: .ref (Gm.c Y2) 0 :: .ref (Gm.c Y2) 0 :: .ref (Gm.c Y2) 0 :: .sl (Y2.Pl.map Gv.c) :: .own 1 :: an 25 [],[.box 35 [.nils, .nils], .vec 62 3 (([]:List (List AV)) ++ (Y2.Pl.map Gv.c)) false, .nest 79 [] false, .box 35 [.own 1, .own 2]]⟩) (X7 (Z3h Y2) (x:=(Z2n Y2)) (Z5y Y2 hp0 hp1 hp2 (((Y2.Tr.length:Int) - 0).toNat + 1) 0 ([]:List (List Int)) (show 0≤0 from (by omega)) (show (([]:List (List Int)).length:Int)=0 from (by simp)) (Nat.lt_succ_self _)) rfl) (by simp [Z3i,Gv.c,cL,cI]))<|sK [2,3] sN) rfl (by kernel_rfl) (by kernel_rfl) rfl ?_ ?_
 · rfl
 · simp [Z2D,Gv.c]
@[simp] theorem Z6H (m:Gm):Z2D m=m:=by
  unfold Z2D Z2n
  rw [X3y (f:=fun i=>(m.Tr.getD i.toNat default)) (n:=(m.Tr.length:Int)) (lo:=Z1h m) (fun k i r=>rfl) _ _ _ (Nat.lt_succ_self _)]
  simp [X60]
theorem Z67 (Y2:Gm) (hp0:Y2.Pl.length≤1073741824) (hp1:Y2.Tr.length≤1073741824) (hp2:∀ t∈Y2.Tr,t.length≤1073741824):Fn prog 46 [.ref (Gm.c Y2) 0] (.agg [.own 0, .own 1]) [.vec 62 3 (Y2.Pl.map Gv.c) false, .nest 79 (Y2.Tr.map fun l=>l.map (cI .i64)) false]:=by
 simpa only [Z6H] using Z66  Y2 hp0 hp1 hp2
def Z3e (Y7:Gv) (Ye:Gv):Gv:=(⟨(fop .add .f32 Y7.X Ye.X),(fop .add .f32 Y7.Y Ye.Y),(fop .add .f32 Y7.Z Ye.Z)⟩:Gv)
theorem Z68 (Y7:Gv) (Ye:Gv)   : Fn prog 47 [.agg [.f .f32 Y7.X, .f .f32 Y7.Y, .f .f32 Y7.Z], .agg [.f .f32 Ye.X, .f .f32 Ye.Y, .f .f32 Ye.Z]] (.agg [.f .f32 ((Z3e Y7 Ye).X), .f .f32 ((Z3e Y7 Ye).Y), .f .f32 ((Z3e Y7 Ye).Z)]) []:=by
 refine fnS E0Ok Z5 (c:=X0 f47) [] (.agg [.f .f32 (fop .add .f32 Y7.X Ye.X), .f .f32 (fop .add .f32 Y7.Y Ye.Y), .f .f32 (fop .add .f32 Y7.Z Ye.Z)]) [] func47 (sK [] sN) rfl (by kernel_rfl) (by kernel_rfl) rfl ?_ ?_
 · rfl
 · rfl
def Z1w (YD:Gv) (YH:Nat):Gv:=(⟨(fop .mul .f32 YD.X YH),(fop .mul .f32 YD.Y YH),(fop .mul .f32 YD.Z YH)⟩:Gv)
theorem Z4w (YD:Gv) (YH:Nat)   : Fn prog 48 [.agg [.f .f32 YD.X, .f .f32 YD.Y, .f .f32 YD.Z], .f .f32 YH] (.agg [.f .f32 ((Z1w YD YH).X), .f .f32 ((Z1w YD YH).Y), .f .f32 ((Z1w YD YH).Z)]) []:=by
 refine fnS E0Ok Z5 (c:=X0 f48) [] (.agg [.f .f32 (fop .mul .f32 YD.X YH), .f .f32 (fop .mul .f32 YD.Y YH), .f .f32 (fop .mul .f32 YD.Z YH)]) [] func48 (sK [] sN) rfl (by kernel_rfl) (by kernel_rfl) rfl ?_ ?_
 · rfl
 · rfl
def Z2K (Y7:Gv) (Ye:Gv):Nat:=(fop .add .f32 (fop .add .f32 (fop .mul .f32 Y7.X Ye.X) (fop .mul .f32 Y7.Y Ye.Y)) (fop .mul .f32 Y7.Z Ye.Z))
theorem Z5J (Y7:Gv) (Ye:Gv)   : Fn prog 92 [.agg [.f .f32 Y7.X, .f .f32 Y7.Y, .f .f32 Y7.Z], .agg [.f .f32 Ye.X, .f .f32 Ye.Y, .f .f32 Ye.Z]] (.f .f32 (Z2K Y7 Ye)) []:=by
 refine fnS E0Ok Z5 (c:=X0 f92) [] (.f .f32 (fop .add .f32 (fop .add .f32 (fop .mul .f32 Y7.X Ye.X) (fop .mul .f32 Y7.Y Ye.Y)) (fop .mul .f32 Y7.Z Ye.Z))) [] func92 (sK [] sN) rfl (by kernel_rfl) (by kernel_rfl) rfl ?_ ?_
 · rfl
 · rfl
def Z2f (Ys:Nat):Nat:=(X2f Ys)
theorem Z5u (Ys:Nat)   : Fn prog 124 [.f .f64 Ys] (.f .f64 (Z2f Ys)) []:=by
 refine fnS E0Ok Z5 (c:=X0 f124) [] (.f .f64 (X2f Ys)) [] func124 (sK [] sN) rfl (by kernel_rfl) (by kernel_rfl) rfl ?_ ?_
 · rfl
 · rfl
def Z3j (Ys:Nat):Nat:=(fcv .f64 .f32 Ys)
theorem Z5z (Ys:Nat) (hp0:X1s .f64 .f32 Ys=true)  : Fn prog 85 [.f .f64 Ys] (.f .f32 (Z3j Ys)) []:=by
 refine fnS E0Ok Z5 (c:=X0 f85) [] (.f .f32 (fcv .f64 .f32 Ys)) [] func85 (sC hp0<|sK [] sN) rfl (by kernel_rfl) (by kernel_rfl) rfl ?_ ?_
 · rfl
 · rfl
def Z3M (Ys:Nat):Nat:=(Z3j (Z2f (fcv .f32 .f64 Ys)))
theorem Z5Q (Ys:Nat)   : Fn prog 120 [.f .f32 Ys] (.f .f32 (Z3M Ys)) []:=by
 have y0:X1s .f64 .f32 (Z2f (fcv .f32 .f64 Ys))=true:=(X3s _)
 refine fnS E0Ok Z5 (c:=X0 f120) [] (.f .f32 (Z3j (Z2f (fcv .f32 .f64 Ys)))) [] func120 (sC (X1r Ys)<|sF (Z5u (fcv .f32 .f64 Ys))<|sF (Z5z (Z2f (fcv .f32 .f64 Ys)) y0)<|sK [] sN) rfl (by kernel_rfl) (by kernel_rfl) rfl ?_ ?_
 · rfl
 · rfl
def Z3N (YD:Gv):Nat:=(Z3M (Z2K YD YD))
theorem Z5R (YD:Gv)   : Fn prog 109 [.agg [.f .f32 YD.X, .f .f32 YD.Y, .f .f32 YD.Z]] (.f .f32 (Z3N YD)) []:=by
 refine fnS E0Ok Z5 (c:=X0 f109) [] (.f .f32 (Z3M (Z2K YD YD))) [] func109 (sF (Z5J YD YD)<|sF (Z5Q (Z2K YD YD))<|sK [] sN) rfl (by kernel_rfl) (by kernel_rfl) rfl ?_ ?_
 · rfl
 · rfl
theorem Z6I {L:List (List Int)} (h:∀ t∈L,t.length=2) {x:Int} (h0:0≤x) (hx:x < (L.length:Int)):(L.getD x.toNat default).length=2:=by
  have hn:x.toNat < L.length:=by omega
  rw [List.getD_eq_getElem?_getD,List.getElem?_eq_getElem hn]
  exact h _ (List.getElem_mem hn)
def ZI (Yg:(List (List Int))) (YM:Int) (YN:Int):Nat→Int→(Int) ⊕ (Unit)
  | 0,_ => .inl default
  | k + 1,Y5=>(cond (decide (Y5 < (Yg.length:Int)))
    (cond (((Yg.getD Y5.toNat default).getD 0 default) == (Z1c YM YN))
      (cond (((Yg.getD Y5.toNat default).getD 1 default) == (Z1d YM YN))
        (.inl Y5)
        (ZI Yg YM YN k (Y5 + 1)))
      (ZI Yg YM YN k (Y5 + 1)))
    (.inr ()))
end Go.Ab
