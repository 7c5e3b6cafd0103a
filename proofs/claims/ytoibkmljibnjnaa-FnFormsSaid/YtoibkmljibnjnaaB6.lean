/- The functions of this seat as plain Lean, and that the program's are these. Printed by a program of the prover's own. -/
import Derived.Test.YtoibkmljibnjnaaB5
set_option linter.unusedVariables false
set_option linter.unusedSimpArgs false
set_option maxRecDepth 100000
namespace Go.Ab
open Go.RowKit Go.Proofs.Try
theorem Z5K (Y3:Gm):∀ (k:Nat) (Y1:Int) (Yh:(List Int)) (hk:((Y3.Tr.length:Int) - Y1).toNat < k),(ZR Y3 k Y1 Yh).length=Yh.length:=by
  intro k
  induction k with
  | zero=>intro Y1 Yh hk;exact absurd hk (Nat.not_lt_zero _)
  | succ k ih =>
    intro Y1 Yh hk
    cases Yp:(decide (Y1 < (Y3.Tr.length:Int))) with
    | true =>
      have e:ZR Y3 (k + 1) Y1 Yh=(ZR Y3 k (Y1 + 1) (Z1c Y3 Y1 Yh)):=by simp only [ZR,Yp,cond_true]
      rw [e,ih (Y1 + 1) (Z1c Y3 Y1 Yh) (by simp_all<;>omega)];simp
    | false =>
      have e:ZR Y3 (k + 1) Y1 Yh=Yh:=by simp only [ZR,Yp,cond_false]
      first | (rw [e];done) | (rw [e];rfl)
def Zw (Y3:Gm):(List Int):=(ZR Y3 (((Y3.Tr.length:Int) - 0).toNat + 1) 0 (ZC Y3))
@[simp] theorem Z4Z (Y3:Gm):(Zw Y3).length=((ZC Y3):(List Int)).length:=Z5K Y3 (((Y3.Tr.length:Int) - 0).toNat + 1) 0 (ZC Y3) (by exact Nat.lt_succ_self _)
theorem Z90 {m:Gm} (ok:OkE m.Pq.length m.Tr):∀ (k:Nat) (x:Int) (r:List Int),0≤x→r.length=(ZC m).length→Z1h r→((m.Tr.length:Int) - x).toNat < k→Z1h (ZR m k x r):=by
  intro k
  induction k with
  | zero=>intro x r _ _ _ hk;exact absurd hk (Nat.not_lt_zero _)
  | succ k ih =>
    intro x r h0 hr hl hk
    rw [ZR]
    by_cases hi:x < (m.Tr.length:Int)
    · rw [decide_eq_true hi,cond_true]
      exact ih _ _ (by omega) (by rw [Z37];exact hr) (pc3 ok h0 hi hr hl) (by omega)
    · rw [decide_eq_false hi,cond_false];exact hl
theorem pc2 {m:Gm} (ok:OkE m.Pq.length m.Tr):Z1h (Zw m)∧(Zw m).length=m.Pq.length:=by
  refine ⟨?_,by rw [Z4Z];exact (pc1 m).2⟩
  unfold Zw
  exact Z90 ok _ _ _ (Int.le_refl 0) rfl (pc1 m).1 (by omega)
def Z18 (Y3:Gm):Nat→Int→Int→(List Int)→Int × (List Int)
  | 0,_,_,_=>default
  | k + 1,Yo,Ym,Yl=>(cond (decide (Ym < (Y3.Pq.length:Int)))
    (cond ((Za Ym (Zw Y3)) == Ym)
      (Z18 Y3 k (Yo + 1) (Ym + 1) (Yl ++ [Yo]))
      (Z18 Y3 k Yo (Ym + 1) (Yl ++ [(Yl.getD ((Za Ym (Zw Y3)).toNat) default)])))
    (Yo,Yl))
def Z3C (Y3:Gm) (r:Int × (List Int)):Ex × St:=((.exit 6),⟨.agg [.sl (Y3.Pq.map Gv.c), .sl (Y3.Tr.map (cL (cI .i64)))] :: .ptr 0 0 0 :: .nils :: .i .i64 0 :: .b false :: .ptr 1 0 0 :: .any :: .fn 87 [.ptr 1 0 0] :: an 6 (.own 2 :: .i .i64 r.1 :: .any :: .any :: .agg [.sl (Y3.Pq.map Gv.c), .sl (Y3.Tr.map (cL (cI .i64)))] :: .b (Zh Y3) :: .b (!(Zh Y3)) :: .any :: .ptr 0 0 0 :: .sl (Y3.Pq.map Gv.c) :: an 9 (.fn 87 [.ptr 1 0 0] :: .ptr 0 0 1 :: .sl (Y3.Tr.map (cL (cI .i64))) :: an 31 (.ptr 0 0 0 :: .sl (Y3.Pq.map Gv.c) :: an 26 []))),[.box 27 [.sl (Y3.Pq.map Gv.c), .sl (Y3.Tr.map (cL (cI .i64)))], .box 119 [.own 3], .vec 2 1 (r.2.map (cI .i64)) false, .vec 3 1 ((Zw Y3).map (cI .i64)) false]⟩)
def Z2L (Y3:Gm) (Yo:Int) (Ym:Int) (Yl:(List Int)):St:=⟨.agg [.sl (Y3.Pq.map Gv.c), .sl (Y3.Tr.map (cL (cI .i64)))] :: .ptr 0 0 0 :: .nils :: .i .i64 0 :: .b false :: .ptr 1 0 0 :: .any :: .fn 87 [.ptr 1 0 0] :: an 6 (.own 3 :: .i .i64 Yo :: .any :: .any :: .agg [.sl (Y3.Pq.map Gv.c), .sl (Y3.Tr.map (cL (cI .i64)))] :: .b (Zh Y3) :: .b (!(Zh Y3)) :: .any :: .ptr 0 0 0 :: .sl (Y3.Pq.map Gv.c) :: an 9 (.fn 87 [.ptr 1 0 0] :: .ptr 0 0 1 :: .sl (Y3.Tr.map (cL (cI .i64))) :: an 31 (.ptr 0 0 0 :: .sl (Y3.Pq.map Gv.c) :: .i .i64 (Y3.Pq.length:Int) :: .i .i64 Ym :: an 24 []))),[.box 27 [.sl (Y3.Pq.map Gv.c), .sl (Y3.Tr.map (cL (cI .i64)))], .box 119 [.own 2], .vec 3 1 ((Zw Y3).map (cI .i64)) false, .vec 2 1 (Yl.map (cI .i64)) false]⟩
def Z33:List Bool:=(mR false [0,6,1,1,6,2,2,3,1,2,9,3,31,4,24])
def Z5L:List Bool:=(mR false [0,6,1,1,6,2,2,3,1,2,9,3,31,2,26])
set_option maxHeartbeats 1000000 in
theorem Z69 (Y3:Gm) (hp0:Y3.Pq.length≤1073741824) (hp1:Y3.Tr.length≤1073741824) (hp2:∀ t∈Y3.Tr,t.length≤1073741824) (Z7q:(Zh Y3)=true):∀ (k:Nat) (Yo:Int) (Ym:Int) (Yl:(List Int)) (Z4s:0≤Yo) (Z34:0≤Ym) (Z4t:Yo≤Ym) (Z4u:(Yl.length:Int)=Ym) (hk:((Y3.Pq.length:Int) - Ym).toNat < k),Lp prog 0 (sub (X1 f35) [1,1,1,1,1,1,1,0,1,0,0]) (Z2L Y3 Yo Ym Yl) (Z3C Y3 (Z18 Y3 k Yo Ym Yl)).1 (Z3C Y3 (Z18 Y3 k Yo Ym Yl)).2:=by
 intro k
 induction k with
 | zero=>intro Yo Ym Yl Z4s Z34 Z4t Z4u hk;exact absurd hk (Nat.not_lt_zero _)
 | succ k ih =>
  intro Yo Ym Yl Z4s Z34 Z4t Z4u hk
  cases Yp:(decide (Ym < (Y3.Pq.length:Int))) with
  | true =>
   have YF:=odt Yp
   have YO:(Zw Y3).length≤1073741824:=(by (have q:=(pc2 (ZO Y3 (by assumption))).2;omega))
   have YL:Z1h (Zw Y3):=(by exact (pc2 (ZO Y3 (by assumption))).1)
   have YU:Ym < ((Zw Y3).length:Int):=(by (have q:=(pc2 (ZO Y3 (by assumption))).2;omega))
   have p {a C} (s:Scr a C):=sB Yp<|sF (Z3P Ym (Zw Y3) YO YL Z34 YU)<|s
   cases YI:((Za Ym (Zw Y3)) == Ym) with
   | true =>
    have Y1c:=eq_of_beq YI
    have YR:Yl.length + ([Yo]).length≤1073741824:=by clear p;exact (by ((have q:=(pc2 (ZO Y3 (by assumption)));have q3:=(ZO Y3 (by assumption)).1;(simp only [List.length_cons,List.length_nil];omega))))
    have YZ:(-9223372036854775808:Int)≤(Yo + 1):=by clear p;exact (by omega)
    have y_5:(Yo + 1)≤(9223372036854775807:Int):=by clear p;exact (by omega)
    have y_6:(-9223372036854775808:Int)≤(Ym + 1):=by clear p;exact (by omega)
    have y_7:(Ym + 1)≤(9223372036854775807:Int):=by clear p;exact (by omega)
    have e:Z18 Y3 (k + 1) Yo Ym Yl=(Z18 Y3 k (Yo + 1) (Ym + 1) (Yl ++ [Yo])):=by simp only [Z18,Yp,YI,cond_true]
    rw [e]
    exact XQ E0Ok Zo [] Z33 [0,1,2,3] (⟨.agg [.sl (Y3.Pq.map Gv.c), .sl (Y3.Tr.map (cL (cI .i64)))] :: .ptr 0 0 0 :: .nils :: .i .i64 0 :: .b false :: .ptr 1 0 0 :: .any :: .fn 87 [.ptr 1 0 0] :: an 6 (.own 3 :: .i .i64 (Yo + 1) :: .any :: .any :: .agg [.sl (Y3.Pq.map Gv.c), .sl (Y3.Tr.map (cL (cI .i64)))] :: .b (Zh Y3) :: .b (!(Zh Y3)) :: .any :: .ptr 0 0 0 :: .sl (Y3.Pq.map Gv.c) :: an 9 (.fn 87 [.ptr 1 0 0] :: .ptr 0 0 1 :: .sl (Y3.Tr.map (cL (cI .i64))) :: an 31 (.ptr 0 0 0 :: .sl (Y3.Pq.map Gv.c) :: .i .i64 (Y3.Pq.length:Int) :: .i .i64 (Ym + 1) :: an 24 []))),[.box 27 [.sl (Y3.Pq.map Gv.c), .sl (Y3.Tr.map (cL (cI .i64)))], .box 119 [.own 2], .vec 3 1 ((Zw Y3).map (cI .i64)) false, .vec 2 1 ((Yl.map (cI .i64)) ++ ([[.i .i64 Yo]]:List (List AV))) false]⟩) (p (sB YI<|sC (show (Yl.map (cI .i64)).length + ([[.i .i64 Yo]]:List (List AV)).length≤1073741824 from (by simpa using YR))<|sI (Yo + 1) YZ y_5<|sI (Ym + 1) y_6 y_7<|sN)) (by kernel_rfl) (by simp [Z2L,cI]) (ih (Yo + 1) (Ym + 1) (Yl ++ [Yo]) (show 0≤(Yo + 1) from (by omega)) (show 0≤(Ym + 1) from (by omega)) (show (Yo + 1)≤(Ym + 1) from (by omega)) (show ((Yl ++ [Yo]).length:Int)=(Ym + 1) from (by simp_all<;>omega)) (by omega))
   | false =>
    have Y1c:=ne_of_beq_false YI
    have YR:(0:Int)≤(Za Ym (Zw Y3)):=by clear p;exact (by ((have q:=(pc2 (ZO Y3 (by assumption)));have q3:=(ZO Y3 (by assumption)).1;(have q2:=Z6c q.1 (i:=Ym) (by omega) (by omega);omega))))
    have YZ:(Za Ym (Zw Y3)) < (Yl.length:Int):=by clear p;exact (by ((have q:=(pc2 (ZO Y3 (by assumption)));have q3:=(ZO Y3 (by assumption)).1;(have q2:=Z6c q.1 (i:=Ym) (by omega) (by omega);omega))))
    have y_5:(Za Ym (Zw Y3)).toNat < Yl.length:=by clear p;exact (by omega)
    have y_6:Yl.length + ([(Yl.getD ((Za Ym (Zw Y3)).toNat) default)]).length≤1073741824:=by clear p;exact (by ((have q:=(pc2 (ZO Y3 (by assumption)));have q3:=(ZO Y3 (by assumption)).1;(simp only [List.length_cons,List.length_nil];omega))))
    have y_7:(-9223372036854775808:Int)≤(Ym + 1):=by clear p;exact (by omega)
    have y_8:(Ym + 1)≤(9223372036854775807:Int):=by clear p;exact (by omega)
    have e:Z18 Y3 (k + 1) Yo Ym Yl=(Z18 Y3 k Yo (Ym + 1) (Yl ++ [(Yl.getD ((Za Ym (Zw Y3)).toNat) default)])):=by simp only [Z18,Yp,YI,cond_true,cond_false]
    rw [e]
    exact XQ E0Ok Zo [] Z33 [0,1,2,3] (⟨.agg [.sl (Y3.Pq.map Gv.c), .sl (Y3.Tr.map (cL (cI .i64)))] :: .ptr 0 0 0 :: .nils :: .i .i64 0 :: .b false :: .ptr 1 0 0 :: .any :: .fn 87 [.ptr 1 0 0] :: an 6 (.own 3 :: .i .i64 Yo :: .any :: .any :: .agg [.sl (Y3.Pq.map Gv.c), .sl (Y3.Tr.map (cL (cI .i64)))] :: .b (Zh Y3) :: .b (!(Zh Y3)) :: .any :: .ptr 0 0 0 :: .sl (Y3.Pq.map Gv.c) :: an 9 (.fn 87 [.ptr 1 0 0] :: .ptr 0 0 1 :: .sl (Y3.Tr.map (cL (cI .i64))) :: an 31 (.ptr 0 0 0 :: .sl (Y3.Pq.map Gv.c) :: .i .i64 (Y3.Pq.length:Int) :: .i .i64 (Ym + 1) :: an 24 []))),[.box 27 [.sl (Y3.Pq.map Gv.c), .sl (Y3.Tr.map (cL (cI .i64)))], .box 119 [.own 2], .vec 3 1 ((Zw Y3).map (cI .i64)) false, .vec 2 1 ((Yl.map (cI .i64)) ++ ([[.i .i64 (Yl.getD ((Za Ym (Zw Y3)).toNat) default)]]:List (List AV))) false]⟩) (p (sB YI<|sX (cI .i64) Yl (Za Ym (Zw Y3)) YR YZ<|sV (cI .i64) Yl ((Za Ym (Zw Y3)).toNat) y_5<|sC (show (Yl.map (cI .i64)).length + ([[.i .i64 (Yl.getD ((Za Ym (Zw Y3)).toNat) default)]]:List (List AV)).length≤1073741824 from (by simpa using y_6))<|sI (Ym + 1) y_7 y_8<|sN)) (by kernel_rfl) (by simp [Z2L,cI]) (ih Yo (Ym + 1) (Yl ++ [(Yl.getD ((Za Ym (Zw Y3)).toNat) default)]) (show 0≤Yo from (by assumption)) (show 0≤(Ym + 1) from (by omega)) (show Yo≤(Ym + 1) from (by omega)) (show ((Yl ++ [(Yl.getD ((Za Ym (Zw Y3)).toNat) default)]).length:Int)=(Ym + 1) from (by simp_all<;>omega)) (by omega))
  | false =>
   have YF:=odf Yp
   have e:Z18 Y3 (k + 1) Yo Ym Yl=(Yo,Yl):=by simp only [Z18,Yp,cond_false]
   rw [e]
   exact outR (e:=(.exit 6)) E0Ok Zo [] Z5L [0,1,3,2] (sB Yp<|sN) (by kernel_rfl) (by intro h;cases h)
def Z1P (Y3:Gm):Int × (List Int):=(Z18 Y3 (((Y3.Pq.length:Int) - 0).toNat + 1) 0 0 ([]:List Int))
def Ze (Y3:Gm):(List Int) × Int × Bool:=(cond (Zh Y3)
  ((Z1P Y3).2,(Z1P Y3).1,true)
  (([]:List Int),0,false))
theorem Z3j (Y3:Gm) (hp0:Y3.Pq.length≤1073741824) (hp1:Y3.Tr.length≤1073741824) (hp2:∀ t∈Y3.Tr,t.length≤1073741824)  : Fn prog 35 [.agg [.sl (Y3.Pq.map Gv.c), .sl (Y3.Tr.map (cL (cI .i64)))]] (.tup [.own 0, .i .i64 ((Ze Y3).2.1), .b ((Ze Y3).2.2)]) [.vec 2 1 (((Ze Y3).1).map (cI .i64)) false]:=by
 have p {a C} (s:Scr a C):=sF (Z1J Y3 hp0 hp1 hp2)<|s
 cases h0:(Zh Y3) with
 | true =>
  refine fnS E0Ok Zo (c:=X1 f35) [] (.tup [.own 0, .i .i64 ((Z1P Y3).1), .b true]) [.vec 2 1 (((Z1P Y3).2).map (cI .i64)) false] func35 (p (sB' h0<|sZ Gv.c Y3.Pq<|sL (mR false [0,6,12,3,1,4,69]) 3 (XI (st2:=⟨.agg [.sl (Y3.Pq.map Gv.c), .sl (Y3.Tr.map (cL (cI .i64)))] :: .ptr 0 0 0 :: .nils :: .i .i64 0 :: .b false :: .ptr 2 0 0 :: an 12 (.agg [.sl (Y3.Pq.map Gv.c), .sl (Y3.Tr.map (cL (cI .i64)))] :: .b (Zh Y3) :: .b (!(Zh Y3)) :: .any :: .ptr 0 0 0 :: .sl (Y3.Pq.map Gv.c) :: .i .i64 (Y3.Pq.length:Int) :: .i .i64 0 :: an 69 []),[.box 27 [.sl (Y3.Pq.map Gv.c), .sl (Y3.Tr.map (cL (cI .i64)))], .vec 3 1 ([]:List (List AV)) false, .box 119 [.own 1]]⟩) (X7 (Z3y Y3) (x:=(ZC Y3)) (Z65 Y3 hp0 hp1 hp2 h0 (((Y3.Pq.length:Int) - 0).toNat + 1) 0 ([]:List Int) (show 0≤0 from (by omega)) (show (([]:List Int).length:Int)=0 from (by simp;done)) (Nat.lt_succ_self _)) rfl) (by simp [Z3z,cI]))<|sZ (cL (cI .i64)) Y3.Tr<|sL Z4r 3 (X7 (Z3B Y3) (x:=(Zw Y3)) (Z68 Y3 hp0 hp1 hp2 h0 (((Y3.Tr.length:Int) - 0).toNat + 1) 0 (ZC Y3) (show 0≤0 from (by omega)) (show (ZC Y3).length=(ZC Y3).length from (by omega)) (show Z1h (ZC Y3) from (by exact (pc1 Y3).1)) (Nat.lt_succ_self _)) rfl)<|sZ Gv.c Y3.Pq<|sL Z33 4 (XI (st2:=⟨.agg [.sl (Y3.Pq.map Gv.c), .sl (Y3.Tr.map (cL (cI .i64)))] :: .ptr 0 0 0 :: .nils :: .i .i64 0 :: .b false :: .ptr 1 0 0 :: .any :: .fn 87 [.ptr 1 0 0] :: an 6 (.own 3 :: .i .i64 0 :: .any :: .any :: .agg [.sl (Y3.Pq.map Gv.c), .sl (Y3.Tr.map (cL (cI .i64)))] :: .b (Zh Y3) :: .b (!(Zh Y3)) :: .any :: .ptr 0 0 0 :: .sl (Y3.Pq.map Gv.c) :: an 9 (.fn 87 [.ptr 1 0 0] :: .ptr 0 0 1 :: .sl (Y3.Tr.map (cL (cI .i64))) :: an 31 (.ptr 0 0 0 :: .sl (Y3.Pq.map Gv.c) :: .i .i64 (Y3.Pq.length:Int) :: .i .i64 0 :: an 24 []))),[.box 27 [.sl (Y3.Pq.map Gv.c), .sl (Y3.Tr.map (cL (cI .i64)))], .box 119 [.own 2], .vec 3 1 ((Zw Y3).map (cI .i64)) false, .vec 2 1 ([]:List (List AV)) false]⟩) (X7 (Z3C Y3) (x:=(Z1P Y3)) (Z69 Y3 hp0 hp1 hp2 h0 (((Y3.Pq.length:Int) - 0).toNat + 1) 0 0 ([]:List Int) (show 0≤0 from (by omega)) (show 0≤0 from (by omega)) (show 0≤0 from (by omega)) (show (([]:List Int).length:Int)=0 from (by simp;done)) (Nat.lt_succ_self _)) rfl) (by simp [Z2L,cI]))<|sK [2] sN)) rfl (by kernel_rfl) (by kernel_rfl) rfl ?_ ?_
  · simp only [Ze,h0,cond_true]
  · simp [Ze,h0]
 | false =>
  refine fnS E0Ok Zo (c:=X1 f35) [(.tm 2, .vec 2 1 [] false)] (.tup [.own 0, .i .i64 0, .b false]) [.vec 2 1 [] false] func35 (p (sB' h0<|sK [1] sN)) rfl (by kernel_rfl) (by kernel_rfl) rfl ?_ ?_
  · simp only [Ze,h0,cond_false]
  · simp [Ze,h0,cI]
def Zk (Y3:Gm) (Y1:Int) (Y2:Int):Gedge:=(Z1T ((Y3.Tr.getD Y1.toNat default).getD Y2.toNat default) ((Y3.Tr.getD Y1.toNat default).getD (Int.tmod (Y2 + 1) 3).toNat default))
def ZX (Y3:Gm) (Y1:Int) (Yf:(List ((Int × Int) × Int))) (Yk:(List ((Int × Int) × Int))):Nat→Int→(List ((Int × Int) × Int))→(List ((Int × Int) × Int))→(Unit) ⊕ ((List ((Int × Int) × Int)) × (List ((Int × Int) × Int)))
  | 0,_,_,_ => .inl default
  | k + 1,Y2,Yb,Yi=>(cond (decide (Y2 < 3))
    (cond ((X2 Yb (((Y3.Tr.getD Y1.toNat default).getD Y2.toNat default),((Y3.Tr.getD Y1.toNat default).getD (Int.tmod (Y2 + 1) 3).toNat default))) == 1)
      (.inl ())
      (cond (decide ((X2 (Xk Yi ((Zk Y3 Y1 Y2).e0,(Zk Y3 Y1 Y2).e1) (IntKind.wrap .i64 ((X2 Yi ((Zk Y3 Y1 Y2).e0,(Zk Y3 Y1 Y2).e1)) + 1))) ((Zk Y3 Y1 Y2).e0,(Zk Y3 Y1 Y2).e1)) > 2))
        (.inl ())
        (ZX Y3 Y1 Yf Yk k (Y2 + 1) (Xk Yb (((Y3.Tr.getD Y1.toNat default).getD Y2.toNat default),((Y3.Tr.getD Y1.toNat default).getD (Int.tmod (Y2 + 1) 3).toNat default)) 1) (Xk Yi ((Zk Y3 Y1 Y2).e0,(Zk Y3 Y1 Y2).e1) (IntKind.wrap .i64 ((X2 Yi ((Zk Y3 Y1 Y2).e0,(Zk Y3 Y1 Y2).e1)) + 1))))))
    (.inr (Yb,Yi)))
def Z2O (Y3:Gm) (Y1:Int) (Yf:(List ((Int × Int) × Int))) (Yk:(List ((Int × Int) × Int))):(Unit) ⊕ ((List ((Int × Int) × Int)) × (List ((Int × Int) × Int)))→Ex × St
  | .inl r=>(.ret,⟨.any :: .any :: .b false :: an 57 [],[]⟩)
  | .inr r=>((.exit 2),⟨.agg [.sl (Y3.Pq.map Gv.c), .sl (Y3.Tr.map (cL (cI .i64)))] :: .ptr 0 0 0 :: .any :: .mp 1 :: .mp 2 :: .any :: .sl ((Y3.Tr.getD Y1.toNat default).map (cI .i64)) :: .any :: .any :: .any :: .agg [.sl (Y3.Pq.map Gv.c), .sl (Y3.Tr.map (cL (cI .i64)))] :: .b (Zh Y3) :: .b (!(Zh Y3)) :: .mp 1 :: .mp 2 :: .ptr 0 0 1 :: .sl (Y3.Tr.map (cL (cI .i64))) :: .i .i64 (Y3.Tr.length:Int) :: .i .i64 Y1 :: .b (decide (Y1 < (Y3.Tr.length:Int))) :: .ref [.sl ((Y3.Tr.getD Y1.toNat default).map (cI .i64))] 0 :: .sl ((Y3.Tr.getD Y1.toNat default).map (cI .i64)) :: an 38 [],[.box 27 [.sl (Y3.Pq.map Gv.c), .sl (Y3.Tr.map (cL (cI .i64)))], .mapS 121 none r.1 none, .mapS 122 (some .i64) r.2 none]⟩)
def Z6n (Y3:Gm) (Y1:Int) (Yf:(List ((Int × Int) × Int))) (Yk:(List ((Int × Int) × Int))) (Y2:Int) (Yb:(List ((Int × Int) × Int))) (Yi:(List ((Int × Int) × Int))):St:=⟨.agg [.sl (Y3.Pq.map Gv.c), .sl (Y3.Tr.map (cL (cI .i64)))] :: .ptr 0 0 0 :: .any :: .mp 1 :: .mp 2 :: .any :: .sl ((Y3.Tr.getD Y1.toNat default).map (cI .i64)) :: .any :: .any :: .any :: .agg [.sl (Y3.Pq.map Gv.c), .sl (Y3.Tr.map (cL (cI .i64)))] :: .b (Zh Y3) :: .b (!(Zh Y3)) :: .mp 1 :: .mp 2 :: .ptr 0 0 1 :: .sl (Y3.Tr.map (cL (cI .i64))) :: .i .i64 (Y3.Tr.length:Int) :: .i .i64 Y1 :: .b (decide (Y1 < (Y3.Tr.length:Int))) :: .ref [.sl ((Y3.Tr.getD Y1.toNat default).map (cI .i64))] 0 :: .sl ((Y3.Tr.getD Y1.toNat default).map (cI .i64)) :: .i .i64 Y2 :: an 37 [],[.box 27 [.sl (Y3.Pq.map Gv.c), .sl (Y3.Tr.map (cL (cI .i64)))], .mapS 121 none Yb none, .mapS 122 (some .i64) Yi none]⟩
def Z3a:List Bool:=(mR false [0,2,1,2,1,1,3,13,37])
def Z5P:List Bool:=(mR false [0,2,1,2,1,1,3,12,38])
set_option maxHeartbeats 1000000 in
theorem Z51 (Y3:Gm) (Y1:Int) (Yf:(List ((Int × Int) × Int))) (Yk:(List ((Int × Int) × Int))) (hp0:Y3.Pq.length≤1073741824) (hp1:Y3.Tr.length≤1073741824) (hp2:∀ t∈Y3.Tr,t.length≤1073741824) (Z1v:(Zh Y3)=true) (Z1w:0≤Y1) (Z3b:(decide (Y1 < (Y3.Tr.length:Int)))=true) (Z7t:(Zh Y3)=true):∀ (k:Nat) (Y2:Int) (Yb:(List ((Int × Int) × Int))) (Yi:(List ((Int × Int) × Int))) (Z23:0≤Y2) (hk:((3:Int) - Y2).toNat < k),Lp prog 0 (sub (X1 f36) [1,1,1,0,1,0,0,1,1,0,0,1,1,0,0]) (Z6n Y3 Y1 Yf Yk Y2 Yb Yi) (Z2O Y3 Y1 Yf Yk (ZX Y3 Y1 Yf Yk k Y2 Yb Yi)).1 (Z2O Y3 Y1 Yf Yk (ZX Y3 Y1 Yf Yk k Y2 Yb Yi)).2:=by
 intro k
 induction k with
 | zero=>intro Y2 Yb Yi Z23 hk;exact absurd hk (Nat.not_lt_zero _)
 | succ k ih =>
  intro Y2 Yb Yi Z23 hk
  cases Yr:(decide (Y2 < 3)) with
  | true =>
   have YM:=odt Yr
   have YW:(0:Int)≤Y2:=(by assumption)
   have YX:Y2 < ((Y3.Tr.getD Y1.toNat default).length:Int):=(by (have ok_:=ZO Y3 Z1v;have q:=OkE.at ok_ Z1w (odt Z3b) Z23 (odt (by assumption));omega))
   have YQ:(-9223372036854775808:Int)≤(Y2 + 1):=(by omega)
   have YN:(Y2 + 1)≤(9223372036854775807:Int):=(by omega)
   have YY:(0:Int)≤(Int.tmod (Y2 + 1) 3):=(by (have ok_:=ZO Y3 Z1v;have q:=OkE.at ok_ Z1w (odt Z3b) Z23 (odt (by assumption));omega))
   have Y13:(Int.tmod (Y2 + 1) 3) < ((Y3.Tr.getD Y1.toNat default).length:Int):=(by (have ok_:=ZO Y3 Z1v;have q:=OkE.at ok_ Z1w (odt Z3b) Z23 (odt (by assumption));omega))
   have p {a C} (s:Scr a C):=sB Yr<|sK [12,12]<|sG (cI .i64) (Y3.Tr.getD Y1.toNat default) Y2 YW YX<|sI (Y2 + 1) YQ YN<|sC (show (3:Int)≠0 from (by decide))<|sQ (Int.tmod (Y2 + 1) 3)<|sG (cI .i64) (Y3.Tr.getD Y1.toNat default) (Int.tmod (Y2 + 1) 3) YY Y13<|sC (show (0:Int)≤0∧0 < ((2:Nat):Int) from (by decide))<|sC (show (0:Int)≤1∧1 < ((2:Nat):Int) from (by decide))<|sF (Z36 ((Y3.Tr.getD Y1.toNat default).getD Y2.toNat default) ((Y3.Tr.getD Y1.toNat default).getD (Int.tmod (Y2 + 1) 3).toNat default))<|sR (X8k E0Ok Zo (id:=12) (ops:=X8N (sub (X1 f36) [1,1,1,0,1,0,0,1,1,0,0,1,1,0,0,1,1,0,0,1,1,1,0])) (⟨.agg [.sl (Y3.Pq.map Gv.c), .sl (Y3.Tr.map (cL (cI .i64)))] :: .ptr 0 0 0 :: .any :: .mp 1 :: .mp 2 :: .any :: .sl ((Y3.Tr.getD Y1.toNat default).map (cI .i64)) :: .i .i64 Y2 :: .ptr 3 0 0 :: .ptr 4 0 0 :: .agg [.sl (Y3.Pq.map Gv.c), .sl (Y3.Tr.map (cL (cI .i64)))] :: .b (Zh Y3) :: .b (!(Zh Y3)) :: .mp 1 :: .mp 2 :: .ptr 0 0 1 :: .sl (Y3.Tr.map (cL (cI .i64))) :: .i .i64 (Y3.Tr.length:Int) :: .i .i64 Y1 :: .b (decide (Y1 < (Y3.Tr.length:Int))) :: .ref [.sl ((Y3.Tr.getD Y1.toNat default).map (cI .i64))] 0 :: .sl ((Y3.Tr.getD Y1.toNat default).map (cI .i64)) :: .i .i64 Y2 :: .b (decide (Y2 < 3)) :: .i .i64 Y2 :: .sl ((Y3.Tr.getD Y1.toNat default).map (cI .i64)) :: .i .i64 Y2 :: .ref [.i .i64 ((Y3.Tr.getD Y1.toNat default).getD Y2.toNat default)] 0 :: .i .i64 ((Y3.Tr.getD Y1.toNat default).getD Y2.toNat default) :: .sl ((Y3.Tr.getD Y1.toNat default).map (cI .i64)) :: .i .i64 Y2 :: .i .i64 (Y2 + 1) :: .i .i64 (Int.tmod (Y2 + 1) 3) :: .ref [.i .i64 ((Y3.Tr.getD Y1.toNat default).getD (Int.tmod (Y2 + 1) 3).toNat default)] 0 :: .i .i64 ((Y3.Tr.getD Y1.toNat default).getD (Int.tmod (Y2 + 1) 3).toNat default) :: .agg [.i .i64 ((Y3.Tr.getD Y1.toNat default).getD Y2.toNat default), .i .i64 ((Y3.Tr.getD Y1.toNat default).getD (Int.tmod (Y2 + 1) 3).toNat default)] :: .ptr 3 0 0 :: .i .i64 ((Y3.Tr.getD Y1.toNat default).getD Y2.toNat default) :: .ptr 3 0 1 :: .i .i64 ((Y3.Tr.getD Y1.toNat default).getD (Int.tmod (Y2 + 1) 3).toNat default) :: .agg [.i .i64 ((Zk Y3 Y1 Y2).e0), .i .i64 ((Zk Y3 Y1 Y2).e1)] :: an 19 [],[.box 27 [.sl (Y3.Pq.map Gv.c), .sl (Y3.Tr.map (cL (cI .i64)))], .mapS 121 none Yb none, .mapS 122 (some .i64) Yi none, .box 113 [.i .i64 ((Y3.Tr.getD Y1.toNat default).getD Y2.toNat default), .i .i64 ((Y3.Tr.getD Y1.toNat default).getD (Int.tmod (Y2 + 1) 3).toNat default)], .box 113 [.i .i64 ((Zk Y3 Y1 Y2).e0), .i .i64 ((Zk Y3 Y1 Y2).e1)]]⟩) (⟨.agg [.sl (Y3.Pq.map Gv.c), .sl (Y3.Tr.map (cL (cI .i64)))] :: .ptr 0 0 0 :: .any :: .mp 1 :: .mp 2 :: .any :: .sl ((Y3.Tr.getD Y1.toNat default).map (cI .i64)) :: .i .i64 Y2 :: .ptr 3 0 0 :: .ptr 4 0 0 :: .agg [.sl (Y3.Pq.map Gv.c), .sl (Y3.Tr.map (cL (cI .i64)))] :: .b (Zh Y3) :: .b (!(Zh Y3)) :: .mp 1 :: .mp 2 :: .ptr 0 0 1 :: .sl (Y3.Tr.map (cL (cI .i64))) :: .i .i64 (Y3.Tr.length:Int) :: .i .i64 Y1 :: .b (decide (Y1 < (Y3.Tr.length:Int))) :: .ref [.sl ((Y3.Tr.getD Y1.toNat default).map (cI .i64))] 0 :: .sl ((Y3.Tr.getD Y1.toNat default).map (cI .i64)) :: .i .i64 Y2 :: .b (decide (Y2 < 3)) :: .i .i64 Y2 :: .sl ((Y3.Tr.getD Y1.toNat default).map (cI .i64)) :: .i .i64 Y2 :: .ref [.i .i64 ((Y3.Tr.getD Y1.toNat default).getD Y2.toNat default)] 0 :: .i .i64 ((Y3.Tr.getD Y1.toNat default).getD Y2.toNat default) :: .sl ((Y3.Tr.getD Y1.toNat default).map (cI .i64)) :: .i .i64 Y2 :: .i .i64 (Y2 + 1) :: .i .i64 (Int.tmod (Y2 + 1) 3) :: .ref [.i .i64 ((Y3.Tr.getD Y1.toNat default).getD (Int.tmod (Y2 + 1) 3).toNat default)] 0 :: .i .i64 ((Y3.Tr.getD Y1.toNat default).getD (Int.tmod (Y2 + 1) 3).toNat default) :: .agg [.i .i64 ((Y3.Tr.getD Y1.toNat default).getD Y2.toNat default), .i .i64 ((Y3.Tr.getD Y1.toNat default).getD (Int.tmod (Y2 + 1) 3).toNat default)] :: .ptr 3 0 0 :: .i .i64 ((Y3.Tr.getD Y1.toNat default).getD Y2.toNat default) :: .ptr 3 0 1 :: .i .i64 ((Y3.Tr.getD Y1.toNat default).getD (Int.tmod (Y2 + 1) 3).toNat default) :: .agg [.i .i64 ((Zk Y3 Y1 Y2).e0), .i .i64 ((Zk Y3 Y1 Y2).e1)] :: .mp 2 :: .agg [.i .i64 ((Zk Y3 Y1 Y2).e0), .i .i64 ((Zk Y3 Y1 Y2).e1)] :: .i .i64 (X2 Yi ((Zk Y3 Y1 Y2).e0,(Zk Y3 Y1 Y2).e1)) :: .i .i64 (IntKind.wrap .i64 ((X2 Yi ((Zk Y3 Y1 Y2).e0,(Zk Y3 Y1 Y2).e1)) + 1)) :: .tup [.i .i64 (X2 Yi ((Zk Y3 Y1 Y2).e0,(Zk Y3 Y1 Y2).e1)), .i .i64 ((Xd Yi ((Zk Y3 Y1 Y2).e0,(Zk Y3 Y1 Y2).e1):Nat):Int)] :: .i .i64 ((Xd Yi ((Zk Y3 Y1 Y2).e0,(Zk Y3 Y1 Y2).e1):Nat):Int) :: an 13 [],[.box 27 [.sl (Y3.Pq.map Gv.c), .sl (Y3.Tr.map (cL (cI .i64)))], .mapS 121 none Yb none, .mapS 122 (some .i64) (Xk Yi ((Zk Y3 Y1 Y2).e0,(Zk Y3 Y1 Y2).e1) (IntKind.wrap .i64 ((X2 Yi ((Zk Y3 Y1 Y2).e0,(Zk Y3 Y1 Y2).e1)) + 1))) none, .box 113 [.i .i64 ((Y3.Tr.getD Y1.toNat default).getD Y2.toNat default), .i .i64 ((Y3.Tr.getD Y1.toNat default).getD (Int.tmod (Y2 + 1) 3).toNat default)], .box 113 [.i .i64 ((Zk Y3 Y1 Y2).e0), .i .i64 ((Zk Y3 Y1 Y2).e1)]]⟩) 0 [(0,41, .mp 2),(1,42, .agg [.i .i64 ((Zk Y3 Y1 Y2).e0), .i .i64 ((Zk Y3 Y1 Y2).e1)]),(2,43, .i .i64 (X2 Yi ((Zk Y3 Y1 Y2).e0,(Zk Y3 Y1 Y2).e1))),(3,44, .i .i64 (IntKind.wrap .i64 ((X2 Yi ((Zk Y3 Y1 Y2).e0,(Zk Y3 Y1 Y2).e1)) + 1))),(4,45, .tup [.i .i64 (X2 Yi ((Zk Y3 Y1 Y2).e0,(Zk Y3 Y1 Y2).e1)), .i .i64 ((Xd Yi ((Zk Y3 Y1 Y2).e0,(Zk Y3 Y1 Y2).e1):Nat):Int)]),(5,46, .i .i64 ((Xd Yi ((Zk Y3 Y1 Y2).e0,(Zk Y3 Y1 Y2).e1):Nat):Int))] [(4,2, .mapS 122 (some .i64) Yi (some ((Zk Y3 Y1 Y2).e0,(Zk Y3 Y1 Y2).e1))),(6,2, .mapS 122 (some .i64) (Xk Yi ((Zk Y3 Y1 Y2).e0,(Zk Y3 Y1 Y2).e1) (IntKind.wrap .i64 ((X2 Yi ((Zk Y3 Y1 Y2).e0,(Zk Y3 Y1 Y2).e1)) + 1))) none)] [5,5,5,5,5,5,5] [⟨_,_,sN⟩,⟨_,_,sN⟩,⟨_,_,sN⟩,⟨_,_,sW .i64 ((X2 Yi ((Zk Y3 Y1 Y2).e0,(Zk Y3 Y1 Y2).e1)) + 1)<|sN⟩,⟨_,_,sN⟩,⟨_,_,sN⟩,⟨_,_,sC (show ((Xd Yi ((Zk Y3 Y1 Y2).e0,(Zk Y3 Y1 Y2).e1):Nat):Int)=((Xd Yi ((Zk Y3 Y1 Y2).e0,(Zk Y3 Y1 Y2).e1):Nat):Int) from rfl)<|sN⟩] [0,1,2,3,7,19,15,23,51,31,55,63,127] (by kernel_rfl) (by kernel_rfl) (by kernel_rfl) (by kernel_rfl))<|s
   cases YD:((X2 Yb (((Y3.Tr.getD Y1.toNat default).getD Y2.toNat default),((Y3.Tr.getD Y1.toNat default).getD (Int.tmod (Y2 + 1) 3).toNat default))) == 1) with
   | true =>
    have Y1i:=eq_of_beq YD
    have e:ZX Y3 Y1 Yf Yk (k + 1) Y2 Yb Yi=(.inl ()):=by simp only [ZX,Yr,YD,cond_true]
    rw [e]
    exact outR (e := .ret) E0Ok Zo [] (mR false [2,1,57]) [] (p (sB YD<|sB YD<|sB YD<|sB YD<|sB YD<|sB (show true=true from rfl)<|sN)) (by kernel_rfl) (by intro h;cases h)
   | false =>
    have Y1i:=ne_of_beq_false YD
    have q {a C} (s:Scr a C):=p (sB YD<|sB YD<|sB YD<|sB YD<|sB YD<|s)
    clear p
    cases Y11:(decide ((X2 (Xk Yi ((Zk Y3 Y1 Y2).e0,(Zk Y3 Y1 Y2).e1) (IntKind.wrap .i64 ((X2 Yi ((Zk Y3 Y1 Y2).e0,(Zk Y3 Y1 Y2).e1)) + 1))) ((Zk Y3 Y1 Y2).e0,(Zk Y3 Y1 Y2).e1)) > 2)) with
    | true =>
     have Y1l:=odt Y11
     have e:ZX Y3 Y1 Yf Yk (k + 1) Y2 Yb Yi=(.inl ()):=by simp only [ZX,Yr,YD,Y11,cond_true,cond_false]
     rw [e]
     exact outR (e := .ret) E0Ok Zo [] (mR false [2,1,57]) [] (q (sB Y11<|sN)) (by kernel_rfl) (by intro h;cases h)
    | false =>
     have Y1l:=odf Y11
     have e:ZX Y3 Y1 Yf Yk (k + 1) Y2 Yb Yi=(ZX Y3 Y1 Yf Yk k (Y2 + 1) (Xk Yb (((Y3.Tr.getD Y1.toNat default).getD Y2.toNat default),((Y3.Tr.getD Y1.toNat default).getD (Int.tmod (Y2 + 1) 3).toNat default)) 1) (Xk Yi ((Zk Y3 Y1 Y2).e0,(Zk Y3 Y1 Y2).e1) (IntKind.wrap .i64 ((X2 Yi ((Zk Y3 Y1 Y2).e0,(Zk Y3 Y1 Y2).e1)) + 1)))):=by simp only [ZX,Yr,YD,Y11,cond_true,cond_false]
     rw [e]
     exact Xb E0Ok Zo [] Z3a [0,1,2] (ih (Y2 + 1) (Xk Yb (((Y3.Tr.getD Y1.toNat default).getD Y2.toNat default),((Y3.Tr.getD Y1.toNat default).getD (Int.tmod (Y2 + 1) 3).toNat default)) 1) (Xk Yi ((Zk Y3 Y1 Y2).e0,(Zk Y3 Y1 Y2).e1) (IntKind.wrap .i64 ((X2 Yi ((Zk Y3 Y1 Y2).e0,(Zk Y3 Y1 Y2).e1)) + 1))) (show 0≤(Y2 + 1) from (by omega)) (by omega)) (q (sB Y11<|sI (Y2 + 1) YQ YN<|sN)) (by kernel_rfl)
  | false =>
   have YM:=odf Yr
   have e:ZX Y3 Y1 Yf Yk (k + 1) Y2 Yb Yi=(.inr (Yb,Yi)):=by simp only [ZX,Yr,cond_false]
   rw [e]
   exact outR (e:=(.exit 2)) E0Ok Zo [] Z5P [0,1,2] (sB Yr<|sN) (by kernel_rfl) (by intro h;cases h)
def Z24 (Y3:Gm) (Y1:Int) (Yf:(List ((Int × Int) × Int))) (Yk:(List ((Int × Int) × Int))):(Unit) ⊕ ((List ((Int × Int) × Int)) × (List ((Int × Int) × Int))):=(ZX Y3 Y1 Yf Yk (((3:Int) - 0).toNat + 1) 0 Yf Yk)
def Z13 (Y3:Gm):Nat→Int→(List ((Int × Int) × Int))→(List ((Int × Int) × Int))→(Unit) ⊕ ((List ((Int × Int) × Int)) × (List ((Int × Int) × Int)))
  | 0,_,_,_ => .inl default
  | k + 1,Y1,Yf,Yk=>(cond (decide (Y1 < (Y3.Tr.length:Int)))
    (match (Z24 Y3 Y1 Yf Yk) with
      | .inl r_2=>(.inl ())
      | .inr r_2=>(Z13 Y3 k (Y1 + 1) r_2.1 r_2.2))
    (.inr (Yf,Yk)))
def Z2P (Y3:Gm):(Unit) ⊕ ((List ((Int × Int) × Int)) × (List ((Int × Int) × Int)))→Ex × St
  | .inl r=>(.ret,⟨.any :: .any :: .b false :: an 57 [],[]⟩)
  | .inr r=>((.exit 0),⟨.agg [.sl (Y3.Pq.map Gv.c), .sl (Y3.Tr.map (cL (cI .i64)))] :: .ptr 0 0 0 :: an 8 (.agg [.sl (Y3.Pq.map Gv.c), .sl (Y3.Tr.map (cL (cI .i64)))] :: .b (Zh Y3) :: .b (!(Zh Y3)) :: .mp 1 :: .mp 2 :: .ptr 0 0 1 :: .sl (Y3.Tr.map (cL (cI .i64))) :: an 43 []),[.box 27 [.sl (Y3.Pq.map Gv.c), .sl (Y3.Tr.map (cL (cI .i64)))], .mapS 121 none r.1 none, .mapS 122 (some .i64) r.2 none]⟩)
def Z6o (Y3:Gm) (Y1:Int) (Yf:(List ((Int × Int) × Int))) (Yk:(List ((Int × Int) × Int))):St:=⟨.agg [.sl (Y3.Pq.map Gv.c), .sl (Y3.Tr.map (cL (cI .i64)))] :: .ptr 0 0 0 :: .any :: .mp 1 :: .mp 2 :: an 5 (.agg [.sl (Y3.Pq.map Gv.c), .sl (Y3.Tr.map (cL (cI .i64)))] :: .b (Zh Y3) :: .b (!(Zh Y3)) :: .mp 1 :: .mp 2 :: .ptr 0 0 1 :: .sl (Y3.Tr.map (cL (cI .i64))) :: .i .i64 (Y3.Tr.length:Int) :: .i .i64 Y1 :: an 41 []),[.box 27 [.sl (Y3.Pq.map Gv.c), .sl (Y3.Tr.map (cL (cI .i64)))], .mapS 121 none Yf none, .mapS 122 (some .i64) Yk none]⟩
theorem Z52 (Y3:Gm) (hp0:Y3.Pq.length≤1073741824) (hp1:Y3.Tr.length≤1073741824) (hp2:∀ t∈Y3.Tr,t.length≤1073741824) (Z1v:(Zh Y3)=true):∀ (k:Nat) (Y1:Int) (Yf:(List ((Int × Int) × Int))) (Yk:(List ((Int × Int) × Int))) (Z1w:0≤Y1) (hk:((Y3.Tr.length:Int) - Y1).toNat < k),Lp prog 0 (sub (X1 f36) [1,1,1,0,1,0,0]) (Z6o Y3 Y1 Yf Yk) (Z2P Y3 (Z13 Y3 k Y1 Yf Yk)).1 (Z2P Y3 (Z13 Y3 k Y1 Yf Yk)).2:=by
 intro k
 induction k with
 | zero=>intro Y1 Yf Yk Z1w hk;exact absurd hk (Nat.not_lt_zero _)
 | succ k ih =>
  intro Y1 Yf Yk Z1w hk
  cases Yp:(decide (Y1 < (Y3.Tr.length:Int))) with
  | true =>
   have YF:=odt Yp
   have YO:(0:Int)≤Y1:=(by assumption)
   have YL:Y1 < (Y3.Tr.length:Int):=(by assumption)
   have p {a C} (s:Scr a C):=sB Yp<|sG (cL (cI .i64)) Y3.Tr Y1 YO YL<|s
   cases YI:(Z24 Y3 Y1 Yf Yk) with
   | inl r_2 =>
    have e:Z13 Y3 (k + 1) Y1 Yf Yk=(.inl ()):=by simp only [Z13,Yp,YI,cond_true]
    rw [e]
    exact outR (e := .ret) E0Ok Zo [] (mR false [2,1,57]) [] (p (sL Z3a 3 (X7 (Z2O Y3 Y1 Yf Yk) (x:=(Z24 Y3 Y1 Yf Yk)) (Z51 Y3 Y1 Yf Yk hp0 hp1 hp2 Z1v Z1w Yp Z1v (((3:Int) - 0).toNat + 1) 0 Yf Yk (show 0≤0 from (by omega)) (Nat.lt_succ_self _)) YI)<|sN)) (by kernel_rfl) (by intro h;cases h)
   | inr r_2 =>
    have YU:(-9223372036854775808:Int)≤(Y1 + 1):=by clear p;exact (by omega)
    have YR:(Y1 + 1)≤(9223372036854775807:Int):=by clear p;exact (by omega)
    have e:Z13 Y3 (k + 1) Y1 Yf Yk=(Z13 Y3 k (Y1 + 1) r_2.1 r_2.2):=by simp only [Z13,Yp,YI,cond_true]
    rw [e]
    exact Xb E0Ok Zo [] (mR false [0,2,1,2,5,9,41]) [0,1,2] (ih (Y1 + 1) r_2.1 r_2.2 (show 0≤(Y1 + 1) from (by omega)) (by omega)) (p (sL Z3a 3 (X7 (Z2O Y3 Y1 Yf Yk) (x:=(Z24 Y3 Y1 Yf Yk)) (Z51 Y3 Y1 Yf Yk hp0 hp1 hp2 Z1v Z1w Yp Z1v (((3:Int) - 0).toNat + 1) 0 Yf Yk (show 0≤0 from (by omega)) (Nat.lt_succ_self _)) YI)<|sI (Y1 + 1) YU YR<|sN)) (by kernel_rfl)
  | false =>
   have YF:=odf Yp
   have e:Z13 Y3 (k + 1) Y1 Yf Yk=(.inr (Yf,Yk)):=by simp only [Z13,Yp,cond_false]
   rw [e]
   exact outR (e:=(.exit 0)) E0Ok Zo [] (mR false [0,2,8,7,43]) [0,1,2] (sB Yp<|sN) (by kernel_rfl) (by intro h;cases h)
def Z25 (Y3:Gm):(Unit) ⊕ ((List ((Int × Int) × Int)) × (List ((Int × Int) × Int))):=(Z13 Y3 (((Y3.Tr.length:Int) - 0).toNat + 1) 0 ([]:List ((Int × Int) × Int)) ([]:List ((Int × Int) × Int)))
def Zs (Y3:Gm):Bool:=(cond (Zh Y3)
  (match (Z25 Y3) with
    | .inl r2=>false
    | .inr r2=>true)
  false)
theorem Z6t (m:Gm) (h:Zs m=true):Zh m=true:=by
  unfold Zs at h
  cases hm:Zh m with
  | true=>rfl
  | false=>rw [hm] at h;cases h
theorem Z7D (m:Gm) (x:Int) (r1 r2:List ((Int × Int) × Int)):∀ (k:Nat) (i:Int) (g mm:List ((Int × Int) × Int)) (D:List (Int × Int)),0≤i→i≤3→((3:Int) - i).toNat < k→SInv D g mm →
    ((D ++ (dE (m.Tr.getD x.toNat default)).drop i.toNat).Nodup∧∃ g' m',ZX m x r1 r2 k i g mm = .inr (g',m')∧SInv (D ++ (dE (m.Tr.getD x.toNat default)).drop i.toNat) g' m')∨(¬(D ++ (dE (m.Tr.getD x.toNat default)).drop i.toNat).Nodup∧ZX m x r1 r2 k i g mm = .inl ()):=by
  intro k
  induction k with
  | zero=>intro i g mm D _ _ hk;exact absurd hk (Nat.not_lt_zero _)
  | succ k ih =>
    intro i g mm D h0 h3 hk hS
    rw [ZX]
    by_cases hi:i < 3
    · generalize hw:((m.Tr.getD x.toNat default).getD i.toNat default,(m.Tr.getD x.toNat default).getD (Int.tmod (i + 1) 3).toNat default)=w
      have hd:(dE (m.Tr.getD x.toNat default)).drop i.toNat=w :: (dE (m.Tr.getD x.toNat default)).drop (i + 1).toNat:=by
        have hc:i=0∨i=1∨i=2:=by omega
        rw [← hw]
        rcases hc with rfl | rfl | rfl<;>rfl
      have he:((Zk m x i).e0,(Zk m x i).e1)=uE w:=by
        unfold Zk
        rw [Z6W,← hw];rfl
      rw [decide_eq_true hi,cond_true,hd,he]
      cases hg:(X2 g w == 1) with
      | true =>
        right
        refine ⟨fun hN => ?_,rfl⟩
        have hm:=hS.hit hg
        exact (List.nodup_append.1 hN).2.2 w hm w List.mem_cons_self rfl
      | false =>
        obtain ⟨q1,q2⟩:=hS.step hg
        rw [cond_false,q1,cond_false]
        have:=ih (i + 1) _ _ _ (by omega) (by omega) (by omega) q2
        rw [List.append_assoc,List.singleton_append] at this
        exact this
    · have hi3:i=3:=by omega
      subst hi3
      left
      have hd:(dE (m.Tr.getD x.toNat default)).drop (3:Int).toNat=[]:=rfl
      rw [hd,List.append_nil]
      exact ⟨hS.nd,g,mm,rfl,hS⟩
theorem Z7E (m:Gm):∀ (k:Nat) (i:Int) (g mm:List ((Int × Int) × Int)) (D:List (Int × Int)),0≤i→((m.Tr.length:Int) - i).toNat < k→SInv D g mm →
    ((D ++ (m.Tr.drop i.toNat).flatMap dE).Nodup∧∃ r,Z13 m k i g mm = .inr r)∨(¬(D ++ (m.Tr.drop i.toNat).flatMap dE).Nodup∧Z13 m k i g mm = .inl ()):=by
  intro k
  induction k with
  | zero=>intro i g mm D _ hk;exact absurd hk (Nat.not_lt_zero _)
  | succ k ih =>
    intro i g mm D h0 hk hS
    rw [Z13]
    by_cases hi:i < (m.Tr.length:Int)
    · have hn:i.toNat < m.Tr.length:=by omega
      have hg:m.Tr.getD i.toNat default=m.Tr[i.toNat]:=by rw [List.getD_eq_getElem?_getD,List.getElem?_eq_getElem hn];rfl
      rw [decide_eq_true hi,cond_true,List.drop_eq_getElem_cons hn,List.flatMap_cons,← show (i + 1).toNat=i.toNat + 1 from by omega]
      have q:=Z7D m i g mm (((3:Int) - 0).toNat + 1) 0 g mm D (Int.le_refl 0) (by omega) (Nat.lt_succ_self _) hS
      rw [show (0:Int).toNat=0 from rfl,List.drop_zero,hg] at q
      unfold Z24
      rcases q with ⟨q1,g',m',q2,q3⟩ | ⟨q1,q2⟩
      · rw [q2]
        have:=ih (i + 1) g' m' _ (by omega) (by omega) q3
        rw [List.append_assoc] at this
        exact this
      · rw [q2]
        right
        refine ⟨fun hN=>q1 ?_,rfl⟩
        rw [← List.append_assoc] at hN
        exact (List.nodup_append.1 hN).1
    · rw [decide_eq_false hi,cond_false,List.drop_eq_nil_of_le (by omega)]
      left
      rw [List.flatMap_nil,List.append_nil]
      exact ⟨hS.nd,_,rfl⟩
theorem Z7F (m:Gm):Zs m=cond (Zh m) (decide ((m.Tr.flatMap dE).Nodup)) false:=by
  unfold Zs Z25
  have q:=Z7E m (((m.Tr.length:Int) - 0).toNat + 1) 0 [] [] [] (Int.le_refl 0) (Nat.lt_succ_self _) SInv.nil
  rw [List.nil_append,show (0:Int).toNat=0 from rfl,List.drop_zero] at q
  rcases q with ⟨q1,r,q2⟩ | ⟨q1,q2⟩
  · rw [q2,decide_eq_true q1]
  · rw [q2,decide_eq_false q1]
theorem Z2R (Y3:Gm) (hp0:Y3.Pq.length≤1073741824) (hp1:Y3.Tr.length≤1073741824) (hp2:∀ t∈Y3.Tr,t.length≤1073741824)  : Fn prog 36 [.agg [.sl (Y3.Pq.map Gv.c), .sl (Y3.Tr.map (cL (cI .i64)))]] (.b (Zs Y3)) []:=by
 have p {a C} (s:Scr a C):=sF (Z1J Y3 hp0 hp1 hp2)<|s
 cases h0:(Zh Y3) with
 | true =>
  have q {a C} (s:Scr a C):=p (sB' h0<|sZ (cL (cI .i64)) Y3.Tr<|s)
  clear p
  cases h1:(Z25 Y3) with
  | inl r2 =>
   refine fnS E0Ok Zo (c:=X1 f36) [] (.b false) [] func36 (q (sL (mR false [0,2,1,2,5,9,41]) 3 (X7 (Z2P Y3) (x:=(Z25 Y3)) (Z52 Y3 hp0 hp1 hp2 h0 (((Y3.Tr.length:Int) - 0).toNat + 1) 0 ([]:List ((Int × Int) × Int)) ([]:List ((Int × Int) × Int)) (show 0≤0 from (by omega)) (Nat.lt_succ_self _)) h1)<|sK [] sN)) rfl (by kernel_rfl) (by kernel_rfl) rfl ?_ ?_
   · simp only [Zs,h0,h1,cond_true]
   · rfl
  | inr r2 =>
   refine fnS E0Ok Zo (c:=X1 f36) [] (.b true) [] func36 (q (sL (mR false [0,2,1,2,5,9,41]) 3 (X7 (Z2P Y3) (x:=(Z25 Y3)) (Z52 Y3 hp0 hp1 hp2 h0 (((Y3.Tr.length:Int) - 0).toNat + 1) 0 ([]:List ((Int × Int) × Int)) ([]:List ((Int × Int) × Int)) (show 0≤0 from (by omega)) (Nat.lt_succ_self _)) h1)<|sK [] sN)) rfl (by kernel_rfl) (by kernel_rfl) rfl ?_ ?_
   · simp only [Zs,h0,h1,cond_true]
   · rfl
 | false =>
  refine fnS E0Ok Zo (c:=X1 f36) [] (.b false) [] func36 (p (sB' h0<|sK [] sN)) rfl (by kernel_rfl) (by kernel_rfl) rfl ?_ ?_
  · simp only [Zs,h0,cond_false]
  · rfl
def ZV (Y3:Gm):Bool:=(cond (Zs Y3)
  (cond (decide ((Y3.Tr.length:Int) > 0))
    (((Z1o Y3).length:Int) == 0)
    false)
  false)
theorem Z3k (Y3:Gm) (hp0:Y3.Pq.length≤1073741824) (hp1:Y3.Tr.length≤1073741824) (hp2:∀ t∈Y3.Tr,t.length≤1073741824)  : Fn prog 37 [.agg [.sl (Y3.Pq.map Gv.c), .sl (Y3.Tr.map (cL (cI .i64)))]] (.b (ZV Y3)) []:=by
 have p {a C} (s:Scr a C):=sF (Z2R Y3 hp0 hp1 hp2)<|s
 cases h0:(Zs Y3) with
 | true =>
  have q {a C} (s:Scr a C):=p (sB h0<|sB h0<|sB h0<|sZ (cL (cI .i64)) Y3.Tr<|sB h0<|sB h0<|s)
  clear p
  cases h1:(decide ((Y3.Tr.length:Int) > 0)) with
  | true =>
   have gh1:=odt h1
   have y0:OkE Y3.Pq.length Y3.Tr:=by clear q;exact (by exact ZO Y3 (Z6t Y3 (by assumption)))
   refine fnS E0Ok Zo (c:=X1 f37) [] (.b (((Z1o Y3).length:Int) == 0)) [] func37 (q (sB h1<|sB h1<|sF (Z5k Y3 hp0 hp1 hp2 y0)<|sB h1<|sZ Gedge.cells (Z1o Y3)<|sB h1<|sB h1<|sK [] sN)) rfl (by kernel_rfl) (by kernel_rfl) rfl ?_ ?_
   · simp only [ZV,h0,h1,cond_true]
   · rfl
  | false =>
   have gh1:=odf h1
   refine fnS E0Ok Zo (c:=X1 f37) [] (.b false) [] func37 (q (sB h1<|sB h1<|sB h1<|sB h1<|sB h1<|sK [] sN)) rfl (by kernel_rfl) (by kernel_rfl) rfl ?_ ?_
   · simp only [ZV,h0,h1,cond_true,cond_false]
   · rfl
 | false =>
  refine fnS E0Ok Zo (c:=X1 f37) [] (.b false) [] func37 (p (sB h0<|sB h0<|sB h0<|sB h0<|sB h0<|sB (show false=false from rfl)<|sB (show false=false from rfl)<|sB (show false=false from rfl)<|sB (show false=false from rfl)<|sB (show false=false from rfl)<|sK [] sN)) rfl (by kernel_rfl) (by kernel_rfl) rfl ?_ ?_
  · simp only [ZV,h0,cond_false]
  · rfl
def Z1f (Yy:Gv) (Yz:Gv):Gv:=(⟨(fop .sub .f32 Yy.X Yz.X),(fop .sub .f32 Yy.Y Yz.Y),(fop .sub .f32 Yy.Z Yz.Z)⟩:Gv)
theorem Z4W (Yy:Gv) (Yz:Gv)   : Fn prog 78 [.agg [.f .f32 Yy.X, .f .f32 Yy.Y, .f .f32 Yy.Z], .agg [.f .f32 Yz.X, .f .f32 Yz.Y, .f .f32 Yz.Z]] (.agg [.f .f32 ((Z1f Yy Yz).X), .f .f32 ((Z1f Yy Yz).Y), .f .f32 ((Z1f Yy Yz).Z)]) []:=by
 refine fnS E0Ok Zo (c:=X1 f78) [] (.agg [.f .f32 (fop .sub .f32 Yy.X Yz.X), .f .f32 (fop .sub .f32 Yy.Y Yz.Y), .f .f32 (fop .sub .f32 Yy.Z Yz.Z)]) [] func78 (sK [] sN) rfl (by kernel_rfl) (by kernel_rfl) rfl ?_ ?_
 · rfl
 · rfl
def Z21 (Yy:Gv) (Yz:Gv):Gv:=(⟨(fop .sub .f32 (fop .mul .f32 Yy.Y Yz.Z) (fop .mul .f32 Yy.Z Yz.Y)),(fop .sub .f32 (fop .mul .f32 Yy.Z Yz.X) (fop .mul .f32 Yy.X Yz.Z)),(fop .sub .f32 (fop .mul .f32 Yy.X Yz.Y) (fop .mul .f32 Yy.Y Yz.X))⟩:Gv)
theorem Z6U (Yy:Gv) (Yz:Gv)   : Fn prog 97 [.agg [.f .f32 Yy.X, .f .f32 Yy.Y, .f .f32 Yy.Z], .agg [.f .f32 Yz.X, .f .f32 Yz.Y, .f .f32 Yz.Z]] (.agg [.f .f32 ((Z21 Yy Yz).X), .f .f32 ((Z21 Yy Yz).Y), .f .f32 ((Z21 Yy Yz).Z)]) []:=by
 refine fnS E0Ok Zo (c:=X1 f97) [] (.agg [.f .f32 (fop .sub .f32 (fop .mul .f32 Yy.Y Yz.Z) (fop .mul .f32 Yy.Z Yz.Y)), .f .f32 (fop .sub .f32 (fop .mul .f32 Yy.Z Yz.X) (fop .mul .f32 Yy.X Yz.Z)), .f .f32 (fop .sub .f32 (fop .mul .f32 Yy.X Yz.Y) (fop .mul .f32 Yy.Y Yz.X))]) [] func97 (sK [] sN) rfl (by kernel_rfl) (by kernel_rfl) rfl ?_ ?_
 · rfl
 · rfl
def Z2M (Y3:Gm) (YP:(List Int)):Gv:=(Z21 (Z1f (Y3.Pq.getD (YP.getD 1 default).toNat default) (Y3.Pq.getD (YP.getD 0 default).toNat default)) (Z1f (Y3.Pq.getD (YP.getD 2 default).toNat default) (Y3.Pq.getD (YP.getD 0 default).toNat default)))
def Zt (Y3:Gm) (YP:(List Int)):Gv:=(Z2M Y3 YP)
theorem Z6F (Y3:Gm) (YP:(List Int)) (hp0:Y3.Pq.length≤1073741824) (hp1:Y3.Tr.length≤1073741824) (hp2:∀ t∈Y3.Tr,t.length≤1073741824) (hp3:YP.length≤1073741824) (hp4:YP.length=3∧∀ x∈YP,0≤x∧x < (Y3.Pq.length:Int))  : Fn prog 88 [.agg [.sl (Y3.Pq.map Gv.c), .sl (Y3.Tr.map (cL (cI .i64)))], .sl (YP.map (cI .i64))] (.agg [.f .f32 ((Zt Y3 YP).X), .f .f32 ((Zt Y3 YP).Y), .f .f32 ((Zt Y3 YP).Z)]) []:=by
 have y0:(0:Int)≤0:=(by omega)
 have y1:0 < (YP.length:Int):=(by omega)
 have y2:(0:Int)≤(YP.getD 0 default):=(by have q:=Okt.at hp4;omega)
 have y3:(YP.getD 0 default) < (Y3.Pq.length:Int):=(by have q:=Okt.at hp4;omega)
 have y4:(0:Int)≤1:=(by omega)
 have y5:1 < (YP.length:Int):=(by omega)
 have y6:(0:Int)≤(YP.getD 1 default):=(by have q:=Okt.at hp4;omega)
 have y7:(YP.getD 1 default) < (Y3.Pq.length:Int):=(by have q:=Okt.at hp4;omega)
 have y8:(0:Int)≤2:=(by omega)
 have y9:2 < (YP.length:Int):=(by omega)
 have y10:(0:Int)≤(YP.getD 2 default):=(by have q:=Okt.at hp4;omega)
 have y11:(YP.getD 2 default) < (Y3.Pq.length:Int):=(by have q:=Okt.at hp4;omega)
 refine fnS E0Ok Zo (c:=X1 f88) [] (.agg [.f .f32 ((Z2M Y3 YP).X), .f .f32 ((Z2M Y3 YP).Y), .f .f32 ((Z2M Y3 YP).Z)]) [] func88 (sK [8,8]<|sG (cI .i64) YP 0 y0 y1<|sG Gv.c Y3.Pq (YP.getD 0 default) y2 y3<|sK [17,17]<|sG (cI .i64) YP 1 y4 y5<|sG Gv.c Y3.Pq (YP.getD 1 default) y6 y7<|sF (Z4W (Y3.Pq.getD (YP.getD 1 default).toNat default) (Y3.Pq.getD (YP.getD 0 default).toNat default))<|sG (cI .i64) YP 2 y8 y9<|sG Gv.c Y3.Pq (YP.getD 2 default) y10 y11<|sF (Z4W (Y3.Pq.getD (YP.getD 2 default).toNat default) (Y3.Pq.getD (YP.getD 0 default).toNat default))<|sF (Z6U (Z1f (Y3.Pq.getD (YP.getD 1 default).toNat default) (Y3.Pq.getD (YP.getD 0 default).toNat default)) (Z1f (Y3.Pq.getD (YP.getD 2 default).toNat default) (Y3.Pq.getD (YP.getD 0 default).toNat default)))<|sK [] sN) rfl (by kernel_rfl) (by kernel_rfl) rfl ?_ ?_
 · rfl
 · rfl
def Z1u (Y3:Gm):Nat→Nat→Int→Nat
  | 0,_,_=>default
  | k + 1,YG,Ym=>(cond (decide (Ym < (Y3.Tr.length:Int)))
    (Z1u Y3 k (fop .add .f32 YG (fop .quo .f32 (Z1s (Zt Y3 (Y3.Tr.getD Ym.toNat default))) 1073741824)) (Ym + 1))
    YG)
def Z3Y (Y3:Gm) (r:Nat):Ex × St:=((.exit 0),⟨.agg [.sl (Y3.Pq.map Gv.c), .sl (Y3.Tr.map (cL (cI .i64)))] :: .ptr 0 0 0 :: .f .f32 0 :: .b false :: .f .f32 r :: .any :: .any :: .agg [.sl (Y3.Pq.map Gv.c), .sl (Y3.Tr.map (cL (cI .i64)))] :: .b (Zh Y3) :: .b (!(Zh Y3)) :: .ptr 0 0 1 :: .sl (Y3.Tr.map (cL (cI .i64))) :: an 14 [],[.box 27 [.sl (Y3.Pq.map Gv.c), .sl (Y3.Tr.map (cL (cI .i64)))]]⟩)
def Z6y (Y3:Gm) (YG:Nat) (Ym:Int):St:=⟨.agg [.sl (Y3.Pq.map Gv.c), .sl (Y3.Tr.map (cL (cI .i64)))] :: .ptr 0 0 0 :: .f .f32 0 :: .b false :: .f .f32 YG :: .any :: .any :: .agg [.sl (Y3.Pq.map Gv.c), .sl (Y3.Tr.map (cL (cI .i64)))] :: .b (Zh Y3) :: .b (!(Zh Y3)) :: .ptr 0 0 1 :: .sl (Y3.Tr.map (cL (cI .i64))) :: .i .i64 (Y3.Tr.length:Int) :: .i .i64 Ym :: an 12 [],[.box 27 [.sl (Y3.Pq.map Gv.c), .sl (Y3.Tr.map (cL (cI .i64)))]]⟩
theorem Z6z (Y3:Gm) (hp0:Y3.Pq.length≤1073741824) (hp1:Y3.Tr.length≤1073741824) (hp2:∀ t∈Y3.Tr,t.length≤1073741824) (Z7G:(Zh Y3)=true):∀ (k:Nat) (YG:Nat) (Ym:Int) (Z4X:0≤Ym) (hk:((Y3.Tr.length:Int) - Ym).toNat < k),Lp prog 0 (sub (X1 f38) [1,1,1,0,1,0,0]) (Z6y Y3 YG Ym) (Z3Y Y3 (Z1u Y3 k YG Ym)).1 (Z3Y Y3 (Z1u Y3 k YG Ym)).2:=by
 intro k
 induction k with
 | zero=>intro YG Ym Z4X hk;exact absurd hk (Nat.not_lt_zero _)
 | succ k ih =>
  intro YG Ym Z4X hk
  cases Yp:(decide (Ym < (Y3.Tr.length:Int))) with
  | true =>
   have YF:=odt Yp
   have YO:(0:Int)≤Ym:=(by assumption)
   have YL:Ym < (Y3.Tr.length:Int):=(by assumption)
   have YU:(Y3.Tr.getD Ym.toNat default).length≤1073741824:=(by exact X8M (ZO Y3 (by assumption)) (by assumption) (by assumption))
   have YR:(Y3.Tr.getD Ym.toNat default).length=3∧∀ x∈(Y3.Tr.getD Ym.toNat default),0≤x∧x < (Y3.Pq.length:Int):=(by exact tri3 (ZO Y3 (by assumption)) (by assumption) (by assumption))
   have YZ:(-9223372036854775808:Int)≤(Ym + 1):=(by omega)
   have y_5:(Ym + 1)≤(9223372036854775807:Int):=(by omega)
   have e:Z1u Y3 (k + 1) YG Ym=(Z1u Y3 k (fop .add .f32 YG (fop .quo .f32 (Z1s (Zt Y3 (Y3.Tr.getD Ym.toNat default))) 1073741824)) (Ym + 1)):=by simp only [Z1u,Yp,cond_true]
   rw [e]
   exact Xb E0Ok Zo [] (mR false [0,5,2,7,12]) [0] (ih (fop .add .f32 YG (fop .quo .f32 (Z1s (Zt Y3 (Y3.Tr.getD Ym.toNat default))) 1073741824)) (Ym + 1) (show 0≤(Ym + 1) from (by omega)) (by omega)) (sB Yp<|sG (cL (cI .i64)) Y3.Tr Ym YO YL<|sF (Z6F Y3 (Y3.Tr.getD Ym.toNat default) hp0 hp1 hp2 YU YR)<|sF (Z4Y (Zt Y3 (Y3.Tr.getD Ym.toNat default)))<|sI (Ym + 1) YZ y_5<|sN) (by kernel_rfl)
  | false =>
   have YF:=odf Yp
   have e:Z1u Y3 (k + 1) YG Ym=YG:=by simp only [Z1u,Yp,cond_false]
   rw [e]
   exact outR (e:=(.exit 0)) E0Ok Zo [] (mR false [0,5,2,5,14]) [0] (sB Yp<|sN) (by kernel_rfl) (by intro h;cases h)
def Z1K (Y3:Gm):Nat:=(Z1u Y3 (((Y3.Tr.length:Int) - 0).toNat + 1) 0 0)
def Z1E (Y3:Gm):Nat × Bool:=(cond (Zh Y3)
  ((Z1K Y3),true)
  (0,false))
theorem Z70 (Y3:Gm) (hp0:Y3.Pq.length≤1073741824) (hp1:Y3.Tr.length≤1073741824) (hp2:∀ t∈Y3.Tr,t.length≤1073741824)  : Fn prog 38 [.agg [.sl (Y3.Pq.map Gv.c), .sl (Y3.Tr.map (cL (cI .i64)))]] (.tup [.f .f32 ((Z1E Y3).1), .b ((Z1E Y3).2)]) []:=by
 have p {a C} (s:Scr a C):=sF (Z1J Y3 hp0 hp1 hp2)<|s
 cases h0:(Zh Y3) with
 | true =>
  refine fnS E0Ok Zo (c:=X1 f38) [] (.tup [.f .f32 (Z1K Y3), .b true]) [] func38 (p (sB' h0<|sZ (cL (cI .i64)) Y3.Tr<|sL (mR false [0,5,2,7,12]) 1 (X7 (Z3Y Y3) (x:=(Z1K Y3)) (Z6z Y3 hp0 hp1 hp2 h0 (((Y3.Tr.length:Int) - 0).toNat + 1) 0 0 (show 0≤0 from (by omega)) (Nat.lt_succ_self _)) rfl)<|sK [] sN)) rfl (by kernel_rfl) (by kernel_rfl) rfl ?_ ?_
  · simp only [Z1E,h0,cond_true]
  · rfl
 | false =>
  refine fnS E0Ok Zo (c:=X1 f38) [] (.tup [.f .f32 0, .b false]) [] func38 (p (sB' h0<|sK [] sN)) rfl (by kernel_rfl) (by kernel_rfl) rfl ?_ ?_
  · simp only [Z1E,h0,cond_false]
  · rfl
def ndB:List Nat→Bool
  | []=>true
  | x :: l => !(l.any fun y=>Nat.beq x y) && ndB l
theorem Z7H:∀ {l:List Nat},ndB l=true→l.Nodup
  | [],_=>List.nodup_nil
  | x :: l,h=>by
    rw [ndB,Bool.and_eq_true,Bool.not_eq_true'] at h
    refine List.nodup_cons.2 ⟨fun hx => ?_,Z7H h.2⟩
    have:=List.any_eq_true.2 ⟨x,hx,show Nat.beq x x=true from Nat.beq_refl x⟩
    rw [this] at h;cases h.1
def shB (m:Gm):Bool:=ndB ((m.Tr.flatMap dE).map fun p=>p.1.toNat * 64 + p.2.toNat)
theorem Z96 {m:Gm} (hv:Zh m=true) (h:shB m=true):Zs m=true:=by
  rw [Z7F,hv,cond_true]
  exact decide_eq_true (List.Pairwise.of_map _ (fun a b hab e=>hab (by rw [e])) (Z7H h))
theorem Z7I (m:Gm):(Zf m).2.length=(Zx m).2.length:=X3f Gedge.pr _
def brN (m:Gm):Nat:=((Zx m).2.filter fun e=>decide (((Zx m).1.getD (midx (Zx m).1 e) default).2.length=1)).length
theorem Z7J (m:Gm) (ok:OkE m.Pq.length m.Tr):(Z1o m).length=brN m:=by
  rw [Z6s m ok]
  unfold brL brN
  rw [← Z3X m ok]
  have hp:List.Perm (Zf m).2 (Zx m).2:=List.mergeSort_perm _ _
  rw [(hp.filter _).length_eq]
  congr 1
  refine List.filter_congr fun e he => ?_
  rw [← (Z73 m ok (hp.mem_iff.2 he)).2]
  rfl
structure FF (m:Gm) (e b:Int) (c:Bool):Prop where
  a1:(Zi m).2=true
  a2:(Zl m).2=true
  a3:(Zn m).2=true
  a4:(Ze m).2.2=true
  a5:Zs m=true
  a6:(Zi m).1=e
  a7:((Zl m).1.length:Int)=b
  a8:(Ze m).2.1=1
  a9:ZV m=c
  a10:IntKind.wrap .i64 (IntKind.wrap .i64 ((m.Pq.length:Int) - ((Zn m).1.length:Int)) + (m.Tr.length:Int))=e
  l1:m.Pq.length≤1073741824
  l2:m.Tr.length≤1073741824
  l3:∀ t∈m.Tr,t.length≤1073741824
def ffB (m:Gm) (e b:Int) (c:Bool):Bool :=
  Zh m && (IntKind.wrap .i64 (Z22 m - ((Zx m).2.length:Int)) == e && ((brN m:Int) == b && ((Z1P m).1 == 1 && (shB m && ((decide ((m.Tr.length:Int) > 0) && ((b == 0) == c)) && (IntKind.wrap .i64 (IntKind.wrap .i64 ((m.Pq.length:Int) - ((Zx m).2.length:Int)) + (m.Tr.length:Int)) == e))))))
theorem Z6G {m:Gm} {e b:Int} {c:Bool} (h:ffB m e b c=true):FF m e b c:=by
  unfold ffB at h
  simp only [Bool.and_eq_true,beq_iff_eq] at h
  obtain ⟨h1,h2,h3,h4,h5,⟨h6,h7⟩,h8⟩:=h
  have ok:=ZO m h1
  have h5:=Z96 h1 h5
  have hE:(Zn m).1.length=(Zx m).2.length:=by
    unfold Zn
    rw [h1,cond_true]
    show (Z1t _).length=_
    rw [Z56,List.length_map,Z7I]
  refine ⟨?_,?_,?_,?_,h5,?_,?_,?_,?_,?_,?_,?_,?_⟩
  · unfold Zi;rw [h1];rfl
  · unfold Zl;rw [h1];rfl
  · unfold Zn;rw [h1];rfl
  · unfold Ze;rw [h1];rfl
  · unfold Zi;rw [h1,cond_true,Z7I];exact h2
  · unfold Zl;rw [h1,cond_true]
    show ((Z1t _).length:Int)=_
    rw [Z56,List.length_map,Z7J m ok];exact h3
  · unfold Ze;rw [h1];exact h4
  · unfold ZV
    rw [h5,cond_true,h6,cond_true,Z7J m ok,h3]
    exact h7
  · rw [hE];exact h8
  · have:=ok.1;omega
  · have:=ok.2.1;omega
  · intro t ht;have:=(ok.tris t ht).1;omega
theorem Z7h {w h:Int} {s:Nat} (hm:(Z1 w h s).2=true):(Z1 w h s).1=⟨Zg w h s,Z9 w h s⟩:=by
  revert hm
  unfold Z1 Zm ZA
  generalize (⟨Zg w h s,Z9 w h s⟩:Gm)=m
  intro hm
  cases e1:Z4 w 1 64<;>rw [e1] at hm<;>simp only [cond_true,cond_false] at hm<;>(try (cases hm;done))
  cases e2:Z4 h 1 64<;>rw [e2] at hm<;>simp only [cond_true,cond_false] at hm<;>(try (cases hm;done))
  cases e3:decide ((w + 1) * (h + 1) > 64)<;>rw [e3] at hm<;>simp only [cond_true,cond_false] at hm<;>(try (cases hm;done))
  cases e4:Z6 s<;>rw [e4] at hm<;>simp only [cond_true,cond_false] at hm<;>(try (cases hm;done))
  cases e5:Zh m<;>rw [e5] at hm<;>simp only [cond_true,cond_false] at hm ⊢ <;> (try (cases hm;done))
theorem Z85 {S R:Int} {u v:Nat} (hm:(Z2 S R u v).2=true):(Z2 S R u v).1=⟨(Zj S R u v).1,(Zj S R u v).2⟩:=by
  revert hm
  unfold Z2 Zm ZA
  generalize (⟨(Zj S R u v).1,(Zj S R u v).2⟩:Gm)=m
  intro hm
  cases e1:Z4 S 3 16<;>rw [e1] at hm<;>simp only [cond_true,cond_false] at hm<;>(try (cases hm;done))
  cases e2:Z4 R 1 64<;>rw [e2] at hm<;>simp only [cond_true,cond_false] at hm<;>(try (cases hm;done))
  cases e3:Z6 u<;>rw [e3] at hm<;>simp only [cond_true,cond_false] at hm<;>(try (cases hm;done))
  cases e4:Z6 v<;>rw [e4] at hm<;>simp only [cond_true,cond_false] at hm<;>(try (cases hm;done))
  cases e5:Zh m<;>rw [e5] at hm<;>simp only [cond_true,cond_false] at hm ⊢ <;> (try (cases hm;done))
theorem Z86 (s:Nat):(List.range 6).all (fun j=>ffB ⟨Zg 1 ((j:Int) + 1) s,Z9 1 ((j:Int) + 1) s⟩ 1 (IntKind.wrap .i64 (2 * (IntKind.wrap .i64 (1 + ((j:Int) + 1))))) false)=true:=by kernel_rfl
theorem Z87 (s:Nat):(List.range 6).all (fun j=>ffB ⟨Zg 2 ((j:Int) + 1) s,Z9 2 ((j:Int) + 1) s⟩ 1 (IntKind.wrap .i64 (2 * (IntKind.wrap .i64 (2 + ((j:Int) + 1))))) false)=true:=by kernel_rfl
theorem Z88 (s:Nat):(List.range 6).all (fun j=>ffB ⟨Zg 3 ((j:Int) + 1) s,Z9 3 ((j:Int) + 1) s⟩ 1 (IntKind.wrap .i64 (2 * (IntKind.wrap .i64 (3 + ((j:Int) + 1))))) false)=true:=by kernel_rfl
theorem Z89 (s:Nat):(List.range 6).all (fun j=>ffB ⟨Zg 4 ((j:Int) + 1) s,Z9 4 ((j:Int) + 1) s⟩ 1 (IntKind.wrap .i64 (2 * (IntKind.wrap .i64 (4 + ((j:Int) + 1))))) false)=true:=by kernel_rfl
theorem Z8a (s:Nat):(List.range 6).all (fun j=>ffB ⟨Zg 5 ((j:Int) + 1) s,Z9 5 ((j:Int) + 1) s⟩ 1 (IntKind.wrap .i64 (2 * (IntKind.wrap .i64 (5 + ((j:Int) + 1))))) false)=true:=by kernel_rfl
theorem Z8b (s:Nat):(List.range 6).all (fun j=>ffB ⟨Zg 6 ((j:Int) + 1) s,Z9 6 ((j:Int) + 1) s⟩ 1 (IntKind.wrap .i64 (2 * (IntKind.wrap .i64 (6 + ((j:Int) + 1))))) false)=true:=by kernel_rfl
theorem Z7i {w h:Int} {s:Nat} (w1:1≤w) (w6:w≤6) (h1:1≤h) (h6:h≤6):ffB ⟨Zg w h s,Z9 w h s⟩ 1 (IntKind.wrap .i64 (2 * (IntKind.wrap .i64 (w + h)))) false=true:=by
  obtain ⟨j,rfl⟩:∃ j:Nat,h=(j:Int) + 1:=⟨(h - 1).toNat,by omega⟩
  have hj:j∈List.range 6:=List.mem_range.2 (by omega)
  have hw:w=1∨w=2∨w=3∨w=4∨w=5∨w=6:=by omega
  rcases hw with rfl | rfl | rfl | rfl | rfl | rfl
  · exact List.all_eq_true.1 (Z86 s) j hj
  · exact List.all_eq_true.1 (Z87 s) j hj
  · exact List.all_eq_true.1 (Z88 s) j hj
  · exact List.all_eq_true.1 (Z89 s) j hj
  · exact List.all_eq_true.1 (Z8a s) j hj
  · exact List.all_eq_true.1 (Z8b s) j hj
theorem Z7r {m:Gm} {e b:Int} {c:Bool} (h:ffB m e b c=true):Zh m=true:=by
  unfold ffB at h
  rw [Bool.and_eq_true] at h
  exact h.1
theorem ZI {w h:Int} {s:Nat} (w1:1≤w) (w6:w≤6) (h1:1≤h) (h6:h≤6) (hm:(Z1 w h s).2=true):FF (Z1 w h s).1 1 (IntKind.wrap .i64 (2 * (IntKind.wrap .i64 (w + h)))) false:=by
  rw [Z7h hm];exact Z6G (Z7i w1 w6 h1 h6)
theorem Z6a {n a b:Int} (h1:a≤n) (h2:n≤b):Z4 n a b=true:=by
  unfold Z4;rw [decide_eq_true (show n ≥ a from h1),cond_true];exact decide_eq_true h2
theorem Z8c {w h:Int} {s:Nat} (w1:1≤w) (w6:w≤6) (h1:1≤h) (h6:h≤6) (hs:Z6 s=true):(Z1 w h s).2=true:=by
  have hv:=Z7r (Z7i (s:=s) w1 w6 h1 h6)
  have q:=Z1Y (a:=w + 1) (b:=h + 1) (by omega) (by omega) (by omega) (by omega)
  unfold Z1 Zm ZA
  rw [Z6a w1 (by omega),Z6a h1 (by omega),decide_eq_false (by omega),hs,hv]
  rfl
theorem Z8d (u v:Nat):(List.range 6).all (fun j=>ffB ⟨(Zj ((j:Int) + 3) 1 u v).1,(Zj ((j:Int) + 3) 1 u v).2⟩ 0 (IntKind.wrap .i64 (2 * ((j:Int) + 3))) false)=true:=by kernel_rfl
theorem Z8e (u v:Nat):(List.range 6).all (fun j=>ffB ⟨(Zj ((j:Int) + 3) 2 u v).1,(Zj ((j:Int) + 3) 2 u v).2⟩ 0 (IntKind.wrap .i64 (2 * ((j:Int) + 3))) false)=true:=by kernel_rfl
theorem Z8f (u v:Nat):(List.range 6).all (fun j=>ffB ⟨(Zj ((j:Int) + 3) 3 u v).1,(Zj ((j:Int) + 3) 3 u v).2⟩ 0 (IntKind.wrap .i64 (2 * ((j:Int) + 3))) false)=true:=by kernel_rfl
theorem Z8g (u v:Nat):(List.range 6).all (fun j=>ffB ⟨(Zj ((j:Int) + 3) 4 u v).1,(Zj ((j:Int) + 3) 4 u v).2⟩ 0 (IntKind.wrap .i64 (2 * ((j:Int) + 3))) false)=true:=by kernel_rfl
theorem Z8h (u v:Nat):(List.range 6).all (fun j=>ffB ⟨(Zj ((j:Int) + 3) 5 u v).1,(Zj ((j:Int) + 3) 5 u v).2⟩ 0 (IntKind.wrap .i64 (2 * ((j:Int) + 3))) false)=true:=by kernel_rfl
theorem Z7j {S R:Int} {u v:Nat} (s1:3≤S) (s6:S≤8) (h1:1≤R) (h6:R≤5):ffB ⟨(Zj S R u v).1,(Zj S R u v).2⟩ 0 (IntKind.wrap .i64 (2 * S)) false=true:=by
  obtain ⟨j,rfl⟩:∃ j:Nat,S=(j:Int) + 3:=⟨(S - 3).toNat,by omega⟩
  have hj:j∈List.range 6:=List.mem_range.2 (by omega)
  have hw:R=1∨R=2∨R=3∨R=4∨R=5:=by omega
  rcases hw with rfl | rfl | rfl | rfl | rfl
  · exact List.all_eq_true.1 (Z8d u v) j hj
  · exact List.all_eq_true.1 (Z8e u v) j hj
  · exact List.all_eq_true.1 (Z8f u v) j hj
  · exact List.all_eq_true.1 (Z8g u v) j hj
  · exact List.all_eq_true.1 (Z8h u v) j hj
theorem ZJ {S R:Int} {u v:Nat} (s1:3≤S) (s6:S≤8) (h1:1≤R) (h6:R≤5) (hm:(Z2 S R u v).2=true):FF (Z2 S R u v).1 0 (IntKind.wrap .i64 (2 * S)) false:=by
  rw [Z85 hm];exact Z6G (Z7j s1 s6 h1 h6)
theorem Z8i {S R:Int} {u v:Nat} (s1:3≤S) (s6:S≤8) (h1:1≤R) (h6:R≤5) (hu:Z6 u=true) (hv:Z6 v=true):(Z2 S R u v).2=true:=by
  have hm:=Z7r (Z7j (u:=u) (v:=v) s1 s6 h1 h6)
  unfold Z2 Zm ZA
  rw [Z6a s1 (by omega),Z6a h1 (by omega),hu,hv,hm]
  rfl
theorem ZW {s:Nat} (hm:(Z3 s).2=true):FF (Z3 s).1 2 0 true:=by
  revert hm
  unfold Z3
  intro hm
  cases e4:Z6 s<;>rw [e4] at hm<;>simp only [cond_true,cond_false] at hm ⊢ <;> (try (cases hm;done))
  exact Z6G (by kernel_rfl)
theorem Z7K (l:List Gv) (hl:l.length=18):ffB ⟨l,X1K.flatten⟩ 2 0 true=true:=by
  match l,hl with
  | [a1,a2,a3,a4,a5,a6,a7,a8,a9,a10,a11,a12,a13,a14,a15,a16,a17,a18],_=>show _=_;kernel_rfl
theorem ZN {a:Int} {s:Nat} (hm:(Z8 a s).2=true):FF (Z8 a s).1 2 0 true:=by
  have h0:=Z6b a s
  have hb:=Z7K _ h0
  revert hm
  unfold Z8 Zm ZA
  rw [Z4K]
  intro hm
  cases e1:Z4 a 0 1<;>rw [e1] at hm<;>simp only [cond_true,cond_false] at hm ⊢ <;> (try (cases hm;done))
  cases e4:Z6 s<;>rw [e4] at hm<;>simp only [cond_true,cond_false] at hm ⊢ <;> (try (cases hm;done))
  cases e2:(a == 0)<;>rw [e2] at hm<;>simp only [cond_true,cond_false] at hm ⊢
  · cases e5:Zh (⟨(Z7 a s).2,X1K.flatten⟩:Gm)<;>rw [e5] at hm<;>simp only [cond_true,cond_false] at hm ⊢ <;> (try (cases hm;done))
    exact Z6G hb
  · exact Z6G (by rw [Z2K];kernel_rfl)
theorem Z91 {s:Nat} (hs:Z6 s=true):(Z3 s).2=true:=by
  unfold Z3;rw [hs];rfl
theorem Z8j {a:Int} {s:Nat} (h0:0≤a) (h1:a≤1) (hs:Z6 s=true):(Z8 a s).2=true:=by
  have hb:=Z7r (Z7K _ (Z6b a s))
  unfold Z8 Zm ZA
  rw [Z4K,Z6a h0 h1,hs,hb]
  cases (a == 0)<;>rfl
def arT (m:Gm) (t:List Int):Nat:=fop .quo .f32 (Z1s (Zt m t)) 1073741824
theorem Z7L (m:Gm):Z1K m=m.Tr.foldl (fun s t=>fop .add .f32 s (arT m t)) 0:=by
  unfold Z1K
  exact X7t (f:=fun s t=>fop .add .f32 s (arT m t)) (a:=m.Tr) (lo:=Z1u m) (fun k s i=>rfl) 0
def sumN (c:Nat):Nat→Nat
  | 0=>0
  | n + 1=>fop .add .f32 (sumN c n) c
theorem Z6Y {m:Gm} {c:Nat}:∀ (l:List (List Int)) (n:Nat),(∀ t∈l,arT m t=c)→l.foldl (fun s t=>fop .add .f32 s (arT m t)) (sumN c n)=sumN c (n + l.length)
  | [],n,_=>rfl
  | t :: l,n,h=>by
    rw [List.foldl_cons,h t List.mem_cons_self,List.length_cons]
    have:=Z6Y l (n + 1) (fun t ht=>h t (List.mem_cons_of_mem _ ht))
    rw [show n + (l.length + 1)=n + 1 + l.length from by omega,← this];rfl
def gpt (s:Nat) (x y:Int):Gv:=⟨fop .mul .f32 (X0 .f32 x) s,fop .mul .f32 (X0 .f32 y) s,0⟩
def gnA (s:Nat) (x y:Int):Gv:=Z21 (Z1f (gpt s (x + 1) y) (gpt s x y)) (Z1f (gpt s (x + 1) (y + 1)) (gpt s x y))
def gnB (s:Nat) (x y:Int):Gv:=Z21 (Z1f (gpt s (x + 1) (y + 1)) (gpt s x y)) (Z1f (gpt s x (y + 1)) (gpt s x y))
def gnL (w h:Nat) (s:Nat):List Gv:=(List.range h).flatMap fun (y:Nat)=>(List.range w).flatMap fun (x:Nat) => [gnA s (x:Int) (y:Int),gnB s (x:Int) (y:Int)]
def szW (k:Nat):Nat:=fop .quo .f32 (X0 .f32 ((k:Int) + 1)) 1082130432
def hfW (k:Nat):Nat:=fop .quo .f32 (fop .mul .f32 (szW k) (szW k)) 1073741824
theorem Z92:(List.range 16).all (fun k=>(List.range 6).all fun (x:Nat)=>Nat.beq (fop .sub .f32 (fop .mul .f32 (X0 .f32 ((x:Int) + 1)) (szW k)) (fop .mul .f32 (X0 .f32 (x:Int)) (szW k))) (szW k) && Nat.beq (fop .sub .f32 (fop .mul .f32 (X0 .f32 (x:Int)) (szW k)) (fop .mul .f32 (X0 .f32 (x:Int)) (szW k))) 0)=true:=by kernel_rfl
theorem Z93:(List.range 16).all (fun k=>Nat.beq (fop .quo .f32 (Z1s (Z21 ⟨szW k,0,0⟩ ⟨szW k,szW k,0⟩)) 1073741824) (hfW k) && Nat.beq (fop .quo .f32 (Z1s (Z21 ⟨szW k,szW k,0⟩ ⟨0,szW k,0⟩)) 1073741824) (hfW k))=true:=by kernel_rfl
theorem Z8k {k x y:Nat} (hk:k < 16) (hx:x < 6) (hy:y < 6):fop .quo .f32 (Z1s (gnA (szW k) (x:Int) (y:Int))) 1073741824=hfW k∧fop .quo .f32 (Z1s (gnB (szW k) (x:Int) (y:Int))) 1073741824=hfW k:=by
  have q:=List.all_eq_true.1 Z92 k (List.mem_range.2 hk)
  have qx:=List.all_eq_true.1 q x (List.mem_range.2 hx)
  have qy:=List.all_eq_true.1 q y (List.mem_range.2 hy)
  have q1:=List.all_eq_true.1 Z93 k (List.mem_range.2 hk)
  rw [Bool.and_eq_true] at qx qy q1
  have x1:=Nat.eq_of_beq_eq_true qx.1
  have x2:=Nat.eq_of_beq_eq_true qx.2
  have y1:=Nat.eq_of_beq_eq_true qy.1
  have y2:=Nat.eq_of_beq_eq_true qy.2
  have z0:fop .sub .f32 0 0=0:=by decide +kernel
  unfold gnA gnB gpt Z1f
  simp only [x1,x2,y1,y2,z0]
  exact ⟨Nat.eq_of_beq_eq_true q1.1,Nat.eq_of_beq_eq_true q1.2⟩
theorem Z97:∀ k∈List.range 16,Vl .f32 (hfW k) (((k + 1) * (k + 1):Nat) / 32)∧Vl .f32 (fop .mul .f32 (szW k) (szW k)) (((k + 1) * (k + 1):Nat) / 16):=by unfold Vl;decide +kernel
theorem Z94:∀ n∈List.range 40,Vl .f32 (X0 .f32 ((n:Nat):Int)) (n:Rat):=by unfold Vl;decide +kernel
theorem Z7k {c K:Nat} (hK:K≤256) (hc:Vl .f32 c ((K:Rat) / 32)):∀ n,n≤72→Vl .f32 (sumN c n) (((n * K:Nat):Rat) / 32)
  | 0,_=>by
    have h0:Vl .f32 0 0:=by unfold Vl;decide +kernel
    have e:(((0 * K:Nat):Rat) / 32)=0:=by rw [Nat.zero_mul];decide +kernel
    rw [e];exact h0
  | n + 1,h=>by
    have ih:=Z7k hK hc n (by omega)
    have e:((n * K:Nat):Rat) / 32 + (K:Rat) / 32=(((n + 1) * K:Nat):Rat) / 32:=by
      rw [Nat.add_mul,Nat.one_mul,Rat.natCast_add];grind
    have hr:Rp .f32 (((n * K:Nat):Rat) / 32 + (K:Rat) / 32):=by
      refine ⟨(((n + 1) * K:Nat):Int),5,?_,?_,by omega⟩
      · rw [e,show (2:Rat)^((5:Nat):Int)=32 from by decide +kernel,Rat.intCast_natCast];grind
      · have h1:(n + 1) * K≤72 * 256:=Nat.mul_le_mul h hK
        have h2:2 * FloatKind.f32.format.binade=16777216:=by decide +kernel
        omega
    have:=addX ih hc hr
    rw [e] at this
    exact this
theorem Z8l {k n:Nat} (hk:k < 16) (hn:n≤36):fcmp .eql .f32 (sumN (hfW k) (2 * n)) (fop .mul .f32 (fop .mul .f32 (szW k) (szW k)) (X0 .f32 (n:Int)))=true:=by
  obtain ⟨h1,h2⟩:=Z97 k (List.mem_range.2 hk)
  have hK:(k + 1) * (k + 1)≤256:=Nat.mul_le_mul (show k + 1≤16 by omega) (show k + 1≤16 by omega)
  generalize (k + 1) * (k + 1)=K at *
  have h3:=Z7k hK h1 (2 * n) (by omega)
  have h4:=Z94 n (List.mem_range.2 (by omega))
  have e:(K:Rat) / 16 * (n:Rat)=((2 * n * K:Nat):Rat) / 32:=by
    rw [Rat.natCast_mul,Rat.natCast_mul];grind
  have hr:Rp .f32 ((K:Rat) / 16 * (n:Rat)):=by
    refine ⟨((2 * n * K:Nat):Int),5,?_,?_,by omega⟩
    · rw [e,show (2:Rat)^((5:Nat):Int)=32 from by decide +kernel,Rat.intCast_natCast];grind
    · have h1:2 * n * K≤72 * 256:=Nat.mul_le_mul (by omega) hK
      have h2:2 * FloatKind.f32.format.binade=16777216:=by decide +kernel
      omega
  have h5:=mulX h2 h4 hr
  rw [eqlV h3 h5,e]
  exact decide_eq_true rfl
set_option maxHeartbeats 1000000 in
theorem Z8m (s:Nat):(Z9 1 1 s).map (Zt ⟨Zg 1 1 s,Z9 1 1 s⟩)=gnL 1 1 s∧(gnL 1 1 s).length=2:=by exact ⟨by kernel_rfl,by kernel_rfl⟩
theorem Z8n (s:Nat):(Z9 1 2 s).map (Zt ⟨Zg 1 2 s,Z9 1 2 s⟩)=gnL 1 2 s∧(gnL 1 2 s).length=4:=by exact ⟨by kernel_rfl,by kernel_rfl⟩
theorem Z8o (s:Nat):(Z9 1 3 s).map (Zt ⟨Zg 1 3 s,Z9 1 3 s⟩)=gnL 1 3 s∧(gnL 1 3 s).length=6:=by exact ⟨by kernel_rfl,by kernel_rfl⟩
theorem Z8p (s:Nat):(Z9 1 4 s).map (Zt ⟨Zg 1 4 s,Z9 1 4 s⟩)=gnL 1 4 s∧(gnL 1 4 s).length=8:=by exact ⟨by kernel_rfl,by kernel_rfl⟩
theorem Z8q (s:Nat):(Z9 1 5 s).map (Zt ⟨Zg 1 5 s,Z9 1 5 s⟩)=gnL 1 5 s∧(gnL 1 5 s).length=10:=by exact ⟨by kernel_rfl,by kernel_rfl⟩
theorem Z8r (s:Nat):(Z9 1 6 s).map (Zt ⟨Zg 1 6 s,Z9 1 6 s⟩)=gnL 1 6 s∧(gnL 1 6 s).length=12:=by exact ⟨by kernel_rfl,by kernel_rfl⟩
theorem Z8s (s:Nat):(Z9 2 1 s).map (Zt ⟨Zg 2 1 s,Z9 2 1 s⟩)=gnL 2 1 s∧(gnL 2 1 s).length=4:=by exact ⟨by kernel_rfl,by kernel_rfl⟩
theorem Z8t (s:Nat):(Z9 2 2 s).map (Zt ⟨Zg 2 2 s,Z9 2 2 s⟩)=gnL 2 2 s∧(gnL 2 2 s).length=8:=by exact ⟨by kernel_rfl,by kernel_rfl⟩
theorem Z8u (s:Nat):(Z9 2 3 s).map (Zt ⟨Zg 2 3 s,Z9 2 3 s⟩)=gnL 2 3 s∧(gnL 2 3 s).length=12:=by exact ⟨by kernel_rfl,by kernel_rfl⟩
theorem Z8v (s:Nat):(Z9 2 4 s).map (Zt ⟨Zg 2 4 s,Z9 2 4 s⟩)=gnL 2 4 s∧(gnL 2 4 s).length=16:=by exact ⟨by kernel_rfl,by kernel_rfl⟩
theorem Z8w (s:Nat):(Z9 2 5 s).map (Zt ⟨Zg 2 5 s,Z9 2 5 s⟩)=gnL 2 5 s∧(gnL 2 5 s).length=20:=by exact ⟨by kernel_rfl,by kernel_rfl⟩
theorem Z8x (s:Nat):(Z9 2 6 s).map (Zt ⟨Zg 2 6 s,Z9 2 6 s⟩)=gnL 2 6 s∧(gnL 2 6 s).length=24:=by exact ⟨by kernel_rfl,by kernel_rfl⟩
theorem Z8y (s:Nat):(Z9 3 1 s).map (Zt ⟨Zg 3 1 s,Z9 3 1 s⟩)=gnL 3 1 s∧(gnL 3 1 s).length=6:=by exact ⟨by kernel_rfl,by kernel_rfl⟩
theorem Z8z (s:Nat):(Z9 3 2 s).map (Zt ⟨Zg 3 2 s,Z9 3 2 s⟩)=gnL 3 2 s∧(gnL 3 2 s).length=12:=by exact ⟨by kernel_rfl,by kernel_rfl⟩
theorem Z8A (s:Nat):(Z9 3 3 s).map (Zt ⟨Zg 3 3 s,Z9 3 3 s⟩)=gnL 3 3 s∧(gnL 3 3 s).length=18:=by exact ⟨by kernel_rfl,by kernel_rfl⟩
theorem Z8B (s:Nat):(Z9 3 4 s).map (Zt ⟨Zg 3 4 s,Z9 3 4 s⟩)=gnL 3 4 s∧(gnL 3 4 s).length=24:=by exact ⟨by kernel_rfl,by kernel_rfl⟩
theorem Z8C (s:Nat):(Z9 3 5 s).map (Zt ⟨Zg 3 5 s,Z9 3 5 s⟩)=gnL 3 5 s∧(gnL 3 5 s).length=30:=by exact ⟨by kernel_rfl,by kernel_rfl⟩
theorem Z8D (s:Nat):(Z9 3 6 s).map (Zt ⟨Zg 3 6 s,Z9 3 6 s⟩)=gnL 3 6 s∧(gnL 3 6 s).length=36:=by exact ⟨by kernel_rfl,by kernel_rfl⟩
theorem Z8E (s:Nat):(Z9 4 1 s).map (Zt ⟨Zg 4 1 s,Z9 4 1 s⟩)=gnL 4 1 s∧(gnL 4 1 s).length=8:=by exact ⟨by kernel_rfl,by kernel_rfl⟩
theorem Z8F (s:Nat):(Z9 4 2 s).map (Zt ⟨Zg 4 2 s,Z9 4 2 s⟩)=gnL 4 2 s∧(gnL 4 2 s).length=16:=by exact ⟨by kernel_rfl,by kernel_rfl⟩
theorem Z8G (s:Nat):(Z9 4 3 s).map (Zt ⟨Zg 4 3 s,Z9 4 3 s⟩)=gnL 4 3 s∧(gnL 4 3 s).length=24:=by exact ⟨by kernel_rfl,by kernel_rfl⟩
theorem Z8H (s:Nat):(Z9 4 4 s).map (Zt ⟨Zg 4 4 s,Z9 4 4 s⟩)=gnL 4 4 s∧(gnL 4 4 s).length=32:=by exact ⟨by kernel_rfl,by kernel_rfl⟩
theorem Z8I (s:Nat):(Z9 4 5 s).map (Zt ⟨Zg 4 5 s,Z9 4 5 s⟩)=gnL 4 5 s∧(gnL 4 5 s).length=40:=by exact ⟨by kernel_rfl,by kernel_rfl⟩
theorem Z8J (s:Nat):(Z9 4 6 s).map (Zt ⟨Zg 4 6 s,Z9 4 6 s⟩)=gnL 4 6 s∧(gnL 4 6 s).length=48:=by exact ⟨by kernel_rfl,by kernel_rfl⟩
theorem Z8K (s:Nat):(Z9 5 1 s).map (Zt ⟨Zg 5 1 s,Z9 5 1 s⟩)=gnL 5 1 s∧(gnL 5 1 s).length=10:=by exact ⟨by kernel_rfl,by kernel_rfl⟩
theorem Z8L (s:Nat):(Z9 5 2 s).map (Zt ⟨Zg 5 2 s,Z9 5 2 s⟩)=gnL 5 2 s∧(gnL 5 2 s).length=20:=by exact ⟨by kernel_rfl,by kernel_rfl⟩
theorem Z8M (s:Nat):(Z9 5 3 s).map (Zt ⟨Zg 5 3 s,Z9 5 3 s⟩)=gnL 5 3 s∧(gnL 5 3 s).length=30:=by exact ⟨by kernel_rfl,by kernel_rfl⟩
theorem Z8N (s:Nat):(Z9 5 4 s).map (Zt ⟨Zg 5 4 s,Z9 5 4 s⟩)=gnL 5 4 s∧(gnL 5 4 s).length=40:=by exact ⟨by kernel_rfl,by kernel_rfl⟩
theorem Z8O (s:Nat):(Z9 5 5 s).map (Zt ⟨Zg 5 5 s,Z9 5 5 s⟩)=gnL 5 5 s∧(gnL 5 5 s).length=50:=by exact ⟨by kernel_rfl,by kernel_rfl⟩
theorem Z8P (s:Nat):(Z9 5 6 s).map (Zt ⟨Zg 5 6 s,Z9 5 6 s⟩)=gnL 5 6 s∧(gnL 5 6 s).length=60:=by exact ⟨by kernel_rfl,by kernel_rfl⟩
theorem Z8Q (s:Nat):(Z9 6 1 s).map (Zt ⟨Zg 6 1 s,Z9 6 1 s⟩)=gnL 6 1 s∧(gnL 6 1 s).length=12:=by exact ⟨by kernel_rfl,by kernel_rfl⟩
theorem Z8R (s:Nat):(Z9 6 2 s).map (Zt ⟨Zg 6 2 s,Z9 6 2 s⟩)=gnL 6 2 s∧(gnL 6 2 s).length=24:=by exact ⟨by kernel_rfl,by kernel_rfl⟩
theorem Z8S (s:Nat):(Z9 6 3 s).map (Zt ⟨Zg 6 3 s,Z9 6 3 s⟩)=gnL 6 3 s∧(gnL 6 3 s).length=36:=by exact ⟨by kernel_rfl,by kernel_rfl⟩
theorem Z8T (s:Nat):(Z9 6 4 s).map (Zt ⟨Zg 6 4 s,Z9 6 4 s⟩)=gnL 6 4 s∧(gnL 6 4 s).length=48:=by exact ⟨by kernel_rfl,by kernel_rfl⟩
theorem Z8U (s:Nat):(Z9 6 5 s).map (Zt ⟨Zg 6 5 s,Z9 6 5 s⟩)=gnL 6 5 s∧(gnL 6 5 s).length=60:=by exact ⟨by kernel_rfl,by kernel_rfl⟩
theorem Z8V (s:Nat):(Z9 6 6 s).map (Zt ⟨Zg 6 6 s,Z9 6 6 s⟩)=gnL 6 6 s∧(gnL 6 6 s).length=72:=by exact ⟨by kernel_rfl,by kernel_rfl⟩
theorem Z7T {i j:Nat} (hi:i < 6) (hj:j < 6) (s:Nat):(Z9 ((i:Int) + 1) ((j:Int) + 1) s).map (Zt ⟨Zg ((i:Int) + 1) ((j:Int) + 1) s,Z9 ((i:Int) + 1) ((j:Int) + 1) s⟩)=gnL (i + 1) (j + 1) s∧(gnL (i + 1) (j + 1) s).length=2 * ((i + 1) * (j + 1)):=by
  have h1:i=0∨i=1∨i=2∨i=3∨i=4∨i=5:=by omega
  have h2:j=0∨j=1∨j=2∨j=3∨j=4∨j=5:=by omega
  rcases h1 with rfl | rfl | rfl | rfl | rfl | rfl
  · rcases h2 with rfl | rfl | rfl | rfl | rfl | rfl
    · exact Z8m s
    · exact Z8n s
    · exact Z8o s
    · exact Z8p s
    · exact Z8q s
    · exact Z8r s
  · rcases h2 with rfl | rfl | rfl | rfl | rfl | rfl
    · exact Z8s s
    · exact Z8t s
    · exact Z8u s
    · exact Z8v s
    · exact Z8w s
    · exact Z8x s
  · rcases h2 with rfl | rfl | rfl | rfl | rfl | rfl
    · exact Z8y s
    · exact Z8z s
    · exact Z8A s
    · exact Z8B s
    · exact Z8C s
    · exact Z8D s
  · rcases h2 with rfl | rfl | rfl | rfl | rfl | rfl
    · exact Z8E s
    · exact Z8F s
    · exact Z8G s
    · exact Z8H s
    · exact Z8I s
    · exact Z8J s
  · rcases h2 with rfl | rfl | rfl | rfl | rfl | rfl
    · exact Z8K s
    · exact Z8L s
    · exact Z8M s
    · exact Z8N s
    · exact Z8O s
    · exact Z8P s
  · rcases h2 with rfl | rfl | rfl | rfl | rfl | rfl
    · exact Z8Q s
    · exact Z8R s
    · exact Z8S s
    · exact Z8T s
    · exact Z8U s
    · exact Z8V s
theorem Z7M {i j k:Nat} (hi:i < 6) (hj:j < 6) (hk:k < 16):Z1K ⟨Zg ((i:Int) + 1) ((j:Int) + 1) (szW k),Z9 ((i:Int) + 1) ((j:Int) + 1) (szW k)⟩=sumN (hfW k) (2 * ((i + 1) * (j + 1))):=by
  obtain ⟨h1,h2⟩:=Z7T hi hj (szW k)
  rw [Z7L]
  have hl:(Z9 ((i:Int) + 1) ((j:Int) + 1) (szW k)).length=2 * ((i + 1) * (j + 1)):=by rw [← h2,← h1,List.length_map]
  have:=Z6Y (m:=⟨Zg ((i:Int) + 1) ((j:Int) + 1) (szW k),Z9 ((i:Int) + 1) ((j:Int) + 1) (szW k)⟩) (c:=hfW k) (Z9 ((i:Int) + 1) ((j:Int) + 1) (szW k)) 0 (fun t ht=>by
    have hm:=List.mem_map_of_mem (f:=Zt ⟨Zg ((i:Int) + 1) ((j:Int) + 1) (szW k),Z9 ((i:Int) + 1) ((j:Int) + 1) (szW k)⟩) ht
    rw [h1] at hm
    unfold gnL at hm
    obtain ⟨y,hy,hm⟩:=List.mem_flatMap.1 hm
    obtain ⟨x,hx,hm⟩:=List.mem_flatMap.1 hm
    have hy:=List.mem_range.1 hy
    have hx:=List.mem_range.1 hx
    have q:=Z8k hk (x:=x) (y:=y) (by omega) (by omega)
    unfold arT
    simp only [List.mem_cons,List.not_mem_nil,or_false] at hm
    rcases hm with hm | hm
    · rw [hm];exact q.1
    · rw [hm];exact q.2)
  rw [Nat.zero_add,hl] at this
  exact this
theorem Z7l {w h c:Int} (w1:1≤w) (w6:w≤6) (h1:1≤h) (h6:h≤6) (c1:1≤c) (c6:c≤16) (hm:(Z1 w h (fop .quo .f32 (X0 .f32 c) 1082130432)).2=true) :
    (Z1E (Z1 w h (fop .quo .f32 (X0 .f32 c) 1082130432)).1).2=true∧fcmp .eql .f32 (Z1E (Z1 w h (fop .quo .f32 (X0 .f32 c) 1082130432)).1).1 (fop .mul .f32 (fop .mul .f32 (fop .quo .f32 (X0 .f32 c) 1082130432) (fop .quo .f32 (X0 .f32 c) 1082130432)) (X0 .f32 (IntKind.wrap .i64 (w * h))))=true:=by
  have hv:=Z6t _ (ZI w1 w6 h1 h6 hm).a5
  obtain ⟨i,rfl⟩:∃ i:Nat,w=(i:Int) + 1:=⟨(w - 1).toNat,by omega⟩
  obtain ⟨j,rfl⟩:∃ i:Nat,h=(i:Int) + 1:=⟨(h - 1).toNat,by omega⟩
  obtain ⟨k,rfl⟩:∃ i:Nat,c=(i:Int) + 1:=⟨(c - 1).toNat,by omega⟩
  unfold Z1E
  rw [hv,cond_true]
  refine ⟨rfl,?_⟩
  rw [Z7h hm]
  show fcmp .eql .f32 (Z1K ⟨Zg ((i:Int) + 1) ((j:Int) + 1) (szW k),Z9 ((i:Int) + 1) ((j:Int) + 1) (szW k)⟩) (fop .mul .f32 (fop .mul .f32 (szW k) (szW k)) _)=true
  have hb:(i + 1) * (j + 1)≤6 * 6:=Nat.mul_le_mul (by omega) (by omega)
  have e:((i:Int) + 1) * ((j:Int) + 1)=(((i + 1) * (j + 1):Nat):Int):=by rw [Int.natCast_mul];rfl
  rw [Z7M (by omega) (by omega) (by omega),e,X1g (by omega) (by omega)]
  exact Z8l (by omega) (by omega)
end Go.Ab
