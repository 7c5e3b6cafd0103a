/- The functions of this seat as plain Lean, and that the program's are these. Printed by a program of the prover's own. -/
import Derived.Test.YtoibkmljibnjnaaB0
set_option linter.unusedVariables false
set_option linter.unusedSimpArgs false
set_option maxRecDepth 100000
namespace Go.Ab
open Go.RowKit Go.Proofs.Try
def Z1E (Y2:(List Int)) (Y10:(List Int)):Bool:=(cond (decide ((Y2.length:Int) > 48))
  true
  (decide ((Y10.length:Int) > 48)))
theorem Z5I {a b:List Int} (h:Z1E a b=false):a.length≤48∧b.length≤48:=by
  unfold Z1E at h
  cases h1:decide ((a.length:Int) > 48) with
  | true=>rw [h1] at h;cases h
  | false =>
    rw [h1,cond_false] at h
    have h1:=odf h1
    have h2:=odf h
    omega
theorem Z5N (Y2:(List Int)) (Y10:(List Int)) (hp0:Y2.length≤9223372036854775807) (hp1:Y10.length≤9223372036854775807)  : Fn prog 17 [.sl (Y2.map (cI .u8)), .sl (Y10.map (cI .u8))] (.b (Z1E Y2 Y10)) []:=by
 have p {a C} (s:Scr a C):=sZ (cI .u8) Y2<|s
 cases h0:(decide ((Y2.length:Int) > 48)) with
 | true =>
  have gh0:=odt h0
  refine fnS E0Ok Zb (c:=X0 f17) [] (.b true) [] func17 (p (sB h0<|sB h0<|sB h0<|sB h0<|sK [] sN)) rfl (by kernel_rfl) (by kernel_rfl) rfl ?_ ?_
  · simp only [Z1E,h0,cond_true]
  · rfl
 | false =>
  have gh0:=odf h0
  refine fnS E0Ok Zb (c:=X0 f17) [] (.b (decide ((Y10.length:Int) > 48))) [] func17 (p (sB h0<|sB h0<|sZ (cI .u8) Y10<|sB h0<|sB h0<|sK [] sN)) rfl (by kernel_rfl) (by kernel_rfl) rfl ?_ ?_
  · simp only [Z1E,h0,cond_false]
  · rfl
def Z4 (Y2:(List Int)) (k_1:Int) (n_2:Int):Int:=(cond (decide (n_2≤1))
  0
  (cond (decide (k_1 ≥ (Y2.length:Int)))
    0
    (Int.tmod (IntKind.wrap .i64 (Y2.getD k_1.toNat default)) n_2)))
theorem Z5Z {c:List Int} {k n:Int} (hc:OkB c) (h0:0≤k) (hn:1≤n):0≤Z4 c k n∧Z4 c k n < n:=by
  unfold Z4
  by_cases h1:n≤1
  · rw [decide_eq_true h1,cond_true];omega
  · rw [decide_eq_false h1,cond_false]
    by_cases h2:k ≥ (c.length:Int)
    · rw [decide_eq_true h2,cond_true];omega
    · rw [decide_eq_false h2,cond_false]
      have hm:c.getD k.toNat default∈c:=by
        rw [List.getD_eq_getElem?_getD,List.getElem?_eq_getElem (show k.toNat < c.length by omega)];exact List.getElem_mem _
      have q:=hc _ hm
      rw [XB (by omega) (by omega)]
      exact ⟨Int.tmod_nonneg _ q.1,Int.tmod_lt_of_pos _ (by omega)⟩
theorem Z5a (Y2:(List Int)) (k_1:Int) (n_2:Int) (hp0:Y2.length≤1073741824) (hp1:(0:Int)≤k_1)  : Fn prog 20 [.sl (Y2.map (cI .u8)), .i .i64 k_1, .i .i64 n_2] (.i .i64 (Z4 Y2 k_1 n_2)) []:=by
 cases h0:(decide (n_2≤1)) with
 | true =>
  have gh0:=odt h0
  refine fnS E0Ok Zb (c:=X0 f20) [] (.i .i64 0) [] func20 (sB h0<|sB h0<|sB h0<|sB h0<|sB h0<|sB (show true=true from rfl)<|sK [] sN) rfl (by kernel_rfl) (by kernel_rfl) rfl ?_ ?_
  · simp only [Z4,h0,cond_true]
  · rfl
 | false =>
  have gh0:=odf h0
  have p {a C} (s:Scr a C):=sB h0<|sB h0<|sB h0<|sZ (cI .u8) Y2<|sB h0<|sB h0<|s
  cases h1:(decide (k_1 ≥ (Y2.length:Int))) with
  | true =>
   have gh1:=odt h1
   refine fnS E0Ok Zb (c:=X0 f20) [] (.i .i64 0) [] func20 (p (sB h1<|sK [] sN)) rfl (by kernel_rfl) (by kernel_rfl) rfl ?_ ?_
   · simp only [Z4,h0,h1,cond_true,cond_false]
   · rfl
  | false =>
   have gh1:=odf h1
   have y0:k_1 < (Y2.length:Int):=by clear p;exact (by omega)
   have y1:n_2≠0:=by clear p;exact (by omega)
   refine fnS E0Ok Zb (c:=X0 f20) [] (.i .i64 (Int.tmod (IntKind.wrap .i64 (Y2.getD k_1.toNat default)) n_2)) [] func20 (p (sB h1<|sG (cI .u8) Y2 k_1 hp1 y0<|sW .i64 (Y2.getD k_1.toNat default)<|sC y1<|sQ (Int.tmod (IntKind.wrap .i64 (Y2.getD k_1.toNat default)) n_2)<|sK [] sN)) rfl (by kernel_rfl) (by kernel_rfl) rfl ?_ ?_
   · simp only [Z4,h0,h1,cond_false]
   · rfl
def Z32 (YE:Nat):Bool:=(fcmp .eql .f32 (fop .sub .f32 YE YE) 0)
theorem Z5c (YE:Nat)   : Fn prog 125 [.f .f32 YE] (.b (Z32 YE)) []:=by
 refine fnS E0Ok Zb (c:=X0 f125) [] (.b (fcmp .eql .f32 (fop .sub .f32 YE YE) 0)) [] func125 (sK [] sN) rfl (by kernel_rfl) (by kernel_rfl) rfl ?_ ?_
 · rfl
 · rfl
def Zv (YE:Nat):Bool:=(cond (Z32 YE)
  (fcmp .gtr .f32 YE 0)
  false)
theorem Z5v (YE:Nat)   : Fn prog 110 [.f .f32 YE] (.b (Zv YE)) []:=by
 have p {a C} (s:Scr a C):=sF (Z5c YE)<|s
 cases h0:(Z32 YE) with
 | true =>
  refine fnS E0Ok Zb (c:=X0 f110) [] (.b (fcmp .gtr .f32 YE 0)) [] func110 (p (sB h0<|sB h0<|sB h0<|sK [] sN)) rfl (by kernel_rfl) (by kernel_rfl) rfl ?_ ?_
  · simp only [Zv,h0,cond_true]
  · rfl
 | false =>
  refine fnS E0Ok Zb (c:=X0 f110) [] (.b false) [] func110 (p (sB h0<|sB h0<|sB h0<|sK [] sN)) rfl (by kernel_rfl) (by kernel_rfl) rfl ?_ ?_
  · simp only [Zv,h0,cond_false]
  · rfl
def Z1V (Y4:Nat):Nat→Unit
  | 0=>default
  | k + 1=>()
def Z2T (Y4:Nat) (r:Unit):Ex × St:=((.exit 0),⟨.f .f32 Y4 :: .any :: .ptr 0 0 0 :: .b false :: .ptr 1 0 0 :: .any :: .any :: .f .f32 Y4 :: .b (Zv Y4) :: .b (!(Zv Y4)) :: .any :: .agg [.nils, .nils] :: an 41 [],[.box 27 [.nils, .nils], .box 27 [.own 2, .nils], .vec 32 3 (((((((([[.f .f32 0, .f .f32 0, .f .f32 0]]:List (List AV)) ++ ([[.f .f32 Y4, .f .f32 0, .f .f32 0]]:List (List AV))) ++ ([[.f .f32 0, .f .f32 Y4, .f .f32 0]]:List (List AV))) ++ ([[.f .f32 Y4, .f .f32 Y4, .f .f32 0]]:List (List AV))) ++ ([[.f .f32 0, .f .f32 0, .f .f32 Y4]]:List (List AV))) ++ ([[.f .f32 Y4, .f .f32 0, .f .f32 Y4]]:List (List AV))) ++ ([[.f .f32 0, .f .f32 Y4, .f .f32 Y4]]:List (List AV))) ++ ([[.f .f32 Y4, .f .f32 Y4, .f .f32 Y4]]:List (List AV))) false]⟩)
def Z50 (Y4:Nat)  : St:=⟨.f .f32 Y4 :: .any :: .ptr 0 0 0 :: .b false :: .ptr 1 0 0 :: .i .i64 8 :: .any :: .f .f32 Y4 :: .b (Zv Y4) :: .b (!(Zv Y4)) :: .any :: .agg [.nils, .nils] :: an 41 [],[.box 27 [.nils, .nils], .box 27 [.own 2, .nils], .vec 32 3 (((((((([[.f .f32 0, .f .f32 0, .f .f32 0]]:List (List AV)) ++ ([[.f .f32 Y4, .f .f32 0, .f .f32 0]]:List (List AV))) ++ ([[.f .f32 0, .f .f32 Y4, .f .f32 0]]:List (List AV))) ++ ([[.f .f32 Y4, .f .f32 Y4, .f .f32 0]]:List (List AV))) ++ ([[.f .f32 0, .f .f32 0, .f .f32 Y4]]:List (List AV))) ++ ([[.f .f32 Y4, .f .f32 0, .f .f32 Y4]]:List (List AV))) ++ ([[.f .f32 0, .f .f32 Y4, .f .f32 Y4]]:List (List AV))) ++ ([[.f .f32 Y4, .f .f32 Y4, .f .f32 Y4]]:List (List AV))) false]⟩
theorem Z51 (Y4:Nat)  : ∀ (k:Nat)   (hk:0 < k),Lp prog 0 (sub (X0 f69) [1,1,1,0,1,0,0]) (Z50 Y4) (Z2T Y4 (Z1V Y4 k)).1 (Z2T Y4 (Z1V Y4 k)).2:=by
 intro k
 induction k with
 | zero=>intro hk;exact absurd hk (Nat.not_lt_zero _)
 | succ k ih =>
  intro hk
  have e:Z1V Y4 (k + 1)=():=by simp only [Z1V]
  rw [e]
  exact outR (e:=(.exit 0)) E0Ok Zb [] (mR false [0,1,1,3,2,3,1,1,41]) [0,1,2] (sB (show (decide (8 < 8))=false from rfl)<|sN) (by kernel_rfl) (by intro h;cases h)
def Z4B (Y4:Nat):Unit:=(Z1V Y4 (0 + 1))
def Z1k (Y4:Nat):Gm × Bool:=(cond (Zv Y4)
  ((⟨((((((([(⟨0,0,0⟩:Gv)] ++ [(⟨Y4,0,0⟩:Gv)]) ++ [(⟨0,Y4,0⟩:Gv)]) ++ [(⟨Y4,Y4,0⟩:Gv)]) ++ [(⟨0,0,Y4⟩:Gv)]) ++ [(⟨Y4,0,Y4⟩:Gv)]) ++ [(⟨0,Y4,Y4⟩:Gv)]) ++ [(⟨Y4,Y4,Y4⟩:Gv)]),([[0,2,3],[0,3,1],[4,5,7],[4,7,6],[0,1,5],[0,5,4],[2,6,7],[2,7,3],[0,4,6],[0,6,2],[1,3,7],[1,7,5]]:List (List Int))⟩:Gm),true)
  ((⟨([]:List Gv),([]:List (List Int))⟩:Gm),false))
set_option maxHeartbeats 1000000 in
theorem Z5w (Y4:Nat)   : Fn prog 69 [.f .f32 Y4] (.tup [.agg [.own 0, .own 1], .b ((Z1k Y4).2)]) [.vec 32 3 (((Z1k Y4).1.Pq).map Gv.c) false, .nest 60 (((Z1k Y4).1.Tr).map fun l=>l.map (cI .i64)) false]:=by
 have p {a C} (s:Scr a C):=sF (Z5v Y4)<|s
 cases h0:(Zv Y4) with
 | true =>
  have ypp0:([(⟨0,0,0⟩:Gv)]).length + ([(⟨Y4,0,0⟩:Gv)]).length≤1073741824:=by clear p;exact (by simp_all<;>omega)
  have yppp0:([(⟨0,0,0⟩:Gv)] ++ [(⟨Y4,0,0⟩:Gv)]).length + ([(⟨0,Y4,0⟩:Gv)]).length≤1073741824:=by clear p;exact (by simp_all<;>omega)
  have ypppp0:(([(⟨0,0,0⟩:Gv)] ++ [(⟨Y4,0,0⟩:Gv)]) ++ [(⟨0,Y4,0⟩:Gv)]).length + ([(⟨Y4,Y4,0⟩:Gv)]).length≤1073741824:=by clear p;exact (by simp_all<;>omega)
  have yppppp0:((([(⟨0,0,0⟩:Gv)] ++ [(⟨Y4,0,0⟩:Gv)]) ++ [(⟨0,Y4,0⟩:Gv)]) ++ [(⟨Y4,Y4,0⟩:Gv)]).length + ([(⟨0,0,Y4⟩:Gv)]).length≤1073741824:=by clear p;exact (by simp_all<;>omega)
  have ypppppp0:(((([(⟨0,0,0⟩:Gv)] ++ [(⟨Y4,0,0⟩:Gv)]) ++ [(⟨0,Y4,0⟩:Gv)]) ++ [(⟨Y4,Y4,0⟩:Gv)]) ++ [(⟨0,0,Y4⟩:Gv)]).length + ([(⟨Y4,0,Y4⟩:Gv)]).length≤1073741824:=by clear p;exact (by simp_all<;>omega)
  have yppppppp0:((((([(⟨0,0,0⟩:Gv)] ++ [(⟨Y4,0,0⟩:Gv)]) ++ [(⟨0,Y4,0⟩:Gv)]) ++ [(⟨Y4,Y4,0⟩:Gv)]) ++ [(⟨0,0,Y4⟩:Gv)]) ++ [(⟨Y4,0,Y4⟩:Gv)]).length + ([(⟨0,Y4,Y4⟩:Gv)]).length≤1073741824:=by clear p;exact (by simp_all<;>omega)
  have ypppppppp0:(((((([(⟨0,0,0⟩:Gv)] ++ [(⟨Y4,0,0⟩:Gv)]) ++ [(⟨0,Y4,0⟩:Gv)]) ++ [(⟨Y4,Y4,0⟩:Gv)]) ++ [(⟨0,0,Y4⟩:Gv)]) ++ [(⟨Y4,0,Y4⟩:Gv)]) ++ [(⟨0,Y4,Y4⟩:Gv)]).length + ([(⟨Y4,Y4,Y4⟩:Gv)]).length≤1073741824:=by clear p;exact (by simp_all<;>omega)
  refine fnS E0Ok Zb (c:=X0 f69) [] (.tup [.agg [.own 0, .own 1], .b true]) [.vec 32 3 (((((((([[.f .f32 0, .f .f32 0, .f .f32 0]]:List (List AV)) ++ ([[.f .f32 Y4, .f .f32 0, .f .f32 0]]:List (List AV))) ++ ([[.f .f32 0, .f .f32 Y4, .f .f32 0]]:List (List AV))) ++ ([[.f .f32 Y4, .f .f32 Y4, .f .f32 0]]:List (List AV))) ++ ([[.f .f32 0, .f .f32 0, .f .f32 Y4]]:List (List AV))) ++ ([[.f .f32 Y4, .f .f32 0, .f .f32 Y4]]:List (List AV))) ++ ([[.f .f32 0, .f .f32 Y4, .f .f32 Y4]]:List (List AV))) ++ ([[.f .f32 Y4, .f .f32 Y4, .f .f32 Y4]]:List (List AV))) false, .nest 60 (([[0,2,3],[0,3,1],[4,5,7],[4,7,6],[0,1,5],[0,5,4],[2,6,7],[2,7,3],[0,4,6],[0,6,2],[1,3,7],[1,7,5]]:List (List Int)).map fun l=>l.map (cI .i64)) false] func69 (p (sB' h0<|sL [] 0 (Xs (st:=⟨.f .f32 Y4 :: .any :: .ptr 0 0 0 :: .b false :: .ptr 1 0 0 :: .i .i64 0 :: .any :: .f .f32 Y4 :: .b (Zv Y4) :: .b (!(Zv Y4)) :: .any :: .agg [.nils, .nils] :: an 41 [],[.box 27 [.nils, .nils], .box 27 [.nils, .nils]]⟩) E0Ok Zb [] (mR false [0,53]) [0,1,2,3,4] (Xs (st:=⟨.f .f32 Y4 :: .any :: .ptr 0 0 0 :: .b false :: .ptr 1 0 0 :: .i .i64 1 :: .ptr 2 0 0 :: .f .f32 Y4 :: .b (Zv Y4) :: .b (!(Zv Y4)) :: .any :: .agg [.nils, .nils] :: .i .i64 0 :: .b (decide (0 < 8)) :: .i .i64 0 :: .i .i64 1 :: .agg [.f .f32 0, .f .f32 0, .f .f32 0] :: .i .i64 0 :: .i .i64 0 :: .b (0 == 1) :: .any :: .any :: .i .i64 0 :: .i .i64 0 :: .b (0 == 2) :: .any :: .any :: .i .i64 0 :: .i .i64 0 :: .b (0 == 4) :: .any :: .any :: .ptr 1 0 0 :: .nils :: .agg [.f .f32 0, .f .f32 0, .f .f32 0] :: .own 3 :: .own 4 :: .ptr 1 0 0 :: an 15 [],[.box 27 [.nils, .nils], .box 27 [.own 4, .nils], .box 32 [.f .f32 0, .f .f32 0, .f .f32 0], .vec 32 3 ([[.f .f32 0, .f .f32 0, .f .f32 0]]:List (List AV)) false, .vec 32 3 ([[.f .f32 0, .f .f32 0, .f .f32 0]]:List (List AV)) false]⟩) E0Ok Zb [] (mR false [0,53]) [0,1,2,3,4,5,6] (Xs (st:=⟨.f .f32 Y4 :: .any :: .ptr 0 0 0 :: .b false :: .ptr 1 0 0 :: .i .i64 2 :: .ptr 5 0 0 :: .f .f32 Y4 :: .b (Zv Y4) :: .b (!(Zv Y4)) :: .any :: .agg [.nils, .nils] :: .i .i64 1 :: .b (decide (1 < 8)) :: .i .i64 1 :: .i .i64 2 :: .agg [.f .f32 0, .f .f32 0, .f .f32 0] :: .i .i64 1 :: .i .i64 1 :: .b (1 == 1) :: .f .f32 Y4 :: .ptr 5 0 0 :: .i .i64 1 :: .i .i64 0 :: .b (0 == 2) :: .any :: .any :: .i .i64 1 :: .i .i64 0 :: .b (0 == 4) :: .any :: .any :: .ptr 1 0 0 :: .any :: .agg [.f .f32 Y4, .f .f32 0, .f .f32 0] :: .own 6 :: .own 4 :: .ptr 1 0 0 :: an 15 [],[.box 27 [.nils, .nils], .box 27 [.own 4, .nils], .box 32 [.f .f32 0, .f .f32 0, .f .f32 0], .vec 32 3 ([[.f .f32 0, .f .f32 0, .f .f32 0]]:List (List AV)) false, .vec 32 3 (([[.f .f32 0, .f .f32 0, .f .f32 0]]:List (List AV)) ++ ([[.f .f32 Y4, .f .f32 0, .f .f32 0]]:List (List AV))) false, .box 32 [.f .f32 Y4, .f .f32 0, .f .f32 0], .vec 32 3 ([[.f .f32 Y4, .f .f32 0, .f .f32 0]]:List (List AV)) false]⟩) E0Ok Zb [] (mR false [0,53]) [0,1,2,3,4,5,6,7,8] (Xs (st:=⟨.f .f32 Y4 :: .any :: .ptr 0 0 0 :: .b false :: .ptr 1 0 0 :: .i .i64 3 :: .ptr 7 0 0 :: .f .f32 Y4 :: .b (Zv Y4) :: .b (!(Zv Y4)) :: .any :: .agg [.nils, .nils] :: .i .i64 2 :: .b (decide (2 < 8)) :: .i .i64 2 :: .i .i64 3 :: .agg [.f .f32 0, .f .f32 0, .f .f32 0] :: .i .i64 2 :: .i .i64 0 :: .b (0 == 1) :: .f .f32 Y4 :: .ptr 5 0 0 :: .i .i64 2 :: .i .i64 2 :: .b (2 == 2) :: .f .f32 Y4 :: .ptr 7 0 1 :: .i .i64 2 :: .i .i64 0 :: .b (0 == 4) :: .any :: .any :: .ptr 1 0 0 :: .any :: .agg [.f .f32 0, .f .f32 Y4, .f .f32 0] :: .own 8 :: .own 4 :: .ptr 1 0 0 :: an 15 [],[.box 27 [.nils, .nils], .box 27 [.own 4, .nils], .box 32 [.f .f32 0, .f .f32 0, .f .f32 0], .vec 32 3 ([[.f .f32 0, .f .f32 0, .f .f32 0]]:List (List AV)) false, .vec 32 3 ((([[.f .f32 0, .f .f32 0, .f .f32 0]]:List (List AV)) ++ ([[.f .f32 Y4, .f .f32 0, .f .f32 0]]:List (List AV))) ++ ([[.f .f32 0, .f .f32 Y4, .f .f32 0]]:List (List AV))) false, .box 32 [.f .f32 Y4, .f .f32 0, .f .f32 0], .vec 32 3 ([[.f .f32 Y4, .f .f32 0, .f .f32 0]]:List (List AV)) false, .box 32 [.f .f32 0, .f .f32 Y4, .f .f32 0], .vec 32 3 ([[.f .f32 0, .f .f32 Y4, .f .f32 0]]:List (List AV)) false]⟩) E0Ok Zb [] (mR false [0,53]) [0,1,2,3,4,5,6,7,8,9,10] (Xs (st:=⟨.f .f32 Y4 :: .any :: .ptr 0 0 0 :: .b false :: .ptr 1 0 0 :: .i .i64 4 :: .ptr 9 0 0 :: .f .f32 Y4 :: .b (Zv Y4) :: .b (!(Zv Y4)) :: .any :: .agg [.nils, .nils] :: .i .i64 3 :: .b (decide (3 < 8)) :: .i .i64 3 :: .i .i64 4 :: .agg [.f .f32 0, .f .f32 0, .f .f32 0] :: .i .i64 3 :: .i .i64 1 :: .b (1 == 1) :: .f .f32 Y4 :: .ptr 9 0 0 :: .i .i64 3 :: .i .i64 2 :: .b (2 == 2) :: .f .f32 Y4 :: .ptr 9 0 1 :: .i .i64 3 :: .i .i64 0 :: .b (0 == 4) :: .any :: .any :: .ptr 1 0 0 :: .any :: .agg [.f .f32 Y4, .f .f32 Y4, .f .f32 0] :: .own 10 :: .own 4 :: .ptr 1 0 0 :: an 15 [],[.box 27 [.nils, .nils], .box 27 [.own 4, .nils], .box 32 [.f .f32 0, .f .f32 0, .f .f32 0], .vec 32 3 ([[.f .f32 0, .f .f32 0, .f .f32 0]]:List (List AV)) false, .vec 32 3 (((([[.f .f32 0, .f .f32 0, .f .f32 0]]:List (List AV)) ++ ([[.f .f32 Y4, .f .f32 0, .f .f32 0]]:List (List AV))) ++ ([[.f .f32 0, .f .f32 Y4, .f .f32 0]]:List (List AV))) ++ ([[.f .f32 Y4, .f .f32 Y4, .f .f32 0]]:List (List AV))) false, .box 32 [.f .f32 Y4, .f .f32 0, .f .f32 0], .vec 32 3 ([[.f .f32 Y4, .f .f32 0, .f .f32 0]]:List (List AV)) false, .box 32 [.f .f32 0, .f .f32 Y4, .f .f32 0], .vec 32 3 ([[.f .f32 0, .f .f32 Y4, .f .f32 0]]:List (List AV)) false, .box 32 [.f .f32 Y4, .f .f32 Y4, .f .f32 0], .vec 32 3 ([[.f .f32 Y4, .f .f32 Y4, .f .f32 0]]:List (List AV)) false]⟩) E0Ok Zb [] (mR false [0,53]) [0,1,2,3,4,5,6,7,8,9,10,11,12] (Xs (st:=⟨.f .f32 Y4 :: .any :: .ptr 0 0 0 :: .b false :: .ptr 1 0 0 :: .i .i64 5 :: .ptr 11 0 0 :: .f .f32 Y4 :: .b (Zv Y4) :: .b (!(Zv Y4)) :: .any :: .agg [.nils, .nils] :: .i .i64 4 :: .b (decide (4 < 8)) :: .i .i64 4 :: .i .i64 5 :: .agg [.f .f32 0, .f .f32 0, .f .f32 0] :: .i .i64 4 :: .i .i64 0 :: .b (0 == 1) :: .f .f32 Y4 :: .ptr 9 0 0 :: .i .i64 4 :: .i .i64 0 :: .b (0 == 2) :: .f .f32 Y4 :: .ptr 9 0 1 :: .i .i64 4 :: .i .i64 4 :: .b (4 == 4) :: .f .f32 Y4 :: .ptr 11 0 2 :: .ptr 1 0 0 :: .any :: .agg [.f .f32 0, .f .f32 0, .f .f32 Y4] :: .own 12 :: .own 4 :: .ptr 1 0 0 :: an 15 [],[.box 27 [.nils, .nils], .box 27 [.own 4, .nils], .box 32 [.f .f32 0, .f .f32 0, .f .f32 0], .vec 32 3 ([[.f .f32 0, .f .f32 0, .f .f32 0]]:List (List AV)) false, .vec 32 3 ((((([[.f .f32 0, .f .f32 0, .f .f32 0]]:List (List AV)) ++ ([[.f .f32 Y4, .f .f32 0, .f .f32 0]]:List (List AV))) ++ ([[.f .f32 0, .f .f32 Y4, .f .f32 0]]:List (List AV))) ++ ([[.f .f32 Y4, .f .f32 Y4, .f .f32 0]]:List (List AV))) ++ ([[.f .f32 0, .f .f32 0, .f .f32 Y4]]:List (List AV))) false, .box 32 [.f .f32 Y4, .f .f32 0, .f .f32 0], .vec 32 3 ([[.f .f32 Y4, .f .f32 0, .f .f32 0]]:List (List AV)) false, .box 32 [.f .f32 0, .f .f32 Y4, .f .f32 0], .vec 32 3 ([[.f .f32 0, .f .f32 Y4, .f .f32 0]]:List (List AV)) false, .box 32 [.f .f32 Y4, .f .f32 Y4, .f .f32 0], .vec 32 3 ([[.f .f32 Y4, .f .f32 Y4, .f .f32 0]]:List (List AV)) false, .box 32 [.f .f32 0, .f .f32 0, .f .f32 Y4], .vec 32 3 ([[.f .f32 0, .f .f32 0, .f .f32 Y4]]:List (List AV)) false]⟩) E0Ok Zb [] (mR false [0,53]) [0,1,2,3,4,5,6,7,8,9,10,11,12,13,14] (Xs (st:=⟨.f .f32 Y4 :: .any :: .ptr 0 0 0 :: .b false :: .ptr 1 0 0 :: .i .i64 6 :: .ptr 13 0 0 :: .f .f32 Y4 :: .b (Zv Y4) :: .b (!(Zv Y4)) :: .any :: .agg [.nils, .nils] :: .i .i64 5 :: .b (decide (5 < 8)) :: .i .i64 5 :: .i .i64 6 :: .agg [.f .f32 0, .f .f32 0, .f .f32 0] :: .i .i64 5 :: .i .i64 1 :: .b (1 == 1) :: .f .f32 Y4 :: .ptr 13 0 0 :: .i .i64 5 :: .i .i64 0 :: .b (0 == 2) :: .f .f32 Y4 :: .ptr 9 0 1 :: .i .i64 5 :: .i .i64 4 :: .b (4 == 4) :: .f .f32 Y4 :: .ptr 13 0 2 :: .ptr 1 0 0 :: .any :: .agg [.f .f32 Y4, .f .f32 0, .f .f32 Y4] :: .own 14 :: .own 4 :: .ptr 1 0 0 :: an 15 [],[.box 27 [.nils, .nils], .box 27 [.own 4, .nils], .box 32 [.f .f32 0, .f .f32 0, .f .f32 0], .vec 32 3 ([[.f .f32 0, .f .f32 0, .f .f32 0]]:List (List AV)) false, .vec 32 3 (((((([[.f .f32 0, .f .f32 0, .f .f32 0]]:List (List AV)) ++ ([[.f .f32 Y4, .f .f32 0, .f .f32 0]]:List (List AV))) ++ ([[.f .f32 0, .f .f32 Y4, .f .f32 0]]:List (List AV))) ++ ([[.f .f32 Y4, .f .f32 Y4, .f .f32 0]]:List (List AV))) ++ ([[.f .f32 0, .f .f32 0, .f .f32 Y4]]:List (List AV))) ++ ([[.f .f32 Y4, .f .f32 0, .f .f32 Y4]]:List (List AV))) false, .box 32 [.f .f32 Y4, .f .f32 0, .f .f32 0], .vec 32 3 ([[.f .f32 Y4, .f .f32 0, .f .f32 0]]:List (List AV)) false, .box 32 [.f .f32 0, .f .f32 Y4, .f .f32 0], .vec 32 3 ([[.f .f32 0, .f .f32 Y4, .f .f32 0]]:List (List AV)) false, .box 32 [.f .f32 Y4, .f .f32 Y4, .f .f32 0], .vec 32 3 ([[.f .f32 Y4, .f .f32 Y4, .f .f32 0]]:List (List AV)) false, .box 32 [.f .f32 0, .f .f32 0, .f .f32 Y4], .vec 32 3 ([[.f .f32 0, .f .f32 0, .f .f32 Y4]]:List (List AV)) false, .box 32 [.f .f32 Y4, .f .f32 0, .f .f32 Y4], .vec 32 3 ([[.f .f32 Y4, .f .f32 0, .f .f32 Y4]]:List (List AV)) false]⟩) E0Ok Zb [] (mR false [0,53]) [0,1,2,3,4,5,6,7,8,9,10,11,12,13,14,15,16] (Xs (st:=⟨.f .f32 Y4 :: .any :: .ptr 0 0 0 :: .b false :: .ptr 1 0 0 :: .i .i64 7 :: .ptr 15 0 0 :: .f .f32 Y4 :: .b (Zv Y4) :: .b (!(Zv Y4)) :: .any :: .agg [.nils, .nils] :: .i .i64 6 :: .b (decide (6 < 8)) :: .i .i64 6 :: .i .i64 7 :: .agg [.f .f32 0, .f .f32 0, .f .f32 0] :: .i .i64 6 :: .i .i64 0 :: .b (0 == 1) :: .f .f32 Y4 :: .ptr 13 0 0 :: .i .i64 6 :: .i .i64 2 :: .b (2 == 2) :: .f .f32 Y4 :: .ptr 15 0 1 :: .i .i64 6 :: .i .i64 4 :: .b (4 == 4) :: .f .f32 Y4 :: .ptr 15 0 2 :: .ptr 1 0 0 :: .any :: .agg [.f .f32 0, .f .f32 Y4, .f .f32 Y4] :: .own 16 :: .own 4 :: .ptr 1 0 0 :: an 15 [],[.box 27 [.nils, .nils], .box 27 [.own 4, .nils], .box 32 [.f .f32 0, .f .f32 0, .f .f32 0], .vec 32 3 ([[.f .f32 0, .f .f32 0, .f .f32 0]]:List (List AV)) false, .vec 32 3 ((((((([[.f .f32 0, .f .f32 0, .f .f32 0]]:List (List AV)) ++ ([[.f .f32 Y4, .f .f32 0, .f .f32 0]]:List (List AV))) ++ ([[.f .f32 0, .f .f32 Y4, .f .f32 0]]:List (List AV))) ++ ([[.f .f32 Y4, .f .f32 Y4, .f .f32 0]]:List (List AV))) ++ ([[.f .f32 0, .f .f32 0, .f .f32 Y4]]:List (List AV))) ++ ([[.f .f32 Y4, .f .f32 0, .f .f32 Y4]]:List (List AV))) ++ ([[.f .f32 0, .f .f32 Y4, .f .f32 Y4]]:List (List AV))) false, .box 32 [.f .f32 Y4, .f .f32 0, .f .f32 0], .vec 32 3 ([[.f .f32 Y4, .f .f32 0, .f .f32 0]]:List (List AV)) false, .box 32 [.f .f32 0, .f .f32 Y4, .f .f32 0], .vec 32 3 ([[.f .f32 0, .f .f32 Y4, .f .f32 0]]:List (List AV)) false, .box 32 [.f .f32 Y4, .f .f32 Y4, .f .f32 0], .vec 32 3 ([[.f .f32 Y4, .f .f32 Y4, .f .f32 0]]:List (List AV)) false, .box 32 [.f .f32 0, .f .f32 0, .f .f32 Y4], .vec 32 3 ([[.f .f32 0, .f .f32 0, .f .f32 Y4]]:List (List AV)) false, .box 32 [.f .f32 Y4, .f .f32 0, .f .f32 Y4], .vec 32 3 ([[.f .f32 Y4, .f .f32 0, .f .f32 Y4]]:List (List AV)) false, .box 32 [.f .f32 0, .f .f32 Y4, .f .f32 Y4], .vec 32 3 ([[.f .f32 0, .f .f32 Y4, .f .f32 Y4]]:List (List AV)) false]⟩) E0Ok Zb [] (mR false [0,1,1,4,1,3,1,1,41]) [0,1,4] (Xb (Z2T Y4) (x:=(Z4B Y4)) (Z51 Y4 (0 + 1) (Nat.lt_succ_self _)) rfl) (sB (show (decide (7 < 8))=true from rfl)<|sM (show (bitsOf .and .i64 7 1)=1 from (by decide))<|sB (show (1 == 1)=true from rfl)<|sM (show (bitsOf .and .i64 7 2)=2 from (by decide))<|sB (show (2 == 2)=true from rfl)<|sM (show (bitsOf .and .i64 7 4)=4 from (by decide))<|sB (show (4 == 4)=true from rfl)<|sC (show ((((((([[.f .f32 0, .f .f32 0, .f .f32 0]]:List (List AV)) ++ ([[.f .f32 Y4, .f .f32 0, .f .f32 0]]:List (List AV))) ++ ([[.f .f32 0, .f .f32 Y4, .f .f32 0]]:List (List AV))) ++ ([[.f .f32 Y4, .f .f32 Y4, .f .f32 0]]:List (List AV))) ++ ([[.f .f32 0, .f .f32 0, .f .f32 Y4]]:List (List AV))) ++ ([[.f .f32 Y4, .f .f32 0, .f .f32 Y4]]:List (List AV))) ++ ([[.f .f32 0, .f .f32 Y4, .f .f32 Y4]]:List (List AV))).length + ([[.f .f32 Y4, .f .f32 Y4, .f .f32 Y4]]:List (List AV)).length≤1073741824 from (by simp))<|sM (show IntKind.wrap .i64 (7 + 1)=8 from rfl)<|sN) (by kernel_rfl)) (sB (show (decide (6 < 8))=true from rfl)<|sM (show (bitsOf .and .i64 6 1)=0 from (by decide))<|sB (show (0 == 1)=false from rfl)<|sM (show (bitsOf .and .i64 6 2)=2 from (by decide))<|sB (show (2 == 2)=true from rfl)<|sM (show (bitsOf .and .i64 6 4)=4 from (by decide))<|sB (show (4 == 4)=true from rfl)<|sC (show (((((([[.f .f32 0, .f .f32 0, .f .f32 0]]:List (List AV)) ++ ([[.f .f32 Y4, .f .f32 0, .f .f32 0]]:List (List AV))) ++ ([[.f .f32 0, .f .f32 Y4, .f .f32 0]]:List (List AV))) ++ ([[.f .f32 Y4, .f .f32 Y4, .f .f32 0]]:List (List AV))) ++ ([[.f .f32 0, .f .f32 0, .f .f32 Y4]]:List (List AV))) ++ ([[.f .f32 Y4, .f .f32 0, .f .f32 Y4]]:List (List AV))).length + ([[.f .f32 0, .f .f32 Y4, .f .f32 Y4]]:List (List AV)).length≤1073741824 from (by simp))<|sM (show IntKind.wrap .i64 (6 + 1)=7 from rfl)<|sN) (by kernel_rfl)) (sB (show (decide (5 < 8))=true from rfl)<|sM (show (bitsOf .and .i64 5 1)=1 from (by decide))<|sB (show (1 == 1)=true from rfl)<|sM (show (bitsOf .and .i64 5 2)=0 from (by decide))<|sB (show (0 == 2)=false from rfl)<|sM (show (bitsOf .and .i64 5 4)=4 from (by decide))<|sB (show (4 == 4)=true from rfl)<|sC (show ((((([[.f .f32 0, .f .f32 0, .f .f32 0]]:List (List AV)) ++ ([[.f .f32 Y4, .f .f32 0, .f .f32 0]]:List (List AV))) ++ ([[.f .f32 0, .f .f32 Y4, .f .f32 0]]:List (List AV))) ++ ([[.f .f32 Y4, .f .f32 Y4, .f .f32 0]]:List (List AV))) ++ ([[.f .f32 0, .f .f32 0, .f .f32 Y4]]:List (List AV))).length + ([[.f .f32 Y4, .f .f32 0, .f .f32 Y4]]:List (List AV)).length≤1073741824 from (by simp))<|sM (show IntKind.wrap .i64 (5 + 1)=6 from rfl)<|sN) (by kernel_rfl)) (sB (show (decide (4 < 8))=true from rfl)<|sM (show (bitsOf .and .i64 4 1)=0 from (by decide))<|sB (show (0 == 1)=false from rfl)<|sM (show (bitsOf .and .i64 4 2)=0 from (by decide))<|sB (show (0 == 2)=false from rfl)<|sM (show (bitsOf .and .i64 4 4)=4 from (by decide))<|sB (show (4 == 4)=true from rfl)<|sC (show (((([[.f .f32 0, .f .f32 0, .f .f32 0]]:List (List AV)) ++ ([[.f .f32 Y4, .f .f32 0, .f .f32 0]]:List (List AV))) ++ ([[.f .f32 0, .f .f32 Y4, .f .f32 0]]:List (List AV))) ++ ([[.f .f32 Y4, .f .f32 Y4, .f .f32 0]]:List (List AV))).length + ([[.f .f32 0, .f .f32 0, .f .f32 Y4]]:List (List AV)).length≤1073741824 from (by simp))<|sM (show IntKind.wrap .i64 (4 + 1)=5 from rfl)<|sN) (by kernel_rfl)) (sB (show (decide (3 < 8))=true from rfl)<|sM (show (bitsOf .and .i64 3 1)=1 from (by decide))<|sB (show (1 == 1)=true from rfl)<|sM (show (bitsOf .and .i64 3 2)=2 from (by decide))<|sB (show (2 == 2)=true from rfl)<|sM (show (bitsOf .and .i64 3 4)=0 from (by decide))<|sB (show (0 == 4)=false from rfl)<|sC (show ((([[.f .f32 0, .f .f32 0, .f .f32 0]]:List (List AV)) ++ ([[.f .f32 Y4, .f .f32 0, .f .f32 0]]:List (List AV))) ++ ([[.f .f32 0, .f .f32 Y4, .f .f32 0]]:List (List AV))).length + ([[.f .f32 Y4, .f .f32 Y4, .f .f32 0]]:List (List AV)).length≤1073741824 from (by simp))<|sM (show IntKind.wrap .i64 (3 + 1)=4 from rfl)<|sN) (by kernel_rfl)) (sB (show (decide (2 < 8))=true from rfl)<|sM (show (bitsOf .and .i64 2 1)=0 from (by decide))<|sB (show (0 == 1)=false from rfl)<|sM (show (bitsOf .and .i64 2 2)=2 from (by decide))<|sB (show (2 == 2)=true from rfl)<|sM (show (bitsOf .and .i64 2 4)=0 from (by decide))<|sB (show (0 == 4)=false from rfl)<|sC (show (([[.f .f32 0, .f .f32 0, .f .f32 0]]:List (List AV)) ++ ([[.f .f32 Y4, .f .f32 0, .f .f32 0]]:List (List AV))).length + ([[.f .f32 0, .f .f32 Y4, .f .f32 0]]:List (List AV)).length≤1073741824 from (by simp))<|sM (show IntKind.wrap .i64 (2 + 1)=3 from rfl)<|sN) (by kernel_rfl)) (sB (show (decide (1 < 8))=true from rfl)<|sM (show (bitsOf .and .i64 1 1)=1 from (by decide))<|sB (show (1 == 1)=true from rfl)<|sM (show (bitsOf .and .i64 1 2)=0 from (by decide))<|sB (show (0 == 2)=false from rfl)<|sM (show (bitsOf .and .i64 1 4)=0 from (by decide))<|sB (show (0 == 4)=false from rfl)<|sC (show ([[.f .f32 0, .f .f32 0, .f .f32 0]]:List (List AV)).length + ([[.f .f32 Y4, .f .f32 0, .f .f32 0]]:List (List AV)).length≤1073741824 from (by simp))<|sM (show IntKind.wrap .i64 (1 + 1)=2 from rfl)<|sN) (by kernel_rfl)) (sB (show (decide (0 < 8))=true from rfl)<|sM (show (bitsOf .and .i64 0 1)=0 from (by decide))<|sB (show (0 == 1)=false from rfl)<|sM (show (bitsOf .and .i64 0 2)=0 from (by decide))<|sB (show (0 == 2)=false from rfl)<|sM (show (bitsOf .and .i64 0 4)=0 from (by decide))<|sB (show (0 == 4)=false from rfl)<|sC (show ([[.f .f32 0, .f .f32 0, .f .f32 0]]:List (List AV))≠[] from (by simp))<|sC (show ([[.f .f32 0, .f .f32 0, .f .f32 0]]:List (List AV)).length≤1073741824 from (by simp))<|sM (show IntKind.wrap .i64 (0 + 1)=1 from rfl)<|sN) (by kernel_rfl))<|sA (.loop [] 0 .ret ⟨[],[]⟩)<|sK [2,15] sN)) rfl (by kernel_rfl) (by kernel_rfl) rfl ?_ ?_
  · simp only [Z1k,h0,cond_true]
  · simp [Z1k,h0,Gv.c]
 | false =>
  refine fnS E0Ok Zb (c:=X0 f69) [(.row 0 0, .vec 32 3 [] false),(.row 0 1, .nest 60 [] false)] (.tup [.agg [.own 0, .own 1], .b false]) [.vec 32 3 [] false, .nest 60 [] false] func69 (p (sB' h0<|sK [1,2] sN)) rfl (by kernel_rfl) (by kernel_rfl) rfl ?_ ?_
  · simp only [Z1k,h0,cond_false]
  · simp [Z1k,h0,Gv.c,cL,cI]
def Z14 (Yp:Int) (Yq:Int):Int:=(cond (decide (Yp < Yq))
  Yp
  Yq)
theorem Z4v (Yp:Int) (Yq:Int)   : Fn prog 100 [.i .i64 Yp, .i .i64 Yq] (.i .i64 (Z14 Yp Yq)) []:=by
 cases h0:(decide (Yp < Yq)) with
 | true =>
  have gh0:=odt h0
  refine fnS E0Ok Zb (c:=X0 f100) [] (.i .i64 Yp) [] func100 (sB h0<|sK [] sN) rfl (by kernel_rfl) (by kernel_rfl) rfl ?_ ?_
  · simp only [Z14,h0,cond_true]
  · rfl
 | false =>
  have gh0:=odf h0
  refine fnS E0Ok Zb (c:=X0 f100) [] (.i .i64 Yq) [] func100 (sB h0<|sK [] sN) rfl (by kernel_rfl) (by kernel_rfl) rfl ?_ ?_
  · simp only [Z14,h0,cond_false]
  · rfl
theorem Z49 {a b n:Int} (h1:0≤a∧a < n) (h2:0≤b∧b < n):0≤Z14 a b∧Z14 a b < n:=by
  unfold Z14;cases decide (a < b)<;>simp only [cond_true,cond_false]<;>omega
def Z15 (Yp:Int) (Yq:Int):Int:=(cond (decide (Yp > Yq))
  Yp
  Yq)
theorem Z4w (Yp:Int) (Yq:Int)   : Fn prog 101 [.i .i64 Yp, .i .i64 Yq] (.i .i64 (Z15 Yp Yq)) []:=by
 cases h0:(decide (Yp > Yq)) with
 | true =>
  have gh0:=odt h0
  refine fnS E0Ok Zb (c:=X0 f101) [] (.i .i64 Yp) [] func101 (sB h0<|sK [] sN) rfl (by kernel_rfl) (by kernel_rfl) rfl ?_ ?_
  · simp only [Z15,h0,cond_true]
  · rfl
 | false =>
  have gh0:=odf h0
  refine fnS E0Ok Zb (c:=X0 f101) [] (.i .i64 Yq) [] func101 (sB h0<|sK [] sN) rfl (by kernel_rfl) (by kernel_rfl) rfl ?_ ?_
  · simp only [Z15,h0,cond_false]
  · rfl
theorem Z4a {a b n:Int} (h1:0≤a∧a < n) (h2:0≤b∧b < n):0≤Z15 a b∧Z15 a b < n:=by
  unfold Z15;cases decide (a > b)<;>simp only [cond_true,cond_false]<;>omega
theorem Z4n (a b:Int):(⟨Z14 a b,Z15 a b⟩:Gedge)=mkE a b:=by
  unfold Z14 Z15 mkE
  by_cases h:a < b
  · rw [decide_eq_true h,decide_eq_false (by omega),if_pos (by omega)];rfl
  · rw [decide_eq_false h]
    by_cases h2:a > b
    · rw [decide_eq_true h2,if_neg (by omega)];rfl
    · rw [decide_eq_false h2,show a=b from by omega,if_pos (by omega)];rfl
def ZC (Y1:Gm) (Yc:Int) (Yg:Int):Int:=(Z14 ((Y1.Tr.getD Yc.toNat default).getD Yg.toNat default) ((Y1.Tr.getD Yc.toNat default).getD (Int.tmod (Yg + 1) 3).toNat default))
def ZF (Y1:Gm) (Yc:Int) (Yg:Int):Int:=(Z15 ((Y1.Tr.getD Yc.toNat default).getD Yg.toNat default) ((Y1.Tr.getD Yc.toNat default).getD (Int.tmod (Yg + 1) 3).toNat default))
def Zr (Y1:Gm) (Yc:Int) (Yk:(List Bool)):Nat→Int→(List Bool)→(List Bool)
  | 0,_,_=>default
  | k + 1,Yg,Yn=>(cond (decide (Yg < 3))
    (Zr Y1 Yc Yk k (Yg + 1) (Yn.set ((IntKind.wrap .i64 ((IntKind.wrap .i64 ((ZC Y1 Yc Yg) * (Y1.Pq.length:Int))) + (ZF Y1 Yc Yg))).toNat) true))
    Yn)
def Z2C (Y1:Gm) (Yc:Int) (Yk:(List Bool)) (r:(List Bool)):Ex × St:=((.exit 2),⟨.ref (Gm.c Y1) 0 :: .any :: .nils :: .i .i64 (Y1.Pq.length:Int) :: .own 0 :: .i .i64 Yc :: .sl ((Y1.Tr.getD Yc.toNat default).map (cI .i64)) :: an 6 (.ref (Gm.c Y1) 0 :: .ref (Gm.c Y1) 0 :: .ref (Gm.c Y1) 0 :: .sl (Y1.Pq.map Gv.c) :: .i .i64 (Y1.Pq.length:Int) :: .i .i64 (Y1.Pq.length:Int) :: .i .i64 (Y1.Pq.length:Int) :: .i .i64 (IntKind.wrap .i64 ((Y1.Pq.length:Int) * (Y1.Pq.length:Int))) :: .own 0 :: .i .i64 Yc :: .ref (Gm.c Y1) 0 :: .ref (Gm.c Y1) 0 :: .ref (Gm.c Y1) 1 :: .sl (Y1.Tr.map (cL (cI .i64))) :: .i .i64 (Y1.Tr.length:Int) :: .b (decide (Yc < (Y1.Tr.length:Int))) :: .any :: .any :: .ref (Gm.c Y1) 0 :: .ref (Gm.c Y1) 0 :: .ref (Gm.c Y1) 1 :: .sl (Y1.Tr.map (cL (cI .i64))) :: .i .i64 Yc :: .ref [.sl ((Y1.Tr.getD Yc.toNat default).map (cI .i64))] 0 :: .sl ((Y1.Tr.getD Yc.toNat default).map (cI .i64)) :: an 53 []),[.vec 4 1 (r.map cB) false]⟩)
def Z3E (Y1:Gm) (Yc:Int) (Yk:(List Bool)) (Yg:Int) (Yn:(List Bool)):St:=⟨.ref (Gm.c Y1) 0 :: .any :: .nils :: .i .i64 (Y1.Pq.length:Int) :: .own 0 :: .i .i64 Yc :: .sl ((Y1.Tr.getD Yc.toNat default).map (cI .i64)) :: .i .i64 Yg :: an 5 (.ref (Gm.c Y1) 0 :: .ref (Gm.c Y1) 0 :: .ref (Gm.c Y1) 0 :: .sl (Y1.Pq.map Gv.c) :: .i .i64 (Y1.Pq.length:Int) :: .i .i64 (Y1.Pq.length:Int) :: .i .i64 (Y1.Pq.length:Int) :: .i .i64 (IntKind.wrap .i64 ((Y1.Pq.length:Int) * (Y1.Pq.length:Int))) :: .own 0 :: .i .i64 Yc :: .ref (Gm.c Y1) 0 :: .ref (Gm.c Y1) 0 :: .ref (Gm.c Y1) 1 :: .sl (Y1.Tr.map (cL (cI .i64))) :: .i .i64 (Y1.Tr.length:Int) :: .b (decide (Yc < (Y1.Tr.length:Int))) :: .any :: .any :: .ref (Gm.c Y1) 0 :: .ref (Gm.c Y1) 0 :: .ref (Gm.c Y1) 1 :: .sl (Y1.Tr.map (cL (cI .i64))) :: .i .i64 Yc :: .ref [.sl ((Y1.Tr.getD Yc.toNat default).map (cI .i64))] 0 :: .sl ((Y1.Tr.getD Yc.toNat default).map (cI .i64)) :: an 53 []),[.vec 4 1 (Yn.map cB) false]⟩
def Z3a:List Bool:=(mR false [0,1,1,6,5,16,2,7,53])
def Z4o:List Bool:=(mR false [0,1,1,5,6,16,2,7,53])
set_option maxHeartbeats 1000000 in
theorem Z4K (Y1:Gm) (Yc:Int) (Yk:(List Bool)) (hp0:Y1.Pq.length≤1073741824) (hp1:Y1.Tr.length≤1073741824) (hp2:∀ t∈Y1.Tr,t.length≤1073741824) (hp3:OkE Y1.Pq.length Y1.Tr) (Z10:0≤Yc) (Z1X:Yk.length=(IntKind.wrap .i64 ((Y1.Pq.length:Int) * (Y1.Pq.length:Int))).toNat) (Z69:(decide (Yc < (Y1.Tr.length:Int)))=true):∀ (k:Nat) (Yg:Int) (Yn:(List Bool)) (Z1r:0≤Yg) (Z3b:Yn.length=Yk.length) (hk:((3:Int) - Yg).toNat < k),Lp prog 0 (sub (X0 f59) [1,1,1,0,1,0,0,1,0,0,1,1,0,0]) (Z3E Y1 Yc Yk Yg Yn) (Z2C Y1 Yc Yk (Zr Y1 Yc Yk k Yg Yn)).1 (Z2C Y1 Yc Yk (Zr Y1 Yc Yk k Yg Yn)).2:=by
 intro k
 induction k with
 | zero=>intro Yg Yn Z1r Z3b hk;exact absurd hk (Nat.not_lt_zero _)
 | succ k ih =>
  intro Yg Yn Z1r Z3b hk
  cases Yr:(decide (Yg < 3)) with
  | true =>
   have YX:=odt Yr
   have Y13:(0:Int)≤Yg:=(by assumption)
   have Y14:Yg < ((Y1.Tr.getD Yc.toNat default).length:Int):=(by ((have q:=OkE.at (by assumption) Z10 (odt (by assumption)) Z1r (odt (by assumption));omega)))
   have YY:(-9223372036854775808:Int)≤(Yg + 1):=(by omega)
   have YT:(Yg + 1)≤(9223372036854775807:Int):=(by omega)
   have Y12:(0:Int)≤(Int.tmod (Yg + 1) 3):=(by ((have q:=OkE.at (by assumption) Z10 (odt (by assumption)) Z1r (odt (by assumption));omega)))
   have Y19:(Int.tmod (Yg + 1) 3) < ((Y1.Tr.getD Yc.toNat default).length:Int):=(by ((have q:=OkE.at (by assumption) Z10 (odt (by assumption)) Z1r (odt (by assumption));omega)))
   have Y16:(0:Int)≤(IntKind.wrap .i64 ((IntKind.wrap .i64 ((ZC Y1 Yc Yg) * (Y1.Pq.length:Int))) + (ZF Y1 Yc Yg))):=(by ((have q:=OkE.at (by assumption) Z10 (odt (by assumption)) Z1r (odt (by assumption));have q2:=ix2F q.2.2.2.2.2.1 (Z49 q.2.2.2.1 q.2.2.2.2.1).1 (Z49 q.2.2.2.1 q.2.2.2.2.1).2 (Z4a q.2.2.2.1 q.2.2.2.2.1).1 (Z4a q.2.2.2.1 q.2.2.2.2.1).2;unfold ZC ZF;omega)))
   have Y1g:(IntKind.wrap .i64 ((IntKind.wrap .i64 ((ZC Y1 Yc Yg) * (Y1.Pq.length:Int))) + (ZF Y1 Yc Yg))) < (Yn.length:Int):=(by ((have q:=OkE.at (by assumption) Z10 (odt (by assumption)) Z1r (odt (by assumption));have q2:=ix2F q.2.2.2.2.2.1 (Z49 q.2.2.2.1 q.2.2.2.2.1).1 (Z49 q.2.2.2.1 q.2.2.2.2.1).2 (Z4a q.2.2.2.1 q.2.2.2.2.1).1 (Z4a q.2.2.2.1 q.2.2.2.2.1).2;unfold ZC ZF;omega)))
   have Y1j:(IntKind.wrap .i64 ((IntKind.wrap .i64 ((ZC Y1 Yc Yg) * (Y1.Pq.length:Int))) + (ZF Y1 Yc Yg))).toNat < Yn.length:=(by omega)
   have e:Zr Y1 Yc Yk (k + 1) Yg Yn=(Zr Y1 Yc Yk k (Yg + 1) (Yn.set ((IntKind.wrap .i64 ((IntKind.wrap .i64 ((ZC Y1 Yc Yg) * (Y1.Pq.length:Int))) + (ZF Y1 Yc Yg))).toNat) true)):=by simp only [Zr,Yr,cond_true]
   rw [e]
   exact X1m E0Ok Zb [] Z3a [0] (⟨.ref (Gm.c Y1) 0 :: .any :: .nils :: .i .i64 (Y1.Pq.length:Int) :: .own 0 :: .i .i64 Yc :: .sl ((Y1.Tr.getD Yc.toNat default).map (cI .i64)) :: .i .i64 (Yg + 1) :: an 5 (.ref (Gm.c Y1) 0 :: .ref (Gm.c Y1) 0 :: .ref (Gm.c Y1) 0 :: .sl (Y1.Pq.map Gv.c) :: .i .i64 (Y1.Pq.length:Int) :: .i .i64 (Y1.Pq.length:Int) :: .i .i64 (Y1.Pq.length:Int) :: .i .i64 (IntKind.wrap .i64 ((Y1.Pq.length:Int) * (Y1.Pq.length:Int))) :: .own 0 :: .i .i64 Yc :: .ref (Gm.c Y1) 0 :: .ref (Gm.c Y1) 0 :: .ref (Gm.c Y1) 1 :: .sl (Y1.Tr.map (cL (cI .i64))) :: .i .i64 (Y1.Tr.length:Int) :: .b (decide (Yc < (Y1.Tr.length:Int))) :: .any :: .any :: .ref (Gm.c Y1) 0 :: .ref (Gm.c Y1) 0 :: .ref (Gm.c Y1) 1 :: .sl (Y1.Tr.map (cL (cI .i64))) :: .i .i64 Yc :: .ref [.sl ((Y1.Tr.getD Yc.toNat default).map (cI .i64))] 0 :: .sl ((Y1.Tr.getD Yc.toNat default).map (cI .i64)) :: an 53 []),[.vec 4 1 ((Yn.map cB).set ((IntKind.wrap .i64 ((IntKind.wrap .i64 ((ZC Y1 Yc Yg) * (Y1.Pq.length:Int))) + (ZF Y1 Yc Yg))).toNat) [.b true]) false]⟩) (sB Yr<|sG (cI .i64) (Y1.Tr.getD Yc.toNat default) Yg Y13 Y14<|sI (Yg + 1) YY YT<|sC (show (3:Int)≠0 from (by decide))<|sQ (Int.tmod (Yg + 1) 3)<|sG (cI .i64) (Y1.Tr.getD Yc.toNat default) (Int.tmod (Yg + 1) 3) Y12 Y19<|sF (Z4v ((Y1.Tr.getD Yc.toNat default).getD Yg.toNat default) ((Y1.Tr.getD Yc.toNat default).getD (Int.tmod (Yg + 1) 3).toNat default))<|sW .i64 ((ZC Y1 Yc Yg) * (Y1.Pq.length:Int))<|sF (Z4w ((Y1.Tr.getD Yc.toNat default).getD Yg.toNat default) ((Y1.Tr.getD Yc.toNat default).getD (Int.tmod (Yg + 1) 3).toNat default))<|sW .i64 ((IntKind.wrap .i64 ((ZC Y1 Yc Yg) * (Y1.Pq.length:Int))) + (ZF Y1 Yc Yg))<|sX cB Yn (IntKind.wrap .i64 ((IntKind.wrap .i64 ((ZC Y1 Yc Yg) * (Y1.Pq.length:Int))) + (ZF Y1 Yc Yg))) Y16 Y1g<|sC (X5w (c:=cB) (l:=Yn) Y1j)<|sI (Yg + 1) YY YT<|sN) (by kernel_rfl) (by simp [Z3E,cL,cI,cB]) (ih (Yg + 1) (Yn.set ((IntKind.wrap .i64 ((IntKind.wrap .i64 ((ZC Y1 Yc Yg) * (Y1.Pq.length:Int))) + (ZF Y1 Yc Yg))).toNat) true) (show 0≤(Yg + 1) from (by omega)) (show (Yn.set ((IntKind.wrap .i64 ((IntKind.wrap .i64 ((ZC Y1 Yc Yg) * (Y1.Pq.length:Int))) + (ZF Y1 Yc Yg))).toNat) true).length=Yk.length from (by simp_all<;>omega)) (by omega))
  | false =>
   have YX:=odf Yr
   have e:Zr Y1 Yc Yk (k + 1) Yg Yn=Yn:=by simp only [Zr,Yr,cond_false]
   rw [e]
   exact outR (e:=(.exit 2)) E0Ok Zb [] Z4o [0] (sB Yr<|sN) (by kernel_rfl) (by intro h;cases h)
theorem Z4p (Y1:Gm) (Yc:Int) (Yk:(List Bool)):∀ (k:Nat) (Yg:Int) (Yn:(List Bool)) (hk:((3:Int) - Yg).toNat < k),(Zr Y1 Yc Yk k Yg Yn).length=Yn.length:=by
  intro k
  induction k with
  | zero=>intro Yg Yn hk;exact absurd hk (Nat.not_lt_zero _)
  | succ k ih =>
    intro Yg Yn hk
    cases Yr:(decide (Yg < 3)) with
    | true =>
      have e:Zr Y1 Yc Yk (k + 1) Yg Yn=(Zr Y1 Yc Yk k (Yg + 1) (Yn.set ((IntKind.wrap .i64 ((IntKind.wrap .i64 ((ZC Y1 Yc Yg) * (Y1.Pq.length:Int))) + (ZF Y1 Yc Yg))).toNat) true)):=by simp only [Zr,Yr,cond_true]
      rw [e,ih (Yg + 1) (Yn.set ((IntKind.wrap .i64 ((IntKind.wrap .i64 ((ZC Y1 Yc Yg) * (Y1.Pq.length:Int))) + (ZF Y1 Yc Yg))).toNat) true) (by simp_all<;>omega)]<;>simp
    | false =>
      have e:Zr Y1 Yc Yk (k + 1) Yg Yn=Yn:=by simp only [Zr,Yr,cond_false]
      first | (rw [e];done) | (rw [e];rfl)
def ZN (Y1:Gm) (Yc:Int) (Yk:(List Bool)):(List Bool):=(Zr Y1 Yc Yk (((3:Int) - 0).toNat + 1) 0 Yk)
@[simp] theorem Z3P (Y1:Gm) (Yc:Int) (Yk:(List Bool)):(ZN Y1 Yc Yk).length=(Yk:(List Bool)).length:=Z4p Y1 Yc Yk (((3:Int) - 0).toNat + 1) 0 Yk (by exact Nat.lt_succ_self _)
def Zy (Y1:Gm):Nat→Int→(List Bool)→(List Bool)
  | 0,_,_=>default
  | k + 1,Yc,Yk=>(cond (decide (Yc < (Y1.Tr.length:Int)))
    (Zy Y1 k (Yc + 1) (ZN Y1 Yc Yk))
    Yk)
def Z2D (Y1:Gm) (r:(List Bool)):Ex × St:=((.exit 0),⟨.ref (Gm.c Y1) 0 :: .any :: .nils :: .i .i64 (Y1.Pq.length:Int) :: .own 0 :: an 8 (.ref (Gm.c Y1) 0 :: .ref (Gm.c Y1) 0 :: .ref (Gm.c Y1) 0 :: .sl (Y1.Pq.map Gv.c) :: .i .i64 (Y1.Pq.length:Int) :: .i .i64 (Y1.Pq.length:Int) :: .i .i64 (Y1.Pq.length:Int) :: .i .i64 (IntKind.wrap .i64 ((Y1.Pq.length:Int) * (Y1.Pq.length:Int))) :: .own 0 :: an 69 []),[.vec 4 1 (r.map cB) false]⟩)
def Z3F (Y1:Gm) (Yc:Int) (Yk:(List Bool)):St:=⟨.ref (Gm.c Y1) 0 :: .any :: .nils :: .i .i64 (Y1.Pq.length:Int) :: .own 0 :: .i .i64 Yc :: an 7 (.ref (Gm.c Y1) 0 :: .ref (Gm.c Y1) 0 :: .ref (Gm.c Y1) 0 :: .sl (Y1.Pq.map Gv.c) :: .i .i64 (Y1.Pq.length:Int) :: .i .i64 (Y1.Pq.length:Int) :: .i .i64 (Y1.Pq.length:Int) :: .i .i64 (IntKind.wrap .i64 ((Y1.Pq.length:Int) * (Y1.Pq.length:Int))) :: .own 0 :: an 69 []),[.vec 4 1 (Yk.map cB) false]⟩
theorem Z4L (Y1:Gm) (hp0:Y1.Pq.length≤1073741824) (hp1:Y1.Tr.length≤1073741824) (hp2:∀ t∈Y1.Tr,t.length≤1073741824) (hp3:OkE Y1.Pq.length Y1.Tr):∀ (k:Nat) (Yc:Int) (Yk:(List Bool)) (Z10:0≤Yc) (Z1X:Yk.length=(IntKind.wrap .i64 ((Y1.Pq.length:Int) * (Y1.Pq.length:Int))).toNat) (hk:((Y1.Tr.length:Int) - Yc).toNat < k),Lp prog 0 (sub (X0 f59) [1,1,1,0,1,0,0]) (Z3F Y1 Yc Yk) (Z2D Y1 (Zy Y1 k Yc Yk)).1 (Z2D Y1 (Zy Y1 k Yc Yk)).2:=by
 intro k
 induction k with
 | zero=>intro Yc Yk Z10 Z1X hk;exact absurd hk (Nat.not_lt_zero _)
 | succ k ih =>
  intro Yc Yk Z10 Z1X hk
  have p {a C} (s:Scr a C):=sZ (cL (cI .i64)) Y1.Tr<|s
  cases Ym:(decide (Yc < (Y1.Tr.length:Int))) with
  | true =>
   have YF:=odt Ym
   have YR:(0:Int)≤Yc:=by clear p;exact (by assumption)
   have YL:Yc < (Y1.Tr.length:Int):=by clear p;exact (by assumption)
   have YZ:(-9223372036854775808:Int)≤(Yc + 1):=by clear p;exact (by omega)
   have YU:(Yc + 1)≤(9223372036854775807:Int):=by clear p;exact (by omega)
   have e:Zy Y1 (k + 1) Yc Yk=(Zy Y1 k (Yc + 1) (ZN Y1 Yc Yk)):=by simp only [Zy,Ym,cond_true]
   rw [e]
   exact Xs E0Ok Zb [] (mR false [0,1,1,4,7,9,69]) [0] (ih (Yc + 1) (ZN Y1 Yc Yk) (show 0≤(Yc + 1) from (by omega)) (show (ZN Y1 Yc Yk).length=(IntKind.wrap .i64 ((Y1.Pq.length:Int) * (Y1.Pq.length:Int))).toNat from (by simp_all<;>omega)) (by omega)) (p (sB Ym<|sG (cL (cI .i64)) Y1.Tr Yc YR YL<|sL Z3a 1 (Xb (Z2C Y1 Yc Yk) (x:=(ZN Y1 Yc Yk)) (Z4K Y1 Yc Yk hp0 hp1 hp2 hp3 Z10 Z1X Ym (((3:Int) - 0).toNat + 1) 0 Yk (show 0≤0 from (by omega)) (show Yk.length=Yk.length from (by omega)) (Nat.lt_succ_self _)) rfl)<|sI (Yc + 1) YZ YU<|sN)) (by kernel_rfl)
  | false =>
   have YF:=odf Ym
   have e:Zy Y1 (k + 1) Yc Yk=Yk:=by simp only [Zy,Ym,cond_false]
   rw [e]
   exact outR (e:=(.exit 0)) E0Ok Zb [] (mR false [0,1,1,3,8,9,69]) [0] (p (sB Ym<|sN)) (by kernel_rfl) (by intro h;cases h)
theorem Z4q (Y1:Gm):∀ (k:Nat) (Yc:Int) (Yk:(List Bool)) (hk:((Y1.Tr.length:Int) - Yc).toNat < k),(Zy Y1 k Yc Yk).length=Yk.length:=by
  intro k
  induction k with
  | zero=>intro Yc Yk hk;exact absurd hk (Nat.not_lt_zero _)
  | succ k ih =>
    intro Yc Yk hk
    cases Ym:(decide (Yc < (Y1.Tr.length:Int))) with
    | true =>
      have e:Zy Y1 (k + 1) Yc Yk=(Zy Y1 k (Yc + 1) (ZN Y1 Yc Yk)):=by simp only [Zy,Ym,cond_true]
      rw [e,ih (Yc + 1) (ZN Y1 Yc Yk) (by simp_all<;>omega)]<;>simp
    | false =>
      have e:Zy Y1 (k + 1) Yc Yk=Yk:=by simp only [Zy,Ym,cond_false]
      first | (rw [e];done) | (rw [e];rfl)
def Zn (Y1:Gm):(List Bool):=(Zy Y1 (((Y1.Tr.length:Int) - 0).toNat + 1) 0 (List.replicate (IntKind.wrap .i64 ((Y1.Pq.length:Int) * (Y1.Pq.length:Int))).toNat false))
@[simp] theorem Z3Q (Y1:Gm):(Zn Y1).length=((List.replicate (IntKind.wrap .i64 ((Y1.Pq.length:Int) * (Y1.Pq.length:Int))).toNat false):(List Bool)).length:=Z4q Y1 (((Y1.Tr.length:Int) - 0).toNat + 1) 0 (List.replicate (IntKind.wrap .i64 ((Y1.Pq.length:Int) * (Y1.Pq.length:Int))).toNat false) (by exact Nat.lt_succ_self _)
def Zz (Y1:Gm) (Yj:Int) (Y7:(List (List Int))):Nat→Int→(List (List Int))→(List (List Int))
  | 0,_,_=>default
  | k + 1,Yu,Y5=>(cond (decide (Yu < (Y1.Pq.length:Int)))
    (cond ((Zn Y1).getD ((IntKind.wrap .i64 ((IntKind.wrap .i64 (Yj * (Y1.Pq.length:Int))) + Yu)).toNat) default)
      (Zz Y1 Yj Y7 k (Yu + 1) (Y5 ++ [[Yj,Yu]]))
      (Zz Y1 Yj Y7 k (Yu + 1) Y5))
    Y5)
def Z2E (Y1:Gm) (Yj:Int) (Y7:(List (List Int))) (r:(List (List Int))):Ex × St:=((.exit 6),⟨.ref (Gm.c Y1) 0 :: .any :: .nils :: .i .i64 (Y1.Pq.length:Int) :: .own 0 :: an 5 (.own 1 :: .i .i64 Yj :: .any :: .ref (Gm.c Y1) 0 :: .ref (Gm.c Y1) 0 :: .ref (Gm.c Y1) 0 :: .sl (Y1.Pq.map Gv.c) :: .i .i64 (Y1.Pq.length:Int) :: .i .i64 (Y1.Pq.length:Int) :: .i .i64 (Y1.Pq.length:Int) :: .i .i64 (IntKind.wrap .i64 ((Y1.Pq.length:Int) * (Y1.Pq.length:Int))) :: .own 0 :: an 42 (.i .i64 Yj :: .i .i64 (Y1.Pq.length:Int) :: .b (decide (Yj < (Y1.Pq.length:Int))) :: .any :: .any :: .i .i64 Yj :: .i .i64 (Yj + 1) :: an 20 [])),[.vec 4 1 ((Zn Y1).map cB) false, .nest 60 (r.map fun l=>l.map (cI .i64)) false]⟩)
def Z3G (Y1:Gm) (Yj:Int) (Y7:(List (List Int))) (Yu:Int) (Y5:(List (List Int))):St:=⟨.ref (Gm.c Y1) 0 :: .any :: .nils :: .i .i64 (Y1.Pq.length:Int) :: .own 0 :: an 5 (.own 1 :: .i .i64 Yj :: .i .i64 Yu :: .ref (Gm.c Y1) 0 :: .ref (Gm.c Y1) 0 :: .ref (Gm.c Y1) 0 :: .sl (Y1.Pq.map Gv.c) :: .i .i64 (Y1.Pq.length:Int) :: .i .i64 (Y1.Pq.length:Int) :: .i .i64 (Y1.Pq.length:Int) :: .i .i64 (IntKind.wrap .i64 ((Y1.Pq.length:Int) * (Y1.Pq.length:Int))) :: .own 0 :: an 42 (.i .i64 Yj :: .i .i64 (Y1.Pq.length:Int) :: .b (decide (Yj < (Y1.Pq.length:Int))) :: .any :: .any :: .i .i64 Yj :: .i .i64 (Yj + 1) :: an 20 [])),[.vec 4 1 ((Zn Y1).map cB) false, .nest 60 (Y5.map fun l=>l.map (cI .i64)) false]⟩
def Z2q:List Bool:=(mR false [0,1,1,3,5,12,42,3,2,2,20])
def Z4r:List Bool:=(mR false [0,1,1,3,5,2,1,9,42,3,2,2,20])
set_option maxHeartbeats 1000000 in
theorem Z4M (Y1:Gm) (Yj:Int) (Y7:(List (List Int))) (hp0:Y1.Pq.length≤1073741824) (hp1:Y1.Tr.length≤1073741824) (hp2:∀ t∈Y1.Tr,t.length≤1073741824) (hp3:OkE Y1.Pq.length Y1.Tr) (Z1Y:0≤Yj) (Z1Z:(Y7.length:Int)≤64 * Yj) (Z20:(decide (Yj < (Y1.Pq.length:Int)))=true):∀ (k:Nat) (Yu:Int) (Y5:(List (List Int))) (Z3c:Yj < Yu) (Z3d:(Y5.length:Int)≤(Y7.length:Int) + Yu) (hk:((Y1.Pq.length:Int) - Yu).toNat < k),Lp prog 0 (sub (X0 f59) [1,1,1,1,1,0,1,0,0,1,0,0,1,0,0]) (Z3G Y1 Yj Y7 Yu Y5) (Z2E Y1 Yj Y7 (Zz Y1 Yj Y7 k Yu Y5)).1 (Z2E Y1 Yj Y7 (Zz Y1 Yj Y7 k Yu Y5)).2:=by
 intro k
 induction k with
 | zero=>intro Yu Y5 Z3c Z3d hk;exact absurd hk (Nat.not_lt_zero _)
 | succ k ih =>
  intro Yu Y5 Z3c Z3d hk
  cases Yr:(decide (Yu < (Y1.Pq.length:Int))) with
  | true =>
   have YX:=odt Yr
   have Y13:(0:Int)≤(IntKind.wrap .i64 ((IntKind.wrap .i64 (Yj * (Y1.Pq.length:Int))) + Yu)):=(by ((have:=hp3.1;have g4:=odt Z20;(have q2:=ix2F (n:=(Y1.Pq.length:Int)) (a:=Yj) (b:=Yu) (by omega) (by omega) (by omega) (by omega) (by omega);omega))))
   have Y14:(IntKind.wrap .i64 ((IntKind.wrap .i64 (Yj * (Y1.Pq.length:Int))) + Yu)) < ((Zn Y1).length:Int):=(by ((have:=hp3.1;have g4:=odt Z20;(have q2:=ix2F (n:=(Y1.Pq.length:Int)) (a:=Yj) (b:=Yu) (by omega) (by omega) (by omega) (by omega) (by omega);(simp only [Z3Q,List.length_replicate];omega)))))
   have YY:(IntKind.wrap .i64 ((IntKind.wrap .i64 (Yj * (Y1.Pq.length:Int))) + Yu)).toNat < (Zn Y1).length:=(by omega)
   have p {a C} (s:Scr a C):=sB Yr<|sW .i64 (Yj * (Y1.Pq.length:Int))<|sW .i64 ((IntKind.wrap .i64 (Yj * (Y1.Pq.length:Int))) + Yu)<|sX cB (Zn Y1) (IntKind.wrap .i64 ((IntKind.wrap .i64 (Yj * (Y1.Pq.length:Int))) + Yu)) Y13 Y14<|sV cB (Zn Y1) ((IntKind.wrap .i64 ((IntKind.wrap .i64 (Yj * (Y1.Pq.length:Int))) + Yu)).toNat) YY<|s
   cases YB:((Zn Y1).getD ((IntKind.wrap .i64 ((IntKind.wrap .i64 (Yj * (Y1.Pq.length:Int))) + Yu)).toNat) default) with
   | true =>
    have YT:Y5.length + [[Yj,Yu]].length≤1073741824:=by clear p;exact (by ((have:=hp3.1;have g4:=odt Z20;(simp only [List.length_append,List.length_cons,List.length_nil];omega))))
    have Y12:(-9223372036854775808:Int)≤(Yu + 1):=by clear p;exact (by omega)
    have Y19:(Yu + 1)≤(9223372036854775807:Int):=by clear p;exact (by omega)
    have e:Zz Y1 Yj Y7 (k + 1) Yu Y5=(Zz Y1 Yj Y7 k (Yu + 1) (Y5 ++ [[Yj,Yu]])):=by simp only [Zz,Yr,YB,cond_true]
    rw [e]
    exact X1m E0Ok Zb [] Z2q [0,1] (⟨.ref (Gm.c Y1) 0 :: .any :: .nils :: .i .i64 (Y1.Pq.length:Int) :: .own 0 :: an 5 (.own 1 :: .i .i64 Yj :: .i .i64 (Yu + 1) :: .ref (Gm.c Y1) 0 :: .ref (Gm.c Y1) 0 :: .ref (Gm.c Y1) 0 :: .sl (Y1.Pq.map Gv.c) :: .i .i64 (Y1.Pq.length:Int) :: .i .i64 (Y1.Pq.length:Int) :: .i .i64 (Y1.Pq.length:Int) :: .i .i64 (IntKind.wrap .i64 ((Y1.Pq.length:Int) * (Y1.Pq.length:Int))) :: .own 0 :: an 42 (.i .i64 Yj :: .i .i64 (Y1.Pq.length:Int) :: .b (decide (Yj < (Y1.Pq.length:Int))) :: .any :: .any :: .i .i64 Yj :: .i .i64 (Yj + 1) :: an 20 [])),[.vec 4 1 ((Zn Y1).map cB) false, .nest 60 ((Y5.map fun l=>l.map (cI .i64)) ++ [([[.i .i64 Yj],[.i .i64 Yu]]:List (List AV))]) false]⟩) (p (sB YB<|sC (show (Y5.map fun l=>l.map (cI .i64)).length + [([[.i .i64 Yj],[.i .i64 Yu]]:List (List AV))].length≤1073741824 from (by simpa using YT))<|sI (Yu + 1) Y12 Y19<|sN)) (by kernel_rfl) (by simp [Z3G,cL,cI,cB]) (ih (Yu + 1) (Y5 ++ [[Yj,Yu]]) (show Yj < (Yu + 1) from (by omega)) (show ((Y5 ++ [[Yj,Yu]]).length:Int)≤(Y7.length:Int) + (Yu + 1) from (by ((have:=hp3.1;have g4:=odt Z20;(simp only [List.length_append,List.length_cons,List.length_nil];omega))))) (by omega))
   | false =>
    have YT:(-9223372036854775808:Int)≤(Yu + 1):=by clear p;exact (by omega)
    have Y12:(Yu + 1)≤(9223372036854775807:Int):=by clear p;exact (by omega)
    have e:Zz Y1 Yj Y7 (k + 1) Yu Y5=(Zz Y1 Yj Y7 k (Yu + 1) Y5):=by simp only [Zz,Yr,YB,cond_true,cond_false]
    rw [e]
    exact Xs E0Ok Zb [] Z2q [0,1] (ih (Yu + 1) Y5 (show Yj < (Yu + 1) from (by omega)) (show (Y5.length:Int)≤(Y7.length:Int) + (Yu + 1) from (by omega)) (by omega)) (p (sB YB<|sI (Yu + 1) YT Y12<|sN)) (by kernel_rfl)
  | false =>
   have YX:=odf Yr
   have e:Zz Y1 Yj Y7 (k + 1) Yu Y5=Y5:=by simp only [Zz,Yr,cond_false]
   rw [e]
   exact outR (e:=(.exit 6)) E0Ok Zb [] Z4r [0,1] (sB Yr<|sN) (by kernel_rfl) (by intro h;cases h)
def Z1a (Y1:Gm) (Yj:Int) (Y7:(List (List Int))):(List (List Int)):=(Zz Y1 Yj Y7 (((Y1.Pq.length:Int) - (Yj + 1)).toNat + 1) (Yj + 1) Y7)
theorem Z6J (m:Gm) (a:Int) (r1:List (List Int)):∀ (k:Nat) (b:Int) (r:List (List Int)),(Zz m a r1 k b r).length≤r.length + k:=by
  intro k
  induction k with
  | zero=>intro b r;exact Nat.zero_le _
  | succ k ih =>
    intro b r
    rw [Zz]
    cases decide (b < (m.Pq.length:Int)) with
    | false=>rw [cond_false];omega
    | true =>
      rw [cond_true]
      cases ((Zn m).getD ((IntKind.wrap .i64 ((IntKind.wrap .i64 (a * (m.Pq.length:Int))) + b)).toNat) default) with
      | true=>rw [cond_true];have:=ih (b + 1) (r ++ [[a,b]]);simp only [List.length_append,List.length_cons,List.length_nil] at this;omega
      | false=>rw [cond_false];have:=ih (b + 1) r;omega
def Z11 (Y1:Gm):Nat→Int→(List (List Int))→(List (List Int))
  | 0,_,_=>default
  | k + 1,Yj,Y7=>(cond (decide (Yj < (Y1.Pq.length:Int)))
    (Z11 Y1 k (Yj + 1) (Z1a Y1 Yj Y7))
    Y7)
def Z2F (Y1:Gm) (r:(List (List Int))):Ex × St:=((.exit 4),⟨.ref (Gm.c Y1) 0 :: .any :: .nils :: .i .i64 (Y1.Pq.length:Int) :: .own 0 :: an 5 (.own 1 :: .any :: .any :: .ref (Gm.c Y1) 0 :: .ref (Gm.c Y1) 0 :: .ref (Gm.c Y1) 0 :: .sl (Y1.Pq.map Gv.c) :: .i .i64 (Y1.Pq.length:Int) :: .i .i64 (Y1.Pq.length:Int) :: .i .i64 (Y1.Pq.length:Int) :: .i .i64 (IntKind.wrap .i64 ((Y1.Pq.length:Int) * (Y1.Pq.length:Int))) :: .own 0 :: an 69 []),[.vec 4 1 ((Zn Y1).map cB) false, .nest 60 (r.map fun l=>l.map (cI .i64)) false]⟩)
def Z3H (Y1:Gm) (Yj:Int) (Y7:(List (List Int))):St:=⟨.ref (Gm.c Y1) 0 :: .any :: .nils :: .i .i64 (Y1.Pq.length:Int) :: .own 0 :: an 5 (.own 1 :: .i .i64 Yj :: .any :: .ref (Gm.c Y1) 0 :: .ref (Gm.c Y1) 0 :: .ref (Gm.c Y1) 0 :: .sl (Y1.Pq.map Gv.c) :: .i .i64 (Y1.Pq.length:Int) :: .i .i64 (Y1.Pq.length:Int) :: .i .i64 (Y1.Pq.length:Int) :: .i .i64 (IntKind.wrap .i64 ((Y1.Pq.length:Int) * (Y1.Pq.length:Int))) :: .own 0 :: an 69 []),[.vec 4 1 ((Zn Y1).map cB) false, .nest 60 (Y7.map fun l=>l.map (cI .i64)) false]⟩
theorem Z4N (Y1:Gm) (hp0:Y1.Pq.length≤1073741824) (hp1:Y1.Tr.length≤1073741824) (hp2:∀ t∈Y1.Tr,t.length≤1073741824) (hp3:OkE Y1.Pq.length Y1.Tr):∀ (k:Nat) (Yj:Int) (Y7:(List (List Int))) (Z1Y:0≤Yj) (Z1Z:(Y7.length:Int)≤64 * Yj) (hk:((Y1.Pq.length:Int) - Yj).toNat < k),Lp prog 0 (sub (X0 f59) [1,1,1,1,1,0,1,0,0]) (Z3H Y1 Yj Y7) (Z2F Y1 (Z11 Y1 k Yj Y7)).1 (Z2F Y1 (Z11 Y1 k Yj Y7)).2:=by
 intro k
 induction k with
 | zero=>intro Yj Y7 Z1Y Z1Z hk;exact absurd hk (Nat.not_lt_zero _)
 | succ k ih =>
  intro Yj Y7 Z1Y Z1Z hk
  cases Ym:(decide (Yj < (Y1.Pq.length:Int))) with
  | true =>
   have YF:=odt Ym
   have YR:(-9223372036854775808:Int)≤(Yj + 1):=(by omega)
   have YL:(Yj + 1)≤(9223372036854775807:Int):=(by omega)
   have e:Z11 Y1 (k + 1) Yj Y7=(Z11 Y1 k (Yj + 1) (Z1a Y1 Yj Y7)):=by simp only [Z11,Ym,cond_true]
   rw [e]
   exact Xs E0Ok Zb [] (mR false [0,1,1,3,5,2,1,9,69]) [0,1] (ih (Yj + 1) (Z1a Y1 Yj Y7) (show 0≤(Yj + 1) from (by omega)) (show ((Z1a Y1 Yj Y7).length:Int)≤64 * (Yj + 1) from (by ((have:=hp3.1;have g4:=odt Ym;have q:=Z6J Y1 Yj Y7 (((Y1.Pq.length:Int) - (Yj + 1)).toNat + 1) (Yj + 1) Y7;unfold Z1a;omega)))) (by omega)) (sB Ym<|sI (Yj + 1) YR YL<|sL Z2q 2 (Xb (Z2E Y1 Yj Y7) (x:=(Z1a Y1 Yj Y7)) (Z4M Y1 Yj Y7 hp0 hp1 hp2 hp3 Z1Y Z1Z Ym (((Y1.Pq.length:Int) - (Yj + 1)).toNat + 1) (Yj + 1) Y7 (show Yj < (Yj + 1) from (by omega)) (show (Y7.length:Int)≤(Y7.length:Int) + (Yj + 1) from (by omega)) (Nat.lt_succ_self _)) rfl)<|sI (Yj + 1) YR YL<|sN) (by kernel_rfl)
  | false =>
   have YF:=odf Ym
   have e:Z11 Y1 (k + 1) Yj Y7=Y7:=by simp only [Z11,Ym,cond_false]
   rw [e]
   exact outR (e:=(.exit 4)) E0Ok Zb [] (mR false [0,1,1,3,5,1,2,9,69]) [0,1] (sB Ym<|sN) (by kernel_rfl) (by intro h;cases h)
def Z21 (Y1:Gm):(List (List Int)):=(Z11 Y1 (((Y1.Pq.length:Int) - 0).toNat + 1) 0 ([]:List (List Int)))
def Z1S (Y1:Gm):(List (List Int)):=(Z21 Y1)
theorem Z6u (m:Gm) (i:Int) (r:List Bool):ZN m i r=((r.set (IntKind.wrap .i64 (IntKind.wrap .i64 (Z14 ((m.Tr.getD i.toNat default).getD 0 default) ((m.Tr.getD i.toNat default).getD 1 default) * (m.Pq.length:Int)) + Z15 ((m.Tr.getD i.toNat default).getD 0 default) ((m.Tr.getD i.toNat default).getD 1 default))).toNat true).set (IntKind.wrap .i64 (IntKind.wrap .i64 (Z14 ((m.Tr.getD i.toNat default).getD 1 default) ((m.Tr.getD i.toNat default).getD 2 default) * (m.Pq.length:Int)) + Z15 ((m.Tr.getD i.toNat default).getD 1 default) ((m.Tr.getD i.toNat default).getD 2 default))).toNat true).set (IntKind.wrap .i64 (IntKind.wrap .i64 (Z14 ((m.Tr.getD i.toNat default).getD 2 default) ((m.Tr.getD i.toNat default).getD 0 default) * (m.Pq.length:Int)) + Z15 ((m.Tr.getD i.toNat default).getD 2 default) ((m.Tr.getD i.toNat default).getD 0 default))).toNat true:=by
  have one:∀ (r0:List Bool) (k:Nat) (x:Int) (s:List Bool),x < 3→Zr m i r0 (k + 1) x s=Zr m i r0 k (x + 1) (s.set (IntKind.wrap .i64 (IntKind.wrap .i64 (ZC m i x * (m.Pq.length:Int)) + ZF m i x)).toNat true):=by
    intro r0 k x s hx
    rw [Zr,decide_eq_true hx,cond_true]
  unfold ZN
  show Zr m i r 4 0 r=_
  rw [one r 3 0 r (by omega),one r 2 (0 + 1) _ (by omega),one r 1 (0 + 1 + 1) _ (by omega),Zr]
  show cond (decide ((3:Int) < 3)) _ _=_
  rw [decide_eq_false (by omega),cond_false]
  rfl
theorem Z6v (m:Gm) (ok:OkE m.Pq.length m.Tr) {a b:Int} (ha:0≤a) (hab:a < b) (hb:b < (m.Pq.length:Int)):∀ (k:Nat) (i:Nat) (r:List Bool),i≤m.Tr.length→((m.Tr.length:Int) - i).toNat < k→r.length=(IntKind.wrap .i64 ((m.Pq.length:Int) * (m.Pq.length:Int))).toNat →
    (Zy m k i r).getD (IntKind.wrap .i64 (IntKind.wrap .i64 (a * (m.Pq.length:Int)) + b)).toNat default=(r.getD (IntKind.wrap .i64 (IntKind.wrap .i64 (a * (m.Pq.length:Int)) + b)).toNat default || (m.Tr.drop i).any fun t=>tHas t a b):=by
  intro k
  induction k with
  | zero=>intro i r _ hk;exact absurd hk (Nat.not_lt_zero _)
  | succ k ih =>
    intro i r hle hk hr
    rw [Zy]
    by_cases hi:(i:Int) < (m.Tr.length:Int)
    · have hn:i < m.Tr.length:=by omega
      rw [decide_eq_true hi,cond_true]
      have:=ih (i + 1) (ZN m i r) (by omega) (by omega) (by rw [Z3P];exact hr)
      rw [show ((i:Int) + 1)=((i + 1:Nat):Int) from by omega,this,Z6u,List.drop_eq_getElem_cons hn,List.any_cons]
      have hg:m.Tr.getD ((i:Nat):Int).toNat default=m.Tr[i]:=by rw [show ((i:Nat):Int).toNat=i from by omega,List.getD_eq_getElem?_getD,List.getElem?_eq_getElem hn];rfl
      obtain ⟨x,y,z,ht,r1,r2,r3,n1,n2,n3⟩:=ok.2.2 _ (List.getElem_mem hn)
      have h64:(m.Pq.length:Int)≤64:=by have:=ok.1;omega
      rw [hg,ht]
      simp only [List.getD_cons_zero,List.getD_cons_succ]
      rw [X42 h64 (Z4n z x) (Z49 r3 r1) (Z4a r3 r1) ha hab hb (by simpa using hr),X42 h64 (Z4n y z) (Z49 r2 r3) (Z4a r2 r3) ha hab hb (by simpa using hr),X42 h64 (Z4n x y) (Z49 r1 r2) (Z4a r1 r2) ha hab hb hr]
      have hT:=X4p n1 n2 n3 hab
      unfold tE at hT
      simp only [List.getD_cons_zero,List.getD_cons_succ,List.mem_cons,List.not_mem_nil,or_false] at hT
      generalize r.getD (IntKind.wrap .i64 (IntKind.wrap .i64 (a * (m.Pq.length:Int)) + b)).toNat default=q
      generalize ((m.Tr.drop (i + 1)).any fun t=>tHas t a b)=q2
      have hB:tHas [x,y,z] a b=(decide ((⟨a,b⟩:Gedge)=mkE x y) || (decide ((⟨a,b⟩:Gedge)=mkE y z) || decide ((⟨a,b⟩:Gedge)=mkE z x))):=by
        rw [Bool.eq_iff_iff,← hT];simp only [Bool.or_eq_true,decide_eq_true_eq]
      rw [hB]
      cases decide ((⟨a,b⟩:Gedge)=mkE x y)<;>cases decide ((⟨a,b⟩:Gedge)=mkE y z)<;>cases decide ((⟨a,b⟩:Gedge)=mkE z x)<;>cases q<;>cases q2<;>rfl
    · rw [decide_eq_false hi,cond_false,List.drop_eq_nil_of_le (by omega)];simp
theorem Z6K (m:Gm) (ok:OkE m.Pq.length m.Tr) {a b:Int} (ha:0≤a) (hab:a < b) (hb:b < (m.Pq.length:Int)) :
    (Zn m).getD (IntKind.wrap .i64 (IntKind.wrap .i64 (a * (m.Pq.length:Int)) + b)).toNat default=m.Tr.any fun t=>tHas t a b:=by
  unfold Zn
  have:=Z6v m ok ha hab hb (((m.Tr.length:Int) - 0).toNat + 1) 0 (List.replicate (IntKind.wrap .i64 ((m.Pq.length:Int) * (m.Pq.length:Int))).toNat false) (Nat.zero_le _) (by omega) (by simp)
  rw [List.drop_zero] at this
  refine this.trans ?_
  rw [List.getD_eq_getElem?_getD,List.getElem?_replicate]
  split<;>simp
theorem Z5W (m:Gm) (ok:OkE m.Pq.length m.Tr):Z1S m=(edgL m.Pq.length m.Tr).map e2:=by
  rw [X92]
  unfold Z1S Z21
  refine X8y (n:=m.Pq.length) (p:=fun a b=>m.Tr.any fun t=>tHas t a b) (g:=fun a b=>e2 ⟨a,b⟩) (lo:=Z11 m) (li:=Z1a m) (fun k a r=>rfl) (fun a r ha => ?_) _ 0 (Nat.zero_le _) (by omega)
  unfold Z1a
  have hf:=X8v (n:=(m.Pq.length:Int)) (f:=fun b => !((Zn m).getD ((IntKind.wrap .i64 ((IntKind.wrap .i64 ((a:Int) * (m.Pq.length:Int))) + b)).toNat) default)) (g:=fun b => [(a:Int),b]) (lo:=Zz m a r) (fun k i r'=>by
    rw [Zz]
    cases ((Zn m).getD ((IntKind.wrap .i64 ((IntKind.wrap .i64 ((a:Int) * (m.Pq.length:Int))) + i)).toNat) default)<;>rfl) (((m.Pq.length:Int) - ((a:Int) + 1)).toNat + 1) ((a:Int) + 1) r (Nat.lt_succ_self _)
  rw [hf,show ((m.Pq.length:Int) - ((a:Int) + 1)).toNat=m.Pq.length - (a + 1) from by omega]
  congr 1
  have hfc:((List.range (m.Pq.length - (a + 1))).filter fun (j:Nat) => !(!((Zn m).getD ((IntKind.wrap .i64 ((IntKind.wrap .i64 ((a:Int) * (m.Pq.length:Int))) + ((a:Int) + 1 + (j:Int)))).toNat) default)))=(List.range (m.Pq.length - (a + 1))).filter fun (j:Nat)=>m.Tr.any fun t=>tHas t a ((a:Int) + 1 + j):=by
    refine List.filter_congr fun j hj => ?_
    rw [List.mem_range] at hj
    rw [Bool.not_not,Z6K m ok (by omega) (by omega) (by omega)]
  rw [hfc]
  rfl
end Go.Ab
