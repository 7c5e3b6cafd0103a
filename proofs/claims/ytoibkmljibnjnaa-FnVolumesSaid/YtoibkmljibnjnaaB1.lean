/- The functions of this seat as plain Lean, and that the program's are these. Printed by a program of the prover's own. -/
import Derived.Test.YtoibkmljibnjnaaB0
set_option linter.unusedVariables false
set_option linter.unusedSimpArgs false
set_option maxRecDepth 100000
namespace Go.Ab
open Go.RowKit Go.Proofs.Try
def Z1U (Y4:(List Int)) (YW:(List Int)):Bool:=(cond (decide ((Y4.length:Int) > 48))
  true
  (decide ((YW.length:Int) > 48)))
theorem Z6a {a b:List Int} (h:Z1U a b=false):a.length≤48∧b.length≤48:=by
  unfold Z1U at h
  cases h1:decide ((a.length:Int) > 48) with
  | true=>rw [h1] at h;cases h
  | false =>
    rw [h1,cond_false] at h
    have h1:=odf h1
    have h2:=odf h
    omega
theorem Z6d (Y4:(List Int)) (YW:(List Int)) (hp0:Y4.length≤9223372036854775807) (hp1:YW.length≤9223372036854775807)  : Fn prog 17 [.sl (Y4.map (cI .u8)), .sl (YW.map (cI .u8))] (.b (Z1U Y4 YW)) []:=by
 have p {a C} (s:Scr a C):=sZ (cI .u8) Y4<|s
 cases h0:(decide ((Y4.length:Int) > 48)) with
 | true =>
  have gh0:=odt h0
  refine fnS E0Ok Zc (c:=X5 f17) [] (.b true) [] func17 (p (sB h0<|sB h0<|sB h0<|sB h0<|sK [] sN)) rfl (by kernel_rfl) (by kernel_rfl) rfl ?_ ?_
  · simp only [Z1U,h0,cond_true]
  · rfl
 | false =>
  have gh0:=odf h0
  refine fnS E0Ok Zc (c:=X5 f17) [] (.b (decide ((YW.length:Int) > 48))) [] func17 (p (sB h0<|sB h0<|sZ (cI .u8) YW<|sB h0<|sB h0<|sK [] sN)) rfl (by kernel_rfl) (by kernel_rfl) rfl ?_ ?_
  · simp only [Z1U,h0,cond_false]
  · rfl
def Z6 (Y4:(List Int)) (k_1:Int) (n_2:Int):Int:=(cond (decide (n_2≤1))
  0
  (cond (decide (k_1 ≥ (Y4.length:Int)))
    0
    (Int.tmod (IntKind.wrap .i64 (Y4.getD k_1.toNat default)) n_2)))
theorem Z5l {c:List Int} {k n:Int} (hc:OkB c) (h0:0≤k) (hn:1≤n):0≤Z6 c k n∧Z6 c k n < n:=by
  unfold Z6
  by_cases h1:n≤1
  · rw [decide_eq_true h1,cond_true];omega
  · rw [decide_eq_false h1,cond_false]
    by_cases h2:k ≥ (c.length:Int)
    · rw [decide_eq_true h2,cond_true];omega
    · rw [decide_eq_false h2,cond_false]
      have hm:c.getD k.toNat default∈c:=by
        rw [List.getD_eq_getElem?_getD,List.getElem?_eq_getElem (show k.toNat < c.length by omega)];exact List.getElem_mem _
      have q:=hc _ hm
      rw [XO (by omega) (by omega)]
      exact ⟨Int.tmod_nonneg _ q.1,Int.tmod_lt_of_pos _ (by omega)⟩
theorem Z2N (Y4:(List Int)) (k_1:Int) (n_2:Int) (hp0:Y4.length≤1073741824) (hp1:(0:Int)≤k_1)  : Fn prog 20 [.sl (Y4.map (cI .u8)), .i .i64 k_1, .i .i64 n_2] (.i .i64 (Z6 Y4 k_1 n_2)) []:=by
 cases h0:(decide (n_2≤1)) with
 | true =>
  have gh0:=odt h0
  refine fnS E0Ok Zc (c:=X5 f20) [] (.i .i64 0) [] func20 (sB h0<|sB h0<|sB h0<|sB h0<|sB h0<|sB (show true=true from rfl)<|sK [] sN) rfl (by kernel_rfl) (by kernel_rfl) rfl ?_ ?_
  · simp only [Z6,h0,cond_true]
  · rfl
 | false =>
  have gh0:=odf h0
  have p {a C} (s:Scr a C):=sB h0<|sB h0<|sB h0<|sZ (cI .u8) Y4<|sB h0<|sB h0<|s
  cases h1:(decide (k_1 ≥ (Y4.length:Int))) with
  | true =>
   have gh1:=odt h1
   refine fnS E0Ok Zc (c:=X5 f20) [] (.i .i64 0) [] func20 (p (sB h1<|sK [] sN)) rfl (by kernel_rfl) (by kernel_rfl) rfl ?_ ?_
   · simp only [Z6,h0,h1,cond_true,cond_false]
   · rfl
  | false =>
   have gh1:=odf h1
   have y0:k_1 < (Y4.length:Int):=by clear p;exact (by omega)
   have y1:n_2≠0:=by clear p;exact (by omega)
   refine fnS E0Ok Zc (c:=X5 f20) [] (.i .i64 (Int.tmod (IntKind.wrap .i64 (Y4.getD k_1.toNat default)) n_2)) [] func20 (p (sB h1<|sG (cI .u8) Y4 k_1 hp1 y0<|sW .i64 (Y4.getD k_1.toNat default)<|sC y1<|sQ (Int.tmod (IntKind.wrap .i64 (Y4.getD k_1.toNat default)) n_2)<|sK [] sN)) rfl (by kernel_rfl) (by kernel_rfl) rfl ?_ ?_
   · simp only [Z6,h0,h1,cond_false]
   · rfl
def Z3q (Yd:Nat):Bool:=(fcmp .eql .f32 (fop .sub .f32 Yd Yd) 0)
theorem Z5D (Yd:Nat)   : Fn prog 125 [.f .f32 Yd] (.b (Z3q Yd)) []:=by
 refine fnS E0Ok Zc (c:=X5 f125) [] (.b (fcmp .eql .f32 (fop .sub .f32 Yd Yd) 0)) [] func125 (sK [] sN) rfl (by kernel_rfl) (by kernel_rfl) rfl ?_ ?_
 · rfl
 · rfl
def ZF (Yd:Nat):Bool:=(cond (Z3q Yd)
  (fcmp .gtr .f32 Yd 0)
  false)
theorem Z5V (Yd:Nat)   : Fn prog 110 [.f .f32 Yd] (.b (ZF Yd)) []:=by
 have p {a C} (s:Scr a C):=sF (Z5D Yd)<|s
 cases h0:(Z3q Yd) with
 | true =>
  refine fnS E0Ok Zc (c:=X5 f110) [] (.b (fcmp .gtr .f32 Yd 0)) [] func110 (p (sB h0<|sB h0<|sB h0<|sK [] sN)) rfl (by kernel_rfl) (by kernel_rfl) rfl ?_ ?_
  · simp only [ZF,h0,cond_true]
  · rfl
 | false =>
  refine fnS E0Ok Zc (c:=X5 f110) [] (.b false) [] func110 (p (sB h0<|sB h0<|sB h0<|sK [] sN)) rfl (by kernel_rfl) (by kernel_rfl) rfl ?_ ?_
  · simp only [ZF,h0,cond_false]
  · rfl
def Z23 (Y0:Nat):Nat→Unit
  | 0=>default
  | k + 1=>()
def Z38 (Y0:Nat) (r:Unit):Ex × St:=((.exit 0),⟨.f .f32 Y0 :: .any :: .ptr 0 0 0 :: .b false :: .ptr 1 0 0 :: .any :: .any :: .f .f32 Y0 :: .b (ZF Y0) :: .b (!(ZF Y0)) :: .any :: .agg [.nils, .nils] :: an 41 [],[.box 27 [.nils, .nils], .box 27 [.own 2, .nils], .vec 32 3 (((((((([[.f .f32 0, .f .f32 0, .f .f32 0]]:List (List AV)) ++ ([[.f .f32 Y0, .f .f32 0, .f .f32 0]]:List (List AV))) ++ ([[.f .f32 0, .f .f32 Y0, .f .f32 0]]:List (List AV))) ++ ([[.f .f32 Y0, .f .f32 Y0, .f .f32 0]]:List (List AV))) ++ ([[.f .f32 0, .f .f32 0, .f .f32 Y0]]:List (List AV))) ++ ([[.f .f32 Y0, .f .f32 0, .f .f32 Y0]]:List (List AV))) ++ ([[.f .f32 0, .f .f32 Y0, .f .f32 Y0]]:List (List AV))) ++ ([[.f .f32 Y0, .f .f32 Y0, .f .f32 Y0]]:List (List AV))) false]⟩)
def Z5m (Y0:Nat)  : St:=⟨.f .f32 Y0 :: .any :: .ptr 0 0 0 :: .b false :: .ptr 1 0 0 :: .i .i64 8 :: .any :: .f .f32 Y0 :: .b (ZF Y0) :: .b (!(ZF Y0)) :: .any :: .agg [.nils, .nils] :: an 41 [],[.box 27 [.nils, .nils], .box 27 [.own 2, .nils], .vec 32 3 (((((((([[.f .f32 0, .f .f32 0, .f .f32 0]]:List (List AV)) ++ ([[.f .f32 Y0, .f .f32 0, .f .f32 0]]:List (List AV))) ++ ([[.f .f32 0, .f .f32 Y0, .f .f32 0]]:List (List AV))) ++ ([[.f .f32 Y0, .f .f32 Y0, .f .f32 0]]:List (List AV))) ++ ([[.f .f32 0, .f .f32 0, .f .f32 Y0]]:List (List AV))) ++ ([[.f .f32 Y0, .f .f32 0, .f .f32 Y0]]:List (List AV))) ++ ([[.f .f32 0, .f .f32 Y0, .f .f32 Y0]]:List (List AV))) ++ ([[.f .f32 Y0, .f .f32 Y0, .f .f32 Y0]]:List (List AV))) false]⟩
theorem Z5n (Y0:Nat)  : ∀ (k:Nat)   (hk:0 < k),Lp prog 0 (sub (X5 f69) [1,1,1,0,1,0,0]) (Z5m Y0) (Z38 Y0 (Z23 Y0 k)).1 (Z38 Y0 (Z23 Y0 k)).2:=by
 intro k
 induction k with
 | zero=>intro hk;exact absurd hk (Nat.not_lt_zero _)
 | succ k ih =>
  intro hk
  have e:Z23 Y0 (k + 1)=():=by simp only [Z23]
  rw [e]
  exact outR (e:=(.exit 0)) E0Ok Zc [] (mR false [0,1,1,3,2,3,1,1,41]) [0,1,2] (sB (show (decide (8 < 8))=false from rfl)<|sN) (by kernel_rfl) (by intro h;cases h)
def Z4Y (Y0:Nat):Unit:=(Z23 Y0 (0 + 1))
def Z1u (Y0:Nat):Gm × Bool:=(cond (ZF Y0)
  ((⟨((((((([(⟨0,0,0⟩:Gv)] ++ [(⟨Y0,0,0⟩:Gv)]) ++ [(⟨0,Y0,0⟩:Gv)]) ++ [(⟨Y0,Y0,0⟩:Gv)]) ++ [(⟨0,0,Y0⟩:Gv)]) ++ [(⟨Y0,0,Y0⟩:Gv)]) ++ [(⟨0,Y0,Y0⟩:Gv)]) ++ [(⟨Y0,Y0,Y0⟩:Gv)]),([[0,2,3],[0,3,1],[4,5,7],[4,7,6],[0,1,5],[0,5,4],[2,6,7],[2,7,3],[0,4,6],[0,6,2],[1,3,7],[1,7,5]]:List (List Int))⟩:Gm),true)
  ((⟨([]:List Gv),([]:List (List Int))⟩:Gm),false))
set_option maxHeartbeats 1000000 in
theorem Z5W (Y0:Nat)   : Fn prog 69 [.f .f32 Y0] (.tup [.agg [.own 0, .own 1], .b ((Z1u Y0).2)]) [.vec 32 3 (((Z1u Y0).1.Pq).map Gv.c) false, .nest 60 (((Z1u Y0).1.Tr).map fun l=>l.map (cI .i64)) false]:=by
 have p {a C} (s:Scr a C):=sF (Z5V Y0)<|s
 cases h0:(ZF Y0) with
 | true =>
  have ypp0:([(⟨0,0,0⟩:Gv)]).length + ([(⟨Y0,0,0⟩:Gv)]).length≤1073741824:=by clear p;exact (by simp_all<;>omega)
  have yppp0:([(⟨0,0,0⟩:Gv)] ++ [(⟨Y0,0,0⟩:Gv)]).length + ([(⟨0,Y0,0⟩:Gv)]).length≤1073741824:=by clear p;exact (by simp_all<;>omega)
  have ypppp0:(([(⟨0,0,0⟩:Gv)] ++ [(⟨Y0,0,0⟩:Gv)]) ++ [(⟨0,Y0,0⟩:Gv)]).length + ([(⟨Y0,Y0,0⟩:Gv)]).length≤1073741824:=by clear p;exact (by simp_all<;>omega)
  have yppppp0:((([(⟨0,0,0⟩:Gv)] ++ [(⟨Y0,0,0⟩:Gv)]) ++ [(⟨0,Y0,0⟩:Gv)]) ++ [(⟨Y0,Y0,0⟩:Gv)]).length + ([(⟨0,0,Y0⟩:Gv)]).length≤1073741824:=by clear p;exact (by simp_all<;>omega)
  have ypppppp0:(((([(⟨0,0,0⟩:Gv)] ++ [(⟨Y0,0,0⟩:Gv)]) ++ [(⟨0,Y0,0⟩:Gv)]) ++ [(⟨Y0,Y0,0⟩:Gv)]) ++ [(⟨0,0,Y0⟩:Gv)]).length + ([(⟨Y0,0,Y0⟩:Gv)]).length≤1073741824:=by clear p;exact (by simp_all<;>omega)
  have yppppppp0:((((([(⟨0,0,0⟩:Gv)] ++ [(⟨Y0,0,0⟩:Gv)]) ++ [(⟨0,Y0,0⟩:Gv)]) ++ [(⟨Y0,Y0,0⟩:Gv)]) ++ [(⟨0,0,Y0⟩:Gv)]) ++ [(⟨Y0,0,Y0⟩:Gv)]).length + ([(⟨0,Y0,Y0⟩:Gv)]).length≤1073741824:=by clear p;exact (by simp_all<;>omega)
  have ypppppppp0:(((((([(⟨0,0,0⟩:Gv)] ++ [(⟨Y0,0,0⟩:Gv)]) ++ [(⟨0,Y0,0⟩:Gv)]) ++ [(⟨Y0,Y0,0⟩:Gv)]) ++ [(⟨0,0,Y0⟩:Gv)]) ++ [(⟨Y0,0,Y0⟩:Gv)]) ++ [(⟨0,Y0,Y0⟩:Gv)]).length + ([(⟨Y0,Y0,Y0⟩:Gv)]).length≤1073741824:=by clear p;exact (by simp_all<;>omega)
  refine fnS E0Ok Zc (c:=X5 f69) [] (.tup [.agg [.own 0, .own 1], .b true]) [.vec 32 3 (((((((([[.f .f32 0, .f .f32 0, .f .f32 0]]:List (List AV)) ++ ([[.f .f32 Y0, .f .f32 0, .f .f32 0]]:List (List AV))) ++ ([[.f .f32 0, .f .f32 Y0, .f .f32 0]]:List (List AV))) ++ ([[.f .f32 Y0, .f .f32 Y0, .f .f32 0]]:List (List AV))) ++ ([[.f .f32 0, .f .f32 0, .f .f32 Y0]]:List (List AV))) ++ ([[.f .f32 Y0, .f .f32 0, .f .f32 Y0]]:List (List AV))) ++ ([[.f .f32 0, .f .f32 Y0, .f .f32 Y0]]:List (List AV))) ++ ([[.f .f32 Y0, .f .f32 Y0, .f .f32 Y0]]:List (List AV))) false, .nest 60 (([[0,2,3],[0,3,1],[4,5,7],[4,7,6],[0,1,5],[0,5,4],[2,6,7],[2,7,3],[0,4,6],[0,6,2],[1,3,7],[1,7,5]]:List (List Int)).map fun l=>l.map (cI .i64)) false] func69 (p (sB' h0<|sL [] 0 (Xo (st:=⟨.f .f32 Y0 :: .any :: .ptr 0 0 0 :: .b false :: .ptr 1 0 0 :: .i .i64 0 :: .any :: .f .f32 Y0 :: .b (ZF Y0) :: .b (!(ZF Y0)) :: .any :: .agg [.nils, .nils] :: an 41 [],[.box 27 [.nils, .nils], .box 27 [.nils, .nils]]⟩) E0Ok Zc [] (mR false [0,53]) [0,1,2,3,4] (Xo (st:=⟨.f .f32 Y0 :: .any :: .ptr 0 0 0 :: .b false :: .ptr 1 0 0 :: .i .i64 1 :: .ptr 2 0 0 :: .f .f32 Y0 :: .b (ZF Y0) :: .b (!(ZF Y0)) :: .any :: .agg [.nils, .nils] :: .i .i64 0 :: .b (decide (0 < 8)) :: .i .i64 0 :: .i .i64 1 :: .agg [.f .f32 0, .f .f32 0, .f .f32 0] :: .i .i64 0 :: .i .i64 0 :: .b (0 == 1) :: .any :: .any :: .i .i64 0 :: .i .i64 0 :: .b (0 == 2) :: .any :: .any :: .i .i64 0 :: .i .i64 0 :: .b (0 == 4) :: .any :: .any :: .ptr 1 0 0 :: .nils :: .agg [.f .f32 0, .f .f32 0, .f .f32 0] :: .own 3 :: .own 4 :: .ptr 1 0 0 :: an 15 [],[.box 27 [.nils, .nils], .box 27 [.own 4, .nils], .box 32 [.f .f32 0, .f .f32 0, .f .f32 0], .vec 32 3 ([[.f .f32 0, .f .f32 0, .f .f32 0]]:List (List AV)) false, .vec 32 3 ([[.f .f32 0, .f .f32 0, .f .f32 0]]:List (List AV)) false]⟩) E0Ok Zc [] (mR false [0,53]) [0,1,2,3,4,5,6] (Xo (st:=⟨.f .f32 Y0 :: .any :: .ptr 0 0 0 :: .b false :: .ptr 1 0 0 :: .i .i64 2 :: .ptr 5 0 0 :: .f .f32 Y0 :: .b (ZF Y0) :: .b (!(ZF Y0)) :: .any :: .agg [.nils, .nils] :: .i .i64 1 :: .b (decide (1 < 8)) :: .i .i64 1 :: .i .i64 2 :: .agg [.f .f32 0, .f .f32 0, .f .f32 0] :: .i .i64 1 :: .i .i64 1 :: .b (1 == 1) :: .f .f32 Y0 :: .ptr 5 0 0 :: .i .i64 1 :: .i .i64 0 :: .b (0 == 2) :: .any :: .any :: .i .i64 1 :: .i .i64 0 :: .b (0 == 4) :: .any :: .any :: .ptr 1 0 0 :: .any :: .agg [.f .f32 Y0, .f .f32 0, .f .f32 0] :: .own 6 :: .own 4 :: .ptr 1 0 0 :: an 15 [],[.box 27 [.nils, .nils], .box 27 [.own 4, .nils], .box 32 [.f .f32 0, .f .f32 0, .f .f32 0], .vec 32 3 ([[.f .f32 0, .f .f32 0, .f .f32 0]]:List (List AV)) false, .vec 32 3 (([[.f .f32 0, .f .f32 0, .f .f32 0]]:List (List AV)) ++ ([[.f .f32 Y0, .f .f32 0, .f .f32 0]]:List (List AV))) false, .box 32 [.f .f32 Y0, .f .f32 0, .f .f32 0], .vec 32 3 ([[.f .f32 Y0, .f .f32 0, .f .f32 0]]:List (List AV)) false]⟩) E0Ok Zc [] (mR false [0,53]) [0,1,2,3,4,5,6,7,8] (Xo (st:=⟨.f .f32 Y0 :: .any :: .ptr 0 0 0 :: .b false :: .ptr 1 0 0 :: .i .i64 3 :: .ptr 7 0 0 :: .f .f32 Y0 :: .b (ZF Y0) :: .b (!(ZF Y0)) :: .any :: .agg [.nils, .nils] :: .i .i64 2 :: .b (decide (2 < 8)) :: .i .i64 2 :: .i .i64 3 :: .agg [.f .f32 0, .f .f32 0, .f .f32 0] :: .i .i64 2 :: .i .i64 0 :: .b (0 == 1) :: .f .f32 Y0 :: .ptr 5 0 0 :: .i .i64 2 :: .i .i64 2 :: .b (2 == 2) :: .f .f32 Y0 :: .ptr 7 0 1 :: .i .i64 2 :: .i .i64 0 :: .b (0 == 4) :: .any :: .any :: .ptr 1 0 0 :: .any :: .agg [.f .f32 0, .f .f32 Y0, .f .f32 0] :: .own 8 :: .own 4 :: .ptr 1 0 0 :: an 15 [],[.box 27 [.nils, .nils], .box 27 [.own 4, .nils], .box 32 [.f .f32 0, .f .f32 0, .f .f32 0], .vec 32 3 ([[.f .f32 0, .f .f32 0, .f .f32 0]]:List (List AV)) false, .vec 32 3 ((([[.f .f32 0, .f .f32 0, .f .f32 0]]:List (List AV)) ++ ([[.f .f32 Y0, .f .f32 0, .f .f32 0]]:List (List AV))) ++ ([[.f .f32 0, .f .f32 Y0, .f .f32 0]]:List (List AV))) false, .box 32 [.f .f32 Y0, .f .f32 0, .f .f32 0], .vec 32 3 ([[.f .f32 Y0, .f .f32 0, .f .f32 0]]:List (List AV)) false, .box 32 [.f .f32 0, .f .f32 Y0, .f .f32 0], .vec 32 3 ([[.f .f32 0, .f .f32 Y0, .f .f32 0]]:List (List AV)) false]⟩) E0Ok Zc [] (mR false [0,53]) [0,1,2,3,4,5,6,7,8,9,10] (Xo (st:=⟨.f .f32 Y0 :: .any :: .ptr 0 0 0 :: .b false :: .ptr 1 0 0 :: .i .i64 4 :: .ptr 9 0 0 :: .f .f32 Y0 :: .b (ZF Y0) :: .b (!(ZF Y0)) :: .any :: .agg [.nils, .nils] :: .i .i64 3 :: .b (decide (3 < 8)) :: .i .i64 3 :: .i .i64 4 :: .agg [.f .f32 0, .f .f32 0, .f .f32 0] :: .i .i64 3 :: .i .i64 1 :: .b (1 == 1) :: .f .f32 Y0 :: .ptr 9 0 0 :: .i .i64 3 :: .i .i64 2 :: .b (2 == 2) :: .f .f32 Y0 :: .ptr 9 0 1 :: .i .i64 3 :: .i .i64 0 :: .b (0 == 4) :: .any :: .any :: .ptr 1 0 0 :: .any :: .agg [.f .f32 Y0, .f .f32 Y0, .f .f32 0] :: .own 10 :: .own 4 :: .ptr 1 0 0 :: an 15 [],[.box 27 [.nils, .nils], .box 27 [.own 4, .nils], .box 32 [.f .f32 0, .f .f32 0, .f .f32 0], .vec 32 3 ([[.f .f32 0, .f .f32 0, .f .f32 0]]:List (List AV)) false, .vec 32 3 (((([[.f .f32 0, .f .f32 0, .f .f32 0]]:List (List AV)) ++ ([[.f .f32 Y0, .f .f32 0, .f .f32 0]]:List (List AV))) ++ ([[.f .f32 0, .f .f32 Y0, .f .f32 0]]:List (List AV))) ++ ([[.f .f32 Y0, .f .f32 Y0, .f .f32 0]]:List (List AV))) false, .box 32 [.f .f32 Y0, .f .f32 0, .f .f32 0], .vec 32 3 ([[.f .f32 Y0, .f .f32 0, .f .f32 0]]:List (List AV)) false, .box 32 [.f .f32 0, .f .f32 Y0, .f .f32 0], .vec 32 3 ([[.f .f32 0, .f .f32 Y0, .f .f32 0]]:List (List AV)) false, .box 32 [.f .f32 Y0, .f .f32 Y0, .f .f32 0], .vec 32 3 ([[.f .f32 Y0, .f .f32 Y0, .f .f32 0]]:List (List AV)) false]⟩) E0Ok Zc [] (mR false [0,53]) [0,1,2,3,4,5,6,7,8,9,10,11,12] (Xo (st:=⟨.f .f32 Y0 :: .any :: .ptr 0 0 0 :: .b false :: .ptr 1 0 0 :: .i .i64 5 :: .ptr 11 0 0 :: .f .f32 Y0 :: .b (ZF Y0) :: .b (!(ZF Y0)) :: .any :: .agg [.nils, .nils] :: .i .i64 4 :: .b (decide (4 < 8)) :: .i .i64 4 :: .i .i64 5 :: .agg [.f .f32 0, .f .f32 0, .f .f32 0] :: .i .i64 4 :: .i .i64 0 :: .b (0 == 1) :: .f .f32 Y0 :: .ptr 9 0 0 :: .i .i64 4 :: .i .i64 0 :: .b (0 == 2) :: .f .f32 Y0 :: .ptr 9 0 1 :: .i .i64 4 :: .i .i64 4 :: .b (4 == 4) :: .f .f32 Y0 :: .ptr 11 0 2 :: .ptr 1 0 0 :: .any :: .agg [.f .f32 0, .f .f32 0, .f .f32 Y0] :: .own 12 :: .own 4 :: .ptr 1 0 0 :: an 15 [],[.box 27 [.nils, .nils], .box 27 [.own 4, .nils], .box 32 [.f .f32 0, .f .f32 0, .f .f32 0], .vec 32 3 ([[.f .f32 0, .f .f32 0, .f .f32 0]]:List (List AV)) false, .vec 32 3 ((((([[.f .f32 0, .f .f32 0, .f .f32 0]]:List (List AV)) ++ ([[.f .f32 Y0, .f .f32 0, .f .f32 0]]:List (List AV))) ++ ([[.f .f32 0, .f .f32 Y0, .f .f32 0]]:List (List AV))) ++ ([[.f .f32 Y0, .f .f32 Y0, .f .f32 0]]:List (List AV))) ++ ([[.f .f32 0, .f .f32 0, .f .f32 Y0]]:List (List AV))) false, .box 32 [.f .f32 Y0, .f .f32 0, .f .f32 0], .vec 32 3 ([[.f .f32 Y0, .f .f32 0, .f .f32 0]]:List (List AV)) false, .box 32 [.f .f32 0, .f .f32 Y0, .f .f32 0], .vec 32 3 ([[.f .f32 0, .f .f32 Y0, .f .f32 0]]:List (List AV)) false, .box 32 [.f .f32 Y0, .f .f32 Y0, .f .f32 0], .vec 32 3 ([[.f .f32 Y0, .f .f32 Y0, .f .f32 0]]:List (List AV)) false, .box 32 [.f .f32 0, .f .f32 0, .f .f32 Y0], .vec 32 3 ([[.f .f32 0, .f .f32 0, .f .f32 Y0]]:List (List AV)) false]⟩) E0Ok Zc [] (mR false [0,53]) [0,1,2,3,4,5,6,7,8,9,10,11,12,13,14] (Xo (st:=⟨.f .f32 Y0 :: .any :: .ptr 0 0 0 :: .b false :: .ptr 1 0 0 :: .i .i64 6 :: .ptr 13 0 0 :: .f .f32 Y0 :: .b (ZF Y0) :: .b (!(ZF Y0)) :: .any :: .agg [.nils, .nils] :: .i .i64 5 :: .b (decide (5 < 8)) :: .i .i64 5 :: .i .i64 6 :: .agg [.f .f32 0, .f .f32 0, .f .f32 0] :: .i .i64 5 :: .i .i64 1 :: .b (1 == 1) :: .f .f32 Y0 :: .ptr 13 0 0 :: .i .i64 5 :: .i .i64 0 :: .b (0 == 2) :: .f .f32 Y0 :: .ptr 9 0 1 :: .i .i64 5 :: .i .i64 4 :: .b (4 == 4) :: .f .f32 Y0 :: .ptr 13 0 2 :: .ptr 1 0 0 :: .any :: .agg [.f .f32 Y0, .f .f32 0, .f .f32 Y0] :: .own 14 :: .own 4 :: .ptr 1 0 0 :: an 15 [],[.box 27 [.nils, .nils], .box 27 [.own 4, .nils], .box 32 [.f .f32 0, .f .f32 0, .f .f32 0], .vec 32 3 ([[.f .f32 0, .f .f32 0, .f .f32 0]]:List (List AV)) false, .vec 32 3 (((((([[.f .f32 0, .f .f32 0, .f .f32 0]]:List (List AV)) ++ ([[.f .f32 Y0, .f .f32 0, .f .f32 0]]:List (List AV))) ++ ([[.f .f32 0, .f .f32 Y0, .f .f32 0]]:List (List AV))) ++ ([[.f .f32 Y0, .f .f32 Y0, .f .f32 0]]:List (List AV))) ++ ([[.f .f32 0, .f .f32 0, .f .f32 Y0]]:List (List AV))) ++ ([[.f .f32 Y0, .f .f32 0, .f .f32 Y0]]:List (List AV))) false, .box 32 [.f .f32 Y0, .f .f32 0, .f .f32 0], .vec 32 3 ([[.f .f32 Y0, .f .f32 0, .f .f32 0]]:List (List AV)) false, .box 32 [.f .f32 0, .f .f32 Y0, .f .f32 0], .vec 32 3 ([[.f .f32 0, .f .f32 Y0, .f .f32 0]]:List (List AV)) false, .box 32 [.f .f32 Y0, .f .f32 Y0, .f .f32 0], .vec 32 3 ([[.f .f32 Y0, .f .f32 Y0, .f .f32 0]]:List (List AV)) false, .box 32 [.f .f32 0, .f .f32 0, .f .f32 Y0], .vec 32 3 ([[.f .f32 0, .f .f32 0, .f .f32 Y0]]:List (List AV)) false, .box 32 [.f .f32 Y0, .f .f32 0, .f .f32 Y0], .vec 32 3 ([[.f .f32 Y0, .f .f32 0, .f .f32 Y0]]:List (List AV)) false]⟩) E0Ok Zc [] (mR false [0,53]) [0,1,2,3,4,5,6,7,8,9,10,11,12,13,14,15,16] (Xo (st:=⟨.f .f32 Y0 :: .any :: .ptr 0 0 0 :: .b false :: .ptr 1 0 0 :: .i .i64 7 :: .ptr 15 0 0 :: .f .f32 Y0 :: .b (ZF Y0) :: .b (!(ZF Y0)) :: .any :: .agg [.nils, .nils] :: .i .i64 6 :: .b (decide (6 < 8)) :: .i .i64 6 :: .i .i64 7 :: .agg [.f .f32 0, .f .f32 0, .f .f32 0] :: .i .i64 6 :: .i .i64 0 :: .b (0 == 1) :: .f .f32 Y0 :: .ptr 13 0 0 :: .i .i64 6 :: .i .i64 2 :: .b (2 == 2) :: .f .f32 Y0 :: .ptr 15 0 1 :: .i .i64 6 :: .i .i64 4 :: .b (4 == 4) :: .f .f32 Y0 :: .ptr 15 0 2 :: .ptr 1 0 0 :: .any :: .agg [.f .f32 0, .f .f32 Y0, .f .f32 Y0] :: .own 16 :: .own 4 :: .ptr 1 0 0 :: an 15 [],[.box 27 [.nils, .nils], .box 27 [.own 4, .nils], .box 32 [.f .f32 0, .f .f32 0, .f .f32 0], .vec 32 3 ([[.f .f32 0, .f .f32 0, .f .f32 0]]:List (List AV)) false, .vec 32 3 ((((((([[.f .f32 0, .f .f32 0, .f .f32 0]]:List (List AV)) ++ ([[.f .f32 Y0, .f .f32 0, .f .f32 0]]:List (List AV))) ++ ([[.f .f32 0, .f .f32 Y0, .f .f32 0]]:List (List AV))) ++ ([[.f .f32 Y0, .f .f32 Y0, .f .f32 0]]:List (List AV))) ++ ([[.f .f32 0, .f .f32 0, .f .f32 Y0]]:List (List AV))) ++ ([[.f .f32 Y0, .f .f32 0, .f .f32 Y0]]:List (List AV))) ++ ([[.f .f32 0, .f .f32 Y0, .f .f32 Y0]]:List (List AV))) false, .box 32 [.f .f32 Y0, .f .f32 0, .f .f32 0], .vec 32 3 ([[.f .f32 Y0, .f .f32 0, .f .f32 0]]:List (List AV)) false, .box 32 [.f .f32 0, .f .f32 Y0, .f .f32 0], .vec 32 3 ([[.f .f32 0, .f .f32 Y0, .f .f32 0]]:List (List AV)) false, .box 32 [.f .f32 Y0, .f .f32 Y0, .f .f32 0], .vec 32 3 ([[.f .f32 Y0, .f .f32 Y0, .f .f32 0]]:List (List AV)) false, .box 32 [.f .f32 0, .f .f32 0, .f .f32 Y0], .vec 32 3 ([[.f .f32 0, .f .f32 0, .f .f32 Y0]]:List (List AV)) false, .box 32 [.f .f32 Y0, .f .f32 0, .f .f32 Y0], .vec 32 3 ([[.f .f32 Y0, .f .f32 0, .f .f32 Y0]]:List (List AV)) false, .box 32 [.f .f32 0, .f .f32 Y0, .f .f32 Y0], .vec 32 3 ([[.f .f32 0, .f .f32 Y0, .f .f32 Y0]]:List (List AV)) false]⟩) E0Ok Zc [] (mR false [0,1,1,4,1,3,1,1,41]) [0,1,4] (Xl (Z38 Y0) (x:=(Z4Y Y0)) (Z5n Y0 (0 + 1) (Nat.lt_succ_self _)) rfl) (sB (show (decide (7 < 8))=true from rfl)<|sM (show (bitsOf .and .i64 7 1)=1 from (by decide))<|sB (show (1 == 1)=true from rfl)<|sM (show (bitsOf .and .i64 7 2)=2 from (by decide))<|sB (show (2 == 2)=true from rfl)<|sM (show (bitsOf .and .i64 7 4)=4 from (by decide))<|sB (show (4 == 4)=true from rfl)<|sC (show ((((((([[.f .f32 0, .f .f32 0, .f .f32 0]]:List (List AV)) ++ ([[.f .f32 Y0, .f .f32 0, .f .f32 0]]:List (List AV))) ++ ([[.f .f32 0, .f .f32 Y0, .f .f32 0]]:List (List AV))) ++ ([[.f .f32 Y0, .f .f32 Y0, .f .f32 0]]:List (List AV))) ++ ([[.f .f32 0, .f .f32 0, .f .f32 Y0]]:List (List AV))) ++ ([[.f .f32 Y0, .f .f32 0, .f .f32 Y0]]:List (List AV))) ++ ([[.f .f32 0, .f .f32 Y0, .f .f32 Y0]]:List (List AV))).length + ([[.f .f32 Y0, .f .f32 Y0, .f .f32 Y0]]:List (List AV)).length≤1073741824 from (by simp))<|sM (show IntKind.wrap .i64 (7 + 1)=8 from rfl)<|sN) (by kernel_rfl)) (sB (show (decide (6 < 8))=true from rfl)<|sM (show (bitsOf .and .i64 6 1)=0 from (by decide))<|sB (show (0 == 1)=false from rfl)<|sM (show (bitsOf .and .i64 6 2)=2 from (by decide))<|sB (show (2 == 2)=true from rfl)<|sM (show (bitsOf .and .i64 6 4)=4 from (by decide))<|sB (show (4 == 4)=true from rfl)<|sC (show (((((([[.f .f32 0, .f .f32 0, .f .f32 0]]:List (List AV)) ++ ([[.f .f32 Y0, .f .f32 0, .f .f32 0]]:List (List AV))) ++ ([[.f .f32 0, .f .f32 Y0, .f .f32 0]]:List (List AV))) ++ ([[.f .f32 Y0, .f .f32 Y0, .f .f32 0]]:List (List AV))) ++ ([[.f .f32 0, .f .f32 0, .f .f32 Y0]]:List (List AV))) ++ ([[.f .f32 Y0, .f .f32 0, .f .f32 Y0]]:List (List AV))).length + ([[.f .f32 0, .f .f32 Y0, .f .f32 Y0]]:List (List AV)).length≤1073741824 from (by simp))<|sM (show IntKind.wrap .i64 (6 + 1)=7 from rfl)<|sN) (by kernel_rfl)) (sB (show (decide (5 < 8))=true from rfl)<|sM (show (bitsOf .and .i64 5 1)=1 from (by decide))<|sB (show (1 == 1)=true from rfl)<|sM (show (bitsOf .and .i64 5 2)=0 from (by decide))<|sB (show (0 == 2)=false from rfl)<|sM (show (bitsOf .and .i64 5 4)=4 from (by decide))<|sB (show (4 == 4)=true from rfl)<|sC (show ((((([[.f .f32 0, .f .f32 0, .f .f32 0]]:List (List AV)) ++ ([[.f .f32 Y0, .f .f32 0, .f .f32 0]]:List (List AV))) ++ ([[.f .f32 0, .f .f32 Y0, .f .f32 0]]:List (List AV))) ++ ([[.f .f32 Y0, .f .f32 Y0, .f .f32 0]]:List (List AV))) ++ ([[.f .f32 0, .f .f32 0, .f .f32 Y0]]:List (List AV))).length + ([[.f .f32 Y0, .f .f32 0, .f .f32 Y0]]:List (List AV)).length≤1073741824 from (by simp))<|sM (show IntKind.wrap .i64 (5 + 1)=6 from rfl)<|sN) (by kernel_rfl)) (sB (show (decide (4 < 8))=true from rfl)<|sM (show (bitsOf .and .i64 4 1)=0 from (by decide))<|sB (show (0 == 1)=false from rfl)<|sM (show (bitsOf .and .i64 4 2)=0 from (by decide))<|sB (show (0 == 2)=false from rfl)<|sM (show (bitsOf .and .i64 4 4)=4 from (by decide))<|sB (show (4 == 4)=true from rfl)<|sC (show (((([[.f .f32 0, .f .f32 0, .f .f32 0]]:List (List AV)) ++ ([[.f .f32 Y0, .f .f32 0, .f .f32 0]]:List (List AV))) ++ ([[.f .f32 0, .f .f32 Y0, .f .f32 0]]:List (List AV))) ++ ([[.f .f32 Y0, .f .f32 Y0, .f .f32 0]]:List (List AV))).length + ([[.f .f32 0, .f .f32 0, .f .f32 Y0]]:List (List AV)).length≤1073741824 from (by simp))<|sM (show IntKind.wrap .i64 (4 + 1)=5 from rfl)<|sN) (by kernel_rfl)) (sB (show (decide (3 < 8))=true from rfl)<|sM (show (bitsOf .and .i64 3 1)=1 from (by decide))<|sB (show (1 == 1)=true from rfl)<|sM (show (bitsOf .and .i64 3 2)=2 from (by decide))<|sB (show (2 == 2)=true from rfl)<|sM (show (bitsOf .and .i64 3 4)=0 from (by decide))<|sB (show (0 == 4)=false from rfl)<|sC (show ((([[.f .f32 0, .f .f32 0, .f .f32 0]]:List (List AV)) ++ ([[.f .f32 Y0, .f .f32 0, .f .f32 0]]:List (List AV))) ++ ([[.f .f32 0, .f .f32 Y0, .f .f32 0]]:List (List AV))).length + ([[.f .f32 Y0, .f .f32 Y0, .f .f32 0]]:List (List AV)).length≤1073741824 from (by simp))<|sM (show IntKind.wrap .i64 (3 + 1)=4 from rfl)<|sN) (by kernel_rfl)) (sB (show (decide (2 < 8))=true from rfl)<|sM (show (bitsOf .and .i64 2 1)=0 from (by decide))<|sB (show (0 == 1)=false from rfl)<|sM (show (bitsOf .and .i64 2 2)=2 from (by decide))<|sB (show (2 == 2)=true from rfl)<|sM (show (bitsOf .and .i64 2 4)=0 from (by decide))<|sB (show (0 == 4)=false from rfl)<|sC (show (([[.f .f32 0, .f .f32 0, .f .f32 0]]:List (List AV)) ++ ([[.f .f32 Y0, .f .f32 0, .f .f32 0]]:List (List AV))).length + ([[.f .f32 0, .f .f32 Y0, .f .f32 0]]:List (List AV)).length≤1073741824 from (by simp))<|sM (show IntKind.wrap .i64 (2 + 1)=3 from rfl)<|sN) (by kernel_rfl)) (sB (show (decide (1 < 8))=true from rfl)<|sM (show (bitsOf .and .i64 1 1)=1 from (by decide))<|sB (show (1 == 1)=true from rfl)<|sM (show (bitsOf .and .i64 1 2)=0 from (by decide))<|sB (show (0 == 2)=false from rfl)<|sM (show (bitsOf .and .i64 1 4)=0 from (by decide))<|sB (show (0 == 4)=false from rfl)<|sC (show ([[.f .f32 0, .f .f32 0, .f .f32 0]]:List (List AV)).length + ([[.f .f32 Y0, .f .f32 0, .f .f32 0]]:List (List AV)).length≤1073741824 from (by simp))<|sM (show IntKind.wrap .i64 (1 + 1)=2 from rfl)<|sN) (by kernel_rfl)) (sB (show (decide (0 < 8))=true from rfl)<|sM (show (bitsOf .and .i64 0 1)=0 from (by decide))<|sB (show (0 == 1)=false from rfl)<|sM (show (bitsOf .and .i64 0 2)=0 from (by decide))<|sB (show (0 == 2)=false from rfl)<|sM (show (bitsOf .and .i64 0 4)=0 from (by decide))<|sB (show (0 == 4)=false from rfl)<|sC (show ([[.f .f32 0, .f .f32 0, .f .f32 0]]:List (List AV))≠[] from (by simp))<|sC (show ([[.f .f32 0, .f .f32 0, .f .f32 0]]:List (List AV)).length≤1073741824 from (by simp))<|sM (show IntKind.wrap .i64 (0 + 1)=1 from rfl)<|sN) (by kernel_rfl))<|sA (.loop [] 0 .ret ⟨[],[]⟩)<|sK [2,15] sN)) rfl (by kernel_rfl) (by kernel_rfl) rfl ?_ ?_
  · simp only [Z1u,h0,cond_true]
  · simp [Z1u,h0,Gv.c]
 | false =>
  refine fnS E0Ok Zc (c:=X5 f69) [(.row 0 0, .vec 32 3 [] false),(.row 0 1, .nest 60 [] false)] (.tup [.agg [.own 0, .own 1], .b false]) [.vec 32 3 [] false, .nest 60 [] false] func69 (p (sB' h0<|sK [1,2] sN)) rfl (by kernel_rfl) (by kernel_rfl) rfl ?_ ?_
  · simp only [Z1u,h0,cond_false]
  · simp [Z1u,h0,Gv.c,cL,cI]
def Z1g (Yq:Int) (Yr:Int):Int:=(cond (decide (Yq < Yr))
  Yq
  Yr)
theorem Z4U (Yq:Int) (Yr:Int)   : Fn prog 100 [.i .i64 Yq, .i .i64 Yr] (.i .i64 (Z1g Yq Yr)) []:=by
 cases h0:(decide (Yq < Yr)) with
 | true =>
  have gh0:=odt h0
  refine fnS E0Ok Zc (c:=X5 f100) [] (.i .i64 Yq) [] func100 (sB h0<|sK [] sN) rfl (by kernel_rfl) (by kernel_rfl) rfl ?_ ?_
  · simp only [Z1g,h0,cond_true]
  · rfl
 | false =>
  have gh0:=odf h0
  refine fnS E0Ok Zc (c:=X5 f100) [] (.i .i64 Yr) [] func100 (sB h0<|sK [] sN) rfl (by kernel_rfl) (by kernel_rfl) rfl ?_ ?_
  · simp only [Z1g,h0,cond_false]
  · rfl
theorem Z4q {a b n:Int} (h1:0≤a∧a < n) (h2:0≤b∧b < n):0≤Z1g a b∧Z1g a b < n:=by
  unfold Z1g;cases decide (a < b)<;>simp only [cond_true,cond_false]<;>omega
def Z1h (Yq:Int) (Yr:Int):Int:=(cond (decide (Yq > Yr))
  Yq
  Yr)
theorem Z4V (Yq:Int) (Yr:Int)   : Fn prog 101 [.i .i64 Yq, .i .i64 Yr] (.i .i64 (Z1h Yq Yr)) []:=by
 cases h0:(decide (Yq > Yr)) with
 | true =>
  have gh0:=odt h0
  refine fnS E0Ok Zc (c:=X5 f101) [] (.i .i64 Yq) [] func101 (sB h0<|sK [] sN) rfl (by kernel_rfl) (by kernel_rfl) rfl ?_ ?_
  · simp only [Z1h,h0,cond_true]
  · rfl
 | false =>
  have gh0:=odf h0
  refine fnS E0Ok Zc (c:=X5 f101) [] (.i .i64 Yr) [] func101 (sB h0<|sK [] sN) rfl (by kernel_rfl) (by kernel_rfl) rfl ?_ ?_
  · simp only [Z1h,h0,cond_false]
  · rfl
theorem Z4r {a b n:Int} (h1:0≤a∧a < n) (h2:0≤b∧b < n):0≤Z1h a b∧Z1h a b < n:=by
  unfold Z1h;cases decide (a > b)<;>simp only [cond_true,cond_false]<;>omega
theorem Z4G (a b:Int):(⟨Z1g a b,Z1h a b⟩:Gedge)=mkE a b:=by
  unfold Z1g Z1h mkE
  by_cases h:a < b
  · rw [decide_eq_true h,decide_eq_false (by omega),if_pos (by omega)];rfl
  · rw [decide_eq_false h]
    by_cases h2:a > b
    · rw [decide_eq_true h2,if_neg (by omega)];rfl
    · rw [decide_eq_false h2,show a=b from by omega,if_pos (by omega)];rfl
def ZN (Y7:Gm) (Y9:Int) (Yo:Int):Int:=(Z1g ((Y7.Tr.getD Y9.toNat default).getD Yo.toNat default) ((Y7.Tr.getD Y9.toNat default).getD (Int.tmod (Yo + 1) 3).toNat default))
def ZQ (Y7:Gm) (Y9:Int) (Yo:Int):Int:=(Z1h ((Y7.Tr.getD Y9.toNat default).getD Yo.toNat default) ((Y7.Tr.getD Y9.toNat default).getD (Int.tmod (Yo + 1) 3).toNat default))
def ZD (Y7:Gm) (Y9:Int) (Yh:(List Bool)):Nat→Int→(List Bool)→(List Bool)
  | 0,_,_=>default
  | k + 1,Yo,Yl=>(cond (decide (Yo < 3))
    (ZD Y7 Y9 Yh k (Yo + 1) (Yl.set ((IntKind.wrap .i64 ((IntKind.wrap .i64 ((ZN Y7 Y9 Yo) * (Y7.Pq.length:Int))) + (ZQ Y7 Y9 Yo))).toNat) true))
    Yl)
def Z2V (Y7:Gm) (Y9:Int) (Yh:(List Bool)) (r:(List Bool)):Ex × St:=((.exit 2),⟨.ref (Gm.c Y7) 0 :: .any :: .nils :: .i .i64 (Y7.Pq.length:Int) :: .own 0 :: .i .i64 Y9 :: .sl ((Y7.Tr.getD Y9.toNat default).map (cI .i64)) :: an 6 (.ref (Gm.c Y7) 0 :: .ref (Gm.c Y7) 0 :: .ref (Gm.c Y7) 0 :: .sl (Y7.Pq.map Gv.c) :: .i .i64 (Y7.Pq.length:Int) :: .i .i64 (Y7.Pq.length:Int) :: .i .i64 (Y7.Pq.length:Int) :: .i .i64 (IntKind.wrap .i64 ((Y7.Pq.length:Int) * (Y7.Pq.length:Int))) :: .own 0 :: .i .i64 Y9 :: .ref (Gm.c Y7) 0 :: .ref (Gm.c Y7) 0 :: .ref (Gm.c Y7) 1 :: .sl (Y7.Tr.map (cL (cI .i64))) :: .i .i64 (Y7.Tr.length:Int) :: .b (decide (Y9 < (Y7.Tr.length:Int))) :: .any :: .any :: .ref (Gm.c Y7) 0 :: .ref (Gm.c Y7) 0 :: .ref (Gm.c Y7) 1 :: .sl (Y7.Tr.map (cL (cI .i64))) :: .i .i64 Y9 :: .ref [.sl ((Y7.Tr.getD Y9.toNat default).map (cI .i64))] 0 :: .sl ((Y7.Tr.getD Y9.toNat default).map (cI .i64)) :: an 53 []),[.vec 4 1 (r.map cB) false]⟩)
def Z41 (Y7:Gm) (Y9:Int) (Yh:(List Bool)) (Yo:Int) (Yl:(List Bool)):St:=⟨.ref (Gm.c Y7) 0 :: .any :: .nils :: .i .i64 (Y7.Pq.length:Int) :: .own 0 :: .i .i64 Y9 :: .sl ((Y7.Tr.getD Y9.toNat default).map (cI .i64)) :: .i .i64 Yo :: an 5 (.ref (Gm.c Y7) 0 :: .ref (Gm.c Y7) 0 :: .ref (Gm.c Y7) 0 :: .sl (Y7.Pq.map Gv.c) :: .i .i64 (Y7.Pq.length:Int) :: .i .i64 (Y7.Pq.length:Int) :: .i .i64 (Y7.Pq.length:Int) :: .i .i64 (IntKind.wrap .i64 ((Y7.Pq.length:Int) * (Y7.Pq.length:Int))) :: .own 0 :: .i .i64 Y9 :: .ref (Gm.c Y7) 0 :: .ref (Gm.c Y7) 0 :: .ref (Gm.c Y7) 1 :: .sl (Y7.Tr.map (cL (cI .i64))) :: .i .i64 (Y7.Tr.length:Int) :: .b (decide (Y9 < (Y7.Tr.length:Int))) :: .any :: .any :: .ref (Gm.c Y7) 0 :: .ref (Gm.c Y7) 0 :: .ref (Gm.c Y7) 1 :: .sl (Y7.Tr.map (cL (cI .i64))) :: .i .i64 Y9 :: .ref [.sl ((Y7.Tr.getD Y9.toNat default).map (cI .i64))] 0 :: .sl ((Y7.Tr.getD Y9.toNat default).map (cI .i64)) :: an 53 []),[.vec 4 1 (Yl.map cB) false]⟩
def Z3v:List Bool:=(mR false [0,1,1,6,5,16,2,7,53])
def Z4H:List Bool:=(mR false [0,1,1,5,6,16,2,7,53])
set_option maxHeartbeats 1000000 in
theorem Z5a (Y7:Gm) (Y9:Int) (Yh:(List Bool)) (hp0:Y7.Pq.length≤1073741824) (hp1:Y7.Tr.length≤1073741824) (hp2:∀ t∈Y7.Tr,t.length≤1073741824) (hp3:OkE Y7.Pq.length Y7.Tr) (Z1a:0≤Y9) (Z25:Yh.length=(IntKind.wrap .i64 ((Y7.Pq.length:Int) * (Y7.Pq.length:Int))).toNat) (Z6R:(decide (Y9 < (Y7.Tr.length:Int)))=true):∀ (k:Nat) (Yo:Int) (Yl:(List Bool)) (Z1x:0≤Yo) (Z3w:Yl.length=Yh.length) (hk:((3:Int) - Yo).toNat < k),Lp prog 0 (sub (X5 f59) [1,1,1,0,1,0,0,1,0,0,1,1,0,0]) (Z41 Y7 Y9 Yh Yo Yl) (Z2V Y7 Y9 Yh (ZD Y7 Y9 Yh k Yo Yl)).1 (Z2V Y7 Y9 Yh (ZD Y7 Y9 Yh k Yo Yl)).2:=by
 intro k
 induction k with
 | zero=>intro Yo Yl Z1x Z3w hk;exact absurd hk (Nat.not_lt_zero _)
 | succ k ih =>
  intro Yo Yl Z1x Z3w hk
  cases YN:(decide (Yo < 3)) with
  | true =>
   have Y17:=odt YN
   have Y1d:(0:Int)≤Yo:=(by assumption)
   have Y1e:Yo < ((Y7.Tr.getD Y9.toNat default).length:Int):=(by ((have q:=OkE.at (by assumption) Z1a (odt (by assumption)) Z1x (odt (by assumption));omega)))
   have Y1c:(-9223372036854775808:Int)≤(Yo + 1):=(by omega)
   have Y18:(Yo + 1)≤(9223372036854775807:Int):=(by omega)
   have Y1f:(0:Int)≤(Int.tmod (Yo + 1) 3):=(by ((have q:=OkE.at (by assumption) Z1a (odt (by assumption)) Z1x (odt (by assumption));omega)))
   have Y1h:(Int.tmod (Yo + 1) 3) < ((Y7.Tr.getD Y9.toNat default).length:Int):=(by ((have q:=OkE.at (by assumption) Z1a (odt (by assumption)) Z1x (odt (by assumption));omega)))
   have y__6:(0:Int)≤(IntKind.wrap .i64 ((IntKind.wrap .i64 ((ZN Y7 Y9 Yo) * (Y7.Pq.length:Int))) + (ZQ Y7 Y9 Yo))):=(by ((have q:=OkE.at (by assumption) Z1a (odt (by assumption)) Z1x (odt (by assumption));have q2:=ix2F q.2.2.2.2.2.1 (Z4q q.2.2.2.1 q.2.2.2.2.1).1 (Z4q q.2.2.2.1 q.2.2.2.2.1).2 (Z4r q.2.2.2.1 q.2.2.2.2.1).1 (Z4r q.2.2.2.1 q.2.2.2.2.1).2;unfold ZN ZQ;omega)))
   have y__7:(IntKind.wrap .i64 ((IntKind.wrap .i64 ((ZN Y7 Y9 Yo) * (Y7.Pq.length:Int))) + (ZQ Y7 Y9 Yo))) < (Yl.length:Int):=(by ((have q:=OkE.at (by assumption) Z1a (odt (by assumption)) Z1x (odt (by assumption));have q2:=ix2F q.2.2.2.2.2.1 (Z4q q.2.2.2.1 q.2.2.2.2.1).1 (Z4q q.2.2.2.1 q.2.2.2.2.1).2 (Z4r q.2.2.2.1 q.2.2.2.2.1).1 (Z4r q.2.2.2.1 q.2.2.2.2.1).2;unfold ZN ZQ;omega)))
   have y__8:(IntKind.wrap .i64 ((IntKind.wrap .i64 ((ZN Y7 Y9 Yo) * (Y7.Pq.length:Int))) + (ZQ Y7 Y9 Yo))).toNat < Yl.length:=(by omega)
   have e:ZD Y7 Y9 Yh (k + 1) Yo Yl=(ZD Y7 Y9 Yh k (Yo + 1) (Yl.set ((IntKind.wrap .i64 ((IntKind.wrap .i64 ((ZN Y7 Y9 Yo) * (Y7.Pq.length:Int))) + (ZQ Y7 Y9 Yo))).toNat) true)):=by simp only [ZD,YN,cond_true]
   rw [e]
   exact X2D E0Ok Zc [] Z3v [0] (⟨.ref (Gm.c Y7) 0 :: .any :: .nils :: .i .i64 (Y7.Pq.length:Int) :: .own 0 :: .i .i64 Y9 :: .sl ((Y7.Tr.getD Y9.toNat default).map (cI .i64)) :: .i .i64 (Yo + 1) :: an 5 (.ref (Gm.c Y7) 0 :: .ref (Gm.c Y7) 0 :: .ref (Gm.c Y7) 0 :: .sl (Y7.Pq.map Gv.c) :: .i .i64 (Y7.Pq.length:Int) :: .i .i64 (Y7.Pq.length:Int) :: .i .i64 (Y7.Pq.length:Int) :: .i .i64 (IntKind.wrap .i64 ((Y7.Pq.length:Int) * (Y7.Pq.length:Int))) :: .own 0 :: .i .i64 Y9 :: .ref (Gm.c Y7) 0 :: .ref (Gm.c Y7) 0 :: .ref (Gm.c Y7) 1 :: .sl (Y7.Tr.map (cL (cI .i64))) :: .i .i64 (Y7.Tr.length:Int) :: .b (decide (Y9 < (Y7.Tr.length:Int))) :: .any :: .any :: .ref (Gm.c Y7) 0 :: .ref (Gm.c Y7) 0 :: .ref (Gm.c Y7) 1 :: .sl (Y7.Tr.map (cL (cI .i64))) :: .i .i64 Y9 :: .ref [.sl ((Y7.Tr.getD Y9.toNat default).map (cI .i64))] 0 :: .sl ((Y7.Tr.getD Y9.toNat default).map (cI .i64)) :: an 53 []),[.vec 4 1 ((Yl.map cB).set ((IntKind.wrap .i64 ((IntKind.wrap .i64 ((ZN Y7 Y9 Yo) * (Y7.Pq.length:Int))) + (ZQ Y7 Y9 Yo))).toNat) [.b true]) false]⟩) (sB YN<|sG (cI .i64) (Y7.Tr.getD Y9.toNat default) Yo Y1d Y1e<|sI (Yo + 1) Y1c Y18<|sC (show (3:Int)≠0 from (by decide))<|sQ (Int.tmod (Yo + 1) 3)<|sG (cI .i64) (Y7.Tr.getD Y9.toNat default) (Int.tmod (Yo + 1) 3) Y1f Y1h<|sF (Z4U ((Y7.Tr.getD Y9.toNat default).getD Yo.toNat default) ((Y7.Tr.getD Y9.toNat default).getD (Int.tmod (Yo + 1) 3).toNat default))<|sW .i64 ((ZN Y7 Y9 Yo) * (Y7.Pq.length:Int))<|sF (Z4V ((Y7.Tr.getD Y9.toNat default).getD Yo.toNat default) ((Y7.Tr.getD Y9.toNat default).getD (Int.tmod (Yo + 1) 3).toNat default))<|sW .i64 ((IntKind.wrap .i64 ((ZN Y7 Y9 Yo) * (Y7.Pq.length:Int))) + (ZQ Y7 Y9 Yo))<|sX cB Yl (IntKind.wrap .i64 ((IntKind.wrap .i64 ((ZN Y7 Y9 Yo) * (Y7.Pq.length:Int))) + (ZQ Y7 Y9 Yo))) y__6 y__7<|sC (X8x (c:=cB) (l:=Yl) y__8)<|sI (Yo + 1) Y1c Y18<|sN) (by kernel_rfl) (by simp [Z41,cL,cI,cB]) (ih (Yo + 1) (Yl.set ((IntKind.wrap .i64 ((IntKind.wrap .i64 ((ZN Y7 Y9 Yo) * (Y7.Pq.length:Int))) + (ZQ Y7 Y9 Yo))).toNat) true) (show 0≤(Yo + 1) from (by omega)) (show (Yl.set ((IntKind.wrap .i64 ((IntKind.wrap .i64 ((ZN Y7 Y9 Yo) * (Y7.Pq.length:Int))) + (ZQ Y7 Y9 Yo))).toNat) true).length=Yh.length from (by simp_all<;>omega)) (by omega))
  | false =>
   have Y17:=odf YN
   have e:ZD Y7 Y9 Yh (k + 1) Yo Yl=Yl:=by simp only [ZD,YN,cond_false]
   rw [e]
   exact outR (e:=(.exit 2)) E0Ok Zc [] Z4H [0] (sB YN<|sN) (by kernel_rfl) (by intro h;cases h)
theorem Z4I (Y7:Gm) (Y9:Int) (Yh:(List Bool)):∀ (k:Nat) (Yo:Int) (Yl:(List Bool)) (hk:((3:Int) - Yo).toNat < k),(ZD Y7 Y9 Yh k Yo Yl).length=Yl.length:=by
  intro k
  induction k with
  | zero=>intro Yo Yl hk;exact absurd hk (Nat.not_lt_zero _)
  | succ k ih =>
    intro Yo Yl hk
    cases YN:(decide (Yo < 3)) with
    | true =>
      have e:ZD Y7 Y9 Yh (k + 1) Yo Yl=(ZD Y7 Y9 Yh k (Yo + 1) (Yl.set ((IntKind.wrap .i64 ((IntKind.wrap .i64 ((ZN Y7 Y9 Yo) * (Y7.Pq.length:Int))) + (ZQ Y7 Y9 Yo))).toNat) true)):=by simp only [ZD,YN,cond_true]
      rw [e,ih (Yo + 1) (Yl.set ((IntKind.wrap .i64 ((IntKind.wrap .i64 ((ZN Y7 Y9 Yo) * (Y7.Pq.length:Int))) + (ZQ Y7 Y9 Yo))).toNat) true) (by simp_all<;>omega)]<;>simp
    | false =>
      have e:ZD Y7 Y9 Yh (k + 1) Yo Yl=Yl:=by simp only [ZD,YN,cond_false]
      first | (rw [e];done) | (rw [e];rfl)
def ZZ (Y7:Gm) (Y9:Int) (Yh:(List Bool)):(List Bool):=(ZD Y7 Y9 Yh (((3:Int) - 0).toNat + 1) 0 Yh)
@[simp] theorem Z4b (Y7:Gm) (Y9:Int) (Yh:(List Bool)):(ZZ Y7 Y9 Yh).length=(Yh:(List Bool)).length:=Z4I Y7 Y9 Yh (((3:Int) - 0).toNat + 1) 0 Yh (by exact Nat.lt_succ_self _)
def ZI (Y7:Gm):Nat→Int→(List Bool)→(List Bool)
  | 0,_,_=>default
  | k + 1,Y9,Yh=>(cond (decide (Y9 < (Y7.Tr.length:Int)))
    (ZI Y7 k (Y9 + 1) (ZZ Y7 Y9 Yh))
    Yh)
def Z2W (Y7:Gm) (r:(List Bool)):Ex × St:=((.exit 0),⟨.ref (Gm.c Y7) 0 :: .any :: .nils :: .i .i64 (Y7.Pq.length:Int) :: .own 0 :: an 8 (.ref (Gm.c Y7) 0 :: .ref (Gm.c Y7) 0 :: .ref (Gm.c Y7) 0 :: .sl (Y7.Pq.map Gv.c) :: .i .i64 (Y7.Pq.length:Int) :: .i .i64 (Y7.Pq.length:Int) :: .i .i64 (Y7.Pq.length:Int) :: .i .i64 (IntKind.wrap .i64 ((Y7.Pq.length:Int) * (Y7.Pq.length:Int))) :: .own 0 :: an 69 []),[.vec 4 1 (r.map cB) false]⟩)
def Z42 (Y7:Gm) (Y9:Int) (Yh:(List Bool)):St:=⟨.ref (Gm.c Y7) 0 :: .any :: .nils :: .i .i64 (Y7.Pq.length:Int) :: .own 0 :: .i .i64 Y9 :: an 7 (.ref (Gm.c Y7) 0 :: .ref (Gm.c Y7) 0 :: .ref (Gm.c Y7) 0 :: .sl (Y7.Pq.map Gv.c) :: .i .i64 (Y7.Pq.length:Int) :: .i .i64 (Y7.Pq.length:Int) :: .i .i64 (Y7.Pq.length:Int) :: .i .i64 (IntKind.wrap .i64 ((Y7.Pq.length:Int) * (Y7.Pq.length:Int))) :: .own 0 :: an 69 []),[.vec 4 1 (Yh.map cB) false]⟩
theorem Z5b (Y7:Gm) (hp0:Y7.Pq.length≤1073741824) (hp1:Y7.Tr.length≤1073741824) (hp2:∀ t∈Y7.Tr,t.length≤1073741824) (hp3:OkE Y7.Pq.length Y7.Tr):∀ (k:Nat) (Y9:Int) (Yh:(List Bool)) (Z1a:0≤Y9) (Z25:Yh.length=(IntKind.wrap .i64 ((Y7.Pq.length:Int) * (Y7.Pq.length:Int))).toNat) (hk:((Y7.Tr.length:Int) - Y9).toNat < k),Lp prog 0 (sub (X5 f59) [1,1,1,0,1,0,0]) (Z42 Y7 Y9 Yh) (Z2W Y7 (ZI Y7 k Y9 Yh)).1 (Z2W Y7 (ZI Y7 k Y9 Yh)).2:=by
 intro k
 induction k with
 | zero=>intro Y9 Yh Z1a Z25 hk;exact absurd hk (Nat.not_lt_zero _)
 | succ k ih =>
  intro Y9 Yh Z1a Z25 hk
  have p {a C} (s:Scr a C):=sZ (cL (cI .i64)) Y7.Tr<|s
  cases Yk:(decide (Y9 < (Y7.Tr.length:Int))) with
  | true =>
   have YL:=odt Yk
   have Yy:(0:Int)≤Y9:=by clear p;exact (by assumption)
   have YV:Y9 < (Y7.Tr.length:Int):=by clear p;exact (by assumption)
   have YZ:(-9223372036854775808:Int)≤(Y9 + 1):=by clear p;exact (by omega)
   have y_3:(Y9 + 1)≤(9223372036854775807:Int):=by clear p;exact (by omega)
   have e:ZI Y7 (k + 1) Y9 Yh=(ZI Y7 k (Y9 + 1) (ZZ Y7 Y9 Yh)):=by simp only [ZI,Yk,cond_true]
   rw [e]
   exact Xo E0Ok Zc [] (mR false [0,1,1,4,7,9,69]) [0] (ih (Y9 + 1) (ZZ Y7 Y9 Yh) (show 0≤(Y9 + 1) from (by omega)) (show (ZZ Y7 Y9 Yh).length=(IntKind.wrap .i64 ((Y7.Pq.length:Int) * (Y7.Pq.length:Int))).toNat from (by simp_all<;>omega)) (by omega)) (p (sB Yk<|sG (cL (cI .i64)) Y7.Tr Y9 Yy YV<|sL Z3v 1 (Xl (Z2V Y7 Y9 Yh) (x:=(ZZ Y7 Y9 Yh)) (Z5a Y7 Y9 Yh hp0 hp1 hp2 hp3 Z1a Z25 Yk (((3:Int) - 0).toNat + 1) 0 Yh (show 0≤0 from (by omega)) (show Yh.length=Yh.length from (by omega)) (Nat.lt_succ_self _)) rfl)<|sI (Y9 + 1) YZ y_3<|sN)) (by kernel_rfl)
  | false =>
   have YL:=odf Yk
   have e:ZI Y7 (k + 1) Y9 Yh=Yh:=by simp only [ZI,Yk,cond_false]
   rw [e]
   exact outR (e:=(.exit 0)) E0Ok Zc [] (mR false [0,1,1,3,8,9,69]) [0] (p (sB Yk<|sN)) (by kernel_rfl) (by intro h;cases h)
theorem Z4J (Y7:Gm):∀ (k:Nat) (Y9:Int) (Yh:(List Bool)) (hk:((Y7.Tr.length:Int) - Y9).toNat < k),(ZI Y7 k Y9 Yh).length=Yh.length:=by
  intro k
  induction k with
  | zero=>intro Y9 Yh hk;exact absurd hk (Nat.not_lt_zero _)
  | succ k ih =>
    intro Y9 Yh hk
    cases Yk:(decide (Y9 < (Y7.Tr.length:Int))) with
    | true =>
      have e:ZI Y7 (k + 1) Y9 Yh=(ZI Y7 k (Y9 + 1) (ZZ Y7 Y9 Yh)):=by simp only [ZI,Yk,cond_true]
      rw [e,ih (Y9 + 1) (ZZ Y7 Y9 Yh) (by simp_all<;>omega)]<;>simp
    | false =>
      have e:ZI Y7 (k + 1) Y9 Yh=Yh:=by simp only [ZI,Yk,cond_false]
      first | (rw [e];done) | (rw [e];rfl)
def Zy (Y7:Gm):(List Bool):=(ZI Y7 (((Y7.Tr.length:Int) - 0).toNat + 1) 0 (List.replicate (IntKind.wrap .i64 ((Y7.Pq.length:Int) * (Y7.Pq.length:Int))).toNat false))
@[simp] theorem Z4c (Y7:Gm):(Zy Y7).length=((List.replicate (IntKind.wrap .i64 ((Y7.Pq.length:Int) * (Y7.Pq.length:Int))).toNat false):(List Bool)).length:=Z4J Y7 (((Y7.Tr.length:Int) - 0).toNat + 1) 0 (List.replicate (IntKind.wrap .i64 ((Y7.Pq.length:Int) * (Y7.Pq.length:Int))).toNat false) (by exact Nat.lt_succ_self _)
def ZJ (Y7:Gm) (Yj:Int) (Yi:(List (List Int))):Nat→Int→(List (List Int))→(List (List Int))
  | 0,_,_=>default
  | k + 1,Yv,Yp=>(cond (decide (Yv < (Y7.Pq.length:Int)))
    (cond ((Zy Y7).getD ((IntKind.wrap .i64 ((IntKind.wrap .i64 (Yj * (Y7.Pq.length:Int))) + Yv)).toNat) default)
      (ZJ Y7 Yj Yi k (Yv + 1) (Yp ++ [[Yj,Yv]]))
      (ZJ Y7 Yj Yi k (Yv + 1) Yp))
    Yp)
def Z2X (Y7:Gm) (Yj:Int) (Yi:(List (List Int))) (r:(List (List Int))):Ex × St:=((.exit 6),⟨.ref (Gm.c Y7) 0 :: .any :: .nils :: .i .i64 (Y7.Pq.length:Int) :: .own 0 :: an 5 (.own 1 :: .i .i64 Yj :: .any :: .ref (Gm.c Y7) 0 :: .ref (Gm.c Y7) 0 :: .ref (Gm.c Y7) 0 :: .sl (Y7.Pq.map Gv.c) :: .i .i64 (Y7.Pq.length:Int) :: .i .i64 (Y7.Pq.length:Int) :: .i .i64 (Y7.Pq.length:Int) :: .i .i64 (IntKind.wrap .i64 ((Y7.Pq.length:Int) * (Y7.Pq.length:Int))) :: .own 0 :: an 42 (.i .i64 Yj :: .i .i64 (Y7.Pq.length:Int) :: .b (decide (Yj < (Y7.Pq.length:Int))) :: .any :: .any :: .i .i64 Yj :: .i .i64 (Yj + 1) :: an 20 [])),[.vec 4 1 ((Zy Y7).map cB) false, .nest 60 (r.map fun l=>l.map (cI .i64)) false]⟩)
def Z43 (Y7:Gm) (Yj:Int) (Yi:(List (List Int))) (Yv:Int) (Yp:(List (List Int))):St:=⟨.ref (Gm.c Y7) 0 :: .any :: .nils :: .i .i64 (Y7.Pq.length:Int) :: .own 0 :: an 5 (.own 1 :: .i .i64 Yj :: .i .i64 Yv :: .ref (Gm.c Y7) 0 :: .ref (Gm.c Y7) 0 :: .ref (Gm.c Y7) 0 :: .sl (Y7.Pq.map Gv.c) :: .i .i64 (Y7.Pq.length:Int) :: .i .i64 (Y7.Pq.length:Int) :: .i .i64 (Y7.Pq.length:Int) :: .i .i64 (IntKind.wrap .i64 ((Y7.Pq.length:Int) * (Y7.Pq.length:Int))) :: .own 0 :: an 42 (.i .i64 Yj :: .i .i64 (Y7.Pq.length:Int) :: .b (decide (Yj < (Y7.Pq.length:Int))) :: .any :: .any :: .i .i64 Yj :: .i .i64 (Yj + 1) :: an 20 [])),[.vec 4 1 ((Zy Y7).map cB) false, .nest 60 (Yp.map fun l=>l.map (cI .i64)) false]⟩
def Z2C:List Bool:=(mR false [0,1,1,3,5,12,42,3,2,2,20])
def Z4K:List Bool:=(mR false [0,1,1,3,5,2,1,9,42,3,2,2,20])
set_option maxHeartbeats 1000000 in
theorem Z5c (Y7:Gm) (Yj:Int) (Yi:(List (List Int))) (hp0:Y7.Pq.length≤1073741824) (hp1:Y7.Tr.length≤1073741824) (hp2:∀ t∈Y7.Tr,t.length≤1073741824) (hp3:OkE Y7.Pq.length Y7.Tr) (Z26:0≤Yj) (Z27:(Yi.length:Int)≤64 * Yj) (Z28:(decide (Yj < (Y7.Pq.length:Int)))=true):∀ (k:Nat) (Yv:Int) (Yp:(List (List Int))) (Z3x:Yj < Yv) (Z3y:(Yp.length:Int)≤(Yi.length:Int) + Yv) (hk:((Y7.Pq.length:Int) - Yv).toNat < k),Lp prog 0 (sub (X5 f59) [1,1,1,1,1,0,1,0,0,1,0,0,1,0,0]) (Z43 Y7 Yj Yi Yv Yp) (Z2X Y7 Yj Yi (ZJ Y7 Yj Yi k Yv Yp)).1 (Z2X Y7 Yj Yi (ZJ Y7 Yj Yi k Yv Yp)).2:=by
 intro k
 induction k with
 | zero=>intro Yv Yp Z3x Z3y hk;exact absurd hk (Nat.not_lt_zero _)
 | succ k ih =>
  intro Yv Yp Z3x Z3y hk
  cases YN:(decide (Yv < (Y7.Pq.length:Int))) with
  | true =>
   have Y17:=odt YN
   have Y1d:(0:Int)≤(IntKind.wrap .i64 ((IntKind.wrap .i64 (Yj * (Y7.Pq.length:Int))) + Yv)):=(by ((have:=hp3.1;have g4:=odt Z28;(have q2:=ix2F (n:=(Y7.Pq.length:Int)) (a:=Yj) (b:=Yv) (by omega) (by omega) (by omega) (by omega) (by omega);omega))))
   have Y1e:(IntKind.wrap .i64 ((IntKind.wrap .i64 (Yj * (Y7.Pq.length:Int))) + Yv)) < ((Zy Y7).length:Int):=(by ((have:=hp3.1;have g4:=odt Z28;(have q2:=ix2F (n:=(Y7.Pq.length:Int)) (a:=Yj) (b:=Yv) (by omega) (by omega) (by omega) (by omega) (by omega);(simp only [Z4c,List.length_replicate];omega)))))
   have Y1c:(IntKind.wrap .i64 ((IntKind.wrap .i64 (Yj * (Y7.Pq.length:Int))) + Yv)).toNat < (Zy Y7).length:=(by omega)
   have p {a C} (s:Scr a C):=sB YN<|sW .i64 (Yj * (Y7.Pq.length:Int))<|sW .i64 ((IntKind.wrap .i64 (Yj * (Y7.Pq.length:Int))) + Yv)<|sX cB (Zy Y7) (IntKind.wrap .i64 ((IntKind.wrap .i64 (Yj * (Y7.Pq.length:Int))) + Yv)) Y1d Y1e<|sV cB (Zy Y7) ((IntKind.wrap .i64 ((IntKind.wrap .i64 (Yj * (Y7.Pq.length:Int))) + Yv)).toNat) Y1c<|s
   cases Y15:((Zy Y7).getD ((IntKind.wrap .i64 ((IntKind.wrap .i64 (Yj * (Y7.Pq.length:Int))) + Yv)).toNat) default) with
   | true =>
    have Y18:Yp.length + [[Yj,Yv]].length≤1073741824:=by clear p;exact (by ((have:=hp3.1;have g4:=odt Z28;(simp only [List.length_append,List.length_cons,List.length_nil];omega))))
    have Y1f:(-9223372036854775808:Int)≤(Yv + 1):=by clear p;exact (by omega)
    have Y1h:(Yv + 1)≤(9223372036854775807:Int):=by clear p;exact (by omega)
    have e:ZJ Y7 Yj Yi (k + 1) Yv Yp=(ZJ Y7 Yj Yi k (Yv + 1) (Yp ++ [[Yj,Yv]])):=by simp only [ZJ,YN,Y15,cond_true]
    rw [e]
    exact X2D E0Ok Zc [] Z2C [0,1] (⟨.ref (Gm.c Y7) 0 :: .any :: .nils :: .i .i64 (Y7.Pq.length:Int) :: .own 0 :: an 5 (.own 1 :: .i .i64 Yj :: .i .i64 (Yv + 1) :: .ref (Gm.c Y7) 0 :: .ref (Gm.c Y7) 0 :: .ref (Gm.c Y7) 0 :: .sl (Y7.Pq.map Gv.c) :: .i .i64 (Y7.Pq.length:Int) :: .i .i64 (Y7.Pq.length:Int) :: .i .i64 (Y7.Pq.length:Int) :: .i .i64 (IntKind.wrap .i64 ((Y7.Pq.length:Int) * (Y7.Pq.length:Int))) :: .own 0 :: an 42 (.i .i64 Yj :: .i .i64 (Y7.Pq.length:Int) :: .b (decide (Yj < (Y7.Pq.length:Int))) :: .any :: .any :: .i .i64 Yj :: .i .i64 (Yj + 1) :: an 20 [])),[.vec 4 1 ((Zy Y7).map cB) false, .nest 60 ((Yp.map fun l=>l.map (cI .i64)) ++ [([[.i .i64 Yj],[.i .i64 Yv]]:List (List AV))]) false]⟩) (p (sB Y15<|sC (show (Yp.map fun l=>l.map (cI .i64)).length + [([[.i .i64 Yj],[.i .i64 Yv]]:List (List AV))].length≤1073741824 from (by simpa using Y18))<|sI (Yv + 1) Y1f Y1h<|sN)) (by kernel_rfl) (by simp [Z43,cL,cI,cB]) (ih (Yv + 1) (Yp ++ [[Yj,Yv]]) (show Yj < (Yv + 1) from (by omega)) (show ((Yp ++ [[Yj,Yv]]).length:Int)≤(Yi.length:Int) + (Yv + 1) from (by ((have:=hp3.1;have g4:=odt Z28;(simp only [List.length_append,List.length_cons,List.length_nil];omega))))) (by omega))
   | false =>
    have Y18:(-9223372036854775808:Int)≤(Yv + 1):=by clear p;exact (by omega)
    have Y1f:(Yv + 1)≤(9223372036854775807:Int):=by clear p;exact (by omega)
    have e:ZJ Y7 Yj Yi (k + 1) Yv Yp=(ZJ Y7 Yj Yi k (Yv + 1) Yp):=by simp only [ZJ,YN,Y15,cond_true,cond_false]
    rw [e]
    exact Xo E0Ok Zc [] Z2C [0,1] (ih (Yv + 1) Yp (show Yj < (Yv + 1) from (by omega)) (show (Yp.length:Int)≤(Yi.length:Int) + (Yv + 1) from (by omega)) (by omega)) (p (sB Y15<|sI (Yv + 1) Y18 Y1f<|sN)) (by kernel_rfl)
  | false =>
   have Y17:=odf YN
   have e:ZJ Y7 Yj Yi (k + 1) Yv Yp=Yp:=by simp only [ZJ,YN,cond_false]
   rw [e]
   exact outR (e:=(.exit 6)) E0Ok Zc [] Z4K [0,1] (sB YN<|sN) (by kernel_rfl) (by intro h;cases h)
def Z1o (Y7:Gm) (Yj:Int) (Yi:(List (List Int))):(List (List Int)):=(ZJ Y7 Yj Yi (((Y7.Pq.length:Int) - (Yj + 1)).toNat + 1) (Yj + 1) Yi)
theorem Z7q (m:Gm) (a:Int) (r1:List (List Int)):∀ (k:Nat) (b:Int) (r:List (List Int)),(ZJ m a r1 k b r).length≤r.length + k:=by
  intro k
  induction k with
  | zero=>intro b r;exact Nat.zero_le _
  | succ k ih =>
    intro b r
    rw [ZJ]
    cases decide (b < (m.Pq.length:Int)) with
    | false=>rw [cond_false];omega
    | true =>
      rw [cond_true]
      cases ((Zy m).getD ((IntKind.wrap .i64 ((IntKind.wrap .i64 (a * (m.Pq.length:Int))) + b)).toNat) default) with
      | true=>rw [cond_true];have:=ih (b + 1) (r ++ [[a,b]]);simp only [List.length_append,List.length_cons,List.length_nil] at this;omega
      | false=>rw [cond_false];have:=ih (b + 1) r;omega
def Z1d (Y7:Gm):Nat→Int→(List (List Int))→(List (List Int))
  | 0,_,_=>default
  | k + 1,Yj,Yi=>(cond (decide (Yj < (Y7.Pq.length:Int)))
    (Z1d Y7 k (Yj + 1) (Z1o Y7 Yj Yi))
    Yi)
def Z2Y (Y7:Gm) (r:(List (List Int))):Ex × St:=((.exit 4),⟨.ref (Gm.c Y7) 0 :: .any :: .nils :: .i .i64 (Y7.Pq.length:Int) :: .own 0 :: an 5 (.own 1 :: .any :: .any :: .ref (Gm.c Y7) 0 :: .ref (Gm.c Y7) 0 :: .ref (Gm.c Y7) 0 :: .sl (Y7.Pq.map Gv.c) :: .i .i64 (Y7.Pq.length:Int) :: .i .i64 (Y7.Pq.length:Int) :: .i .i64 (Y7.Pq.length:Int) :: .i .i64 (IntKind.wrap .i64 ((Y7.Pq.length:Int) * (Y7.Pq.length:Int))) :: .own 0 :: an 69 []),[.vec 4 1 ((Zy Y7).map cB) false, .nest 60 (r.map fun l=>l.map (cI .i64)) false]⟩)
def Z44 (Y7:Gm) (Yj:Int) (Yi:(List (List Int))):St:=⟨.ref (Gm.c Y7) 0 :: .any :: .nils :: .i .i64 (Y7.Pq.length:Int) :: .own 0 :: an 5 (.own 1 :: .i .i64 Yj :: .any :: .ref (Gm.c Y7) 0 :: .ref (Gm.c Y7) 0 :: .ref (Gm.c Y7) 0 :: .sl (Y7.Pq.map Gv.c) :: .i .i64 (Y7.Pq.length:Int) :: .i .i64 (Y7.Pq.length:Int) :: .i .i64 (Y7.Pq.length:Int) :: .i .i64 (IntKind.wrap .i64 ((Y7.Pq.length:Int) * (Y7.Pq.length:Int))) :: .own 0 :: an 69 []),[.vec 4 1 ((Zy Y7).map cB) false, .nest 60 (Yi.map fun l=>l.map (cI .i64)) false]⟩
theorem Z5d (Y7:Gm) (hp0:Y7.Pq.length≤1073741824) (hp1:Y7.Tr.length≤1073741824) (hp2:∀ t∈Y7.Tr,t.length≤1073741824) (hp3:OkE Y7.Pq.length Y7.Tr):∀ (k:Nat) (Yj:Int) (Yi:(List (List Int))) (Z26:0≤Yj) (Z27:(Yi.length:Int)≤64 * Yj) (hk:((Y7.Pq.length:Int) - Yj).toNat < k),Lp prog 0 (sub (X5 f59) [1,1,1,1,1,0,1,0,0]) (Z44 Y7 Yj Yi) (Z2Y Y7 (Z1d Y7 k Yj Yi)).1 (Z2Y Y7 (Z1d Y7 k Yj Yi)).2:=by
 intro k
 induction k with
 | zero=>intro Yj Yi Z26 Z27 hk;exact absurd hk (Nat.not_lt_zero _)
 | succ k ih =>
  intro Yj Yi Z26 Z27 hk
  cases Yk:(decide (Yj < (Y7.Pq.length:Int))) with
  | true =>
   have YL:=odt Yk
   have Yy:(-9223372036854775808:Int)≤(Yj + 1):=(by omega)
   have YV:(Yj + 1)≤(9223372036854775807:Int):=(by omega)
   have e:Z1d Y7 (k + 1) Yj Yi=(Z1d Y7 k (Yj + 1) (Z1o Y7 Yj Yi)):=by simp only [Z1d,Yk,cond_true]
   rw [e]
   exact Xo E0Ok Zc [] (mR false [0,1,1,3,5,2,1,9,69]) [0,1] (ih (Yj + 1) (Z1o Y7 Yj Yi) (show 0≤(Yj + 1) from (by omega)) (show ((Z1o Y7 Yj Yi).length:Int)≤64 * (Yj + 1) from (by ((have:=hp3.1;have g4:=odt Yk;have q:=Z7q Y7 Yj Yi (((Y7.Pq.length:Int) - (Yj + 1)).toNat + 1) (Yj + 1) Yi;unfold Z1o;omega)))) (by omega)) (sB Yk<|sI (Yj + 1) Yy YV<|sL Z2C 2 (Xl (Z2X Y7 Yj Yi) (x:=(Z1o Y7 Yj Yi)) (Z5c Y7 Yj Yi hp0 hp1 hp2 hp3 Z26 Z27 Yk (((Y7.Pq.length:Int) - (Yj + 1)).toNat + 1) (Yj + 1) Yi (show Yj < (Yj + 1) from (by omega)) (show (Yi.length:Int)≤(Yi.length:Int) + (Yj + 1) from (by omega)) (Nat.lt_succ_self _)) rfl)<|sI (Yj + 1) Yy YV<|sN) (by kernel_rfl)
  | false =>
   have YL:=odf Yk
   have e:Z1d Y7 (k + 1) Yj Yi=Yi:=by simp only [Z1d,Yk,cond_false]
   rw [e]
   exact outR (e:=(.exit 4)) E0Ok Zc [] (mR false [0,1,1,3,5,1,2,9,69]) [0,1] (sB Yk<|sN) (by kernel_rfl) (by intro h;cases h)
def Z29 (Y7:Gm):(List (List Int)):=(Z1d Y7 (((Y7.Pq.length:Int) - 0).toNat + 1) 0 ([]:List (List Int)))
def Z20 (Y7:Gm):(List (List Int)):=(Z29 Y7)
theorem Z7e (m:Gm) (i:Int) (r:List Bool):ZZ m i r=((r.set (IntKind.wrap .i64 (IntKind.wrap .i64 (Z1g ((m.Tr.getD i.toNat default).getD 0 default) ((m.Tr.getD i.toNat default).getD 1 default) * (m.Pq.length:Int)) + Z1h ((m.Tr.getD i.toNat default).getD 0 default) ((m.Tr.getD i.toNat default).getD 1 default))).toNat true).set (IntKind.wrap .i64 (IntKind.wrap .i64 (Z1g ((m.Tr.getD i.toNat default).getD 1 default) ((m.Tr.getD i.toNat default).getD 2 default) * (m.Pq.length:Int)) + Z1h ((m.Tr.getD i.toNat default).getD 1 default) ((m.Tr.getD i.toNat default).getD 2 default))).toNat true).set (IntKind.wrap .i64 (IntKind.wrap .i64 (Z1g ((m.Tr.getD i.toNat default).getD 2 default) ((m.Tr.getD i.toNat default).getD 0 default) * (m.Pq.length:Int)) + Z1h ((m.Tr.getD i.toNat default).getD 2 default) ((m.Tr.getD i.toNat default).getD 0 default))).toNat true:=by
  have one:∀ (r0:List Bool) (k:Nat) (x:Int) (s:List Bool),x < 3→ZD m i r0 (k + 1) x s=ZD m i r0 k (x + 1) (s.set (IntKind.wrap .i64 (IntKind.wrap .i64 (ZN m i x * (m.Pq.length:Int)) + ZQ m i x)).toNat true):=by
    intro r0 k x s hx
    rw [ZD,decide_eq_true hx,cond_true]
  unfold ZZ
  show ZD m i r 4 0 r=_
  rw [one r 3 0 r (by omega),one r 2 (0 + 1) _ (by omega),one r 1 (0 + 1 + 1) _ (by omega),ZD]
  show cond (decide ((3:Int) < 3)) _ _=_
  rw [decide_eq_false (by omega),cond_false]
  rfl
theorem Z7f (m:Gm) (ok:OkE m.Pq.length m.Tr) {a b:Int} (ha:0≤a) (hab:a < b) (hb:b < (m.Pq.length:Int)):∀ (k:Nat) (i:Nat) (r:List Bool),i≤m.Tr.length→((m.Tr.length:Int) - i).toNat < k→r.length=(IntKind.wrap .i64 ((m.Pq.length:Int) * (m.Pq.length:Int))).toNat →
    (ZI m k i r).getD (IntKind.wrap .i64 (IntKind.wrap .i64 (a * (m.Pq.length:Int)) + b)).toNat default=(r.getD (IntKind.wrap .i64 (IntKind.wrap .i64 (a * (m.Pq.length:Int)) + b)).toNat default || (m.Tr.drop i).any fun t=>tHas t a b):=by
  intro k
  induction k with
  | zero=>intro i r _ hk;exact absurd hk (Nat.not_lt_zero _)
  | succ k ih =>
    intro i r hle hk hr
    rw [ZI]
    by_cases hi:(i:Int) < (m.Tr.length:Int)
    · have hn:i < m.Tr.length:=by omega
      rw [decide_eq_true hi,cond_true]
      have:=ih (i + 1) (ZZ m i r) (by omega) (by omega) (by rw [Z4b];exact hr)
      rw [show ((i:Int) + 1)=((i + 1:Nat):Int) from by omega,this,Z7e,List.drop_eq_getElem_cons hn,List.any_cons]
      have hg:m.Tr.getD ((i:Nat):Int).toNat default=m.Tr[i]:=by rw [show ((i:Nat):Int).toNat=i from by omega,List.getD_eq_getElem?_getD,List.getElem?_eq_getElem hn];rfl
      obtain ⟨x,y,z,ht,r1,r2,r3,n1,n2,n3⟩:=ok.2.2 _ (List.getElem_mem hn)
      have h64:(m.Pq.length:Int)≤64:=by have:=ok.1;omega
      rw [hg,ht]
      simp only [List.getD_cons_zero,List.getD_cons_succ]
      rw [X4A h64 (Z4G z x) (Z4q r3 r1) (Z4r r3 r1) ha hab hb (by simpa using hr),X4A h64 (Z4G y z) (Z4q r2 r3) (Z4r r2 r3) ha hab hb (by simpa using hr),X4A h64 (Z4G x y) (Z4q r1 r2) (Z4r r1 r2) ha hab hb hr]
      have hT:=X7j n1 n2 n3 hab
      unfold tE at hT
      simp only [List.getD_cons_zero,List.getD_cons_succ,List.mem_cons,List.not_mem_nil,or_false] at hT
      generalize r.getD (IntKind.wrap .i64 (IntKind.wrap .i64 (a * (m.Pq.length:Int)) + b)).toNat default=q
      generalize ((m.Tr.drop (i + 1)).any fun t=>tHas t a b)=q2
      have hB:tHas [x,y,z] a b=(decide ((⟨a,b⟩:Gedge)=mkE x y) || (decide ((⟨a,b⟩:Gedge)=mkE y z) || decide ((⟨a,b⟩:Gedge)=mkE z x))):=by
        rw [Bool.eq_iff_iff,← hT];simp only [Bool.or_eq_true,decide_eq_true_eq]
      rw [hB]
      cases decide ((⟨a,b⟩:Gedge)=mkE x y)<;>cases decide ((⟨a,b⟩:Gedge)=mkE y z)<;>cases decide ((⟨a,b⟩:Gedge)=mkE z x)<;>cases q<;>cases q2<;>rfl
    · rw [decide_eq_false hi,cond_false,List.drop_eq_nil_of_le (by omega)];simp
theorem Z7r (m:Gm) (ok:OkE m.Pq.length m.Tr) {a b:Int} (ha:0≤a) (hab:a < b) (hb:b < (m.Pq.length:Int)) :
    (Zy m).getD (IntKind.wrap .i64 (IntKind.wrap .i64 (a * (m.Pq.length:Int)) + b)).toNat default=m.Tr.any fun t=>tHas t a b:=by
  unfold Zy
  have:=Z7f m ok ha hab hb (((m.Tr.length:Int) - 0).toNat + 1) 0 (List.replicate (IntKind.wrap .i64 ((m.Pq.length:Int) * (m.Pq.length:Int))).toNat false) (Nat.zero_le _) (by omega) (by simp)
  rw [List.drop_zero] at this
  refine this.trans ?_
  rw [List.getD_eq_getElem?_getD,List.getElem?_replicate]
  split<;>simp
theorem Z6y (m:Gm) (ok:OkE m.Pq.length m.Tr):Z20 m=(edgL m.Pq.length m.Tr).map e2:=by
  rw [X9A]
  unfold Z20 Z29
  refine X96 (n:=m.Pq.length) (p:=fun a b=>m.Tr.any fun t=>tHas t a b) (g:=fun a b=>e2 ⟨a,b⟩) (lo:=Z1d m) (li:=Z1o m) (fun k a r=>rfl) (fun a r ha => ?_) _ 0 (Nat.zero_le _) (by omega)
  unfold Z1o
  have hf:=X94 (n:=(m.Pq.length:Int)) (f:=fun b => !((Zy m).getD ((IntKind.wrap .i64 ((IntKind.wrap .i64 ((a:Int) * (m.Pq.length:Int))) + b)).toNat) default)) (g:=fun b => [(a:Int),b]) (lo:=ZJ m a r) (fun k i r'=>by
    rw [ZJ]
    cases ((Zy m).getD ((IntKind.wrap .i64 ((IntKind.wrap .i64 ((a:Int) * (m.Pq.length:Int))) + i)).toNat) default)<;>rfl) (((m.Pq.length:Int) - ((a:Int) + 1)).toNat + 1) ((a:Int) + 1) r (Nat.lt_succ_self _)
  rw [hf,show ((m.Pq.length:Int) - ((a:Int) + 1)).toNat=m.Pq.length - (a + 1) from by omega]
  congr 1
  have hfc:((List.range (m.Pq.length - (a + 1))).filter fun (j:Nat) => !(!((Zy m).getD ((IntKind.wrap .i64 ((IntKind.wrap .i64 ((a:Int) * (m.Pq.length:Int))) + ((a:Int) + 1 + (j:Int)))).toNat) default)))=(List.range (m.Pq.length - (a + 1))).filter fun (j:Nat)=>m.Tr.any fun t=>tHas t a ((a:Int) + 1 + j):=by
    refine List.filter_congr fun j hj => ?_
    rw [List.mem_range] at hj
    rw [Bool.not_not,Z7r m ok (by omega) (by omega) (by omega)]
  rw [hfc]
  rfl
end Go.Ab
