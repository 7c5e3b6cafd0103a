/- The functions of this seat as plain Lean, and that the program's are these. Printed by a program of the prover's own. -/
import Derived.Test.YtiddhiepmakopaaB3
set_option linter.unusedVariables false
set_option linter.unusedSimpArgs false
set_option maxRecDepth 100000
namespace Go.Ab
open Go.RowKit Go.Proofs.Try
theorem Z65 (Y0 : Gm) (hp0 : Y0.Pq.length ≤ 1073741824) (hp1 : Y0.Tr.length ≤ 1073741824) (hp2 : ∀ t ∈ Y0.Tr, t.length ≤ 1073741824) (hp3 : OkE Y0.Pq.length Y0.Tr)  : Fn prog 65 [.agg [.sl (Y0.Pq.map Gv.c), .sl (Y0.Tr.map (cL (cI .i64)))]] (.own 0) [.vec 92 2 ((Z2 Y0).map Gedge.cells) false] := by
 refine fnS E0Ok Z3 (c := bodyOf f65) [] (.own 0) [.vec 92 2 ((Z2f Y0).map Gedge.cells) false] func65 (sF (Z4N Y0 hp0 hp1 hp2 hp3) <| sZ Gedge.cells ((Z1 Y0).2) <| sL (mR false [0, 6, 4, 1, 1, 5, 14]) 4 (lp_cast (st2 := ⟨.agg [.sl (Y0.Pq.map Gv.c), .sl (Y0.Tr.map (cL (cI .i64)))] :: .ptr 0 0 0 :: .nils :: .own 1 :: .mp 2 :: .own 3 :: an 4 (.agg [.sl (Y0.Pq.map Gv.c), .sl (Y0.Tr.map (cL (cI .i64)))] :: .any :: .mp 2 :: .own 3 :: .own 3 :: .i .i64 (((Z1 Y0).2).length : Int) :: .i .i64 0 :: an 14 []), [.box 35 [.sl (Y0.Pq.map Gv.c), .sl (Y0.Tr.map (cL (cI .i64)))], .vec 92 2 ([] : List (List AV)) false, .mapN 2 (mapC Gedge.pr (cI .i64) ((Z1 Y0).1)) none, .vec 92 2 (((Z1 Y0).2).map Gedge.cells) false]⟩) (lp_val (Z3d Y0) (x := (Z2f Y0)) (Z5r Y0 hp0 hp1 hp2 hp3 (((((Z1 Y0).2).length : Int) - 0).toNat + 1) 0 ([] : List Gedge) (show 0 ≤ 0 from (by omega)) (show (([] : List Gedge).length : Int) ≤ 0 from (by simp)) (Nat.lt_succ_self _)) rfl) (by simp [Z3e, Gedge.cells])) <| sK [1] sN) rfl (by kernel_rfl) (by kernel_rfl) rfl ?_ ?_
 · rfl
 · simp [Z2]
def Z1y (YJ : Nat) : Bool := (fcmp .eql .f32 (fop .sub .f32 YJ YJ) 0)
theorem Z32 (YJ : Nat)   : Fn prog 35 [.f .f32 YJ] (.b (Z1y YJ)) [] := by
 refine fnS E0Ok Z3 (c := bodyOf f35) [] (.b (fcmp .eql .f32 (fop .sub .f32 YJ YJ) 0)) [] func35 (sK [] sN) rfl (by kernel_rfl) (by kernel_rfl) rfl ?_ ?_
 · rfl
 · rfl
def ZZ (YP : Gv) : Bool := (cond (Z1y YP.X)
  (cond (Z1y YP.Y)
    (Z1y YP.Z)
    false)
  false)
theorem Z3A (YP : Gv)   : Fn prog 125 [.agg [.f .f32 YP.X, .f .f32 YP.Y, .f .f32 YP.Z]] (.b (ZZ YP)) [] := by
 have p {a C} (s : Scr a C) := sF (Z32 YP.X) <| s
 cases h0 : (Z1y YP.X) with
 | true =>
  have q {a C} (s : Scr a C) := p (sB h0 <| sB h0 <| sB h0 <| sF (Z32 YP.Y) <| sB h0 <| s)
  clear p
  cases h1 : (Z1y YP.Y) with
  | true =>
   refine fnS E0Ok Z3 (c := bodyOf f125) [] (.b (Z1y YP.Z)) [] func125 (q (sB h1 <| sB h1 <| sB h1 <| sF (Z32 YP.Z) <| sB h1 <| sK [] sN)) rfl (by kernel_rfl) (by kernel_rfl) rfl ?_ ?_
   · simp only [ZZ, h0, h1, cond_true]
   · rfl
  | false =>
   refine fnS E0Ok Z3 (c := bodyOf f125) [] (.b false) [] func125 (q (sB h1 <| sB h1 <| sB h1 <| sB h1 <| sK [] sN)) rfl (by kernel_rfl) (by kernel_rfl) rfl ?_ ?_
   · simp only [ZZ, h0, h1, cond_true, cond_false]
   · rfl
 | false =>
  refine fnS E0Ok Z3 (c := bodyOf f125) [] (.b false) [] func125 (p (sB h0 <| sB h0 <| sB h0 <| sB h0 <| sB (show false = false from rfl) <| sB (show false = false from rfl) <| sB (show false = false from rfl) <| sB (show false = false from rfl) <| sK [] sN)) rfl (by kernel_rfl) (by kernel_rfl) rfl ?_ ?_
  · simp only [ZZ, h0, cond_false]
  · rfl
def Z3g (Y6 : Gv) (Yc : Gv) : Nat := (fop .add .f32 (fop .add .f32 (fop .mul .f32 Y6.X Yc.X) (fop .mul .f32 Y6.Y Yc.Y)) (fop .mul .f32 Y6.Z Yc.Z))
theorem Z6c (Y6 : Gv) (Yc : Gv)   : Fn prog 100 [.agg [.f .f32 Y6.X, .f .f32 Y6.Y, .f .f32 Y6.Z], .agg [.f .f32 Yc.X, .f .f32 Yc.Y, .f .f32 Yc.Z]] (.f .f32 (Z3g Y6 Yc)) [] := by
 refine fnS E0Ok Z3 (c := bodyOf f100) [] (.f .f32 (fop .add .f32 (fop .add .f32 (fop .mul .f32 Y6.X Yc.X) (fop .mul .f32 Y6.Y Yc.Y)) (fop .mul .f32 Y6.Z Yc.Z))) [] func100 (sK [] sN) rfl (by kernel_rfl) (by kernel_rfl) rfl ?_ ?_
 · rfl
 · rfl
def Z2O (YJ : Nat) : Bool := (cond (Z1y YJ)
  (fcmp .gtr .f32 YJ 0)
  false)
theorem Z6o (YJ : Nat)   : Fn prog 36 [.f .f32 YJ] (.b (Z2O YJ)) [] := by
 have p {a C} (s : Scr a C) := sF (Z32 YJ) <| s
 cases h0 : (Z1y YJ) with
 | true =>
  refine fnS E0Ok Z3 (c := bodyOf f36) [] (.b (fcmp .gtr .f32 YJ 0)) [] func36 (p (sB h0 <| sB h0 <| sB h0 <| sK [] sN)) rfl (by kernel_rfl) (by kernel_rfl) rfl ?_ ?_
  · simp only [Z2O, h0, cond_true]
  · rfl
 | false =>
  refine fnS E0Ok Z3 (c := bodyOf f36) [] (.b false) [] func36 (p (sB h0 <| sB h0 <| sB h0 <| sK [] sN)) rfl (by kernel_rfl) (by kernel_rfl) rfl ?_ ?_
  · simp only [Z2O, h0, cond_false]
  · rfl
def Z1w (Ye : Gh) : Bool := (cond (decide (Ye.Place < 0))
  false
  (cond (ZY Ye.Kind 0 2)
    (cond (ZZ Ye.At)
      (cond (ZZ Ye.Way)
        (cond (Ye.Kind == 0)
          true
          (Z2O (Z3g Ye.Way Ye.Way)))
        false)
      false)
    false))
theorem Z6p (Ye : Gh)   : Fn prog 115 [.agg [.i .i64 Ye.Place, .i .i64 Ye.Kind, .f .f32 Ye.At.X, .f .f32 Ye.At.Y, .f .f32 Ye.At.Z, .f .f32 Ye.Way.X, .f .f32 Ye.Way.Y, .f .f32 Ye.Way.Z]] (.b (Z1w Ye)) [] := by
 cases h0 : (decide (Ye.Place < 0)) with
 | true =>
  have gh0 := odt h0
  refine fnS E0Ok Z3 (c := bodyOf f115) [] (.b false) [] func115 (sB h0 <| sB h0 <| sB h0 <| sB h0 <| sB h0 <| sB (show true = true from rfl) <| sB (show true = true from rfl) <| sB (show true = true from rfl) <| sB (show true = true from rfl) <| sB (show true = true from rfl) <| sB (show true = true from rfl) <| sB (show true = true from rfl) <| sB (show true = true from rfl) <| sB (show true = true from rfl) <| sB (show true = true from rfl) <| sB (show true = true from rfl) <| sK [] sN) rfl (by kernel_rfl) (by kernel_rfl) rfl ?_ ?_
  · simp only [Z1w, h0, cond_true]
  · rfl
 | false =>
  have gh0 := odf h0
  have p {a C} (s : Scr a C) := sB h0 <| sB h0 <| sB h0 <| sF (Z4o Ye.Kind 0 2) <| sB h0 <| sB h0 <| s
  cases h1 : (ZY Ye.Kind 0 2) with
  | true =>
   have q {a C} (s : Scr a C) := p (sB' h1 <| sB' h1 <| sB' h1 <| sF (Z3A Ye.At) <| sB' h1 <| sB' h1 <| s)
   clear p
   cases h2 : (ZZ Ye.At) with
   | true =>
    have p {a C} (s : Scr a C) := q (sB' h2 <| sB' h2 <| sB' h2 <| sF (Z3A Ye.Way) <| sB' h2 <| sB' h2 <| s)
    clear q
    cases h3 : (ZZ Ye.Way) with
    | true =>
     have q {a C} (s : Scr a C) := p (sB' h3 <| s)
     clear p
     cases h4 : (Ye.Kind == 0) with
     | true =>
      have gh4 := eq_of_beq h4
      refine fnS E0Ok Z3 (c := bodyOf f115) [] (.b true) [] func115 (q (sB h4 <| sB h4 <| sB h4 <| sB h4 <| sB h4 <| sB h4 <| sB h4 <| sK [] sN)) rfl (by kernel_rfl) (by kernel_rfl) rfl ?_ ?_
      · simp only [Z1w, h0, h1, h2, h3, h4, cond_true, cond_false]
      · rfl
     | false =>
      have gh4 := ne_of_beq_false h4
      refine fnS E0Ok Z3 (c := bodyOf f115) [] (.b (Z2O (Z3g Ye.Way Ye.Way))) [] func115 (q (sB h4 <| sB h4 <| sB h4 <| sB h4 <| sB h4 <| sF (Z6c Ye.Way Ye.Way) <| sB h4 <| sF (Z6o (Z3g Ye.Way Ye.Way)) <| sB h4 <| sK [] sN)) rfl (by kernel_rfl) (by kernel_rfl) rfl ?_ ?_
      · simp only [Z1w, h0, h1, h2, h3, h4, cond_true, cond_false]
      · rfl
    | false =>
     refine fnS E0Ok Z3 (c := bodyOf f115) [] (.b false) [] func115 (p (sB' h3 <| sK [] sN)) rfl (by kernel_rfl) (by kernel_rfl) rfl ?_ ?_
     · simp only [Z1w, h0, h1, h2, h3, cond_true, cond_false]
     · rfl
   | false =>
    refine fnS E0Ok Z3 (c := bodyOf f115) [] (.b false) [] func115 (q (sB' h2 <| sB' h2 <| sB' h2 <| sB' h2 <| sB' h2 <| sB (show true = true from rfl) <| sK [] sN)) rfl (by kernel_rfl) (by kernel_rfl) rfl ?_ ?_
    · simp only [Z1w, h0, h1, h2, cond_true, cond_false]
    · rfl
  | false =>
   refine fnS E0Ok Z3 (c := bodyOf f115) [] (.b false) [] func115 (p (sB' h1 <| sB' h1 <| sB' h1 <| sB' h1 <| sB' h1 <| sB (show true = true from rfl) <| sB (show true = true from rfl) <| sB (show true = true from rfl) <| sB (show true = true from rfl) <| sB (show true = true from rfl) <| sB (show true = true from rfl) <| sK [] sN)) rfl (by kernel_rfl) (by kernel_rfl) rfl ?_ ?_
   · simp only [Z1w, h0, h1, cond_false]
   · rfl
def ZE (Y0 : Gm) (Yf : (List Gh)) : Nat → Int → Int → (Unit) ⊕ (Unit)
  | 0, _, _ => .inl default
  | k + 1, Yv, Yz => (cond (decide (Yz < (Yf.length : Int)))
    (cond (Z1w (Yf.getD Yz.toNat default))
      (cond (ZY ((Yf.getD Yz.toNat default).Place) (IntKind.wrap .i64 (Yv + 1)) (IntKind.wrap .i64 ((Y0.Pq.length : Int) - 1)))
        (ZE Y0 Yf k ((Yf.getD Yz.toNat default).Place) (Yz + 1))
        (.inl ()))
      (.inl ()))
    (.inr ()))
def Z2s (Y0 : Gm) (Yf : (List Gh)) : (Unit) ⊕ (Unit) → Ex × St
  | .inl r => (.ret, ⟨an 4 (.b false :: an 30 []), []⟩)
  | .inr r => ((.exit 0), ⟨.agg [.sl (Y0.Pq.map Gv.c), .sl (Y0.Tr.map (cL (cI .i64)))] :: .sl (Yf.map Gh.c) :: .ptr 0 0 0 :: an 5 (.agg [.sl (Y0.Pq.map Gv.c), .sl (Y0.Tr.map (cL (cI .i64)))] :: .b (Z9 Y0) :: .b (!(Z9 Y0)) :: .sl (Yf.map Gh.c) :: an 23 []), [.box 35 [.sl (Y0.Pq.map Gv.c), .sl (Y0.Tr.map (cL (cI .i64)))]]⟩)
def Z5s (Y0 : Gm) (Yf : (List Gh)) (Yv : Int) (Yz : Int) : St := ⟨.agg [.sl (Y0.Pq.map Gv.c), .sl (Y0.Tr.map (cL (cI .i64)))] :: .sl (Yf.map Gh.c) :: .ptr 0 0 0 :: .any :: .any :: .i .i64 Yv :: .any :: .any :: .agg [.sl (Y0.Pq.map Gv.c), .sl (Y0.Tr.map (cL (cI .i64)))] :: .b (Z9 Y0) :: .b (!(Z9 Y0)) :: .sl (Yf.map Gh.c) :: .i .i64 (Yf.length : Int) :: .i .i64 Yz :: an 21 [], [.box 35 [.sl (Y0.Pq.map Gv.c), .sl (Y0.Tr.map (cL (cI .i64)))]]⟩
theorem Z4h (Y0 : Gm) (Yf : (List Gh)) (hp0 : Y0.Pq.length ≤ 1073741824) (hp1 : Y0.Tr.length ≤ 1073741824) (hp2 : ∀ t ∈ Y0.Tr, t.length ≤ 1073741824) (hp3 : Yf.length ≤ 1073741824) (Z6T : (Z9 Y0) = true) : ∀ (k : Nat) (Yv : Int) (Yz : Int) (Z3R : 0 ≤ Yz) (hk : ((Yf.length : Int) - Yz).toNat < k), Lp prog 0 (sub (bodyOf f83) [1, 1, 1, 0, 1, 0, 0]) (Z5s Y0 Yf Yv Yz) (Z2s Y0 Yf (ZE Y0 Yf k Yv Yz)).1 (Z2s Y0 Yf (ZE Y0 Yf k Yv Yz)).2 := by
 intro k
 induction k with
 | zero => intro Yv Yz Z3R hk; exact absurd hk (Nat.not_lt_zero _)
 | succ k ih =>
  intro Yv Yz Z3R hk
  cases Ye : (decide (Yz < (Yf.length : Int))) with
  | true =>
   have Yo := odt Ye
   have Yt : (0 : Int) ≤ Yz := (by assumption)
   have Yu : Yz < (Yf.length : Int) := (by assumption)
   have p {a C} (s : Scr a C) := sB Ye <| sG Gh.c Yf Yz Yt Yu <| sF (Z6p (Yf.getD Yz.toNat default)) <| s
   cases Yk : (Z1w (Yf.getD Yz.toNat default)) with
   | true =>
    have q {a C} (s : Scr a C) := p (sB' Yk <| sB' Yk <| sB' Yk <| sB' Yk <| sW .i64 (Yv + 1) <| sB' Yk <| sB' Yk <| sB' Yk <| sZ Gv.c Y0.Pq <| sB' Yk <| sW .i64 ((Y0.Pq.length : Int) - 1) <| sB' Yk <| sF (Z4o ((Yf.getD Yz.toNat default).Place) (IntKind.wrap .i64 (Yv + 1)) (IntKind.wrap .i64 ((Y0.Pq.length : Int) - 1))) <| sB' Yk <| sB' Yk <| s)
    clear p
    cases YB : (ZY ((Yf.getD Yz.toNat default).Place) (IntKind.wrap .i64 (Yv + 1)) (IntKind.wrap .i64 ((Y0.Pq.length : Int) - 1))) with
    | true =>
     have Yy : (-9223372036854775808 : Int) ≤ (Yz + 1) := by clear q; exact (by omega)
     have YC : (Yz + 1) ≤ (9223372036854775807 : Int) := by clear q; exact (by omega)
     have e : ZE Y0 Yf (k + 1) Yv Yz = (ZE Y0 Yf k ((Yf.getD Yz.toNat default).Place) (Yz + 1)) := by simp only [ZE, Ye, Yk, YB, cond_true]
     rw [e]
     exact nextR E0Ok Z3 [] (mR false [0, 3, 2, 1, 2, 6, 21]) [0] (ih ((Yf.getD Yz.toNat default).Place) (Yz + 1) (show 0 ≤ (Yz + 1) from (by omega)) (by omega)) (q (sB' YB <| sI (Yz + 1) Yy YC <| sN)) (by kernel_rfl)
    | false =>
     have e : ZE Y0 Yf (k + 1) Yv Yz = (.inl ()) := by simp only [ZE, Ye, Yk, YB, cond_true, cond_false]
     rw [e]
     exact outR (e := .ret) E0Ok Z3 [] (mR false [4, 1, 30]) [] (q (sB' YB <| sN)) (by kernel_rfl) (by intro h; cases h)
   | false =>
    have e : ZE Y0 Yf (k + 1) Yv Yz = (.inl ()) := by simp only [ZE, Ye, Yk, cond_true, cond_false]
    rw [e]
    exact outR (e := .ret) E0Ok Z3 [] (mR false [4, 1, 30]) [] (p (sB' Yk <| sB' Yk <| sB' Yk <| sB' Yk <| sB' Yk <| sB' Yk <| sB' Yk <| sB' Yk <| sB' Yk <| sB' Yk <| sB' Yk <| sB (show true = true from rfl) <| sN)) (by kernel_rfl) (by intro h; cases h)
  | false =>
   have Yo := odf Ye
   have e : ZE Y0 Yf (k + 1) Yv Yz = (.inr ()) := by simp only [ZE, Ye, cond_false]
   rw [e]
   exact outR (e := (.exit 0)) E0Ok Z3 [] (mR false [0, 3, 5, 4, 23]) [0] (sB Ye <| sN) (by kernel_rfl) (by intro h; cases h)
def Z1R (Y0 : Gm) (Yf : (List Gh)) : (Unit) ⊕ (Unit) := (ZE Y0 Yf (((Yf.length : Int) - 0).toNat + 1) (-1) 0)
def Z1S (Y0 : Gm) (Yf : (List Gh)) : Bool := (cond (Z9 Y0)
  (match (Z1R Y0 Yf) with
    | .inl r2 => false
    | .inr r2 => true)
  false)
theorem Z66 (Y0 : Gm) (Yf : (List Gh)) (hp0 : Y0.Pq.length ≤ 1073741824) (hp1 : Y0.Tr.length ≤ 1073741824) (hp2 : ∀ t ∈ Y0.Tr, t.length ≤ 1073741824) (hp3 : Yf.length ≤ 1073741824)  : Fn prog 83 [.agg [.sl (Y0.Pq.map Gv.c), .sl (Y0.Tr.map (cL (cI .i64)))], .sl (Yf.map Gh.c)] (.b (Z1S Y0 Yf)) [] := by
 have p {a C} (s : Scr a C) := sF (Z4E Y0 hp0 hp1 hp2) <| s
 cases h0 : (Z9 Y0) with
 | true =>
  have q {a C} (s : Scr a C) := p (sB' h0 <| sZ Gh.c Yf <| s)
  clear p
  cases h1 : (Z1R Y0 Yf) with
  | inl r2 =>
   refine fnS E0Ok Z3 (c := bodyOf f83) [] (.b false) [] func83 (q (sL (mR false [0, 3, 2, 1, 2, 6, 21]) 1 (lp_val (Z2s Y0 Yf) (x := (Z1R Y0 Yf)) (Z4h Y0 Yf hp0 hp1 hp2 hp3 h0 (((Yf.length : Int) - 0).toNat + 1) (-1) 0 (show 0 ≤ 0 from (by omega)) (Nat.lt_succ_self _)) h1) <| sK [] sN)) rfl (by kernel_rfl) (by kernel_rfl) rfl ?_ ?_
   · simp only [Z1S, h0, h1, cond_true]
   · rfl
  | inr r2 =>
   refine fnS E0Ok Z3 (c := bodyOf f83) [] (.b true) [] func83 (q (sL (mR false [0, 3, 2, 1, 2, 6, 21]) 1 (lp_val (Z2s Y0 Yf) (x := (Z1R Y0 Yf)) (Z4h Y0 Yf hp0 hp1 hp2 hp3 h0 (((Yf.length : Int) - 0).toNat + 1) (-1) 0 (show 0 ≤ 0 from (by omega)) (Nat.lt_succ_self _)) h1) <| sK [] sN)) rfl (by kernel_rfl) (by kernel_rfl) rfl ?_ ?_
   · simp only [Z1S, h0, h1, cond_true]
   · rfl
 | false =>
  refine fnS E0Ok Z3 (c := bodyOf f83) [] (.b false) [] func83 (p (sB' h0 <| sK [] sN)) rfl (by kernel_rfl) (by kernel_rfl) rfl ?_ ?_
  · simp only [Z1S, h0, cond_false]
  · rfl
def Zn (Y0 : Gm) : Nat → Int → (List Bool) → (List Bool)
  | 0, _, _ => default
  | k + 1, Y3, Y9 => (cond (decide (Y3 < ((Z2 Y0).length : Int)))
    (Zn Y0 k (Y3 + 1) ((Y9.set ((((Z2 Y0).getD Y3.toNat default).e0).toNat) true).set ((((Z2 Y0).getD Y3.toNat default).e1).toNat) true))
    Y9)
def Z2I (Y0 : Gm) (r : (List Bool)) : Ex × St := ((.exit 0), ⟨.agg [.sl (Y0.Pq.map Gv.c), .sl (Y0.Tr.map (cL (cI .i64)))] :: .ptr 0 0 0 :: .nils :: .b false :: .own 1 :: an 5 (.agg [.sl (Y0.Pq.map Gv.c), .sl (Y0.Tr.map (cL (cI .i64)))] :: .b (Z9 Y0) :: .b (!(Z9 Y0)) :: .ptr 0 0 0 :: .sl (Y0.Pq.map Gv.c) :: .i .i64 (Y0.Pq.length : Int) :: .own 1 :: .agg [.sl (Y0.Pq.map Gv.c), .sl (Y0.Tr.map (cL (cI .i64)))] :: .own 2 :: an 39 []), [.box 35 [.sl (Y0.Pq.map Gv.c), .sl (Y0.Tr.map (cL (cI .i64)))], .vec 4 1 (r.map cB) false, .vec 92 2 ((Z2 Y0).map Gedge.cells) false]⟩)
def Z2J (Y0 : Gm) (Y3 : Int) (Y9 : (List Bool)) : St := ⟨.agg [.sl (Y0.Pq.map Gv.c), .sl (Y0.Tr.map (cL (cI .i64)))] :: .ptr 0 0 0 :: .nils :: .b false :: .own 1 :: an 5 (.agg [.sl (Y0.Pq.map Gv.c), .sl (Y0.Tr.map (cL (cI .i64)))] :: .b (Z9 Y0) :: .b (!(Z9 Y0)) :: .ptr 0 0 0 :: .sl (Y0.Pq.map Gv.c) :: .i .i64 (Y0.Pq.length : Int) :: .own 1 :: .agg [.sl (Y0.Pq.map Gv.c), .sl (Y0.Tr.map (cL (cI .i64)))] :: .own 2 :: .i .i64 ((Z2 Y0).length : Int) :: .i .i64 Y3 :: an 37 []), [.box 35 [.sl (Y0.Pq.map Gv.c), .sl (Y0.Tr.map (cL (cI .i64)))], .vec 4 1 (Y9.map cB) false, .vec 92 2 ((Z2 Y0).map Gedge.cells) false]⟩
set_option maxHeartbeats 1000000 in
theorem Z53 (Y0 : Gm) (hp0 : Y0.Pq.length ≤ 1073741824) (hp1 : Y0.Tr.length ≤ 1073741824) (hp2 : ∀ t ∈ Y0.Tr, t.length ≤ 1073741824) (Z6F : (Z9 Y0) = true) : ∀ (k : Nat) (Y3 : Int) (Y9 : (List Bool)) (Z1e : 0 ≤ Y3) (Z3k : Y9.length = Y0.Pq.length) (hk : (((Z2 Y0).length : Int) - Y3).toNat < k), Lp prog 0 (sub (bodyOf f29) [1, 1, 1, 0, 1, 0, 0]) (Z2J Y0 Y3 Y9) (Z2I Y0 (Zn Y0 k Y3 Y9)).1 (Z2I Y0 (Zn Y0 k Y3 Y9)).2 := by
 intro k
 induction k with
 | zero => intro Y3 Y9 Z1e Z3k hk; exact absurd hk (Nat.not_lt_zero _)
 | succ k ih =>
  intro Y3 Y9 Z1e Z3k hk
  cases Ye : (decide (Y3 < ((Z2 Y0).length : Int))) with
  | true =>
   have Yo := odt Ye
   have Yt : (0 : Int) ≤ Y3 := (by assumption)
   have Yu : Y3 < ((Z2 Y0).length : Int) := (by assumption)
   have Yy : Y3.toNat < (Z2 Y0).length := (by omega)
   have YC : (0 : Int) ≤ (((Z2 Y0).getD Y3.toNat default).e0) := (by ((have q := Z2R Y0 (Z2i Y0 (by rw [← Z1F]; assumption)) Z1e (odt (by assumption)); omega)))
   have YE : (((Z2 Y0).getD Y3.toNat default).e0) < (Y9.length : Int) := (by ((have q := Z2R Y0 (Z2i Y0 (by rw [← Z1F]; assumption)) Z1e (odt (by assumption)); omega)))
   have YL : (((Z2 Y0).getD Y3.toNat default).e0).toNat < Y9.length := (by omega)
   have YU : (0 : Int) ≤ (((Z2 Y0).getD Y3.toNat default).e1) := (by ((have q := Z2R Y0 (Z2i Y0 (by rw [← Z1F]; assumption)) Z1e (odt (by assumption)); omega)))
   have y_7 : (((Z2 Y0).getD Y3.toNat default).e1) < ((Y9.set ((((Z2 Y0).getD Y3.toNat default).e0).toNat) true).length : Int) := (by ((have q := Z2R Y0 (Z2i Y0 (by rw [← Z1F]; assumption)) Z1e (odt (by assumption)); (simp_all <;> omega))))
   have y_8 : (((Z2 Y0).getD Y3.toNat default).e1).toNat < (Y9.set ((((Z2 Y0).getD Y3.toNat default).e0).toNat) true).length := (by omega)
   have y_9 : (-9223372036854775808 : Int) ≤ (Y3 + 1) := (by omega)
   have Y12 : (Y3 + 1) ≤ (9223372036854775807 : Int) := (by ((have q := Z2R Y0 (Z2i Y0 (by rw [← Z1F]; assumption)) Z1e (odt (by assumption)); omega)))
   have e : Zn Y0 (k + 1) Y3 Y9 = (Zn Y0 k (Y3 + 1) ((Y9.set ((((Z2 Y0).getD Y3.toNat default).e0).toNat) true).set ((((Z2 Y0).getD Y3.toNat default).e1).toNat) true)) := by simp only [Zn, Ye, cond_true]
   rw [e]
   exact nextS E0Ok Z3 [] (mR false [0, 5, 5, 11, 37]) [0, 1, 2] (⟨.agg [.sl (Y0.Pq.map Gv.c), .sl (Y0.Tr.map (cL (cI .i64)))] :: .ptr 0 0 0 :: .nils :: .b false :: .own 1 :: an 5 (.agg [.sl (Y0.Pq.map Gv.c), .sl (Y0.Tr.map (cL (cI .i64)))] :: .b (Z9 Y0) :: .b (!(Z9 Y0)) :: .ptr 0 0 0 :: .sl (Y0.Pq.map Gv.c) :: .i .i64 (Y0.Pq.length : Int) :: .own 1 :: .agg [.sl (Y0.Pq.map Gv.c), .sl (Y0.Tr.map (cL (cI .i64)))] :: .own 2 :: .i .i64 ((Z2 Y0).length : Int) :: .i .i64 (Y3 + 1) :: an 37 []), [.box 35 [.sl (Y0.Pq.map Gv.c), .sl (Y0.Tr.map (cL (cI .i64)))], .vec 4 1 (((Y9.map cB).set ((((Z2 Y0).getD Y3.toNat default).e0).toNat) [.b true]).set ((((Z2 Y0).getD Y3.toNat default).e1).toNat) [.b true]) false, .vec 92 2 ((Z2 Y0).map Gedge.cells) false]⟩) (sB Ye <| sX Gedge.cells (Z2 Y0) Y3 Yt Yu <| sV Gedge.cells (Z2 Y0) Y3.toNat Yy <| sR (regionG E0Ok Z3 (id := 7) (ops := opsOf (sub (bodyOf f29) [1, 1, 1, 0, 1, 0, 0, 1, 1, 0, 0, 1])) (⟨.agg [.sl (Y0.Pq.map Gv.c), .sl (Y0.Tr.map (cL (cI .i64)))] :: .ptr 0 0 0 :: .nils :: .b false :: .own 1 :: .any :: .ptr 3 0 0 :: .any :: .any :: .any :: .agg [.sl (Y0.Pq.map Gv.c), .sl (Y0.Tr.map (cL (cI .i64)))] :: .b (Z9 Y0) :: .b (!(Z9 Y0)) :: .ptr 0 0 0 :: .sl (Y0.Pq.map Gv.c) :: .i .i64 (Y0.Pq.length : Int) :: .own 1 :: .agg [.sl (Y0.Pq.map Gv.c), .sl (Y0.Tr.map (cL (cI .i64)))] :: .own 2 :: .i .i64 ((Z2 Y0).length : Int) :: .i .i64 Y3 :: .b (decide (Y3 < ((Z2 Y0).length : Int))) :: .ptr 2 Y3.toNat 0 :: .agg [.i .i64 (((Z2 Y0).getD Y3.toNat default).e0), .i .i64 (((Z2 Y0).getD Y3.toNat default).e1)] :: an 34 [], [.box 35 [.sl (Y0.Pq.map Gv.c), .sl (Y0.Tr.map (cL (cI .i64)))], .vec 4 1 (Y9.map cB) false, .vec 92 2 ((Z2 Y0).map Gedge.cells) false, .box 92 [.i .i64 (((Z2 Y0).getD Y3.toNat default).e0), .i .i64 (((Z2 Y0).getD Y3.toNat default).e1)]]⟩) (⟨.agg [.sl (Y0.Pq.map Gv.c), .sl (Y0.Tr.map (cL (cI .i64)))] :: .ptr 0 0 0 :: .nils :: .b false :: .own 1 :: .any :: .ptr 3 0 0 :: .any :: .any :: .any :: .agg [.sl (Y0.Pq.map Gv.c), .sl (Y0.Tr.map (cL (cI .i64)))] :: .b (Z9 Y0) :: .b (!(Z9 Y0)) :: .ptr 0 0 0 :: .sl (Y0.Pq.map Gv.c) :: .i .i64 (Y0.Pq.length : Int) :: .own 1 :: .agg [.sl (Y0.Pq.map Gv.c), .sl (Y0.Tr.map (cL (cI .i64)))] :: .own 2 :: .i .i64 ((Z2 Y0).length : Int) :: .i .i64 Y3 :: .b (decide (Y3 < ((Z2 Y0).length : Int))) :: .ptr 2 Y3.toNat 0 :: .agg [.i .i64 (((Z2 Y0).getD Y3.toNat default).e0), .i .i64 (((Z2 Y0).getD Y3.toNat default).e1)] :: .own 1 :: .ptr 3 0 0 :: .i .i64 (((Z2 Y0).getD Y3.toNat default).e0) :: .own 1 :: .ptr 3 0 1 :: .i .i64 (((Z2 Y0).getD Y3.toNat default).e1) :: .ptr 1 (((Z2 Y0).getD Y3.toNat default).e0).toNat 0 :: .ptr 1 (((Z2 Y0).getD Y3.toNat default).e1).toNat 0 :: an 26 [], [.box 35 [.sl (Y0.Pq.map Gv.c), .sl (Y0.Tr.map (cL (cI .i64)))], .vec 4 1 (((Y9.map cB).set ((((Z2 Y0).getD Y3.toNat default).e0).toNat) [.b true]).set ((((Z2 Y0).getD Y3.toNat default).e1).toNat) [.b true]) false, .vec 92 2 ((Z2 Y0).map Gedge.cells) false, .box 92 [.i .i64 (((Z2 Y0).getD Y3.toNat default).e0), .i .i64 (((Z2 Y0).getD Y3.toNat default).e1)]]⟩) 0 [(some 24, .own 1), (some 25, .ptr 3 0 0), (some 26, .i .i64 (((Z2 Y0).getD Y3.toNat default).e0)), (some 27, .own 1), (some 28, .ptr 3 0 1), (some 29, .i .i64 (((Z2 Y0).getD Y3.toNat default).e1)), (some 30, .ptr 1 (((Z2 Y0).getD Y3.toNat default).e0).toNat 0), (none, .any), (some 31, .ptr 1 (((Z2 Y0).getD Y3.toNat default).e1).toNat 0), (none, .any)] [(7, 1, .vec 4 1 ((Y9.map cB).set ((((Z2 Y0).getD Y3.toNat default).e0).toNat) [.b true]) false), (9, 1, .vec 4 1 (((Y9.map cB).set ((((Z2 Y0).getD Y3.toNat default).e0).toNat) [.b true]).set ((((Z2 Y0).getD Y3.toNat default).e1).toNat) [.b true]) false)] [4, 4, 4, 4, 4, 4, 4, 4, 4, 4] [⟨_, _, sN⟩, ⟨_, _, sC (show (0 : Int) ≤ 0 ∧ 0 < ((2 : Nat) : Int) from (by decide)) <| sN⟩, ⟨_, _, sN⟩, ⟨_, _, sN⟩, ⟨_, _, sC (show (0 : Int) ≤ 1 ∧ 1 < ((2 : Nat) : Int) from (by decide)) <| sN⟩, ⟨_, _, sN⟩, ⟨_, _, sX cB Y9 (((Z2 Y0).getD Y3.toNat default).e0) YC YE <| sN⟩, ⟨_, _, sC (maplt (c := cB) (l := Y9) YL) <| sN⟩, ⟨_, _, sC (show 0 ≤ (((Z2 Y0).getD Y3.toNat default).e1) ∧ Int.toNat (((Z2 Y0).getD Y3.toNat default).e1) < ((Y9.map cB).set ((((Z2 Y0).getD Y3.toNat default).e0).toNat) [.b true]).length from (by simpa using idx_ok (c := cB) (l := (Y9.set ((((Z2 Y0).getD Y3.toNat default).e0).toNat) true)) (i := ((Z2 Y0).getD Y3.toNat default).e1) YU y_7)) <| sN⟩, ⟨_, _, sC (show (((Z2 Y0).getD Y3.toNat default).e1).toNat < ((Y9.map cB).set ((((Z2 Y0).getD Y3.toNat default).e0).toNat) [.b true]).length from (by simpa using y_8)) <| sN⟩] [0, 1, 2, 8, 16, 3, 9, 17, 6, 10, 18, 24, 48, 7, 11, 19, 25, 49, 14, 22, 26, 50, 56, 15, 23, 71, 27, 51, 57, 30, 54, 58, 31, 79, 55, 87, 199, 59, 62, 63, 95, 207, 119, 215, 127, 223, 247, 255, 511, 1023] (by kernel_rfl) (by kernel_rfl) (by kernel_rfl) (by kernel_rfl)) <| sI (Y3 + 1) y_9 Y12 <| sN) (by kernel_rfl) (by simp [Z2J, List.map_set, cB]) (ih (Y3 + 1) ((Y9.set ((((Z2 Y0).getD Y3.toNat default).e0).toNat) true).set ((((Z2 Y0).getD Y3.toNat default).e1).toNat) true) (show 0 ≤ (Y3 + 1) from (by omega)) (show ((Y9.set ((((Z2 Y0).getD Y3.toNat default).e0).toNat) true).set ((((Z2 Y0).getD Y3.toNat default).e1).toNat) true).length = Y0.Pq.length from (by ((have q := Z2R Y0 (Z2i Y0 (by rw [← Z1F]; assumption)) Z1e (odt (by assumption)); (simp_all <;> omega))))) (by omega))
  | false =>
   have Yo := odf Ye
   have e : Zn Y0 (k + 1) Y3 Y9 = Y9 := by simp only [Zn, Ye, cond_false]
   rw [e]
   exact outR (e := (.exit 0)) E0Ok Z3 [] (mR false [0, 5, 5, 9, 39]) [0, 1, 2] (sB Ye <| sN) (by kernel_rfl) (by intro h; cases h)
theorem Z4O (Y0 : Gm) : ∀ (k : Nat) (Y3 : Int) (Y9 : (List Bool)) (hk : (((Z2 Y0).length : Int) - Y3).toNat < k), (Zn Y0 k Y3 Y9).length = Y9.length := by
  intro k
  induction k with
  | zero => intro Y3 Y9 hk; exact absurd hk (Nat.not_lt_zero _)
  | succ k ih =>
    intro Y3 Y9 hk
    cases Ye : (decide (Y3 < ((Z2 Y0).length : Int))) with
    | true =>
      have e : Zn Y0 (k + 1) Y3 Y9 = (Zn Y0 k (Y3 + 1) ((Y9.set ((((Z2 Y0).getD Y3.toNat default).e0).toNat) true).set ((((Z2 Y0).getD Y3.toNat default).e1).toNat) true)) := by simp only [Zn, Ye, cond_true]
      rw [e, ih (Y3 + 1) ((Y9.set ((((Z2 Y0).getD Y3.toNat default).e0).toNat) true).set ((((Z2 Y0).getD Y3.toNat default).e1).toNat) true) (by simp_all <;> omega)]; simp
    | false =>
      have e : Zn Y0 (k + 1) Y3 Y9 = Y9 := by simp only [Zn, Ye, cond_false]
      first | (rw [e]; done) | (rw [e]; rfl)
def Z8 (Y0 : Gm) : (List Bool) := (Zn Y0 ((((Z2 Y0).length : Int) - 0).toNat + 1) 0 (List.replicate (Y0.Pq.length : Int).toNat false))
@[simp] theorem Z6d (Y0 : Gm) : (Z8 Y0).length = ((List.replicate (Y0.Pq.length : Int).toNat false) : (List Bool)).length := Z4O Y0 ((((Z2 Y0).length : Int) - 0).toNat + 1) 0 (List.replicate (Y0.Pq.length : Int).toNat false) (by exact Nat.lt_succ_self _)
theorem Z4M (m : Gm) : (Z8 m).length = m.Pq.length := by
  have h : ∀ (k : Nat) (i : Int) (r : List Bool), (((Z2 m).length : Int) - i).toNat < k → (Zn m k i r).length = r.length := by
    intro k
    induction k with
    | zero => intro i r hk; exact absurd hk (Nat.not_lt_zero _)
    | succ k ih =>
      intro i r hk
      rw [Zn]
      by_cases hi : i < ((Z2 m).length : Int)
      · rw [decide_eq_true hi, cond_true, ih _ _ (by omega)]; simp
      · rw [decide_eq_false hi, cond_false]
  unfold Z8
  rw [h _ _ _ (Nat.lt_succ_self _)]; simp
def Zy (Y0 : Gm) : Nat → Int → (List Gh) → (List Gh)
  | 0, _, _ => default
  | k + 1, Y3, Yx => (cond (decide (Y3 < ((Z8 Y0).length : Int)))
    (cond ((Z8 Y0).getD Y3.toNat default)
      (Zy Y0 k (Y3 + 1) (Yx ++ [(⟨Y3, 0, (Y0.Pq.getD Y3.toNat default), (⟨0, 0, 0⟩ : Gv)⟩ : Gh)]))
      (Zy Y0 k (Y3 + 1) Yx))
    Yx)
def Z2K (Y0 : Gm) (r : (List Gh)) : Ex × St := ((.exit 2), ⟨.agg [.sl (Y0.Pq.map Gv.c), .sl (Y0.Tr.map (cL (cI .i64)))] :: .ptr 0 0 0 :: .nils :: .b false :: .own 1 :: .any :: .any :: .own 2 :: .any :: .any :: .agg [.sl (Y0.Pq.map Gv.c), .sl (Y0.Tr.map (cL (cI .i64)))] :: .b (Z9 Y0) :: .b (!(Z9 Y0)) :: .ptr 0 0 0 :: .sl (Y0.Pq.map Gv.c) :: .i .i64 (Y0.Pq.length : Int) :: .own 1 :: .agg [.sl (Y0.Pq.map Gv.c), .sl (Y0.Tr.map (cL (cI .i64)))] :: .own 3 :: an 15 (.own 1 :: an 23 []), [.box 35 [.sl (Y0.Pq.map Gv.c), .sl (Y0.Tr.map (cL (cI .i64)))], .vec 4 1 ((Z8 Y0).map cB) false, .vec 99 8 (r.map Gh.c) false, .vec 92 2 ((Z2 Y0).map Gedge.cells) false]⟩)
def Z2L (Y0 : Gm) (Y3 : Int) (Yx : (List Gh)) : St := ⟨.agg [.sl (Y0.Pq.map Gv.c), .sl (Y0.Tr.map (cL (cI .i64)))] :: .ptr 0 0 0 :: .nils :: .b false :: .own 1 :: .any :: .any :: .own 3 :: .any :: .any :: .agg [.sl (Y0.Pq.map Gv.c), .sl (Y0.Tr.map (cL (cI .i64)))] :: .b (Z9 Y0) :: .b (!(Z9 Y0)) :: .ptr 0 0 0 :: .sl (Y0.Pq.map Gv.c) :: .i .i64 (Y0.Pq.length : Int) :: .own 1 :: .agg [.sl (Y0.Pq.map Gv.c), .sl (Y0.Tr.map (cL (cI .i64)))] :: .own 2 :: an 15 (.own 1 :: .i .i64 ((Z8 Y0).length : Int) :: .i .i64 Y3 :: an 21 []), [.box 35 [.sl (Y0.Pq.map Gv.c), .sl (Y0.Tr.map (cL (cI .i64)))], .vec 4 1 ((Z8 Y0).map cB) false, .vec 92 2 ((Z2 Y0).map Gedge.cells) false, .vec 99 8 (Yx.map Gh.c) false]⟩
def Z2v : List Bool := (mR false [0, 5, 2, 1, 2, 9, 15, 3, 21])
def Z4P : List Bool := (mR false [0, 5, 2, 1, 2, 9, 15, 1, 23])
set_option maxHeartbeats 1000000 in
theorem Z54 (Y0 : Gm) (hp0 : Y0.Pq.length ≤ 1073741824) (hp1 : Y0.Tr.length ≤ 1073741824) (hp2 : ∀ t ∈ Y0.Tr, t.length ≤ 1073741824) (Z6G : (Z9 Y0) = true) : ∀ (k : Nat) (Y3 : Int) (Yx : (List Gh)) (Z3l : 0 ≤ Y3) (Z3m : (Yx.length : Int) ≤ Y3) (hk : (((Z8 Y0).length : Int) - Y3).toNat < k), Lp prog 0 (sub (bodyOf f29) [1, 1, 1, 1, 1, 0, 1, 0, 0]) (Z2L Y0 Y3 Yx) (Z2K Y0 (Zy Y0 k Y3 Yx)).1 (Z2K Y0 (Zy Y0 k Y3 Yx)).2 := by
 intro k
 induction k with
 | zero => intro Y3 Yx Z3l Z3m hk; exact absurd hk (Nat.not_lt_zero _)
 | succ k ih =>
  intro Y3 Yx Z3l Z3m hk
  cases Ye : (decide (Y3 < ((Z8 Y0).length : Int))) with
  | true =>
   have Yo := odt Ye
   have Yt : (0 : Int) ≤ Y3 := (by assumption)
   have Yu : Y3 < ((Z8 Y0).length : Int) := (by assumption)
   have Yy : Y3.toNat < (Z8 Y0).length := (by omega)
   have p {a C} (s : Scr a C) := sB Ye <| sX cB (Z8 Y0) Y3 Yt Yu <| sV cB (Z8 Y0) Y3.toNat Yy <| s
   cases Yk : ((Z8 Y0).getD Y3.toNat default) with
   | true =>
    have YC : Y3 < (Y0.Pq.length : Int) := by clear p; exact (by (have q := Z4M Y0; omega))
    have YE : Yx.length + ([(⟨Y3, 0, (Y0.Pq.getD Y3.toNat default), (⟨0, 0, 0⟩ : Gv)⟩ : Gh)]).length ≤ 1073741824 := by clear p; exact (by ((have q := Z4M Y0; (simp only [List.length_cons, List.length_nil]; omega))))
    have YL : (-9223372036854775808 : Int) ≤ (Y3 + 1) := by clear p; exact (by omega)
    have YU : (Y3 + 1) ≤ (9223372036854775807 : Int) := by clear p; exact (by omega)
    have e : Zy Y0 (k + 1) Y3 Yx = (Zy Y0 k (Y3 + 1) (Yx ++ [(⟨Y3, 0, (Y0.Pq.getD Y3.toNat default), (⟨0, 0, 0⟩ : Gv)⟩ : Gh)])) := by simp only [Zy, Ye, Yk, cond_true]
    rw [e]
    exact nextS E0Ok Z3 [] Z2v [0, 1, 2, 3] (⟨.agg [.sl (Y0.Pq.map Gv.c), .sl (Y0.Tr.map (cL (cI .i64)))] :: .ptr 0 0 0 :: .nils :: .b false :: .own 1 :: .any :: .any :: .own 3 :: .any :: .any :: .agg [.sl (Y0.Pq.map Gv.c), .sl (Y0.Tr.map (cL (cI .i64)))] :: .b (Z9 Y0) :: .b (!(Z9 Y0)) :: .ptr 0 0 0 :: .sl (Y0.Pq.map Gv.c) :: .i .i64 (Y0.Pq.length : Int) :: .own 1 :: .agg [.sl (Y0.Pq.map Gv.c), .sl (Y0.Tr.map (cL (cI .i64)))] :: .own 2 :: an 15 (.own 1 :: .i .i64 ((Z8 Y0).length : Int) :: .i .i64 (Y3 + 1) :: an 21 []), [.box 35 [.sl (Y0.Pq.map Gv.c), .sl (Y0.Tr.map (cL (cI .i64)))], .vec 4 1 ((Z8 Y0).map cB) false, .vec 92 2 ((Z2 Y0).map Gedge.cells) false, .vec 99 8 ((Yx.map Gh.c) ++ ([[.i .i64 Y3, .i .i64 0, .f .f32 ((Y0.Pq.getD Y3.toNat default).X), .f .f32 ((Y0.Pq.getD Y3.toNat default).Y), .f .f32 ((Y0.Pq.getD Y3.toNat default).Z), .f .f32 0, .f .f32 0, .f .f32 0]] : List (List AV))) false]⟩) (p (sB Yk <| sG Gv.c Y0.Pq Y3 Yt YC <| sC (show (Yx.map Gh.c).length + ([[.i .i64 Y3, .i .i64 0, .f .f32 ((Y0.Pq.getD Y3.toNat default).X), .f .f32 ((Y0.Pq.getD Y3.toNat default).Y), .f .f32 ((Y0.Pq.getD Y3.toNat default).Z), .f .f32 0, .f .f32 0, .f .f32 0]] : List (List AV)).length ≤ 1073741824 from (by simpa using YE)) <| sI (Y3 + 1) YL YU <| sN)) (by kernel_rfl) (by simp [Z2L, Gh.c]) (ih (Y3 + 1) (Yx ++ [(⟨Y3, 0, (Y0.Pq.getD Y3.toNat default), (⟨0, 0, 0⟩ : Gv)⟩ : Gh)]) (show 0 ≤ (Y3 + 1) from (by omega)) (show ((Yx ++ [(⟨Y3, 0, (Y0.Pq.getD Y3.toNat default), (⟨0, 0, 0⟩ : Gv)⟩ : Gh)]).length : Int) ≤ (Y3 + 1) from (by simp_all <;> omega)) (by omega))
   | false =>
    have YC : (-9223372036854775808 : Int) ≤ (Y3 + 1) := by clear p; exact (by omega)
    have YE : (Y3 + 1) ≤ (9223372036854775807 : Int) := by clear p; exact (by (have q := Z4M Y0; omega))
    have e : Zy Y0 (k + 1) Y3 Yx = (Zy Y0 k (Y3 + 1) Yx) := by simp only [Zy, Ye, Yk, cond_true, cond_false]
    rw [e]
    exact nextR E0Ok Z3 [] Z2v [0, 1, 2, 3] (ih (Y3 + 1) Yx (show 0 ≤ (Y3 + 1) from (by omega)) (show (Yx.length : Int) ≤ (Y3 + 1) from (by omega)) (by omega)) (p (sB Yk <| sI (Y3 + 1) YC YE <| sN)) (by kernel_rfl)
  | false =>
   have Yo := odf Ye
   have e : Zy Y0 (k + 1) Y3 Yx = Yx := by simp only [Zy, Ye, cond_false]
   rw [e]
   exact outR (e := (.exit 2)) E0Ok Z3 [] Z4P [0, 1, 3, 2] (sB Ye <| sN) (by kernel_rfl) (by intro h; cases h)
def ZM (Y0 : Gm) : (List Gh) := (Zy Y0 ((((Z8 Y0).length : Int) - 0).toNat + 1) 0 ([] : List Gh))
theorem Z6C (m : Gm) : ZM m = (((List.range m.Pq.length).filter fun p => (Z8 m).getD p default).map fun (p : Nat) => (⟨(p : Int), 0, m.Pq.getD p default, ⟨0, 0, 0⟩⟩ : Gh)) := by
  unfold ZM
  rw [filt_loop (n := ((Z8 m).length : Int)) (f := fun i => !((Z8 m).getD i.toNat default)) (g := fun i => (⟨i, 0, m.Pq.getD i.toNat default, ⟨0, 0, 0⟩⟩ : Gh)) (lo := Zy m) (fun k i r => by
    rw [Zy]
    cases (Z8 m).getD i.toNat default <;> rfl) _ _ _ (Nat.lt_succ_self _)]
  have h1 : ∀ j : Nat, ((0 : Int) + (j : Int)).toNat = j := fun j => by omega
  have h2 : ∀ j : Nat, ((0 : Int) + (j : Int)) = (j : Int) := fun j => by omega
  rw [List.nil_append, show (((Z8 m).length : Int) - 0).toNat = m.Pq.length from by rw [Z4M]; omega]
  simp only [Bool.not_not, h1, h2, Int.toNat_natCast]
theorem Z71 (m : Gm) : (ZM m).length ≤ m.Pq.length := by
  rw [Z6C, List.length_map]
  exact Nat.le_trans (List.length_filter_le _ _) (by simp)
def Za (Y0 : Gm) : (List Gh) × Bool := (cond (Z9 Y0)
  (cond (Z1S Y0 (ZM Y0))
    ((ZM Y0), true)
    (([] : List Gh), false))
  (([] : List Gh), false))
theorem Z7b (m : Gm) (ok : OkE m.Pq.length m.Tr) : ZM m = (bpL m.Pq.length m.Tr).map (mkH m) := by
  rw [Z6C]
  unfold bpL
  rw [List.map_map]
  have hf : ((List.range m.Pq.length).filter fun p => (Z8 m).getD p default) = (List.range m.Pq.length).filter fun (p : Nat) => (brL m.Pq.length m.Tr).any fun e => decide (e.e0 = (p : Int)) || decide (e.e1 = (p : Int)) := by
    refine List.filter_congr fun p hp => ?_
    rw [List.mem_range] at hp
    unfold Z8
    rw [flag2_loop (a := Z2 m) (lo := Zn m) (fun k i r => rfl) p _ _ _ (Int.le_refl 0) (Nat.lt_succ_self _) (by simpa using hp)]
    rw [Int.toNat_zero, List.drop_zero, Z46 m ok]
    have h0 : (List.replicate (m.Pq.length : Int).toNat false).getD p default = false := by
      rw [List.getD_eq_getElem?_getD, List.getElem?_replicate]; split <;> rfl
    rw [h0, Bool.false_or]
    rw [Bool.eq_iff_iff, List.any_eq_true, List.any_eq_true]
    constructor
    · rintro ⟨e, he, h⟩
      have := brL_at he
      refine ⟨e, he, ?_⟩
      simp only [Bool.or_eq_true, beq_iff_eq, decide_eq_true_eq] at h ⊢
      omega
    · rintro ⟨e, he, h⟩
      have := brL_at he
      refine ⟨e, he, ?_⟩
      simp only [Bool.or_eq_true, beq_iff_eq, decide_eq_true_eq] at h ⊢
      omega
  rw [hf]
  refine List.map_congr_left fun p _ => ?_
  show _ = mkH m (p : Int)
  unfold mkH
  rw [show ((p : Nat) : Int).toNat = p from by omega]
theorem Z7i (m : Gm) {p : Int} (hp : 0 ≤ p) : Z1w (mkH m p) = ZA (m.Pq.getD p.toNat default) := by
  unfold Z1w mkH
  simp only
  rw [decide_eq_false (by omega), cond_false, show ZY 0 0 2 = true from by kernel_rfl, show ZZ (⟨0, 0, 0⟩ : Gv) = true from by kernel_rfl, show ((0 : Int) == 0) = true from rfl, show ZZ (m.Pq.getD p.toNat default) = ZA (m.Pq.getD p.toNat default) from by kernel_rfl]
  cases ZA (m.Pq.getD p.toNat default) <;> rfl
theorem Z7j (m : Gm) (hn : m.Pq.length ≤ 64) (B : List Int) (hB : B.Pairwise (· < ·)) (hr : ∀ p ∈ B, 0 ≤ p ∧ p < (m.Pq.length : Int)) : ∀ (k : Nat) (i : Int) (last : Int), 0 ≤ i → ((B.length : Int) - i).toNat < k → -1 ≤ last → (∀ p ∈ B.drop i.toNat, last < p) → last < 64 →
    ZE m (B.map (mkH m)) k last i = cond ((B.drop i.toNat).all fun p => ZA (m.Pq.getD p.toNat default)) (.inr ()) (.inl ()) := by
  intro k
  induction k with
  | zero => intro i last _ hk; exact absurd hk (Nat.not_lt_zero _)
  | succ k ih =>
    intro i last h0 hk hl hlt h64
    rw [ZE, List.length_map]
    by_cases hi : i < (B.length : Int)
    · have hlen : i.toNat < B.length := by omega
      have hg : (B.map (mkH m)).getD i.toNat default = mkH m B[i.toNat] := by rw [List.getD_eq_getElem?_getD, List.getElem?_map, List.getElem?_eq_getElem hlen]; rfl
      have hb := hr B[i.toNat] (List.getElem_mem hlen)
      have hd : B.drop i.toNat = B[i.toNat] :: B.drop (i.toNat + 1) := List.drop_eq_getElem_cons hlen
      have hlast := hlt B[i.toNat] (by rw [hd]; exact List.mem_cons_self)
      rw [decide_eq_true hi, cond_true, hg, Z7i m hb.1, hd, List.all_cons]
      have hw : ZY (mkH m B[i.toNat]).Place (IntKind.wrap .i64 (last + 1)) (IntKind.wrap .i64 ((m.Pq.length : Int) - 1)) = true := by
        rw [wrap_id (n := last + 1) (by omega) (by omega), wrap_id (n := (m.Pq.length : Int) - 1) (by omega) (by omega)]
        unfold ZY mkH
        simp only
        rw [decide_eq_true (by omega)]
        simp only [cond_true]
        exact decide_eq_true (by omega)
      rw [hw, cond_true]
      have hpw : (B.drop i.toNat).Pairwise (· < ·) := hB.sublist (List.drop_sublist _ _)
      rw [hd, List.pairwise_cons] at hpw
      rw [ih (i + 1) (mkH m B[i.toNat]).Place (by omega) (by omega) (by show -1 ≤ B[i.toNat]; omega) (by rw [show (i + 1).toNat = i.toNat + 1 from by omega]; exact hpw.1) (by show B[i.toNat] < 64; omega), show (i + 1).toNat = i.toNat + 1 from by omega]
      cases ZA (m.Pq.getD B[i.toNat].toNat default) <;> rfl
    · rw [decide_eq_false hi, cond_false, List.drop_eq_nil_of_le (by omega)]; rfl
theorem Z59 (m : Gm) : Za m = Zl m := by
  rw [Z4d]
  unfold Za
  rw [Z1F]
  cases h : Zt m with
  | false => rfl
  | true =>
    have ok := Z2i m h
    rw [cond_true, cond_true, Z7b m ok, Z3N m ok]
    unfold Z1S Z1R
    rw [Z1F, h, cond_true]
    have hr : ∀ p ∈ bpL m.Pq.length m.Tr, 0 ≤ p ∧ p < (m.Pq.length : Int) := by
      intro p hp
      rw [bpL_mem] at hp
      obtain ⟨e, he, h⟩ := hp
      have := brL_at he
      omega
    have hA := Z7j m ok.1 (bpL m.Pq.length m.Tr) (bpL_sorted _ _) hr ((((bpL m.Pq.length m.Tr).map (mkH m)).length : Int) - 0).toNat.succ 0 (-1) (Int.le_refl 0) (by rw [List.length_map]; omega) (Int.le_refl _) (fun p hp => by rw [Int.toNat_zero, List.drop_zero] at hp; have := hr p hp; omega) (by omega)
    rw [Int.toNat_zero, List.drop_zero] at hA
    rw [show ((((bpL m.Pq.length m.Tr).map (mkH m)).length : Int) - 0).toNat + 1 = ((((bpL m.Pq.length m.Tr).map (mkH m)).length : Int) - 0).toNat.succ from rfl, hA]
    cases ((bpL m.Pq.length m.Tr).all fun p => ZA (m.Pq.getD p.toNat default)) <;> rfl
theorem Z4i (m : Gm) : (Za m).1.length ≤ 64 := by rw [Z59]; exact Z4e m
theorem Z4t (Y0 : Gm) (hp0 : Y0.Pq.length ≤ 1073741824) (hp1 : Y0.Tr.length ≤ 1073741824) (hp2 : ∀ t ∈ Y0.Tr, t.length ≤ 1073741824)  : Fn prog 29 [.agg [.sl (Y0.Pq.map Gv.c), .sl (Y0.Tr.map (cL (cI .i64)))]] (.tup [.own 0, .b ((Za Y0).2)]) [.vec 99 8 (((Za Y0).1).map Gh.c) false] := by
 have p {a C} (s : Scr a C) := sF (Z4E Y0 hp0 hp1 hp2) <| s
 cases h0 : (Z9 Y0) with
 | true =>
  have y0 : (0 : Int) ≤ (Y0.Pq.length : Int) := by clear p; exact (by omega)
  have y1 : ((Y0.Pq.length : Int) : Int) ≤ 2147483648 := by clear p; exact (by omega)
  have y2 : OkE Y0.Pq.length Y0.Tr := by clear p; exact (by exact Z2i _ (by rw [← Z1F]; assumption))
  have y3 : (ZM Y0).length ≤ 1073741824 := by clear p; exact (by (have q := Z71 Y0; have q2 := (Z2i Y0 (by rw [← Z1F]; assumption)).1; omega))
  have q {a C} (s : Scr a C) := p (sB' h0 <| sZ Gv.c Y0.Pq <| sC (show (Y0.Pq.length : Int) = (Y0.Pq.length : Int) from rfl) <| sC y0 <| sC y1 <| sF (Z65 Y0 hp0 hp1 hp2 y2) <| sZ Gedge.cells (Z2 Y0) <| sL (mR false [0, 5, 5, 11, 37]) 3 (lp_cast (st2 := ⟨.agg [.sl (Y0.Pq.map Gv.c), .sl (Y0.Tr.map (cL (cI .i64)))] :: .ptr 0 0 0 :: .nils :: .b false :: .own 1 :: an 5 (.agg [.sl (Y0.Pq.map Gv.c), .sl (Y0.Tr.map (cL (cI .i64)))] :: .b (Z9 Y0) :: .b (!(Z9 Y0)) :: .ptr 0 0 0 :: .sl (Y0.Pq.map Gv.c) :: .i .i64 (Y0.Pq.length : Int) :: .own 1 :: .agg [.sl (Y0.Pq.map Gv.c), .sl (Y0.Tr.map (cL (cI .i64)))] :: .own 2 :: .i .i64 ((Z2 Y0).length : Int) :: .i .i64 0 :: an 37 []), [.box 35 [.sl (Y0.Pq.map Gv.c), .sl (Y0.Tr.map (cL (cI .i64)))], .vec 4 1 (List.replicate (Int.toNat (Y0.Pq.length : Int)) [.b false]) false, .vec 92 2 ((Z2 Y0).map Gedge.cells) false]⟩) (lp_val (Z2I Y0) (x := (Z8 Y0)) (Z53 Y0 hp0 hp1 hp2 h0 ((((Z2 Y0).length : Int) - 0).toNat + 1) 0 (List.replicate (Y0.Pq.length : Int).toNat false) (show 0 ≤ 0 from (by omega)) (show (List.replicate (Y0.Pq.length : Int).toNat false).length = Y0.Pq.length from (by simp)) (Nat.lt_succ_self _)) rfl) (by simp [Z2J, cB])) <| sZ cB (Z8 Y0) <| sL Z2v 4 (lp_cast (st2 := ⟨.agg [.sl (Y0.Pq.map Gv.c), .sl (Y0.Tr.map (cL (cI .i64)))] :: .ptr 0 0 0 :: .nils :: .b false :: .own 1 :: .any :: .any :: .own 3 :: .any :: .any :: .agg [.sl (Y0.Pq.map Gv.c), .sl (Y0.Tr.map (cL (cI .i64)))] :: .b (Z9 Y0) :: .b (!(Z9 Y0)) :: .ptr 0 0 0 :: .sl (Y0.Pq.map Gv.c) :: .i .i64 (Y0.Pq.length : Int) :: .own 1 :: .agg [.sl (Y0.Pq.map Gv.c), .sl (Y0.Tr.map (cL (cI .i64)))] :: .own 2 :: an 15 (.own 1 :: .i .i64 ((Z8 Y0).length : Int) :: .i .i64 0 :: an 21 []), [.box 35 [.sl (Y0.Pq.map Gv.c), .sl (Y0.Tr.map (cL (cI .i64)))], .vec 4 1 ((Z8 Y0).map cB) false, .vec 92 2 ((Z2 Y0).map Gedge.cells) false, .vec 99 8 ([] : List (List AV)) false]⟩) (lp_val (Z2K Y0) (x := (ZM Y0)) (Z54 Y0 hp0 hp1 hp2 h0 ((((Z8 Y0).length : Int) - 0).toNat + 1) 0 ([] : List Gh) (show 0 ≤ 0 from (by omega)) (show (([] : List Gh).length : Int) ≤ 0 from (by simp)) (Nat.lt_succ_self _)) rfl) (by simp [Z2L, Gh.c])) <| sF (Z66 Y0 (ZM Y0) hp0 hp1 hp2 y3) <| s)
  clear p
  cases h1 : (Z1S Y0 (ZM Y0)) with
  | true =>
   refine fnS E0Ok Z3 (c := bodyOf f29) [] (.tup [.own 0, .b true]) [.vec 99 8 ((ZM Y0).map Gh.c) false] func29 (q (sB' h1 <| sK [2] sN)) rfl (by kernel_rfl) (by kernel_rfl) rfl ?_ ?_
   · simp only [Za, h0, h1, cond_true]
   · simp [Za, h0, h1]
  | false =>
   refine fnS E0Ok Z3 (c := bodyOf f29) [(.tm 2, .vec 99 8 [] false)] (.tup [.own 0, .b false]) [.vec 99 8 [] false] func29 (q (sB' h1 <| sK [4] sN)) rfl (by kernel_rfl) (by kernel_rfl) rfl ?_ ?_
   · simp only [Za, h0, h1, cond_true, cond_false]
   · simp [Za, h0, h1, Gh.c]
 | false =>
  refine fnS E0Ok Z3 (c := bodyOf f29) [(.tm 2, .vec 99 8 [] false)] (.tup [.own 0, .b false]) [.vec 99 8 [] false] func29 (p (sB' h0 <| sK [1] sN)) rfl (by kernel_rfl) (by kernel_rfl) rfl ?_ ?_
  · simp only [Za, h0, cond_false]
  · simp [Za, h0, Gh.c]
def ZW (Y6 : Nat) (Yc : Nat) : Bool := (cond (fcmp .neq .f64 Y6 Y6)
  (fcmp .neq .f64 Yc Yc)
  (cond (fcmp .neq .f64 Yc Yc)
    false
    (cond (fcmp .eql .f64 Y6 0)
      (cond (fcmp .eql .f64 Yc 0)
        ((fcmp .gtr .f64 (fop .quo .f64 4607182418800017408 Y6) 0) == (fcmp .gtr .f64 (fop .quo .f64 4607182418800017408 Yc) 0))
        (fcmp .eql .f64 Y6 Yc))
      (fcmp .eql .f64 Y6 Yc))))
theorem Z3s (Y6 : Nat) (Yc : Nat)   : Fn prog 11 [.f .f64 Y6, .f .f64 Yc] (.b (ZW Y6 Yc)) [] := by
 cases h0 : (fcmp .neq .f64 Y6 Y6) with
 | true =>
  refine fnS E0Ok Z3 (c := bodyOf f11) [] (.b (fcmp .neq .f64 Yc Yc)) [] func11 (sB h0 <| sB h0 <| sB h0 <| sB h0 <| sB (show true = true from rfl) <| sB h0 <| sB h0 <| sB h0 <| sB h0 <| sK [] sN) rfl (by kernel_rfl) (by kernel_rfl) rfl ?_ ?_
  · simp only [ZW, h0, cond_true]
  · rfl
 | false =>
  have p {a C} (s : Scr a C) := sB h0 <| sB h0 <| sB h0 <| sB h0 <| s
  cases h1 : (fcmp .neq .f64 Yc Yc) with
  | true =>
   refine fnS E0Ok Z3 (c := bodyOf f11) [] (.b false) [] func11 (p (sB h1 <| sB h0 <| sB h0 <| sB h0 <| sB h0 <| sK [] sN)) rfl (by kernel_rfl) (by kernel_rfl) rfl ?_ ?_
   · simp only [ZW, h0, h1, cond_true, cond_false]
   · rfl
  | false =>
   have q {a C} (s : Scr a C) := p (sB h1 <| s)
   clear p
   cases h2 : (fcmp .eql .f64 Y6 0) with
   | true =>
    have p {a C} (s : Scr a C) := q (sB h2 <| sB h2 <| sB h2 <| s)
    clear q
    cases h3 : (fcmp .eql .f64 Yc 0) with
    | true =>
     refine fnS E0Ok Z3 (c := bodyOf f11) [] (.b ((fcmp .gtr .f64 (fop .quo .f64 4607182418800017408 Y6) 0) == (fcmp .gtr .f64 (fop .quo .f64 4607182418800017408 Yc) 0))) [] func11 (p (sB h3 <| sK [] sN)) rfl (by kernel_rfl) (by kernel_rfl) rfl ?_ ?_
     · simp only [ZW, h0, h1, h2, h3, cond_true, cond_false]
     · rfl
    | false =>
     refine fnS E0Ok Z3 (c := bodyOf f11) [] (.b (fcmp .eql .f64 Y6 Yc)) [] func11 (p (sB h3 <| sK [] sN)) rfl (by kernel_rfl) (by kernel_rfl) rfl ?_ ?_
     · simp only [ZW, h0, h1, h2, h3, cond_true, cond_false]
     · rfl
   | false =>
    refine fnS E0Ok Z3 (c := bodyOf f11) [] (.b (fcmp .eql .f64 Y6 Yc)) [] func11 (q (sB h2 <| sB h2 <| sB h2 <| sB (show false = false from rfl) <| sK [] sN)) rfl (by kernel_rfl) (by kernel_rfl) rfl ?_ ?_
    · simp only [ZW, h0, h1, h2, cond_false]
    · rfl
theorem Z6i (x : Nat) : ZW x x = true := by
  unfold ZW
  cases h : fcmp .neq .f64 x x
  · simp only [cond_false]
    have h2 : fcmp .eql .f64 x x = true := by
      unfold fcmp at h ⊢
      simpa using h
    cases fcmp .eql .f64 x 0 <;> simp [h2]
  · rfl
def Z11 (Y6 : Gv) (Yc : Gv) : Bool := (cond (ZW (fcv .f32 .f64 Y6.X) (fcv .f32 .f64 Yc.X))
  (cond (ZW (fcv .f32 .f64 Y6.Y) (fcv .f32 .f64 Yc.Y))
    (cond (ZW (fcv .f32 .f64 Y6.Z) (fcv .f32 .f64 Yc.Z))
      true
      false)
    false)
  false)
theorem Z3S (Y6 : Gv) (Yc : Gv)   : Fn prog 104 [.agg [.f .f32 Y6.X, .f .f32 Y6.Y, .f .f32 Y6.Z], .agg [.f .f32 Yc.X, .f .f32 Yc.Y, .f .f32 Yc.Z]] (.b (Z11 Y6 Yc)) [] := by
 have p {a C} (s : Scr a C) := sC (widenOk Y6.X) <| sC (widenOk Yc.X) <| sF (Z3s (fcv .f32 .f64 Y6.X) (fcv .f32 .f64 Yc.X)) <| s
 cases h0 : (ZW (fcv .f32 .f64 Y6.X) (fcv .f32 .f64 Yc.X)) with
 | true =>
  have q {a C} (s : Scr a C) := p (sB' h0 <| sC (widenOk Y6.Y) <| sC (widenOk Yc.Y) <| sF (Z3s (fcv .f32 .f64 Y6.Y) (fcv .f32 .f64 Yc.Y)) <| s)
  clear p
  cases h1 : (ZW (fcv .f32 .f64 Y6.Y) (fcv .f32 .f64 Yc.Y)) with
  | true =>
   have p {a C} (s : Scr a C) := q (sB' h1 <| sC (widenOk Y6.Z) <| sC (widenOk Yc.Z) <| sF (Z3s (fcv .f32 .f64 Y6.Z) (fcv .f32 .f64 Yc.Z)) <| s)
   clear q
   cases h2 : (ZW (fcv .f32 .f64 Y6.Z) (fcv .f32 .f64 Yc.Z)) with
   | true =>
    refine fnS E0Ok Z3 (c := bodyOf f104) [] (.b true) [] func104 (p (sB' h2 <| sK [] sN)) rfl (by kernel_rfl) (by kernel_rfl) rfl ?_ ?_
    · simp only [Z11, h0, h1, h2, cond_true]
    · rfl
   | false =>
    refine fnS E0Ok Z3 (c := bodyOf f104) [] (.b false) [] func104 (p (sB' h2 <| sK [] sN)) rfl (by kernel_rfl) (by kernel_rfl) rfl ?_ ?_
    · simp only [Z11, h0, h1, h2, cond_true, cond_false]
    · rfl
  | false =>
   refine fnS E0Ok Z3 (c := bodyOf f104) [] (.b false) [] func104 (q (sB' h1 <| sK [] sN)) rfl (by kernel_rfl) (by kernel_rfl) rfl ?_ ?_
   · simp only [Z11, h0, h1, cond_true, cond_false]
   · rfl
 | false =>
  refine fnS E0Ok Z3 (c := bodyOf f104) [] (.b false) [] func104 (p (sB' h0 <| sK [] sN)) rfl (by kernel_rfl) (by kernel_rfl) rfl ?_ ?_
  · simp only [Z11, h0, cond_false]
  · rfl
theorem Z5a (a : Gv) : Z11 a a = true := by
  simp [Z11, Z6i]
def Z1p (Y6 : Gh) (Yc : Gh) : Bool := (cond (Y6.Place != Yc.Place)
  false
  (cond (Y6.Kind != Yc.Kind)
    false
    (cond (Z11 Y6.At Yc.At)
      (cond (Z11 Y6.Way Yc.Way)
        true
        false)
      false)))
theorem Z6q (Y6 : Gh) (Yc : Gh)   : Fn prog 84 [.agg [.i .i64 Y6.Place, .i .i64 Y6.Kind, .f .f32 Y6.At.X, .f .f32 Y6.At.Y, .f .f32 Y6.At.Z, .f .f32 Y6.Way.X, .f .f32 Y6.Way.Y, .f .f32 Y6.Way.Z], .agg [.i .i64 Yc.Place, .i .i64 Yc.Kind, .f .f32 Yc.At.X, .f .f32 Yc.At.Y, .f .f32 Yc.At.Z, .f .f32 Yc.Way.X, .f .f32 Yc.Way.Y, .f .f32 Yc.Way.Z]] (.b (Z1p Y6 Yc)) [] := by
 cases h0 : (Y6.Place != Yc.Place) with
 | true =>
  have gh0 := bne_iff_ne.1 h0
  refine fnS E0Ok Z3 (c := bodyOf f84) [] (.b false) [] func84 (sB h0 <| sK [] sN) rfl (by kernel_rfl) (by kernel_rfl) rfl ?_ ?_
  · simp only [Z1p, h0, cond_true]
  · rfl
 | false =>
  have gh0 := bne_eq_false_iff_eq.1 h0
  have p {a C} (s : Scr a C) := sB h0 <| s
  cases h1 : (Y6.Kind != Yc.Kind) with
  | true =>
   have gh1 := bne_iff_ne.1 h1
   refine fnS E0Ok Z3 (c := bodyOf f84) [] (.b false) [] func84 (p (sB h1 <| sK [] sN)) rfl (by kernel_rfl) (by kernel_rfl) rfl ?_ ?_
   · simp only [Z1p, h0, h1, cond_true, cond_false]
   · rfl
  | false =>
   have gh1 := bne_eq_false_iff_eq.1 h1
   have q {a C} (s : Scr a C) := p (sB h1 <| sF (Z3S Y6.At Yc.At) <| s)
   clear p
   cases h2 : (Z11 Y6.At Yc.At) with
   | true =>
    have p {a C} (s : Scr a C) := q (sB' h2 <| sF (Z3S Y6.Way Yc.Way) <| s)
    clear q
    cases h3 : (Z11 Y6.Way Yc.Way) with
    | true =>
     refine fnS E0Ok Z3 (c := bodyOf f84) [] (.b true) [] func84 (p (sB' h3 <| sK [] sN)) rfl (by kernel_rfl) (by kernel_rfl) rfl ?_ ?_
     · simp only [Z1p, h0, h1, h2, h3, cond_true, cond_false]
     · rfl
    | false =>
     refine fnS E0Ok Z3 (c := bodyOf f84) [] (.b false) [] func84 (p (sB' h3 <| sK [] sN)) rfl (by kernel_rfl) (by kernel_rfl) rfl ?_ ?_
     · simp only [Z1p, h0, h1, h2, h3, cond_true, cond_false]
     · rfl
   | false =>
    refine fnS E0Ok Z3 (c := bodyOf f84) [] (.b false) [] func84 (q (sB' h2 <| sK [] sN)) rfl (by kernel_rfl) (by kernel_rfl) rfl ?_ ?_
    · simp only [Z1p, h0, h1, h2, cond_false]
    · rfl
theorem Z6H (a : Gh) : Z1p a a = true := by
  simp [Z1p, Z6i, Z5a]
def Z14 (Y6 : (List Gh)) (Yc : (List Gh)) : Nat → Int → (Unit) ⊕ (Unit)
  | 0, _ => .inl default
  | k + 1, Y4 => (cond (decide (Y4 < (Y6.length : Int)))
    (cond (Z1p (Y6.getD Y4.toNat default) (Yc.getD Y4.toNat default))
      (Z14 Y6 Yc k (Y4 + 1))
      (.inl ()))
    (.inr ()))
def Z2x (Y6 : (List Gh)) (Yc : (List Gh)) : (Unit) ⊕ (Unit) → Ex × St
  | .inl r => (.ret, ⟨an 4 (.b false :: an 22 []), []⟩)
  | .inr r => ((.exit 0), ⟨.sl (Y6.map Gh.c) :: .sl (Yc.map Gh.c) :: an 4 (.sl (Y6.map Gh.c) :: .i .i64 (Y6.length : Int) :: .sl (Yc.map Gh.c) :: .i .i64 (Yc.length : Int) :: .b ((Y6.length : Int) != (Yc.length : Int)) :: an 16 []), []⟩)
def Z5E (Y6 : (List Gh)) (Yc : (List Gh)) (Y4 : Int) : St := ⟨.sl (Y6.map Gh.c) :: .sl (Yc.map Gh.c) :: .any :: .any :: .any :: .i .i64 Y4 :: .sl (Y6.map Gh.c) :: .i .i64 (Y6.length : Int) :: .sl (Yc.map Gh.c) :: .i .i64 (Yc.length : Int) :: .b ((Y6.length : Int) != (Yc.length : Int)) :: an 16 [], []⟩
theorem Z4u (Y6 : (List Gh)) (Yc : (List Gh)) (hp0 : Y6.length ≤ 1073741824) (hp1 : Yc.length ≤ 1073741824) (Z6V : ((Y6.length : Int) != (Yc.length : Int)) = false) : ∀ (k : Nat) (Y4 : Int) (Z40 : 0 ≤ Y4) (hk : ((Y6.length : Int) - Y4).toNat < k), Lp prog 0 (sub (bodyOf f30) [1, 1, 0, 1, 0, 0]) (Z5E Y6 Yc Y4) (Z2x Y6 Yc (Z14 Y6 Yc k Y4)).1 (Z2x Y6 Yc (Z14 Y6 Yc k Y4)).2 := by
 intro k
 induction k with
 | zero => intro Y4 Z40 hk; exact absurd hk (Nat.not_lt_zero _)
 | succ k ih =>
  intro Y4 Z40 hk
  have p {a C} (s : Scr a C) := sZ Gh.c Y6 <| s
  cases Ye : (decide (Y4 < (Y6.length : Int))) with
  | true =>
   have Yo := odt Ye
   have Yt : (0 : Int) ≤ Y4 := by clear p; exact (by assumption)
   have Yu : Y4 < (Y6.length : Int) := by clear p; exact (by assumption)
   have Yy : Y4 < (Yc.length : Int) := by clear p; exact (by simp_all <;> omega)
   have q {a C} (s : Scr a C) := p (sB Ye <| sK [8, 8] <| sG Gh.c Y6 Y4 Yt Yu <| sG Gh.c Yc Y4 Yt Yy <| sF (Z6q (Y6.getD Y4.toNat default) (Yc.getD Y4.toNat default)) <| s)
   clear p
   cases Yk : (Z1p (Y6.getD Y4.toNat default) (Yc.getD Y4.toNat default)) with
   | true =>
    have YC : (-9223372036854775808 : Int) ≤ (Y4 + 1) := by clear q; exact (by omega)
    have YE : (Y4 + 1) ≤ (9223372036854775807 : Int) := by clear q; exact (by omega)
    have e : Z14 Y6 Yc (k + 1) Y4 = (Z14 Y6 Yc k (Y4 + 1)) := by simp only [Z14, Ye, Yk, cond_true]
    rw [e]
    exact nextR E0Ok Z3 [] (mR false [0, 2, 3, 6, 16]) [] (ih (Y4 + 1) (show 0 ≤ (Y4 + 1) from (by omega)) (by omega)) (q (sB' Yk <| sI (Y4 + 1) YC YE <| sN)) (by kernel_rfl)
   | false =>
    have e : Z14 Y6 Yc (k + 1) Y4 = (.inl ()) := by simp only [Z14, Ye, Yk, cond_true, cond_false]
    rw [e]
    exact outR (e := .ret) E0Ok Z3 [] (mR false [4, 1, 22]) [] (q (sB' Yk <| sN)) (by kernel_rfl) (by intro h; cases h)
  | false =>
   have Yo := odf Ye
   have e : Z14 Y6 Yc (k + 1) Y4 = (.inr ()) := by simp only [Z14, Ye, cond_false]
   rw [e]
   exact outR (e := (.exit 0)) E0Ok Z3 [] (mR false [0, 2, 4, 5, 16]) [] (p (sB Ye <| sN)) (by kernel_rfl) (by intro h; cases h)
def Z1V (Y6 : (List Gh)) (Yc : (List Gh)) : (Unit) ⊕ (Unit) := (Z14 Y6 Yc (((Y6.length : Int) - 0).toNat + 1) 0)
def Z1N (Y6 : (List Gh)) (Yc : (List Gh)) : Bool := (cond ((Y6.length : Int) != (Yc.length : Int))
  false
  (match (Z1V Y6 Yc) with
    | .inl r2 => false
    | .inr r2 => true))
theorem Z44 (Y6 : (List Gh)) (Yc : (List Gh)) (hp0 : Y6.length ≤ 1073741824) (hp1 : Yc.length ≤ 1073741824)  : Fn prog 30 [.sl (Y6.map Gh.c), .sl (Yc.map Gh.c)] (.b (Z1N Y6 Yc)) [] := by
 have p {a C} (s : Scr a C) := sZ Gh.c Y6 <| sZ Gh.c Yc <| s
 cases h0 : ((Y6.length : Int) != (Yc.length : Int)) with
 | true =>
  have gh0 := bne_iff_ne.1 h0
  refine fnS E0Ok Z3 (c := bodyOf f30) [] (.b false) [] func30 (p (sB h0 <| sK [] sN)) rfl (by kernel_rfl) (by kernel_rfl) rfl ?_ ?_
  · simp only [Z1N, h0, cond_true]
  · rfl
 | false =>
  have gh0 := bne_eq_false_iff_eq.1 h0
  have q {a C} (s : Scr a C) := p (sB h0 <| s)
  clear p
  cases h1 : (Z1V Y6 Yc) with
  | inl r2 =>
   refine fnS E0Ok Z3 (c := bodyOf f30) [] (.b false) [] func30 (q (sL (mR false [0, 2, 3, 6, 16]) 0 (lp_val (Z2x Y6 Yc) (x := (Z1V Y6 Yc)) (Z4u Y6 Yc hp0 hp1 h0 (((Y6.length : Int) - 0).toNat + 1) 0 (show 0 ≤ 0 from (by omega)) (Nat.lt_succ_self _)) h1) <| sK [] sN)) rfl (by kernel_rfl) (by kernel_rfl) rfl ?_ ?_
   · simp only [Z1N, h0, h1, cond_false]
   · rfl
  | inr r2 =>
   refine fnS E0Ok Z3 (c := bodyOf f30) [] (.b true) [] func30 (q (sL (mR false [0, 2, 3, 6, 16]) 0 (lp_val (Z2x Y6 Yc) (x := (Z1V Y6 Yc)) (Z4u Y6 Yc hp0 hp1 h0 (((Y6.length : Int) - 0).toNat + 1) 0 (show 0 ≤ 0 from (by omega)) (Nat.lt_succ_self _)) h1) <| sK [] sN)) rfl (by kernel_rfl) (by kernel_rfl) rfl ?_ ?_
   · simp only [Z1N, h0, h1, cond_false]
   · rfl
theorem Z6D (a : List Gh) : Z1N a a = true := by
  unfold Z1N Z1V
  rw [all_from (a := a) (p := fun v => Z1p v v) (lo := Z14 a a) (x := ()) (y := ()) (fun k i => rfl)]
  rw [show (a.all fun v => Z1p v v) = true from by rw [List.all_eq_true]; intro v _; exact Z6H v]
  simp
def ZT (Y6 : (List Gv)) (Yc : (List Gv)) : Nat → Int → (Unit) ⊕ (Unit)
  | 0, _ => .inl default
  | k + 1, Y4 => (cond (decide (Y4 < (Y6.length : Int)))
    (cond (Z11 (Y6.getD Y4.toNat default) (Yc.getD Y4.toNat default))
      (ZT Y6 Yc k (Y4 + 1))
      (.inl ()))
    (.inr ()))
def Z2o (Y6 : (List Gv)) (Yc : (List Gv)) : (Unit) ⊕ (Unit) → Ex × St
  | .inl r => (.ret, ⟨an 4 (.b false :: an 22 []), []⟩)
  | .inr r => ((.exit 0), ⟨.sl (Y6.map Gv.c) :: .sl (Yc.map Gv.c) :: an 4 (.sl (Y6.map Gv.c) :: .i .i64 (Y6.length : Int) :: .sl (Yc.map Gv.c) :: .i .i64 (Yc.length : Int) :: .b ((Y6.length : Int) != (Yc.length : Int)) :: an 16 []), []⟩)
def Z5i (Y6 : (List Gv)) (Yc : (List Gv)) (Y4 : Int) : St := ⟨.sl (Y6.map Gv.c) :: .sl (Yc.map Gv.c) :: .any :: .any :: .any :: .i .i64 Y4 :: .sl (Y6.map Gv.c) :: .i .i64 (Y6.length : Int) :: .sl (Yc.map Gv.c) :: .i .i64 (Yc.length : Int) :: .b ((Y6.length : Int) != (Yc.length : Int)) :: an 16 [], []⟩
theorem Z41 (Y6 : (List Gv)) (Yc : (List Gv)) (hp0 : Y6.length ≤ 1073741824) (hp1 : Yc.length ≤ 1073741824) (Z6P : ((Y6.length : Int) != (Yc.length : Int)) = false) : ∀ (k : Nat) (Y4 : Int) (Z3B : 0 ≤ Y4) (hk : ((Y6.length : Int) - Y4).toNat < k), Lp prog 0 (sub (bodyOf f60) [1, 1, 0, 1, 0, 0]) (Z5i Y6 Yc Y4) (Z2o Y6 Yc (ZT Y6 Yc k Y4)).1 (Z2o Y6 Yc (ZT Y6 Yc k Y4)).2 := by
 intro k
 induction k with
 | zero => intro Y4 Z3B hk; exact absurd hk (Nat.not_lt_zero _)
 | succ k ih =>
  intro Y4 Z3B hk
  have p {a C} (s : Scr a C) := sZ Gv.c Y6 <| s
  cases Ye : (decide (Y4 < (Y6.length : Int))) with
  | true =>
   have Yo := odt Ye
   have Yt : (0 : Int) ≤ Y4 := by clear p; exact (by assumption)
   have Yu : Y4 < (Y6.length : Int) := by clear p; exact (by assumption)
   have Yy : Y4 < (Yc.length : Int) := by clear p; exact (by simp_all <;> omega)
   have q {a C} (s : Scr a C) := p (sB Ye <| sK [8, 8] <| sG Gv.c Y6 Y4 Yt Yu <| sG Gv.c Yc Y4 Yt Yy <| sF (Z3S (Y6.getD Y4.toNat default) (Yc.getD Y4.toNat default)) <| s)
   clear p
   cases Yk : (Z11 (Y6.getD Y4.toNat default) (Yc.getD Y4.toNat default)) with
   | true =>
    have YC : (-9223372036854775808 : Int) ≤ (Y4 + 1) := by clear q; exact (by omega)
    have YE : (Y4 + 1) ≤ (9223372036854775807 : Int) := by clear q; exact (by omega)
    have e : ZT Y6 Yc (k + 1) Y4 = (ZT Y6 Yc k (Y4 + 1)) := by simp only [ZT, Ye, Yk, cond_true]
    rw [e]
    exact nextR E0Ok Z3 [] (mR false [0, 2, 3, 6, 16]) [] (ih (Y4 + 1) (show 0 ≤ (Y4 + 1) from (by omega)) (by omega)) (q (sB' Yk <| sI (Y4 + 1) YC YE <| sN)) (by kernel_rfl)
   | false =>
    have e : ZT Y6 Yc (k + 1) Y4 = (.inl ()) := by simp only [ZT, Ye, Yk, cond_true, cond_false]
    rw [e]
    exact outR (e := .ret) E0Ok Z3 [] (mR false [4, 1, 22]) [] (q (sB' Yk <| sN)) (by kernel_rfl) (by intro h; cases h)
  | false =>
   have Yo := odf Ye
   have e : ZT Y6 Yc (k + 1) Y4 = (.inr ()) := by simp only [ZT, Ye, cond_false]
   rw [e]
   exact outR (e := (.exit 0)) E0Ok Z3 [] (mR false [0, 2, 4, 5, 16]) [] (p (sB Ye <| sN)) (by kernel_rfl) (by intro h; cases h)
def Z1O (Y6 : (List Gv)) (Yc : (List Gv)) : (Unit) ⊕ (Unit) := (ZT Y6 Yc (((Y6.length : Int) - 0).toNat + 1) 0)
def Z1A (Y6 : (List Gv)) (Yc : (List Gv)) : Bool := (cond ((Y6.length : Int) != (Yc.length : Int))
  false
  (match (Z1O Y6 Yc) with
    | .inl r2 => false
    | .inr r2 => true))
theorem Z5S (Y6 : (List Gv)) (Yc : (List Gv)) (hp0 : Y6.length ≤ 1073741824) (hp1 : Yc.length ≤ 1073741824)  : Fn prog 60 [.sl (Y6.map Gv.c), .sl (Yc.map Gv.c)] (.b (Z1A Y6 Yc)) [] := by
 have p {a C} (s : Scr a C) := sZ Gv.c Y6 <| sZ Gv.c Yc <| s
 cases h0 : ((Y6.length : Int) != (Yc.length : Int)) with
 | true =>
  have gh0 := bne_iff_ne.1 h0
  refine fnS E0Ok Z3 (c := bodyOf f60) [] (.b false) [] func60 (p (sB h0 <| sK [] sN)) rfl (by kernel_rfl) (by kernel_rfl) rfl ?_ ?_
  · simp only [Z1A, h0, cond_true]
  · rfl
 | false =>
  have gh0 := bne_eq_false_iff_eq.1 h0
  have q {a C} (s : Scr a C) := p (sB h0 <| s)
  clear p
  cases h1 : (Z1O Y6 Yc) with
  | inl r2 =>
   refine fnS E0Ok Z3 (c := bodyOf f60) [] (.b false) [] func60 (q (sL (mR false [0, 2, 3, 6, 16]) 0 (lp_val (Z2o Y6 Yc) (x := (Z1O Y6 Yc)) (Z41 Y6 Yc hp0 hp1 h0 (((Y6.length : Int) - 0).toNat + 1) 0 (show 0 ≤ 0 from (by omega)) (Nat.lt_succ_self _)) h1) <| sK [] sN)) rfl (by kernel_rfl) (by kernel_rfl) rfl ?_ ?_
   · simp only [Z1A, h0, h1, cond_false]
   · rfl
  | inr r2 =>
   refine fnS E0Ok Z3 (c := bodyOf f60) [] (.b true) [] func60 (q (sL (mR false [0, 2, 3, 6, 16]) 0 (lp_val (Z2o Y6 Yc) (x := (Z1O Y6 Yc)) (Z41 Y6 Yc hp0 hp1 h0 (((Y6.length : Int) - 0).toNat + 1) 0 (show 0 ≤ 0 from (by omega)) (Nat.lt_succ_self _)) h1) <| sK [] sN)) rfl (by kernel_rfl) (by kernel_rfl) rfl ?_ ?_
   · simp only [Z1A, h0, h1, cond_false]
   · rfl
theorem Z6e (a : List Gv) : Z1A a a = true := by
  unfold Z1A Z1O
  rw [all_loop (a := a) (p := fun v => Z11 v v) (lo := ZT a a) (x := ()) (y := ()) (fun k i => rfl) (fun v _ => Z5a v) _ _ (Int.le_refl 0) (Nat.lt_succ_self _)]
  simp
def ZQ (Y6 : (List Int)) (Yc : (List Int)) : Nat → Int → (Unit) ⊕ (Unit)
  | 0, _ => .inl default
  | k + 1, Y4 => (cond (decide (Y4 < (Y6.length : Int)))
    (cond ((Y6.getD Y4.toNat default) != (Yc.getD Y4.toNat default))
      (.inl ())
      (ZQ Y6 Yc k (Y4 + 1)))
    (.inr ()))
def Z2t (Y6 : (List Int)) (Yc : (List Int)) : (Unit) ⊕ (Unit) → Ex × St
  | .inl r => (.ret, ⟨an 4 (.b false :: an 21 []), []⟩)
  | .inr r => ((.exit 0), ⟨.sl (Y6.map (cI .i64)) :: .sl (Yc.map (cI .i64)) :: an 4 (.sl (Y6.map (cI .i64)) :: .i .i64 (Y6.length : Int) :: .sl (Yc.map (cI .i64)) :: .i .i64 (Yc.length : Int) :: .b ((Y6.length : Int) != (Yc.length : Int)) :: an 15 []), []⟩)
def Z5t (Y6 : (List Int)) (Yc : (List Int)) (Y4 : Int) : St := ⟨.sl (Y6.map (cI .i64)) :: .sl (Yc.map (cI .i64)) :: .any :: .any :: .any :: .i .i64 Y4 :: .sl (Y6.map (cI .i64)) :: .i .i64 (Y6.length : Int) :: .sl (Yc.map (cI .i64)) :: .i .i64 (Yc.length : Int) :: .b ((Y6.length : Int) != (Yc.length : Int)) :: an 15 [], []⟩
theorem Z4j (Y6 : (List Int)) (Yc : (List Int)) (hp0 : Y6.length ≤ 1073741824) (hp1 : Yc.length ≤ 1073741824) (Z6U : ((Y6.length : Int) != (Yc.length : Int)) = false) : ∀ (k : Nat) (Y4 : Int) (Z3T : 0 ≤ Y4) (hk : ((Y6.length : Int) - Y4).toNat < k), Lp prog 0 (sub (bodyOf f70) [1, 1, 0, 1, 0, 0]) (Z5t Y6 Yc Y4) (Z2t Y6 Yc (ZQ Y6 Yc k Y4)).1 (Z2t Y6 Yc (ZQ Y6 Yc k Y4)).2 := by
 intro k
 induction k with
 | zero => intro Y4 Z3T hk; exact absurd hk (Nat.not_lt_zero _)
 | succ k ih =>
  intro Y4 Z3T hk
  have p {a C} (s : Scr a C) := sZ (cI .i64) Y6 <| s
  cases Ye : (decide (Y4 < (Y6.length : Int))) with
  | true =>
   have Yo := odt Ye
   have Yt : (0 : Int) ≤ Y4 := by clear p; exact (by assumption)
   have Yu : Y4 < (Y6.length : Int) := by clear p; exact (by assumption)
   have Yy : Y4 < (Yc.length : Int) := by clear p; exact (by simp_all <;> omega)
   have q {a C} (s : Scr a C) := p (sB Ye <| sK [8, 8] <| sG (cI .i64) Y6 Y4 Yt Yu <| sG (cI .i64) Yc Y4 Yt Yy <| s)
   clear p
   cases Yk : ((Y6.getD Y4.toNat default) != (Yc.getD Y4.toNat default)) with
   | true =>
    have YR := bne_iff_ne.1 Yk
    have e : ZQ Y6 Yc (k + 1) Y4 = (.inl ()) := by simp only [ZQ, Ye, Yk, cond_true]
    rw [e]
    exact outR (e := .ret) E0Ok Z3 [] (mR false [4, 1, 21]) [] (q (sB Yk <| sN)) (by kernel_rfl) (by intro h; cases h)
   | false =>
    have YR := bne_eq_false_iff_eq.1 Yk
    have YC : (-9223372036854775808 : Int) ≤ (Y4 + 1) := by clear q; exact (by omega)
    have YE : (Y4 + 1) ≤ (9223372036854775807 : Int) := by clear q; exact (by omega)
    have e : ZQ Y6 Yc (k + 1) Y4 = (ZQ Y6 Yc k (Y4 + 1)) := by simp only [ZQ, Ye, Yk, cond_true, cond_false]
    rw [e]
    exact nextR E0Ok Z3 [] (mR false [0, 2, 3, 6, 15]) [] (ih (Y4 + 1) (show 0 ≤ (Y4 + 1) from (by omega)) (by omega)) (q (sB Yk <| sI (Y4 + 1) YC YE <| sN)) (by kernel_rfl)
  | false =>
   have Yo := odf Ye
   have e : ZQ Y6 Yc (k + 1) Y4 = (.inr ()) := by simp only [ZQ, Ye, cond_false]
   rw [e]
   exact outR (e := (.exit 0)) E0Ok Z3 [] (mR false [0, 2, 4, 5, 15]) [] (p (sB Ye <| sN)) (by kernel_rfl) (by intro h; cases h)
def Z1T (Y6 : (List Int)) (Yc : (List Int)) : (Unit) ⊕ (Unit) := (ZQ Y6 Yc (((Y6.length : Int) - 0).toNat + 1) 0)
def Z1q (Y6 : (List Int)) (Yc : (List Int)) : Bool := (cond ((Y6.length : Int) != (Yc.length : Int))
  false
  (match (Z1T Y6 Yc) with
    | .inl r2 => false
    | .inr r2 => true))
theorem Z67 (Y6 : (List Int)) (Yc : (List Int)) (hp0 : Y6.length ≤ 1073741824) (hp1 : Yc.length ≤ 1073741824)  : Fn prog 70 [.sl (Y6.map (cI .i64)), .sl (Yc.map (cI .i64))] (.b (Z1q Y6 Yc)) [] := by
 have p {a C} (s : Scr a C) := sZ (cI .i64) Y6 <| sZ (cI .i64) Yc <| s
 cases h0 : ((Y6.length : Int) != (Yc.length : Int)) with
 | true =>
  have gh0 := bne_iff_ne.1 h0
  refine fnS E0Ok Z3 (c := bodyOf f70) [] (.b false) [] func70 (p (sB h0 <| sK [] sN)) rfl (by kernel_rfl) (by kernel_rfl) rfl ?_ ?_
  · simp only [Z1q, h0, cond_true]
  · rfl
 | false =>
  have gh0 := bne_eq_false_iff_eq.1 h0
  have q {a C} (s : Scr a C) := p (sB h0 <| s)
  clear p
  cases h1 : (Z1T Y6 Yc) with
  | inl r2 =>
   refine fnS E0Ok Z3 (c := bodyOf f70) [] (.b false) [] func70 (q (sL (mR false [0, 2, 3, 6, 15]) 0 (lp_val (Z2t Y6 Yc) (x := (Z1T Y6 Yc)) (Z4j Y6 Yc hp0 hp1 h0 (((Y6.length : Int) - 0).toNat + 1) 0 (show 0 ≤ 0 from (by omega)) (Nat.lt_succ_self _)) h1) <| sK [] sN)) rfl (by kernel_rfl) (by kernel_rfl) rfl ?_ ?_
   · simp only [Z1q, h0, h1, cond_false]
   · rfl
  | inr r2 =>
   refine fnS E0Ok Z3 (c := bodyOf f70) [] (.b true) [] func70 (q (sL (mR false [0, 2, 3, 6, 15]) 0 (lp_val (Z2t Y6 Yc) (x := (Z1T Y6 Yc)) (Z4j Y6 Yc hp0 hp1 h0 (((Y6.length : Int) - 0).toNat + 1) 0 (show 0 ≤ 0 from (by omega)) (Nat.lt_succ_self _)) h1) <| sK [] sN)) rfl (by kernel_rfl) (by kernel_rfl) rfl ?_ ?_
   · simp only [Z1q, h0, h1, cond_false]
   · rfl
theorem Z6r (a : List Int) : Z1q a a = true := by
  unfold Z1q Z1T
  rw [all_from (a := a) (p := fun v => !(v != v)) (lo := ZQ a a) (x := ()) (y := ()) (fun k i => by rw [ZQ]; cases (a.getD i.toNat default != a.getD i.toNat default) <;> rfl)]
  rw [show (a.all fun v => !(v != v)) = true from by rw [List.all_eq_true]; intro v _; simp]
  simp
def ZU (Y6 : (List (List Int))) (Yc : (List (List Int))) : Nat → Int → (Unit) ⊕ (Unit)
  | 0, _ => .inl default
  | k + 1, Y4 => (cond (decide (Y4 < (Y6.length : Int)))
    (cond (Z1q (Y6.getD Y4.toNat default) (Yc.getD Y4.toNat default))
      (ZU Y6 Yc k (Y4 + 1))
      (.inl ()))
    (.inr ()))
def Z2p (Y6 : (List (List Int))) (Yc : (List (List Int))) : (Unit) ⊕ (Unit) → Ex × St
  | .inl r => (.ret, ⟨an 4 (.b false :: an 22 []), []⟩)
  | .inr r => ((.exit 0), ⟨.sl (Y6.map (cL (cI .i64))) :: .sl (Yc.map (cL (cI .i64))) :: an 4 (.sl (Y6.map (cL (cI .i64))) :: .i .i64 (Y6.length : Int) :: .sl (Yc.map (cL (cI .i64))) :: .i .i64 (Yc.length : Int) :: .b ((Y6.length : Int) != (Yc.length : Int)) :: an 16 []), []⟩)
def Z5j (Y6 : (List (List Int))) (Yc : (List (List Int))) (Y4 : Int) : St := ⟨.sl (Y6.map (cL (cI .i64))) :: .sl (Yc.map (cL (cI .i64))) :: .any :: .any :: .any :: .i .i64 Y4 :: .sl (Y6.map (cL (cI .i64))) :: .i .i64 (Y6.length : Int) :: .sl (Yc.map (cL (cI .i64))) :: .i .i64 (Yc.length : Int) :: .b ((Y6.length : Int) != (Yc.length : Int)) :: an 16 [], []⟩
theorem Z42 (Y6 : (List (List Int))) (Yc : (List (List Int))) (hp0 : Y6.length ≤ 1073741824) (hp1 : ∀ t ∈ Y6, t.length ≤ 1073741824) (hp2 : Yc.length ≤ 1073741824) (hp3 : ∀ t ∈ Yc, t.length ≤ 1073741824) (Z6Q : ((Y6.length : Int) != (Yc.length : Int)) = false) : ∀ (k : Nat) (Y4 : Int) (Z3C : 0 ≤ Y4) (hk : ((Y6.length : Int) - Y4).toNat < k), Lp prog 0 (sub (bodyOf f23) [1, 1, 0, 1, 0, 0]) (Z5j Y6 Yc Y4) (Z2p Y6 Yc (ZU Y6 Yc k Y4)).1 (Z2p Y6 Yc (ZU Y6 Yc k Y4)).2 := by
 intro k
 induction k with
 | zero => intro Y4 Z3C hk; exact absurd hk (Nat.not_lt_zero _)
 | succ k ih =>
  intro Y4 Z3C hk
  have p {a C} (s : Scr a C) := sZ (cL (cI .i64)) Y6 <| s
  cases Ye : (decide (Y4 < (Y6.length : Int))) with
  | true =>
   have Yo := odt Ye
   have Yt : (0 : Int) ≤ Y4 := by clear p; exact (by assumption)
   have Yu : Y4 < (Y6.length : Int) := by clear p; exact (by assumption)
   have Yy : Y4 < (Yc.length : Int) := by clear p; exact (by simp_all <;> omega)
   have YC : (Y6.getD Y4.toNat default).length ≤ 1073741824 := by clear p; exact (by simp_all <;> omega)
   have YE : (Yc.getD Y4.toNat default).length ≤ 1073741824 := by clear p; exact (by simp_all <;> omega)
   have q {a C} (s : Scr a C) := p (sB Ye <| sK [8, 8] <| sG (cL (cI .i64)) Y6 Y4 Yt Yu <| sG (cL (cI .i64)) Yc Y4 Yt Yy <| sF (Z67 (Y6.getD Y4.toNat default) (Yc.getD Y4.toNat default) YC YE) <| s)
   clear p
   cases Yk : (Z1q (Y6.getD Y4.toNat default) (Yc.getD Y4.toNat default)) with
   | true =>
    have YL : (-9223372036854775808 : Int) ≤ (Y4 + 1) := by clear q; exact (by omega)
    have YU : (Y4 + 1) ≤ (9223372036854775807 : Int) := by clear q; exact (by omega)
    have e : ZU Y6 Yc (k + 1) Y4 = (ZU Y6 Yc k (Y4 + 1)) := by simp only [ZU, Ye, Yk, cond_true]
    rw [e]
    exact nextR E0Ok Z3 [] (mR false [0, 2, 3, 6, 16]) [] (ih (Y4 + 1) (show 0 ≤ (Y4 + 1) from (by omega)) (by omega)) (q (sB' Yk <| sI (Y4 + 1) YL YU <| sN)) (by kernel_rfl)
   | false =>
    have e : ZU Y6 Yc (k + 1) Y4 = (.inl ()) := by simp only [ZU, Ye, Yk, cond_true, cond_false]
    rw [e]
    exact outR (e := .ret) E0Ok Z3 [] (mR false [4, 1, 22]) [] (q (sB' Yk <| sN)) (by kernel_rfl) (by intro h; cases h)
  | false =>
   have Yo := odf Ye
   have e : ZU Y6 Yc (k + 1) Y4 = (.inr ()) := by simp only [ZU, Ye, cond_false]
   rw [e]
   exact outR (e := (.exit 0)) E0Ok Z3 [] (mR false [0, 2, 4, 5, 16]) [] (p (sB Ye <| sN)) (by kernel_rfl) (by intro h; cases h)
def Z1P (Y6 : (List (List Int))) (Yc : (List (List Int))) : (Unit) ⊕ (Unit) := (ZU Y6 Yc (((Y6.length : Int) - 0).toNat + 1) 0)
def Z1B (Y6 : (List (List Int))) (Yc : (List (List Int))) : Bool := (cond ((Y6.length : Int) != (Yc.length : Int))
  false
  (match (Z1P Y6 Yc) with
    | .inl r2 => false
    | .inr r2 => true))
theorem Z5T (Y6 : (List (List Int))) (Yc : (List (List Int))) (hp0 : Y6.length ≤ 1073741824) (hp1 : ∀ t ∈ Y6, t.length ≤ 1073741824) (hp2 : Yc.length ≤ 1073741824) (hp3 : ∀ t ∈ Yc, t.length ≤ 1073741824)  : Fn prog 23 [.sl (Y6.map (cL (cI .i64))), .sl (Yc.map (cL (cI .i64)))] (.b (Z1B Y6 Yc)) [] := by
 have p {a C} (s : Scr a C) := sZ (cL (cI .i64)) Y6 <| sZ (cL (cI .i64)) Yc <| s
 cases h0 : ((Y6.length : Int) != (Yc.length : Int)) with
 | true =>
  have gh0 := bne_iff_ne.1 h0
  refine fnS E0Ok Z3 (c := bodyOf f23) [] (.b false) [] func23 (p (sB h0 <| sK [] sN)) rfl (by kernel_rfl) (by kernel_rfl) rfl ?_ ?_
  · simp only [Z1B, h0, cond_true]
  · rfl
 | false =>
  have gh0 := bne_eq_false_iff_eq.1 h0
  have q {a C} (s : Scr a C) := p (sB h0 <| s)
  clear p
  cases h1 : (Z1P Y6 Yc) with
  | inl r2 =>
   refine fnS E0Ok Z3 (c := bodyOf f23) [] (.b false) [] func23 (q (sL (mR false [0, 2, 3, 6, 16]) 0 (lp_val (Z2p Y6 Yc) (x := (Z1P Y6 Yc)) (Z42 Y6 Yc hp0 hp1 hp2 hp3 h0 (((Y6.length : Int) - 0).toNat + 1) 0 (show 0 ≤ 0 from (by omega)) (Nat.lt_succ_self _)) h1) <| sK [] sN)) rfl (by kernel_rfl) (by kernel_rfl) rfl ?_ ?_
   · simp only [Z1B, h0, h1, cond_false]
   · rfl
  | inr r2 =>
   refine fnS E0Ok Z3 (c := bodyOf f23) [] (.b true) [] func23 (q (sL (mR false [0, 2, 3, 6, 16]) 0 (lp_val (Z2p Y6 Yc) (x := (Z1P Y6 Yc)) (Z42 Y6 Yc hp0 hp1 hp2 hp3 h0 (((Y6.length : Int) - 0).toNat + 1) 0 (show 0 ≤ 0 from (by omega)) (Nat.lt_succ_self _)) h1) <| sK [] sN)) rfl (by kernel_rfl) (by kernel_rfl) rfl ?_ ?_
   · simp only [Z1B, h0, h1, cond_false]
   · rfl
theorem Z6f (a : List (List Int)) : Z1B a a = true := by
  unfold Z1B Z1P
  rw [all_from (a := a) (p := fun v => Z1q v v) (lo := ZU a a) (x := ()) (y := ()) (fun k i => rfl)]
  rw [show (a.all fun v => Z1q v v) = true from by rw [List.all_eq_true]; intro v _; exact Z6r v]
  simp
def Z1U (Y6 : Gm) (Yc : Gm) : Bool := (cond (Z1A Y6.Pq Yc.Pq)
  (cond (Z1B Y6.Tr Yc.Tr)
    true
    false)
  false)
theorem Z6s (Y6 : Gm) (Yc : Gm) (hp0 : Y6.Pq.length ≤ 1073741824) (hp1 : Y6.Tr.length ≤ 1073741824) (hp2 : ∀ t ∈ Y6.Tr, t.length ≤ 1073741824) (hp3 : Yc.Pq.length ≤ 1073741824) (hp4 : Yc.Tr.length ≤ 1073741824) (hp5 : ∀ t ∈ Yc.Tr, t.length ≤ 1073741824)  : Fn prog 16 [.agg [.sl (Y6.Pq.map Gv.c), .sl (Y6.Tr.map (cL (cI .i64)))], .agg [.sl (Yc.Pq.map Gv.c), .sl (Yc.Tr.map (cL (cI .i64)))]] (.b (Z1U Y6 Yc)) [] := by
 have p {a C} (s : Scr a C) := sF (Z5S Y6.Pq Yc.Pq hp0 hp3) <| s
 cases h0 : (Z1A Y6.Pq Yc.Pq) with
 | true =>
  have q {a C} (s : Scr a C) := p (sB' h0 <| sF (Z5T Y6.Tr Yc.Tr hp1 hp2 hp4 hp5) <| s)
  clear p
  cases h1 : (Z1B Y6.Tr Yc.Tr) with
  | true =>
   refine fnS E0Ok Z3 (c := bodyOf f16) [] (.b true) [] func16 (q (sB' h1 <| sK [] sN)) rfl (by kernel_rfl) (by kernel_rfl) rfl ?_ ?_
   · simp only [Z1U, h0, h1, cond_true]
   · rfl
  | false =>
   refine fnS E0Ok Z3 (c := bodyOf f16) [] (.b false) [] func16 (q (sB' h1 <| sK [] sN)) rfl (by kernel_rfl) (by kernel_rfl) rfl ?_ ?_
   · simp only [Z1U, h0, h1, cond_true, cond_false]
   · rfl
 | false =>
  refine fnS E0Ok Z3 (c := bodyOf f16) [] (.b false) [] func16 (p (sB' h0 <| sK [] sN)) rfl (by kernel_rfl) (by kernel_rfl) rfl ?_ ?_
  · simp only [Z1U, h0, cond_false]
  · rfl
theorem Z6I (a : Gm) : Z1U a a = true := by
  simp [Z1U, Z6e, Z6f]
def ZJ (Y6 : (List Gv)) (Yh : Int) : Nat → Int → Int → (List Gv) → Int × (List Gv)
  | 0, _, _, _ => default
  | k + 1, Y5, Y2, Y1 => (cond (decide (Y2 < (Y1.length : Int)))
    (ZJ Y6 Yh k (IntKind.wrap .i64 ((IntKind.wrap .i64 ((IntKind.wrap .i64 (Y5 + 1)) + 1)) + 1)) (Y2 + 1) (Y1.set Y2.toNat (⟨(ofInt .f32 Y5), (ofInt .f32 (IntKind.wrap .i64 (Y5 + 1))), (ofInt .f32 (IntKind.wrap .i64 ((IntKind.wrap .i64 (Y5 + 1)) + 1)))⟩ : Gv)))
    (Y5, Y1))
def Z2g (Y6 : (List Gv)) (Yh : Int) (r : Int × (List Gv)) : Ex × St := ((.exit 0), ⟨.any :: .i .i64 r.1 :: .any :: .any :: .i .i64 0 :: an 32 [], [.vec 62 3 (r.2.map Gv.c) false]⟩)
def Z33 (Y6 : (List Gv)) (Yh : Int) (Y5 : Int) (Y2 : Int) (Y1 : (List Gv)) : St := ⟨.own 0 :: .i .i64 Y5 :: .any :: .any :: .i .i64 0 :: .i .i64 Y2 :: an 31 [], [.vec 62 3 (Y1.map Gv.c) false]⟩
theorem Z4y (Y6 : (List Gv)) (Yh : Int) (hp0 : Y6.length ≤ 1073741824) : ∀ (k : Nat) (Y5 : Int) (Y2 : Int) (Y1 : (List Gv)) (Z2B : 0 ≤ Y2) (Z2C : Y1.length = Y6.length) (hk : ((Y6.length : Int) - Y2).toNat < k), Lp prog 1 (sub (bodyOf f61) [1, 0, 1, 0, 0]) (Z33 Y6 Yh Y5 Y2 Y1) (Z2g Y6 Yh (ZJ Y6 Yh k Y5 Y2 Y1)).1 (Z2g Y6 Yh (ZJ Y6 Yh k Y5 Y2 Y1)).2 := by
 intro k
 induction k with
 | zero => intro Y5 Y2 Y1 Z2B Z2C hk; exact absurd hk (Nat.not_lt_zero _)
 | succ k ih =>
  intro Y5 Y2 Y1 Z2B Z2C hk
  have p {a C} (s : Scr a C) := sZ Gv.c Y1 <| s
  cases Ye : (decide (Y2 < (Y1.length : Int))) with
  | true =>
   have Yo := odt Ye
   have Yt : (0 : Int) ≤ Y2 := by clear p; exact (by assumption)
   have Yu : Y2 < (Y1.length : Int) := by clear p; exact (by assumption)
   have Yy : Y2.toNat < Y1.length := by clear p; exact (by omega)
   have YC : Y2 < ((Y1.set Y2.toNat (⟨(ofInt .f32 Y5), (Y1.getD Y2.toNat default).Y, (Y1.getD Y2.toNat default).Z⟩ : Gv)).length : Int) := by clear p; exact (by simp_all <;> omega)
   have YE : Y2 < ((Y1.set Y2.toNat (⟨(ofInt .f32 Y5), (ofInt .f32 (IntKind.wrap .i64 (Y5 + 1))), (Y1.getD Y2.toNat default).Z⟩ : Gv)).length : Int) := by clear p; exact (by simp_all <;> omega)
   have YL : (-9223372036854775808 : Int) ≤ (Y2 + 1) := by clear p; exact (by omega)
   have YU : (Y2 + 1) ≤ (9223372036854775807 : Int) := by clear p; exact (by omega)
   have e : ZJ Y6 Yh (k + 1) Y5 Y2 Y1 = (ZJ Y6 Yh k (IntKind.wrap .i64 ((IntKind.wrap .i64 ((IntKind.wrap .i64 (Y5 + 1)) + 1)) + 1)) (Y2 + 1) (Y1.set Y2.toNat (⟨(ofInt .f32 Y5), (ofInt .f32 (IntKind.wrap .i64 (Y5 + 1))), (ofInt .f32 (IntKind.wrap .i64 ((IntKind.wrap .i64 (Y5 + 1)) + 1)))⟩ : Gv))) := by simp only [ZJ, Ye, cond_true]
   rw [e]
   exact nextS (EpOk 1) Z3 [] (mR false [0, 2, 2, 2, 31]) [] (⟨.own 0 :: .i .i64 (IntKind.wrap .i64 ((IntKind.wrap .i64 ((IntKind.wrap .i64 (Y5 + 1)) + 1)) + 1)) :: .any :: .any :: .i .i64 0 :: .i .i64 (Y2 + 1) :: an 31 [], [.vec 62 3 ((((Y1.map Gv.c).set Y2.toNat [.f .f32 (ofInt .f32 Y5), .f .f32 ((Y1.getD Y2.toNat default).Y), .f .f32 ((Y1.getD Y2.toNat default).Z)]).set Y2.toNat [.f .f32 (ofInt .f32 Y5), .f .f32 (ofInt .f32 (IntKind.wrap .i64 (Y5 + 1))), .f .f32 ((Y1.getD Y2.toNat default).Z)]).set Y2.toNat [.f .f32 (ofInt .f32 Y5), .f .f32 (ofInt .f32 (IntKind.wrap .i64 (Y5 + 1))), .f .f32 (ofInt .f32 (IntKind.wrap .i64 ((IntKind.wrap .i64 (Y5 + 1)) + 1)))]) false]⟩) (p (sB Ye <| sX Gv.c Y1 Y2 Yt Yu <| sV Gv.c Y1 Y2.toNat Yy <| sW .i64 (Y5 + 1) <| sC (show 0 ≤ Y2 ∧ Int.toNat Y2 < ((Y1.map Gv.c).set Y2.toNat [.f .f32 (ofInt .f32 Y5), .f .f32 ((Y1.getD Y2.toNat default).Y), .f .f32 ((Y1.getD Y2.toNat default).Z)]).length from (by simpa using idx_ok (c := Gv.c) (l := (Y1.set Y2.toNat (⟨(ofInt .f32 Y5), (Y1.getD Y2.toNat default).Y, (Y1.getD Y2.toNat default).Z⟩ : Gv))) (i := Y2) Yt YC)) <| sE (show ((Y1.map Gv.c).set Y2.toNat [.f .f32 (ofInt .f32 Y5), .f .f32 ((Y1.getD Y2.toNat default).Y), .f .f32 ((Y1.getD Y2.toNat default).Z)])[Y2.toNat]? = some [.f .f32 (ofInt .f32 Y5), .f .f32 ((Y1.getD Y2.toNat default).Y), .f .f32 ((Y1.getD Y2.toNat default).Z)] from List.getElem?_set_self (by simpa using Yy)) <| sW .i64 ((IntKind.wrap .i64 (Y5 + 1)) + 1) <| sC (show 0 ≤ Y2 ∧ Int.toNat Y2 < (((Y1.map Gv.c).set Y2.toNat [.f .f32 (ofInt .f32 Y5), .f .f32 ((Y1.getD Y2.toNat default).Y), .f .f32 ((Y1.getD Y2.toNat default).Z)]).set Y2.toNat [.f .f32 (ofInt .f32 Y5), .f .f32 (ofInt .f32 (IntKind.wrap .i64 (Y5 + 1))), .f .f32 ((Y1.getD Y2.toNat default).Z)]).length from (by simpa using idx_ok (c := Gv.c) (l := (Y1.set Y2.toNat (⟨(ofInt .f32 Y5), (ofInt .f32 (IntKind.wrap .i64 (Y5 + 1))), (Y1.getD Y2.toNat default).Z⟩ : Gv))) (i := Y2) Yt YE)) <| sE (show (((Y1.map Gv.c).set Y2.toNat [.f .f32 (ofInt .f32 Y5), .f .f32 ((Y1.getD Y2.toNat default).Y), .f .f32 ((Y1.getD Y2.toNat default).Z)]).set Y2.toNat [.f .f32 (ofInt .f32 Y5), .f .f32 (ofInt .f32 (IntKind.wrap .i64 (Y5 + 1))), .f .f32 ((Y1.getD Y2.toNat default).Z)])[Y2.toNat]? = some [.f .f32 (ofInt .f32 Y5), .f .f32 (ofInt .f32 (IntKind.wrap .i64 (Y5 + 1))), .f .f32 ((Y1.getD Y2.toNat default).Z)] from List.getElem?_set_self (by simpa using Yy)) <| sW .i64 ((IntKind.wrap .i64 ((IntKind.wrap .i64 (Y5 + 1)) + 1)) + 1) <| sI (Y2 + 1) YL YU <| sN)) (by kernel_rfl) (by simp [Z33, List.map_set, Gv.c]) (ih (IntKind.wrap .i64 ((IntKind.wrap .i64 ((IntKind.wrap .i64 (Y5 + 1)) + 1)) + 1)) (Y2 + 1) (Y1.set Y2.toNat (⟨(ofInt .f32 Y5), (ofInt .f32 (IntKind.wrap .i64 (Y5 + 1))), (ofInt .f32 (IntKind.wrap .i64 ((IntKind.wrap .i64 (Y5 + 1)) + 1)))⟩ : Gv)) (show 0 ≤ (Y2 + 1) from (by omega)) (show (Y1.set Y2.toNat (⟨(ofInt .f32 Y5), (ofInt .f32 (IntKind.wrap .i64 (Y5 + 1))), (ofInt .f32 (IntKind.wrap .i64 ((IntKind.wrap .i64 (Y5 + 1)) + 1)))⟩ : Gv)).length = Y6.length from (by simp_all <;> omega)) (by omega))
  | false =>
   have Yo := odf Ye
   have e : ZJ Y6 Yh (k + 1) Y5 Y2 Y1 = (Y5, Y1) := by simp only [ZJ, Ye, cond_false]
   rw [e]
   exact outR (e := (.exit 0)) (EpOk 1) Z3 [] (mR false [1, 1, 2, 1, 32]) [] (p (sB Ye <| sN)) (by kernel_rfl) (by intro h; cases h)
end Go.Ab
