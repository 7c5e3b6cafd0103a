/- The functions of this seat as plain Lean, and that the program's are these. Printed by a program of the prover's own. -/
import Derived.Test.YtpndflbllggeiaaGreatB1
set_option linter.unusedVariables false
set_option linter.unusedSimpArgs false
set_option maxRecDepth 100000
namespace Go.Ab
open Go.RowKit Go.Proofs.Tryz
def Z3Z (YD : (List Int)) (YX : Int) (YO : Int) : (Unit) ⊕ (Unit) := (ZG YD YX YO (((YD.length : Int) - 0).toNat + 1) 0)
def Z4u (YD : (List Int)) (YX : Int) (YO : Int) : Bool := (match (Z3Z YD YX YO) with
  | .inl r1 => false
  | .inr r1 => true)
theorem Zfd (YD : (List Int)) (YX : Int) (YO : Int) (hp0 : YD.length ≤ 1073741824)  : Fn prog 120 [.sl (YD.map (cI .i64)), .i .i64 YX, .i .i64 YO] (.b (Z4u YD YX YO)) [] := by
 cases h0 : (Z3Z YD YX YO) with
 | inl r1 =>
  refine fnS E0Ok Z5 (c := bodyOf f120) [] (.b false) [] func120 (sL (mR false [0, 3, 4, 1, 30]) 0 (lp_val (Z5x YD YX YO) (x := (Z3Z YD YX YO)) (Za0 YD YX YO hp0 (((YD.length : Int) - 0).toNat + 1) 0 (show 0 ≤ 0 from (by omega)) (Nat.lt_succ_self _)) h0) <| sK [] sN) rfl (by kernel_rfl) (by kernel_rfl) rfl ?_ ?_
  · simp only [Z4u, h0]
  · rfl
 | inr r1 =>
  refine fnS E0Ok Z5 (c := bodyOf f120) [] (.b true) [] func120 (sL (mR false [0, 3, 4, 1, 30]) 0 (lp_val (Z5x YD YX YO) (x := (Z3Z YD YX YO)) (Za0 YD YX YO hp0 (((YD.length : Int) - 0).toNat + 1) 0 (show 0 ≤ 0 from (by omega)) (Nat.lt_succ_self _)) h0) <| sK [] sN) rfl (by kernel_rfl) (by kernel_rfl) rfl ?_ ?_
  · simp only [Z4u, h0]
  · rfl
def Z40 (Y2 : Gb) (Y4 : (List Int)) : Bool := (Z4u Y4 0 (IntKind.wrap .i64 ((Y2.Me.Pq.length : Int) - 1)))
theorem ZfC (Y2 : Gb) (Y4 : (List Int)) (hp0 : Y2.Me.Pq.length ≤ 1073741824) (hp1 : Y2.Me.Tr.length ≤ 1073741824) (hp2 : ∀ t ∈ Y2.Me.Tr, t.length ≤ 1073741824) (hp3 : Y2.Sp.length ≤ 1073741824) (hp4 : Y2.We.length ≤ 1073741824) (hp5 : Y4.length ≤ 1073741824)  : Fn prog 63 [.ref (Gb.c Y2) 0, .sl (Y4.map (cI .i64))] (.b (Z40 Y2 Y4)) [] := by
 refine fnS E0Ok Z5 (c := bodyOf f63) [] (.b (Z4u Y4 0 (IntKind.wrap .i64 ((Y2.Me.Pq.length : Int) - 1)))) [] func63 (sZ Gv.c Y2.Me.Pq <| sW .i64 ((Y2.Me.Pq.length : Int) - 1) <| sF (Zfd Y4 0 (IntKind.wrap .i64 ((Y2.Me.Pq.length : Int) - 1)) hp5) <| sK [] sN) rfl (by kernel_rfl) (by kernel_rfl) rfl ?_ ?_
 · rfl
 · rfl
theorem ZhQ (l : List Int) (h : Int) : ∀ (k : Nat) (i : Int), 0 ≤ i → ZG l 0 h k i = .inr () → ∀ j : Nat, i.toNat ≤ j → j < l.length → Zz (l.getD j default) 0 h = true := by
  intro k
  induction k with
  | zero => intro i _ e; cases e
  | succ k ih =>
    intro i h0 e j hj hl
    rw [ZG, decide_eq_true (show i < (l.length : Int) from by omega), cond_true] at e
    cases hc : Zz (l.getD i.toNat default) 0 h with
    | false => rw [hc] at e; cases e
    | true =>
      have e2 : ZG l 0 h k (i + 1) = .inr () := by
        rw [hc, cond_true] at e
        cases h1 : decide (i > 0) with
        | false => rw [h1, cond_false] at e; exact e
        | true =>
          rw [h1, cond_true] at e
          cases h2 : decide ((l.getD (i - 1).toNat default) ≥ (l.getD i.toNat default)) with
          | true => rw [h2] at e; cases e
          | false => rw [h2, cond_false] at e; exact e
      by_cases hij : i.toNat = j
      · rw [← hij]; exact hc
      · exact ih (i + 1) (by omega) e2 j (by omega) hl
theorem Zh4 (b : Gb) (l : List Int) (hn : b.Me.Pq.length ≤ 1073741824) (h : Z40 b l = true) : OkIx b.Me.Pq.length (fun x => x) l := by
  intro x hx
  obtain ⟨j, hj, rfl⟩ := List.getElem_of_mem hx
  unfold Z40 Z4u Z3Z at h
  cases e : ZG l 0 (IntKind.wrap .i64 ((b.Me.Pq.length : Int) - 1)) (((l.length : Int) - 0).toNat + 1) 0 with
  | inl r => rw [e] at h; cases h
  | inr r =>
    have := ZhQ l _ _ 0 (Int.le_refl 0) e j (by omega) hj
    rw [List.getD_eq_getElem?_getD, List.getElem?_eq_getElem hj, Option.getD_some] at this
    exact Zhi (by omega) this
def Z7Y (x_0 : Nat) : Bool := (fcmp .eql .f32 (fop .sub .f32 x_0 x_0) 0)
theorem ZeK (x_0 : Nat)   : Fn prog 121 [.f .f32 x_0] (.b (Z7Y x_0)) [] := by
 refine fnS E0Ok Z5 (c := bodyOf f121) [] (.b (fcmp .eql .f32 (fop .sub .f32 x_0 x_0) 0)) [] func121 (sK [] sN) rfl (by kernel_rfl) (by kernel_rfl) rfl ?_ ?_
 · rfl
 · rfl
def Z3P (x_0 : Nat) : Bool := (cond (Z7Y x_0)
  (fcmp .gtr .f32 x_0 0)
  false)
theorem Zdt (x_0 : Nat)   : Fn prog 69 [.f .f32 x_0] (.b (Z3P x_0)) [] := by
 have p {a C} (s : Scr a C) := sF (ZeK x_0) <| s
 cases h0 : (Z7Y x_0) with
 | true =>
  refine fnS E0Ok Z5 (c := bodyOf f69) [] (.b (fcmp .gtr .f32 x_0 0)) [] func69 (p (sB h0 <| sB h0 <| sB h0 <| sK [] sN)) rfl (by kernel_rfl) (by kernel_rfl) rfl ?_ ?_
  · simp only [Z3P, h0, cond_true]
  · rfl
 | false =>
  refine fnS E0Ok Z5 (c := bodyOf f69) [] (.b false) [] func69 (p (sB h0 <| sB h0 <| sB h0 <| sK [] sN)) rfl (by kernel_rfl) (by kernel_rfl) rfl ?_ ?_
  · simp only [Z3P, h0, cond_false]
  · rfl
def Z7V (YD : (List Int)) : (List Int) := (([] : List Int) ++ YD)
theorem Zg9 (YD : (List Int)) (hp0 : YD.length ≤ 1073741824)  : Fn prog 144 [.sl (YD.map (cI .i64))] (.own 0) [.vec 2 1 ((Z7V YD).map (cI .i64)) false] := by
 have y0 : ([] : List Int).length + YD.length ≤ 1073741824 := (by simp_all <;> omega)
 refine fnS E0Ok Z5 (c := bodyOf f144) [] (.own 0) [.vec 2 1 (([] : List (List AV)) ++ (YD.map (cI .i64))) false] func144 (sC (show ([] : List (List AV)).length + (YD.map (cI .i64)).length ≤ 1073741824 from (by simpa using y0)) <| sC (show (YD.map (cI .i64)).all (fun cs => cs.length == 1 && cs.all isS) = true from (src_ok (fun _ => rfl))) <| sK [0] sN) rfl (by kernel_rfl) (by kernel_rfl) rfl ?_ ?_
 · rfl
 · simp [Z7V, cI]
@[simp] theorem Zhv (l : List Int) : Z7V l = l := by simp [Z7V]
theorem Zga (YD : (List Int)) (hp0 : YD.length ≤ 1073741824) : Fn prog 144 [.sl (YD.map (cI .i64))] (.own 0) [.vec 2 1 (YD.map (cI .i64)) false] := by
 simpa only [Zhv] using Zg9  YD hp0
def Z3j (Y7 : Gm) : Nat → Int → (List (List Int)) → (List (List Int))
  | 0, _, _ => default
  | k + 1, Yb, Ya => (cond (decide (Yb < (Y7.Tr.length : Int)))
    (Z3j Y7 k (Yb + 1) (Ya ++ [(Y7.Tr.getD Yb.toNat default)]))
    Ya)
def Z7Z (Y7 : Gm) (r : (List (List Int))) : Ex × St := ((.exit 0), ⟨.ref (Gm.c Y7) 0 :: .any :: .ptr 0 0 0 :: .ptr 1 0 0 :: .any :: .any :: .ref (Gm.c Y7) 0 :: .ref (Gm.c Y7) 0 :: .ref (Gm.c Y7) 0 :: .sl (Y7.Pq.map Gv.c) :: .own 2 :: an 25 [], [.box 38 [.nils, .nils], .box 38 [.own 2, .own 3], .vec 40 3 (([] : List (List AV)) ++ (Y7.Pq.map Gv.c)) false, .nest 49 (r.map fun l => l.map (cI .i64)) false]⟩)
def Z80 (Y7 : Gm) (Yb : Int) (Ya : (List (List Int))) : St := ⟨.ref (Gm.c Y7) 0 :: .any :: .ptr 0 0 0 :: .ptr 3 0 0 :: .i .i64 Yb :: .any :: .ref (Gm.c Y7) 0 :: .ref (Gm.c Y7) 0 :: .ref (Gm.c Y7) 0 :: .sl (Y7.Pq.map Gv.c) :: .own 1 :: an 25 [], [.box 38 [.nils, .nils], .vec 40 3 (([] : List (List AV)) ++ (Y7.Pq.map Gv.c)) false, .nest 49 (Ya.map fun l => l.map (cI .i64)) false, .box 38 [.own 1, .own 2]]⟩
theorem ZeL (Y7 : Gm) (hp0 : Y7.Pq.length ≤ 1073741824) (hp1 : Y7.Tr.length ≤ 1073741824) (hp2 : ∀ t ∈ Y7.Tr, t.length ≤ 1073741824) : ∀ (k : Nat) (Yb : Int) (Ya : (List (List Int))) (Za1 : 0 ≤ Yb) (Za2 : (Ya.length : Int) = Yb) (hk : ((Y7.Tr.length : Int) - Yb).toNat < k), Lp prog 0 (sub (bodyOf f130) [1, 1, 0, 1, 0, 0]) (Z80 Y7 Yb Ya) (Z7Z Y7 (Z3j Y7 k Yb Ya)).1 (Z7Z Y7 (Z3j Y7 k Yb Ya)).2 := by
 intro k
 induction k with
 | zero => intro Yb Ya Za1 Za2 hk; exact absurd hk (Nat.not_lt_zero _)
 | succ k ih =>
  intro Yb Ya Za1 Za2 hk
  have p {a C} (s : Scr a C) := sZ (cL (cI .i64)) Y7.Tr <| s
  cases Yj : (decide (Yb < (Y7.Tr.length : Int))) with
  | true =>
   have YM := odt Yj
   have YS : (0 : Int) ≤ Yb := by clear p; exact (by assumption)
   have YT : Yb < (Y7.Tr.length : Int) := by clear p; exact (by assumption)
   have YY : (Y7.Tr.getD Yb.toNat default).length ≤ 1073741824 := by clear p; exact (by simp_all <;> omega)
   have YZ : Ya.length + [(Y7.Tr.getD Yb.toNat default)].length ≤ 1073741824 := by clear p; exact (by simp_all <;> omega)
   have y_4 : (-9223372036854775808 : Int) ≤ (Yb + 1) := by clear p; exact (by omega)
   have y_5 : (Yb + 1) ≤ (9223372036854775807 : Int) := by clear p; exact (by omega)
   have e : Z3j Y7 (k + 1) Yb Ya = (Z3j Y7 k (Yb + 1) (Ya ++ [(Y7.Tr.getD Yb.toNat default)])) := by simp only [Z3j, Yj, cond_true]
   rw [e]
   exact nextS E0Ok Z5 [] (mR false [0, 1, 1, 3, 1, 5, 25]) [0, 1, 2, 3] (⟨.ref (Gm.c Y7) 0 :: .any :: .ptr 0 0 0 :: .ptr 3 0 0 :: .i .i64 (Yb + 1) :: .any :: .ref (Gm.c Y7) 0 :: .ref (Gm.c Y7) 0 :: .ref (Gm.c Y7) 0 :: .sl (Y7.Pq.map Gv.c) :: .own 1 :: an 25 [], [.box 38 [.nils, .nils], .vec 40 3 (([] : List (List AV)) ++ (Y7.Pq.map Gv.c)) false, .nest 49 ((Ya.map fun l => l.map (cI .i64)) ++ [((Y7.Tr.getD Yb.toNat default).map (cI .i64))]) false, .box 38 [.own 1, .own 2]]⟩) (p (sB Yj <| sK [11, 11] <| sG (cL (cI .i64)) Y7.Tr Yb YS YT <| sF (Zga (Y7.Tr.getD Yb.toNat default) YY) <| sC (show (Ya.map fun l => l.map (cI .i64)).length + [((Y7.Tr.getD Yb.toNat default).map (cI .i64))].length ≤ 1073741824 from (by simpa using YZ)) <| sI (Yb + 1) y_4 y_5 <| sN)) (by kernel_rfl) (by simp [Z80, Gv.c, cL, cI]) (ih (Yb + 1) (Ya ++ [(Y7.Tr.getD Yb.toNat default)]) (show 0 ≤ (Yb + 1) from (by omega)) (show ((Ya ++ [(Y7.Tr.getD Yb.toNat default)]).length : Int) = (Yb + 1) from (by simp_all <;> omega)) (by omega))
  | false =>
   have YM := odf Yj
   have e : Z3j Y7 (k + 1) Yb Ya = Ya := by simp only [Z3j, Yj, cond_false]
   rw [e]
   exact outR (e := (.exit 0)) E0Ok Z5 [] (mR false [0, 1, 1, 2, 2, 5, 25]) [0, 3, 1, 2] (p (sB Yj <| sN)) (by kernel_rfl) (by intro h; cases h)
def Z5y (Y7 : Gm) : (List (List Int)) := (Z3j Y7 (((Y7.Tr.length : Int) - 0).toNat + 1) 0 ([] : List (List Int)))
def Z6i (Y7 : Gm) : Gm := (⟨(([] : List Gv) ++ Y7.Pq), (Z5y Y7)⟩ : Gm)
theorem Zgb (Y7 : Gm) (hp0 : Y7.Pq.length ≤ 1073741824) (hp1 : Y7.Tr.length ≤ 1073741824) (hp2 : ∀ t ∈ Y7.Tr, t.length ≤ 1073741824)  : Fn prog 130 [.ref (Gm.c Y7) 0] (.agg [.own 0, .own 1]) [.vec 40 3 (((Z6i Y7).Pq).map Gv.c) false, .nest 49 (((Z6i Y7).Tr).map fun l => l.map (cI .i64)) false] := by
 have y0 : ([] : List Gv).length + Y7.Pq.length ≤ 1073741824 := (by simp_all <;> omega)
 refine fnS E0Ok Z5 (c := bodyOf f130) [] (.agg [.own 0, .own 1]) [.vec 40 3 (([] : List (List AV)) ++ (Y7.Pq.map Gv.c)) false, .nest 49 ((Z5y Y7).map fun l => l.map (cI .i64)) false] func130 (sC (show ([] : List (List AV)).length + (Y7.Pq.map Gv.c).length ≤ 1073741824 from (by simpa using y0)) <| sC (show (Y7.Pq.map Gv.c).all (fun cs => cs.length == 3 && cs.all isS) = true from (src_ok (fun _ => rfl))) <| sL (mR false [0, 1, 1, 3, 1, 5, 25]) 4 (lp_cast (st2 := ⟨.ref (Gm.c Y7) 0 :: .any :: .ptr 0 0 0 :: .ptr 3 0 0 :: .i .i64 0 :: .any :: .ref (Gm.c Y7) 0 :: .ref (Gm.c Y7) 0 :: .ref (Gm.c Y7) 0 :: .sl (Y7.Pq.map Gv.c) :: .own 1 :: an 25 [], [.box 38 [.nils, .nils], .vec 40 3 (([] : List (List AV)) ++ (Y7.Pq.map Gv.c)) false, .nest 49 [] false, .box 38 [.own 1, .own 2]]⟩) (lp_val (Z7Z Y7) (x := (Z5y Y7)) (ZeL Y7 hp0 hp1 hp2 (((Y7.Tr.length : Int) - 0).toNat + 1) 0 ([] : List (List Int)) (show 0 ≤ 0 from (by omega)) (show (([] : List (List Int)).length : Int) = 0 from (by simp)) (Nat.lt_succ_self _)) rfl) (by simp [Z80, Gv.c, cL, cI])) <| sK [2, 3] sN) rfl (by kernel_rfl) (by kernel_rfl) rfl ?_ ?_
 · rfl
 · simp [Z6i, Gv.c]
@[simp] theorem Zhw (m : Gm) : Z6i m = m := by
  unfold Z6i Z5y
  rw [app_loop (f := fun i => (m.Tr.getD i.toNat default)) (n := (m.Tr.length : Int)) (lo := Z3j m) (fun k i r => rfl) _ _ _ (Nat.lt_succ_self _)]
  simp [getD_range2]
theorem Zgc (Y7 : Gm) (hp0 : Y7.Pq.length ≤ 1073741824) (hp1 : Y7.Tr.length ≤ 1073741824) (hp2 : ∀ t ∈ Y7.Tr, t.length ≤ 1073741824) : Fn prog 130 [.ref (Gm.c Y7) 0] (.agg [.own 0, .own 1]) [.vec 40 3 (Y7.Pq.map Gv.c) false, .nest 49 (Y7.Tr.map fun l => l.map (cI .i64)) false] := by
 simpa only [Zhw] using Zgb  Y7 hp0 hp1 hp2
def Z3n (Y2 : Gb) : Gb := (⟨Y2.Me, (([] : List Gs) ++ Y2.Sp), Y2.Film, Y2.Bend, (([] : List Nat) ++ Y2.We), Y2.Fall⟩ : Gb)
theorem Zgd (Y2 : Gb) (hp0 : Y2.Me.Pq.length ≤ 1073741824) (hp1 : Y2.Me.Tr.length ≤ 1073741824) (hp2 : ∀ t ∈ Y2.Me.Tr, t.length ≤ 1073741824) (hp3 : Y2.Sp.length ≤ 1073741824) (hp4 : Y2.We.length ≤ 1073741824)  : Fn prog 86 [.ref (Gb.c Y2) 0] (.agg [.own 0, .own 1, .own 2, .f .f32 ((Z3n Y2).Film), .f .f32 ((Z3n Y2).Bend), .own 3, .f .f32 ((Z3n Y2).Fall.X), .f .f32 ((Z3n Y2).Fall.Y), .f .f32 ((Z3n Y2).Fall.Z)]) [.vec 40 3 (((Z3n Y2).Me.Pq).map Gv.c) false, .nest 49 (((Z3n Y2).Me.Tr).map fun l => l.map (cI .i64)) false, .vec 133 4 (((Z3n Y2).Sp).map Gs.c) false, .vec 27 1 (((Z3n Y2).We).map (cF .f32)) false] := by
 have y0 : ([] : List Gs).length + Y2.Sp.length ≤ 1073741824 := (by simp_all <;> omega)
 have y1 : ([] : List Nat).length + Y2.We.length ≤ 1073741824 := (by simp_all <;> omega)
 refine fnS E0Ok Z5 (c := bodyOf f86) [] (.agg [.own 0, .own 1, .own 2, .f .f32 Y2.Film, .f .f32 Y2.Bend, .own 3, .f .f32 Y2.Fall.X, .f .f32 Y2.Fall.Y, .f .f32 Y2.Fall.Z]) [.vec 40 3 (Y2.Me.Pq.map Gv.c) false, .nest 49 (Y2.Me.Tr.map fun l => l.map (cI .i64)) false, .vec 133 4 (([] : List (List AV)) ++ (Y2.Sp.map Gs.c)) false, .vec 27 1 (([] : List (List AV)) ++ (Y2.We.map (cF .f32))) false] func86 (sF (Fn.sub (args := [.ref (Gb.c Y2) 0]) (r := .agg [.own 0, .own 1]) (new := [.vec 40 3 (Y2.Me.Pq.map Gv.c) false, .nest 49 (Y2.Me.Tr.map fun l => l.map (cI .i64)) false]) [some 2] (Zgc Y2.Me hp0 hp1 hp2)) <| sC (show ([] : List (List AV)).length + (Y2.Sp.map Gs.c).length ≤ 1073741824 from (by simpa using y0)) <| sC (show (Y2.Sp.map Gs.c).all (fun cs => cs.length == 4 && cs.all isS) = true from (src_ok (fun _ => rfl))) <| sC (show ([] : List (List AV)).length + (Y2.We.map (cF .f32)).length ≤ 1073741824 from (by simpa using y1)) <| sC (show (Y2.We.map (cF .f32)).all (fun cs => cs.length == 1 && cs.all isS) = true from (src_ok (fun _ => rfl))) <| sK [2, 3, 4, 5] sN) rfl (by kernel_rfl) (by kernel_rfl) rfl ?_ ?_
 · rfl
 · simp [Z3n, Gs.c, cF]
@[simp] theorem Zhx (b : Gb) : Z3n b = b := by simp [Z3n]
theorem Zaw (Y2 : Gb) (hp0 : Y2.Me.Pq.length ≤ 1073741824) (hp1 : Y2.Me.Tr.length ≤ 1073741824) (hp2 : ∀ t ∈ Y2.Me.Tr, t.length ≤ 1073741824) (hp3 : Y2.Sp.length ≤ 1073741824) (hp4 : Y2.We.length ≤ 1073741824) : Fn prog 86 [.ref (Gb.c Y2) 0] (.agg [.own 0, .own 1, .own 2, .f .f32 Y2.Film, .f .f32 Y2.Bend, .own 3, .f .f32 Y2.Fall.X, .f .f32 Y2.Fall.Y, .f .f32 Y2.Fall.Z]) [.vec 40 3 (Y2.Me.Pq.map Gv.c) false, .nest 49 (Y2.Me.Tr.map fun l => l.map (cI .i64)) false, .vec 133 4 (Y2.Sp.map Gs.c) false, .vec 27 1 (Y2.We.map (cF .f32)) false] := by
 simpa only [Zhx] using Zgd  Y2 hp0 hp1 hp2 hp3 hp4
def Z1V (Y5 : Gv) (YA : Gv) : Gv := (⟨(fop .sub .f32 Y5.X YA.X), (fop .sub .f32 Y5.Y YA.Y), (fop .sub .f32 Y5.Z YA.Z)⟩ : Gv)
theorem Z5g (Y5 : Gv) (YA : Gv)   : Fn prog 99 [.agg [.f .f32 Y5.X, .f .f32 Y5.Y, .f .f32 Y5.Z], .agg [.f .f32 YA.X, .f .f32 YA.Y, .f .f32 YA.Z]] (.agg [.f .f32 ((Z1V Y5 YA).X), .f .f32 ((Z1V Y5 YA).Y), .f .f32 ((Z1V Y5 YA).Z)]) [] := by
 refine fnS E0Ok Z5 (c := bodyOf f99) [] (.agg [.f .f32 (fop .sub .f32 Y5.X YA.X), .f .f32 (fop .sub .f32 Y5.Y YA.Y), .f .f32 (fop .sub .f32 Y5.Z YA.Z)]) [] func99 (sK [] sN) rfl (by kernel_rfl) (by kernel_rfl) rfl ?_ ?_
 · rfl
 · rfl
theorem Z2G {n : Nat} {ts : List (List Int)} {i k : Int} (h : OkE n ts) (h0 : 0 ≤ i) (hi : i < (ts.length : Int)) (k0 : 0 ≤ k) (k3 : k < 3) :
    (ts.getD i.toNat default).length = 3 ∧ 0 ≤ Int.tmod (k + 1) 3 ∧ Int.tmod (k + 1) 3 < 3 ∧ 0 ≤ Int.tmod (k + 2) 3 ∧ Int.tmod (k + 2) 3 < 3 ∧
    (0 ≤ (ts.getD i.toNat default).getD k.toNat default ∧ (ts.getD i.toNat default).getD k.toNat default < (n : Int)) ∧
    (0 ≤ (ts.getD i.toNat default).getD (Int.tmod (k + 1) 3).toNat default ∧ (ts.getD i.toNat default).getD (Int.tmod (k + 1) 3).toNat default < (n : Int)) ∧
    (0 ≤ (ts.getD i.toNat default).getD (Int.tmod (k + 2) 3).toNat default ∧ (ts.getD i.toNat default).getD (Int.tmod (k + 2) 3).toNat default < (n : Int)) := by
  have q1 := h.tris.at2 h0 hi k0 (.inl k3)
  have q2 := tmod3 (x := k + 1) (by omega)
  have q3 := h.tris.at2 h0 hi q2.1 (.inl q2.2)
  have q4 := tmod3 (x := k + 2) (by omega)
  have q5 := h.tris.at2 h0 hi q4.1 (.inl q4.2)
  exact ⟨q1.1, q2.1, q2.2, q4.1, q4.2, q1.2, q3.2, q5.2⟩
def Z4M (Y5 : Gv) (YA : Gv) : Nat := (fop .add .f32 (fop .add .f32 (fop .mul .f32 Y5.X YA.X) (fop .mul .f32 Y5.Y YA.Y)) (fop .mul .f32 Y5.Z YA.Z))
theorem Z8F (Y5 : Gv) (YA : Gv)   : Fn prog 131 [.agg [.f .f32 Y5.X, .f .f32 Y5.Y, .f .f32 Y5.Z], .agg [.f .f32 YA.X, .f .f32 YA.Y, .f .f32 YA.Z]] (.f .f32 (Z4M Y5 YA)) [] := by
 refine fnS E0Ok Z5 (c := bodyOf f131) [] (.f .f32 (fop .add .f32 (fop .add .f32 (fop .mul .f32 Y5.X YA.X) (fop .mul .f32 Y5.Y YA.Y)) (fop .mul .f32 Y5.Z YA.Z))) [] func131 (sK [] sN) rfl (by kernel_rfl) (by kernel_rfl) rfl ?_ ?_
 · rfl
 · rfl
def Z5e (x_0 : Nat) : Nat := (fsqrt x_0)
theorem Zer (x_0 : Nat)   : Fn prog 146 [.f .f64 x_0] (.f .f64 (Z5e x_0)) [] := by
 refine fnS E0Ok Z5 (c := bodyOf f146) [] (.f .f64 (fsqrt x_0)) [] func146 (sK [] sN) rfl (by kernel_rfl) (by kernel_rfl) rfl ?_ ?_
 · rfl
 · rfl
def Z81 (x_0 : Nat) : Nat := (fcv .f64 .f32 x_0)
theorem ZeM (x_0 : Nat) (hp0 : fcvOk .f64 .f32 x_0 = true)  : Fn prog 145 [.f .f64 x_0] (.f .f32 (Z81 x_0)) [] := by
 refine fnS E0Ok Z5 (c := bodyOf f145) [] (.f .f32 (fcv .f64 .f32 x_0)) [] func145 (sC hp0 <| sK [] sN) rfl (by kernel_rfl) (by kernel_rfl) rfl ?_ ?_
 · rfl
 · rfl
def Z9T (x_0 : Nat) : Nat := (Z81 (Z5e (fcv .f32 .f64 x_0)))
theorem ZfD (x_0 : Nat)   : Fn prog 136 [.f .f32 x_0] (.f .f32 (Z9T x_0)) [] := by
 have y0 : fcvOk .f64 .f32 (Z5e (fcv .f32 .f64 x_0)) = true := (narrow_sqrt _)
 refine fnS E0Ok Z5 (c := bodyOf f136) [] (.f .f32 (Z81 (Z5e (fcv .f32 .f64 x_0)))) [] func136 (sC (widenOk x_0) <| sF (Zer (fcv .f32 .f64 x_0)) <| sF (ZeM (Z5e (fcv .f32 .f64 x_0)) y0) <| sK [] sN) rfl (by kernel_rfl) (by kernel_rfl) rfl ?_ ?_
 · rfl
 · rfl
def Z2k (v_0 : Gv) : Nat := (Z9T (Z4M v_0 v_0))
theorem Z7t (v_0 : Gv)   : Fn prog 98 [.agg [.f .f32 v_0.X, .f .f32 v_0.Y, .f .f32 v_0.Z]] (.f .f32 (Z2k v_0)) [] := by
 refine fnS E0Ok Z5 (c := bodyOf f98) [] (.f .f32 (Z9T (Z4M v_0 v_0))) [] func98 (sF (Z8F v_0 v_0) <| sF (ZfD (Z4M v_0 v_0)) <| sK [] sN) rfl (by kernel_rfl) (by kernel_rfl) rfl ?_ ?_
 · rfl
 · rfl
def Z4N (Y5 : Gv) (YA : Gv) : Gv := (⟨(fop .sub .f32 (fop .mul .f32 Y5.Y YA.Z) (fop .mul .f32 Y5.Z YA.Y)), (fop .sub .f32 (fop .mul .f32 Y5.Z YA.X) (fop .mul .f32 Y5.X YA.Z)), (fop .sub .f32 (fop .mul .f32 Y5.X YA.Y) (fop .mul .f32 Y5.Y YA.X))⟩ : Gv)
theorem ZbB (Y5 : Gv) (YA : Gv)   : Fn prog 100 [.agg [.f .f32 Y5.X, .f .f32 Y5.Y, .f .f32 Y5.Z], .agg [.f .f32 YA.X, .f .f32 YA.Y, .f .f32 YA.Z]] (.agg [.f .f32 ((Z4N Y5 YA).X), .f .f32 ((Z4N Y5 YA).Y), .f .f32 ((Z4N Y5 YA).Z)]) [] := by
 refine fnS E0Ok Z5 (c := bodyOf f100) [] (.agg [.f .f32 (fop .sub .f32 (fop .mul .f32 Y5.Y YA.Z) (fop .mul .f32 Y5.Z YA.Y)), .f .f32 (fop .sub .f32 (fop .mul .f32 Y5.Z YA.X) (fop .mul .f32 Y5.X YA.Z)), .f .f32 (fop .sub .f32 (fop .mul .f32 Y5.X YA.Y) (fop .mul .f32 Y5.Y YA.X))]) [] func100 (sK [] sN) rfl (by kernel_rfl) (by kernel_rfl) rfl ?_ ?_
 · rfl
 · rfl
def Z5m (Y7 : Gm) (t_1 : (List Int)) : Gv := (Z4N (Z1V (Y7.Pq.getD (t_1.getD 1 default).toNat default) (Y7.Pq.getD (t_1.getD 0 default).toNat default)) (Z1V (Y7.Pq.getD (t_1.getD 2 default).toNat default) (Y7.Pq.getD (t_1.getD 0 default).toNat default)))
def Zi (Y7 : Gm) (t_1 : (List Int)) : Gv := (Z5m Y7 t_1)
theorem Zb1 (Y7 : Gm) (t_1 : (List Int)) (hp0 : Y7.Pq.length ≤ 1073741824) (hp1 : Y7.Tr.length ≤ 1073741824) (hp2 : ∀ t ∈ Y7.Tr, t.length ≤ 1073741824) (hp3 : t_1.length ≤ 1073741824) (hp4 : t_1.length = 3 ∧ ∀ x ∈ t_1, 0 ≤ x ∧ x < (Y7.Pq.length : Int))  : Fn prog 97 [.ref (Gm.c Y7) 0, .sl (t_1.map (cI .i64))] (.agg [.f .f32 ((Zi Y7 t_1).X), .f .f32 ((Zi Y7 t_1).Y), .f .f32 ((Zi Y7 t_1).Z)]) [] := by
 have y0 : (0 : Int) ≤ 0 := (by omega)
 have y1 : 0 < (t_1.length : Int) := (by omega)
 have y2 : (0 : Int) ≤ (t_1.getD 0 default) := (by have q := Okt.at hp4; omega)
 have y3 : (t_1.getD 0 default) < (Y7.Pq.length : Int) := (by have q := Okt.at hp4; omega)
 have y4 : (0 : Int) ≤ 1 := (by omega)
 have y5 : 1 < (t_1.length : Int) := (by omega)
 have y6 : (0 : Int) ≤ (t_1.getD 1 default) := (by have q := Okt.at hp4; omega)
 have y7 : (t_1.getD 1 default) < (Y7.Pq.length : Int) := (by have q := Okt.at hp4; omega)
 have y8 : (0 : Int) ≤ 2 := (by omega)
 have y9 : 2 < (t_1.length : Int) := (by omega)
 have y10 : (0 : Int) ≤ (t_1.getD 2 default) := (by have q := Okt.at hp4; omega)
 have y11 : (t_1.getD 2 default) < (Y7.Pq.length : Int) := (by have q := Okt.at hp4; omega)
 refine fnS E0Ok Z5 (c := bodyOf f97) [] (.agg [.f .f32 ((Z5m Y7 t_1).X), .f .f32 ((Z5m Y7 t_1).Y), .f .f32 ((Z5m Y7 t_1).Z)]) [] func97 (sK [10, 10] <| sG (cI .i64) t_1 0 y0 y1 <| sG Gv.c Y7.Pq (t_1.getD 0 default) y2 y3 <| sK [21, 21] <| sG (cI .i64) t_1 1 y4 y5 <| sG Gv.c Y7.Pq (t_1.getD 1 default) y6 y7 <| sF (Z5g (Y7.Pq.getD (t_1.getD 1 default).toNat default) (Y7.Pq.getD (t_1.getD 0 default).toNat default)) <| sG (cI .i64) t_1 2 y8 y9 <| sG Gv.c Y7.Pq (t_1.getD 2 default) y10 y11 <| sF (Z5g (Y7.Pq.getD (t_1.getD 2 default).toNat default) (Y7.Pq.getD (t_1.getD 0 default).toNat default)) <| sF (ZbB (Z1V (Y7.Pq.getD (t_1.getD 1 default).toNat default) (Y7.Pq.getD (t_1.getD 0 default).toNat default)) (Z1V (Y7.Pq.getD (t_1.getD 2 default).toNat default) (Y7.Pq.getD (t_1.getD 0 default).toNat default))) <| sK [] sN) rfl (by kernel_rfl) (by kernel_rfl) rfl ?_ ?_
 · rfl
 · rfl
def Z3o (Y5 : Int) (YA : Int) : Int := (cond (decide (Y5 < YA))
  Y5
  YA)
theorem Zge (Y5 : Int) (YA : Int)   : Fn prog 147 [.i .i64 Y5, .i .i64 YA] (.i .i64 (Z3o Y5 YA)) [] := by
 cases h0 : (decide (Y5 < YA)) with
 | true =>
  have gh0 := odt h0
  refine fnS E0Ok Z5 (c := bodyOf f147) [] (.i .i64 Y5) [] func147 (sB h0 <| sK [] sN) rfl (by kernel_rfl) (by kernel_rfl) rfl ?_ ?_
  · simp only [Z3o, h0, cond_true]
  · rfl
 | false =>
  have gh0 := odf h0
  refine fnS E0Ok Z5 (c := bodyOf f147) [] (.i .i64 YA) [] func147 (sB h0 <| sK [] sN) rfl (by kernel_rfl) (by kernel_rfl) rfl ?_ ?_
  · simp only [Z3o, h0, cond_false]
  · rfl
theorem Zb2 {a b n : Int} (h1 : 0 ≤ a ∧ a < n) (h2 : 0 ≤ b ∧ b < n) : 0 ≤ Z3o a b ∧ Z3o a b < n := by
  unfold Z3o; cases decide (a < b) <;> simp only [cond_true, cond_false] <;> omega
def Z3p (Y5 : Int) (YA : Int) : Int := (cond (decide (Y5 > YA))
  Y5
  YA)
theorem Zgf (Y5 : Int) (YA : Int)   : Fn prog 148 [.i .i64 Y5, .i .i64 YA] (.i .i64 (Z3p Y5 YA)) [] := by
 cases h0 : (decide (Y5 > YA)) with
 | true =>
  have gh0 := odt h0
  refine fnS E0Ok Z5 (c := bodyOf f148) [] (.i .i64 Y5) [] func148 (sB h0 <| sK [] sN) rfl (by kernel_rfl) (by kernel_rfl) rfl ?_ ?_
  · simp only [Z3p, h0, cond_true]
  · rfl
 | false =>
  have gh0 := odf h0
  refine fnS E0Ok Z5 (c := bodyOf f148) [] (.i .i64 YA) [] func148 (sB h0 <| sK [] sN) rfl (by kernel_rfl) (by kernel_rfl) rfl ?_ ?_
  · simp only [Z3p, h0, cond_false]
  · rfl
theorem Zb3 {a b n : Int} (h1 : 0 ≤ a ∧ a < n) (h2 : 0 ≤ b ∧ b < n) : 0 ≤ Z3p a b ∧ Z3p a b < n := by
  unfold Z3p; cases decide (a > b) <;> simp only [cond_true, cond_false] <;> omega
theorem Zcq (a b : Int) : (⟨Z3o a b, Z3p a b⟩ : Gedge) = mkE a b := by
  unfold Z3o Z3p mkE
  by_cases h : a < b
  · rw [decide_eq_true h, decide_eq_false (by omega), if_pos (by omega)]; rfl
  · rw [decide_eq_false h]
    by_cases h2 : a > b
    · rw [decide_eq_true h2, if_neg (by omega)]; rfl
    · rw [decide_eq_false h2, show a = b from by omega, if_pos (by omega)]; rfl
def Z1u (Y7 : Gm) (Yb : Int) (Ye : Int) : Int := (Z3o ((Y7.Tr.getD Yb.toNat default).getD Ye.toNat default) ((Y7.Tr.getD Yb.toNat default).getD (Int.tmod (Ye + 1) 3).toNat default))
def Z1L (Y7 : Gm) (Yb : Int) (Ye : Int) : Int := (Z3p ((Y7.Tr.getD Yb.toNat default).getD Ye.toNat default) ((Y7.Tr.getD Yb.toNat default).getD (Int.tmod (Ye + 1) 3).toNat default))
def ZV (Y7 : Gm) (Yb : Int) (Y3 : (List Bool)) : Nat → Int → (List Bool) → (List Bool)
  | 0, _, _ => default
  | k + 1, Ye, YF => (cond (decide (Ye < 3))
    (ZV Y7 Yb Y3 k (Ye + 1) (YF.set ((IntKind.wrap .i64 ((IntKind.wrap .i64 ((Z1u Y7 Yb Ye) * (Y7.Pq.length : Int))) + (Z1L Y7 Yb Ye))).toNat) true))
    YF)
def Z71 (Y7 : Gm) (Yb : Int) (Y3 : (List Bool)) (r : (List Bool)) : Ex × St := ((.exit 2), ⟨.ref (Gm.c Y7) 0 :: .any :: .nils :: .i .i64 (Y7.Pq.length : Int) :: .own 0 :: .i .i64 Yb :: .sl ((Y7.Tr.getD Yb.toNat default).map (cI .i64)) :: an 6 (.ref (Gm.c Y7) 0 :: .ref (Gm.c Y7) 0 :: .ref (Gm.c Y7) 0 :: .sl (Y7.Pq.map Gv.c) :: .i .i64 (Y7.Pq.length : Int) :: .i .i64 (Y7.Pq.length : Int) :: .i .i64 (Y7.Pq.length : Int) :: .i .i64 (IntKind.wrap .i64 ((Y7.Pq.length : Int) * (Y7.Pq.length : Int))) :: .own 0 :: .i .i64 Yb :: .ref (Gm.c Y7) 0 :: .ref (Gm.c Y7) 0 :: .ref (Gm.c Y7) 1 :: .sl (Y7.Tr.map (cL (cI .i64))) :: .i .i64 (Y7.Tr.length : Int) :: .b (decide (Yb < (Y7.Tr.length : Int))) :: .any :: .any :: .ref (Gm.c Y7) 0 :: .ref (Gm.c Y7) 0 :: .ref (Gm.c Y7) 1 :: .sl (Y7.Tr.map (cL (cI .i64))) :: .i .i64 Yb :: .ref [.sl ((Y7.Tr.getD Yb.toNat default).map (cI .i64))] 0 :: .sl ((Y7.Tr.getD Yb.toNat default).map (cI .i64)) :: an 53 []), [.vec 4 1 (r.map cB) false]⟩)
def Za3 (Y7 : Gm) (Yb : Int) (Y3 : (List Bool)) (Ye : Int) (YF : (List Bool)) : St := ⟨.ref (Gm.c Y7) 0 :: .any :: .nils :: .i .i64 (Y7.Pq.length : Int) :: .own 0 :: .i .i64 Yb :: .sl ((Y7.Tr.getD Yb.toNat default).map (cI .i64)) :: .i .i64 Ye :: an 5 (.ref (Gm.c Y7) 0 :: .ref (Gm.c Y7) 0 :: .ref (Gm.c Y7) 0 :: .sl (Y7.Pq.map Gv.c) :: .i .i64 (Y7.Pq.length : Int) :: .i .i64 (Y7.Pq.length : Int) :: .i .i64 (Y7.Pq.length : Int) :: .i .i64 (IntKind.wrap .i64 ((Y7.Pq.length : Int) * (Y7.Pq.length : Int))) :: .own 0 :: .i .i64 Yb :: .ref (Gm.c Y7) 0 :: .ref (Gm.c Y7) 0 :: .ref (Gm.c Y7) 1 :: .sl (Y7.Tr.map (cL (cI .i64))) :: .i .i64 (Y7.Tr.length : Int) :: .b (decide (Yb < (Y7.Tr.length : Int))) :: .any :: .any :: .ref (Gm.c Y7) 0 :: .ref (Gm.c Y7) 0 :: .ref (Gm.c Y7) 1 :: .sl (Y7.Tr.map (cL (cI .i64))) :: .i .i64 Yb :: .ref [.sl ((Y7.Tr.getD Yb.toNat default).map (cI .i64))] 0 :: .sl ((Y7.Tr.getD Yb.toNat default).map (cI .i64)) :: an 53 []), [.vec 4 1 (YF.map cB) false]⟩
def Z8G : List Bool := (mR false [0, 1, 1, 6, 5, 16, 2, 7, 53])
def Zcr : List Bool := (mR false [0, 1, 1, 5, 6, 16, 2, 7, 53])
set_option maxHeartbeats 1000000 in
theorem Zdu (Y7 : Gm) (Yb : Int) (Y3 : (List Bool)) (hp0 : Y7.Pq.length ≤ 1073741824) (hp1 : Y7.Tr.length ≤ 1073741824) (hp2 : ∀ t ∈ Y7.Tr, t.length ≤ 1073741824) (hp3 : OkE Y7.Pq.length Y7.Tr) (Z2O : 0 ≤ Yb) (Z50 : Y3.length = (IntKind.wrap .i64 ((Y7.Pq.length : Int) * (Y7.Pq.length : Int))).toNat) (Zhj : (decide (Yb < (Y7.Tr.length : Int))) = true) : ∀ (k : Nat) (Ye : Int) (YF : (List Bool)) (Z3H : 0 ≤ Ye) (Z8H : YF.length = Y3.length) (hk : ((3 : Int) - Ye).toNat < k), Lp prog 0 (sub (bodyOf f137) [1, 1, 1, 0, 1, 0, 0, 1, 0, 0, 1, 1, 0, 0]) (Za3 Y7 Yb Y3 Ye YF) (Z71 Y7 Yb Y3 (ZV Y7 Yb Y3 k Ye YF)).1 (Z71 Y7 Yb Y3 (ZV Y7 Yb Y3 k Ye YF)).2 := by
 intro k
 induction k with
 | zero => intro Ye YF Z3H Z8H hk; exact absurd hk (Nat.not_lt_zero _)
 | succ k ih =>
  intro Ye YF Z3H Z8H hk
  cases YW : (decide (Ye < 3)) with
  | true =>
   have YU := odt YW
   have Y1g : (0 : Int) ≤ Ye := (by assumption)
   have Y1h : Ye < ((Y7.Tr.getD Yb.toNat default).length : Int) := (by ((have q := OkE.at (by assumption) Z2O (odt (by assumption)) Z3H (odt (by assumption)); omega)))
   have Y1e : (-9223372036854775808 : Int) ≤ (Ye + 1) := (by omega)
   have Y1b : (Ye + 1) ≤ (9223372036854775807 : Int) := (by omega)
   have Y1i : (0 : Int) ≤ (Int.tmod (Ye + 1) 3) := (by ((have q := OkE.at (by assumption) Z2O (odt (by assumption)) Z3H (odt (by assumption)); omega)))
   have Y1o : (Int.tmod (Ye + 1) 3) < ((Y7.Tr.getD Yb.toNat default).length : Int) := (by ((have q := OkE.at (by assumption) Z2O (odt (by assumption)) Z3H (odt (by assumption)); omega)))
   have Y1k : (0 : Int) ≤ (IntKind.wrap .i64 ((IntKind.wrap .i64 ((Z1u Y7 Yb Ye) * (Y7.Pq.length : Int))) + (Z1L Y7 Yb Ye))) := (by ((have q := OkE.at (by assumption) Z2O (odt (by assumption)) Z3H (odt (by assumption)); have q2 := ix2F q.2.2.2.2.2.1 (Zb2 q.2.2.2.1 q.2.2.2.2.1).1 (Zb2 q.2.2.2.1 q.2.2.2.2.1).2 (Zb3 q.2.2.2.1 q.2.2.2.2.1).1 (Zb3 q.2.2.2.1 q.2.2.2.2.1).2; unfold Z1u Z1L; omega)))
   have Y1p : (IntKind.wrap .i64 ((IntKind.wrap .i64 ((Z1u Y7 Yb Ye) * (Y7.Pq.length : Int))) + (Z1L Y7 Yb Ye))) < (YF.length : Int) := (by ((have q := OkE.at (by assumption) Z2O (odt (by assumption)) Z3H (odt (by assumption)); have q2 := ix2F q.2.2.2.2.2.1 (Zb2 q.2.2.2.1 q.2.2.2.2.1).1 (Zb2 q.2.2.2.1 q.2.2.2.2.1).2 (Zb3 q.2.2.2.1 q.2.2.2.2.1).1 (Zb3 q.2.2.2.1 q.2.2.2.2.1).2; unfold Z1u Z1L; omega)))
   have Y1C : (IntKind.wrap .i64 ((IntKind.wrap .i64 ((Z1u Y7 Yb Ye) * (Y7.Pq.length : Int))) + (Z1L Y7 Yb Ye))).toNat < YF.length := (by omega)
   have e : ZV Y7 Yb Y3 (k + 1) Ye YF = (ZV Y7 Yb Y3 k (Ye + 1) (YF.set ((IntKind.wrap .i64 ((IntKind.wrap .i64 ((Z1u Y7 Yb Ye) * (Y7.Pq.length : Int))) + (Z1L Y7 Yb Ye))).toNat) true)) := by simp only [ZV, YW, cond_true]
   rw [e]
   exact nextS E0Ok Z5 [] Z8G [0] (⟨.ref (Gm.c Y7) 0 :: .any :: .nils :: .i .i64 (Y7.Pq.length : Int) :: .own 0 :: .i .i64 Yb :: .sl ((Y7.Tr.getD Yb.toNat default).map (cI .i64)) :: .i .i64 (Ye + 1) :: an 5 (.ref (Gm.c Y7) 0 :: .ref (Gm.c Y7) 0 :: .ref (Gm.c Y7) 0 :: .sl (Y7.Pq.map Gv.c) :: .i .i64 (Y7.Pq.length : Int) :: .i .i64 (Y7.Pq.length : Int) :: .i .i64 (Y7.Pq.length : Int) :: .i .i64 (IntKind.wrap .i64 ((Y7.Pq.length : Int) * (Y7.Pq.length : Int))) :: .own 0 :: .i .i64 Yb :: .ref (Gm.c Y7) 0 :: .ref (Gm.c Y7) 0 :: .ref (Gm.c Y7) 1 :: .sl (Y7.Tr.map (cL (cI .i64))) :: .i .i64 (Y7.Tr.length : Int) :: .b (decide (Yb < (Y7.Tr.length : Int))) :: .any :: .any :: .ref (Gm.c Y7) 0 :: .ref (Gm.c Y7) 0 :: .ref (Gm.c Y7) 1 :: .sl (Y7.Tr.map (cL (cI .i64))) :: .i .i64 Yb :: .ref [.sl ((Y7.Tr.getD Yb.toNat default).map (cI .i64))] 0 :: .sl ((Y7.Tr.getD Yb.toNat default).map (cI .i64)) :: an 53 []), [.vec 4 1 ((YF.map cB).set ((IntKind.wrap .i64 ((IntKind.wrap .i64 ((Z1u Y7 Yb Ye) * (Y7.Pq.length : Int))) + (Z1L Y7 Yb Ye))).toNat) [.b true]) false]⟩) (sB YW <| sG (cI .i64) (Y7.Tr.getD Yb.toNat default) Ye Y1g Y1h <| sI (Ye + 1) Y1e Y1b <| sC (show (3 : Int) ≠ 0 from (by decide)) <| sQ (Int.tmod (Ye + 1) 3) <| sG (cI .i64) (Y7.Tr.getD Yb.toNat default) (Int.tmod (Ye + 1) 3) Y1i Y1o <| sF (Zge ((Y7.Tr.getD Yb.toNat default).getD Ye.toNat default) ((Y7.Tr.getD Yb.toNat default).getD (Int.tmod (Ye + 1) 3).toNat default)) <| sW .i64 ((Z1u Y7 Yb Ye) * (Y7.Pq.length : Int)) <| sF (Zgf ((Y7.Tr.getD Yb.toNat default).getD Ye.toNat default) ((Y7.Tr.getD Yb.toNat default).getD (Int.tmod (Ye + 1) 3).toNat default)) <| sW .i64 ((IntKind.wrap .i64 ((Z1u Y7 Yb Ye) * (Y7.Pq.length : Int))) + (Z1L Y7 Yb Ye)) <| sX cB YF (IntKind.wrap .i64 ((IntKind.wrap .i64 ((Z1u Y7 Yb Ye) * (Y7.Pq.length : Int))) + (Z1L Y7 Yb Ye))) Y1k Y1p <| sC (maplt (c := cB) (l := YF) Y1C) <| sI (Ye + 1) Y1e Y1b <| sN) (by kernel_rfl) (by simp [Za3, cL, cI, cB]) (ih (Ye + 1) (YF.set ((IntKind.wrap .i64 ((IntKind.wrap .i64 ((Z1u Y7 Yb Ye) * (Y7.Pq.length : Int))) + (Z1L Y7 Yb Ye))).toNat) true) (show 0 ≤ (Ye + 1) from (by omega)) (show (YF.set ((IntKind.wrap .i64 ((IntKind.wrap .i64 ((Z1u Y7 Yb Ye) * (Y7.Pq.length : Int))) + (Z1L Y7 Yb Ye))).toNat) true).length = Y3.length from (by simp_all <;> omega)) (by omega))
  | false =>
   have YU := odf YW
   have e : ZV Y7 Yb Y3 (k + 1) Ye YF = YF := by simp only [ZV, YW, cond_false]
   rw [e]
   exact outR (e := (.exit 2)) E0Ok Z5 [] Zcr [0] (sB YW <| sN) (by kernel_rfl) (by intro h; cases h)
theorem Zcs (Y7 : Gm) (Yb : Int) (Y3 : (List Bool)) : ∀ (k : Nat) (Ye : Int) (YF : (List Bool)) (hk : ((3 : Int) - Ye).toNat < k), (ZV Y7 Yb Y3 k Ye YF).length = YF.length := by
  intro k
  induction k with
  | zero => intro Ye YF hk; exact absurd hk (Nat.not_lt_zero _)
  | succ k ih =>
    intro Ye YF hk
    cases YW : (decide (Ye < 3)) with
    | true =>
      have e : ZV Y7 Yb Y3 (k + 1) Ye YF = (ZV Y7 Yb Y3 k (Ye + 1) (YF.set ((IntKind.wrap .i64 ((IntKind.wrap .i64 ((Z1u Y7 Yb Ye) * (Y7.Pq.length : Int))) + (Z1L Y7 Yb Ye))).toNat) true)) := by simp only [ZV, YW, cond_true]
      rw [e, ih (Ye + 1) (YF.set ((IntKind.wrap .i64 ((IntKind.wrap .i64 ((Z1u Y7 Yb Ye) * (Y7.Pq.length : Int))) + (Z1L Y7 Yb Ye))).toNat) true) (by simp_all <;> omega)]; simp
    | false =>
      have e : ZV Y7 Yb Y3 (k + 1) Ye YF = YF := by simp only [ZV, YW, cond_false]
      first | (rw [e]; done) | (rw [e]; rfl)
def Z2e (Y7 : Gm) (Yb : Int) (Y3 : (List Bool)) : (List Bool) := (ZV Y7 Yb Y3 (((3 : Int) - 0).toNat + 1) 0 Y3)
@[simp] theorem Zax (Y7 : Gm) (Yb : Int) (Y3 : (List Bool)) : (Z2e Y7 Yb Y3).length = (Y3 : (List Bool)).length := Zcs Y7 Yb Y3 (((3 : Int) - 0).toNat + 1) 0 Y3 (by exact Nat.lt_succ_self _)
def Z1g (Y7 : Gm) : Nat → Int → (List Bool) → (List Bool)
  | 0, _, _ => default
  | k + 1, Yb, Y3 => (cond (decide (Yb < (Y7.Tr.length : Int)))
    (Z1g Y7 k (Yb + 1) (Z2e Y7 Yb Y3))
    Y3)
def Z72 (Y7 : Gm) (r : (List Bool)) : Ex × St := ((.exit 0), ⟨.ref (Gm.c Y7) 0 :: .any :: .nils :: .i .i64 (Y7.Pq.length : Int) :: .own 0 :: an 8 (.ref (Gm.c Y7) 0 :: .ref (Gm.c Y7) 0 :: .ref (Gm.c Y7) 0 :: .sl (Y7.Pq.map Gv.c) :: .i .i64 (Y7.Pq.length : Int) :: .i .i64 (Y7.Pq.length : Int) :: .i .i64 (Y7.Pq.length : Int) :: .i .i64 (IntKind.wrap .i64 ((Y7.Pq.length : Int) * (Y7.Pq.length : Int))) :: .own 0 :: an 69 []), [.vec 4 1 (r.map cB) false]⟩)
def Za4 (Y7 : Gm) (Yb : Int) (Y3 : (List Bool)) : St := ⟨.ref (Gm.c Y7) 0 :: .any :: .nils :: .i .i64 (Y7.Pq.length : Int) :: .own 0 :: .i .i64 Yb :: an 7 (.ref (Gm.c Y7) 0 :: .ref (Gm.c Y7) 0 :: .ref (Gm.c Y7) 0 :: .sl (Y7.Pq.map Gv.c) :: .i .i64 (Y7.Pq.length : Int) :: .i .i64 (Y7.Pq.length : Int) :: .i .i64 (Y7.Pq.length : Int) :: .i .i64 (IntKind.wrap .i64 ((Y7.Pq.length : Int) * (Y7.Pq.length : Int))) :: .own 0 :: an 69 []), [.vec 4 1 (Y3.map cB) false]⟩
theorem Zdv (Y7 : Gm) (hp0 : Y7.Pq.length ≤ 1073741824) (hp1 : Y7.Tr.length ≤ 1073741824) (hp2 : ∀ t ∈ Y7.Tr, t.length ≤ 1073741824) (hp3 : OkE Y7.Pq.length Y7.Tr) : ∀ (k : Nat) (Yb : Int) (Y3 : (List Bool)) (Z2O : 0 ≤ Yb) (Z50 : Y3.length = (IntKind.wrap .i64 ((Y7.Pq.length : Int) * (Y7.Pq.length : Int))).toNat) (hk : ((Y7.Tr.length : Int) - Yb).toNat < k), Lp prog 0 (sub (bodyOf f137) [1, 1, 1, 0, 1, 0, 0]) (Za4 Y7 Yb Y3) (Z72 Y7 (Z1g Y7 k Yb Y3)).1 (Z72 Y7 (Z1g Y7 k Yb Y3)).2 := by
 intro k
 induction k with
 | zero => intro Yb Y3 Z2O Z50 hk; exact absurd hk (Nat.not_lt_zero _)
 | succ k ih =>
  intro Yb Y3 Z2O Z50 hk
  have p {a C} (s : Scr a C) := sZ (cL (cI .i64)) Y7.Tr <| s
  cases Yj : (decide (Yb < (Y7.Tr.length : Int))) with
  | true =>
   have YM := odt Yj
   have YS : (0 : Int) ≤ Yb := by clear p; exact (by assumption)
   have YT : Yb < (Y7.Tr.length : Int) := by clear p; exact (by assumption)
   have YY : (-9223372036854775808 : Int) ≤ (Yb + 1) := by clear p; exact (by omega)
   have YZ : (Yb + 1) ≤ (9223372036854775807 : Int) := by clear p; exact (by omega)
   have e : Z1g Y7 (k + 1) Yb Y3 = (Z1g Y7 k (Yb + 1) (Z2e Y7 Yb Y3)) := by simp only [Z1g, Yj, cond_true]
   rw [e]
   exact nextR E0Ok Z5 [] (mR false [0, 1, 1, 4, 7, 9, 69]) [0] (ih (Yb + 1) (Z2e Y7 Yb Y3) (show 0 ≤ (Yb + 1) from (by omega)) (show (Z2e Y7 Yb Y3).length = (IntKind.wrap .i64 ((Y7.Pq.length : Int) * (Y7.Pq.length : Int))).toNat from (by simp_all <;> omega)) (by omega)) (p (sB Yj <| sG (cL (cI .i64)) Y7.Tr Yb YS YT <| sL Z8G 1 (lp_val (Z71 Y7 Yb Y3) (x := (Z2e Y7 Yb Y3)) (Zdu Y7 Yb Y3 hp0 hp1 hp2 hp3 Z2O Z50 Yj (((3 : Int) - 0).toNat + 1) 0 Y3 (show 0 ≤ 0 from (by omega)) (show Y3.length = Y3.length from (by omega)) (Nat.lt_succ_self _)) rfl) <| sI (Yb + 1) YY YZ <| sN)) (by kernel_rfl)
  | false =>
   have YM := odf Yj
   have e : Z1g Y7 (k + 1) Yb Y3 = Y3 := by simp only [Z1g, Yj, cond_false]
   rw [e]
   exact outR (e := (.exit 0)) E0Ok Z5 [] (mR false [0, 1, 1, 3, 8, 9, 69]) [0] (p (sB Yj <| sN)) (by kernel_rfl) (by intro h; cases h)
theorem Zct (Y7 : Gm) : ∀ (k : Nat) (Yb : Int) (Y3 : (List Bool)) (hk : ((Y7.Tr.length : Int) - Yb).toNat < k), (Z1g Y7 k Yb Y3).length = Y3.length := by
  intro k
  induction k with
  | zero => intro Yb Y3 hk; exact absurd hk (Nat.not_lt_zero _)
  | succ k ih =>
    intro Yb Y3 hk
    cases Yj : (decide (Yb < (Y7.Tr.length : Int))) with
    | true =>
      have e : Z1g Y7 (k + 1) Yb Y3 = (Z1g Y7 k (Yb + 1) (Z2e Y7 Yb Y3)) := by simp only [Z1g, Yj, cond_true]
      rw [e, ih (Yb + 1) (Z2e Y7 Yb Y3) (by simp_all <;> omega)]; simp
    | false =>
      have e : Z1g Y7 (k + 1) Yb Y3 = Y3 := by simp only [Z1g, Yj, cond_false]
      first | (rw [e]; done) | (rw [e]; rfl)
def ZM (Y7 : Gm) : (List Bool) := (Z1g Y7 (((Y7.Tr.length : Int) - 0).toNat + 1) 0 (List.replicate (IntKind.wrap .i64 ((Y7.Pq.length : Int) * (Y7.Pq.length : Int))).toNat false))
@[simp] theorem Zay (Y7 : Gm) : (ZM Y7).length = ((List.replicate (IntKind.wrap .i64 ((Y7.Pq.length : Int) * (Y7.Pq.length : Int))).toNat false) : (List Bool)).length := Zct Y7 (((Y7.Tr.length : Int) - 0).toNat + 1) 0 (List.replicate (IntKind.wrap .i64 ((Y7.Pq.length : Int) * (Y7.Pq.length : Int))).toNat false) (by exact Nat.lt_succ_self _)
def Z1h (Y7 : Gm) (YN : Int) (Y8 : (List (List Int))) : Nat → Int → (List (List Int)) → (List (List Int))
  | 0, _, _ => default
  | k + 1, Y11, Yg => (cond (decide (Y11 < (Y7.Pq.length : Int)))
    (cond ((ZM Y7).getD ((IntKind.wrap .i64 ((IntKind.wrap .i64 (YN * (Y7.Pq.length : Int))) + Y11)).toNat) default)
      (Z1h Y7 YN Y8 k (Y11 + 1) (Yg ++ [[YN, Y11]]))
      (Z1h Y7 YN Y8 k (Y11 + 1) Yg))
    Yg)
def Z73 (Y7 : Gm) (YN : Int) (Y8 : (List (List Int))) (r : (List (List Int))) : Ex × St := ((.exit 6), ⟨.ref (Gm.c Y7) 0 :: .any :: .nils :: .i .i64 (Y7.Pq.length : Int) :: .own 0 :: an 5 (.own 1 :: .i .i64 YN :: .any :: .ref (Gm.c Y7) 0 :: .ref (Gm.c Y7) 0 :: .ref (Gm.c Y7) 0 :: .sl (Y7.Pq.map Gv.c) :: .i .i64 (Y7.Pq.length : Int) :: .i .i64 (Y7.Pq.length : Int) :: .i .i64 (Y7.Pq.length : Int) :: .i .i64 (IntKind.wrap .i64 ((Y7.Pq.length : Int) * (Y7.Pq.length : Int))) :: .own 0 :: an 42 (.i .i64 YN :: .i .i64 (Y7.Pq.length : Int) :: .b (decide (YN < (Y7.Pq.length : Int))) :: .any :: .any :: .i .i64 YN :: .i .i64 (YN + 1) :: an 20 [])), [.vec 4 1 ((ZM Y7).map cB) false, .nest 49 (r.map fun l => l.map (cI .i64)) false]⟩)
def Za5 (Y7 : Gm) (YN : Int) (Y8 : (List (List Int))) (Y11 : Int) (Yg : (List (List Int))) : St := ⟨.ref (Gm.c Y7) 0 :: .any :: .nils :: .i .i64 (Y7.Pq.length : Int) :: .own 0 :: an 5 (.own 1 :: .i .i64 YN :: .i .i64 Y11 :: .ref (Gm.c Y7) 0 :: .ref (Gm.c Y7) 0 :: .ref (Gm.c Y7) 0 :: .sl (Y7.Pq.map Gv.c) :: .i .i64 (Y7.Pq.length : Int) :: .i .i64 (Y7.Pq.length : Int) :: .i .i64 (Y7.Pq.length : Int) :: .i .i64 (IntKind.wrap .i64 ((Y7.Pq.length : Int) * (Y7.Pq.length : Int))) :: .own 0 :: an 42 (.i .i64 YN :: .i .i64 (Y7.Pq.length : Int) :: .b (decide (YN < (Y7.Pq.length : Int))) :: .any :: .any :: .i .i64 YN :: .i .i64 (YN + 1) :: an 20 [])), [.vec 4 1 ((ZM Y7).map cB) false, .nest 49 (Yg.map fun l => l.map (cI .i64)) false]⟩
def Z65 : List Bool := (mR false [0, 1, 1, 3, 5, 12, 42, 3, 2, 2, 20])
def Zcu : List Bool := (mR false [0, 1, 1, 3, 5, 2, 1, 9, 42, 3, 2, 2, 20])
set_option maxHeartbeats 1000000 in
theorem Zdw (Y7 : Gm) (YN : Int) (Y8 : (List (List Int))) (hp0 : Y7.Pq.length ≤ 1073741824) (hp1 : Y7.Tr.length ≤ 1073741824) (hp2 : ∀ t ∈ Y7.Tr, t.length ≤ 1073741824) (hp3 : OkE Y7.Pq.length Y7.Tr) (Z51 : 0 ≤ YN) (Z52 : (Y8.length : Int) ≤ 64 * YN) (Z53 : (decide (YN < (Y7.Pq.length : Int))) = true) : ∀ (k : Nat) (Y11 : Int) (Yg : (List (List Int))) (Z8I : YN < Y11) (Z8J : (Yg.length : Int) ≤ (Y8.length : Int) + Y11) (hk : ((Y7.Pq.length : Int) - Y11).toNat < k), Lp prog 0 (sub (bodyOf f137) [1, 1, 1, 1, 1, 0, 1, 0, 0, 1, 0, 0, 1, 0, 0]) (Za5 Y7 YN Y8 Y11 Yg) (Z73 Y7 YN Y8 (Z1h Y7 YN Y8 k Y11 Yg)).1 (Z73 Y7 YN Y8 (Z1h Y7 YN Y8 k Y11 Yg)).2 := by
 intro k
 induction k with
 | zero => intro Y11 Yg Z8I Z8J hk; exact absurd hk (Nat.not_lt_zero _)
 | succ k ih =>
  intro Y11 Yg Z8I Z8J hk
  cases YW : (decide (Y11 < (Y7.Pq.length : Int))) with
  | true =>
   have YU := odt YW
   have Y1g : (0 : Int) ≤ (IntKind.wrap .i64 ((IntKind.wrap .i64 (YN * (Y7.Pq.length : Int))) + Y11)) := (by ((have := hp3.1; have g4 := odt Z53; (have q2 := ix2F (n := (Y7.Pq.length : Int)) (a := YN) (b := Y11) (by omega) (by omega) (by omega) (by omega) (by omega); omega))))
   have Y1h : (IntKind.wrap .i64 ((IntKind.wrap .i64 (YN * (Y7.Pq.length : Int))) + Y11)) < ((ZM Y7).length : Int) := (by ((have := hp3.1; have g4 := odt Z53; (have q2 := ix2F (n := (Y7.Pq.length : Int)) (a := YN) (b := Y11) (by omega) (by omega) (by omega) (by omega) (by omega); (simp only [Zay, List.length_replicate]; omega)))))
   have Y1e : (IntKind.wrap .i64 ((IntKind.wrap .i64 (YN * (Y7.Pq.length : Int))) + Y11)).toNat < (ZM Y7).length := (by omega)
   have p {a C} (s : Scr a C) := sB YW <| sW .i64 (YN * (Y7.Pq.length : Int)) <| sW .i64 ((IntKind.wrap .i64 (YN * (Y7.Pq.length : Int))) + Y11) <| sX cB (ZM Y7) (IntKind.wrap .i64 ((IntKind.wrap .i64 (YN * (Y7.Pq.length : Int))) + Y11)) Y1g Y1h <| sV cB (ZM Y7) ((IntKind.wrap .i64 ((IntKind.wrap .i64 (YN * (Y7.Pq.length : Int))) + Y11)).toNat) Y1e <| s
   cases Y19 : ((ZM Y7).getD ((IntKind.wrap .i64 ((IntKind.wrap .i64 (YN * (Y7.Pq.length : Int))) + Y11)).toNat) default) with
   | true =>
    have Y1b : Yg.length + [[YN, Y11]].length ≤ 1073741824 := by clear p; exact (by ((have := hp3.1; have g4 := odt Z53; (simp only [List.length_append, List.length_cons, List.length_nil]; omega))))
    have Y1i : (-9223372036854775808 : Int) ≤ (Y11 + 1) := by clear p; exact (by omega)
    have Y1o : (Y11 + 1) ≤ (9223372036854775807 : Int) := by clear p; exact (by omega)
    have e : Z1h Y7 YN Y8 (k + 1) Y11 Yg = (Z1h Y7 YN Y8 k (Y11 + 1) (Yg ++ [[YN, Y11]])) := by simp only [Z1h, YW, Y19, cond_true]
    rw [e]
    exact nextS E0Ok Z5 [] Z65 [0, 1] (⟨.ref (Gm.c Y7) 0 :: .any :: .nils :: .i .i64 (Y7.Pq.length : Int) :: .own 0 :: an 5 (.own 1 :: .i .i64 YN :: .i .i64 (Y11 + 1) :: .ref (Gm.c Y7) 0 :: .ref (Gm.c Y7) 0 :: .ref (Gm.c Y7) 0 :: .sl (Y7.Pq.map Gv.c) :: .i .i64 (Y7.Pq.length : Int) :: .i .i64 (Y7.Pq.length : Int) :: .i .i64 (Y7.Pq.length : Int) :: .i .i64 (IntKind.wrap .i64 ((Y7.Pq.length : Int) * (Y7.Pq.length : Int))) :: .own 0 :: an 42 (.i .i64 YN :: .i .i64 (Y7.Pq.length : Int) :: .b (decide (YN < (Y7.Pq.length : Int))) :: .any :: .any :: .i .i64 YN :: .i .i64 (YN + 1) :: an 20 [])), [.vec 4 1 ((ZM Y7).map cB) false, .nest 49 ((Yg.map fun l => l.map (cI .i64)) ++ [([[.i .i64 YN], [.i .i64 Y11]] : List (List AV))]) false]⟩) (p (sB Y19 <| sC (show (Yg.map fun l => l.map (cI .i64)).length + [([[.i .i64 YN], [.i .i64 Y11]] : List (List AV))].length ≤ 1073741824 from (by simpa using Y1b)) <| sI (Y11 + 1) Y1i Y1o <| sN)) (by kernel_rfl) (by simp [Za5, cL, cI, cB]) (ih (Y11 + 1) (Yg ++ [[YN, Y11]]) (show YN < (Y11 + 1) from (by omega)) (show ((Yg ++ [[YN, Y11]]).length : Int) ≤ (Y8.length : Int) + (Y11 + 1) from (by ((have := hp3.1; have g4 := odt Z53; (simp only [List.length_append, List.length_cons, List.length_nil]; omega))))) (by omega))
   | false =>
    have Y1b : (-9223372036854775808 : Int) ≤ (Y11 + 1) := by clear p; exact (by omega)
    have Y1i : (Y11 + 1) ≤ (9223372036854775807 : Int) := by clear p; exact (by omega)
    have e : Z1h Y7 YN Y8 (k + 1) Y11 Yg = (Z1h Y7 YN Y8 k (Y11 + 1) Yg) := by simp only [Z1h, YW, Y19, cond_true, cond_false]
    rw [e]
    exact nextR E0Ok Z5 [] Z65 [0, 1] (ih (Y11 + 1) Yg (show YN < (Y11 + 1) from (by omega)) (show (Yg.length : Int) ≤ (Y8.length : Int) + (Y11 + 1) from (by omega)) (by omega)) (p (sB Y19 <| sI (Y11 + 1) Y1b Y1i <| sN)) (by kernel_rfl)
  | false =>
   have YU := odf YW
   have e : Z1h Y7 YN Y8 (k + 1) Y11 Yg = Yg := by simp only [Z1h, YW, cond_false]
   rw [e]
   exact outR (e := (.exit 6)) E0Ok Z5 [] Zcu [0, 1] (sB YW <| sN) (by kernel_rfl) (by intro h; cases h)
def Z3d (Y7 : Gm) (YN : Int) (Y8 : (List (List Int))) : (List (List Int)) := (Z1h Y7 YN Y8 (((Y7.Pq.length : Int) - (YN + 1)).toNat + 1) (YN + 1) Y8)
theorem ZhX (m : Gm) (a : Int) (r1 : List (List Int)) : ∀ (k : Nat) (b : Int) (r : List (List Int)), (Z1h m a r1 k b r).length ≤ r.length + k := by
  intro k
  induction k with
  | zero => intro b r; exact Nat.zero_le _
  | succ k ih =>
    intro b r
    rw [Z1h]
    cases decide (b < (m.Pq.length : Int)) with
    | false => rw [cond_false]; omega
    | true =>
      rw [cond_true]
      cases ((ZM m).getD ((IntKind.wrap .i64 ((IntKind.wrap .i64 (a * (m.Pq.length : Int))) + b)).toNat) default) with
      | true => rw [cond_true]; have := ih (b + 1) (r ++ [[a, b]]); simp only [List.length_append, List.length_cons, List.length_nil] at this; omega
      | false => rw [cond_false]; have := ih (b + 1) r; omega
def Z2T (Y7 : Gm) : Nat → Int → (List (List Int)) → (List (List Int))
  | 0, _, _ => default
  | k + 1, YN, Y8 => (cond (decide (YN < (Y7.Pq.length : Int)))
    (Z2T Y7 k (YN + 1) (Z3d Y7 YN Y8))
    Y8)
def Z74 (Y7 : Gm) (r : (List (List Int))) : Ex × St := ((.exit 4), ⟨.ref (Gm.c Y7) 0 :: .any :: .nils :: .i .i64 (Y7.Pq.length : Int) :: .own 0 :: an 5 (.own 1 :: .any :: .any :: .ref (Gm.c Y7) 0 :: .ref (Gm.c Y7) 0 :: .ref (Gm.c Y7) 0 :: .sl (Y7.Pq.map Gv.c) :: .i .i64 (Y7.Pq.length : Int) :: .i .i64 (Y7.Pq.length : Int) :: .i .i64 (Y7.Pq.length : Int) :: .i .i64 (IntKind.wrap .i64 ((Y7.Pq.length : Int) * (Y7.Pq.length : Int))) :: .own 0 :: an 69 []), [.vec 4 1 ((ZM Y7).map cB) false, .nest 49 (r.map fun l => l.map (cI .i64)) false]⟩)
def Za6 (Y7 : Gm) (YN : Int) (Y8 : (List (List Int))) : St := ⟨.ref (Gm.c Y7) 0 :: .any :: .nils :: .i .i64 (Y7.Pq.length : Int) :: .own 0 :: an 5 (.own 1 :: .i .i64 YN :: .any :: .ref (Gm.c Y7) 0 :: .ref (Gm.c Y7) 0 :: .ref (Gm.c Y7) 0 :: .sl (Y7.Pq.map Gv.c) :: .i .i64 (Y7.Pq.length : Int) :: .i .i64 (Y7.Pq.length : Int) :: .i .i64 (Y7.Pq.length : Int) :: .i .i64 (IntKind.wrap .i64 ((Y7.Pq.length : Int) * (Y7.Pq.length : Int))) :: .own 0 :: an 69 []), [.vec 4 1 ((ZM Y7).map cB) false, .nest 49 (Y8.map fun l => l.map (cI .i64)) false]⟩
theorem Zdx (Y7 : Gm) (hp0 : Y7.Pq.length ≤ 1073741824) (hp1 : Y7.Tr.length ≤ 1073741824) (hp2 : ∀ t ∈ Y7.Tr, t.length ≤ 1073741824) (hp3 : OkE Y7.Pq.length Y7.Tr) : ∀ (k : Nat) (YN : Int) (Y8 : (List (List Int))) (Z51 : 0 ≤ YN) (Z52 : (Y8.length : Int) ≤ 64 * YN) (hk : ((Y7.Pq.length : Int) - YN).toNat < k), Lp prog 0 (sub (bodyOf f137) [1, 1, 1, 1, 1, 0, 1, 0, 0]) (Za6 Y7 YN Y8) (Z74 Y7 (Z2T Y7 k YN Y8)).1 (Z74 Y7 (Z2T Y7 k YN Y8)).2 := by
 intro k
 induction k with
 | zero => intro YN Y8 Z51 Z52 hk; exact absurd hk (Nat.not_lt_zero _)
 | succ k ih =>
  intro YN Y8 Z51 Z52 hk
  cases Yj : (decide (YN < (Y7.Pq.length : Int))) with
  | true =>
   have YM := odt Yj
   have YS : (-9223372036854775808 : Int) ≤ (YN + 1) := (by omega)
   have YT : (YN + 1) ≤ (9223372036854775807 : Int) := (by omega)
   have e : Z2T Y7 (k + 1) YN Y8 = (Z2T Y7 k (YN + 1) (Z3d Y7 YN Y8)) := by simp only [Z2T, Yj, cond_true]
   rw [e]
   exact nextR E0Ok Z5 [] (mR false [0, 1, 1, 3, 5, 2, 1, 9, 69]) [0, 1] (ih (YN + 1) (Z3d Y7 YN Y8) (show 0 ≤ (YN + 1) from (by omega)) (show ((Z3d Y7 YN Y8).length : Int) ≤ 64 * (YN + 1) from (by ((have := hp3.1; have g4 := odt Yj; have q := ZhX Y7 YN Y8 (((Y7.Pq.length : Int) - (YN + 1)).toNat + 1) (YN + 1) Y8; unfold Z3d; omega)))) (by omega)) (sB Yj <| sI (YN + 1) YS YT <| sL Z65 2 (lp_val (Z73 Y7 YN Y8) (x := (Z3d Y7 YN Y8)) (Zdw Y7 YN Y8 hp0 hp1 hp2 hp3 Z51 Z52 Yj (((Y7.Pq.length : Int) - (YN + 1)).toNat + 1) (YN + 1) Y8 (show YN < (YN + 1) from (by omega)) (show (Y8.length : Int) ≤ (Y8.length : Int) + (YN + 1) from (by omega)) (Nat.lt_succ_self _)) rfl) <| sI (YN + 1) YS YT <| sN) (by kernel_rfl)
  | false =>
   have YM := odf Yj
   have e : Z2T Y7 (k + 1) YN Y8 = Y8 := by simp only [Z2T, Yj, cond_false]
   rw [e]
   exact outR (e := (.exit 4)) E0Ok Z5 [] (mR false [0, 1, 1, 3, 5, 1, 2, 9, 69]) [0, 1] (sB Yj <| sN) (by kernel_rfl) (by intro h; cases h)
def Z54 (Y7 : Gm) : (List (List Int)) := (Z2T Y7 (((Y7.Pq.length : Int) - 0).toNat + 1) 0 ([] : List (List Int)))
def Z8 (Y7 : Gm) : (List (List Int)) := (Z54 Y7)
theorem ZhR (m : Gm) (i : Int) (r : List Bool) : Z2e m i r = ((r.set (IntKind.wrap .i64 (IntKind.wrap .i64 (Z3o ((m.Tr.getD i.toNat default).getD 0 default) ((m.Tr.getD i.toNat default).getD 1 default) * (m.Pq.length : Int)) + Z3p ((m.Tr.getD i.toNat default).getD 0 default) ((m.Tr.getD i.toNat default).getD 1 default))).toNat true).set (IntKind.wrap .i64 (IntKind.wrap .i64 (Z3o ((m.Tr.getD i.toNat default).getD 1 default) ((m.Tr.getD i.toNat default).getD 2 default) * (m.Pq.length : Int)) + Z3p ((m.Tr.getD i.toNat default).getD 1 default) ((m.Tr.getD i.toNat default).getD 2 default))).toNat true).set (IntKind.wrap .i64 (IntKind.wrap .i64 (Z3o ((m.Tr.getD i.toNat default).getD 2 default) ((m.Tr.getD i.toNat default).getD 0 default) * (m.Pq.length : Int)) + Z3p ((m.Tr.getD i.toNat default).getD 2 default) ((m.Tr.getD i.toNat default).getD 0 default))).toNat true := by
  have one : ∀ (r0 : List Bool) (k : Nat) (x : Int) (s : List Bool), x < 3 → ZV m i r0 (k + 1) x s = ZV m i r0 k (x + 1) (s.set (IntKind.wrap .i64 (IntKind.wrap .i64 (Z1u m i x * (m.Pq.length : Int)) + Z1L m i x)).toNat true) := by
    intro r0 k x s hx
    rw [ZV, decide_eq_true hx, cond_true]
  unfold Z2e
  show ZV m i r 4 0 r = _
  rw [one r 3 0 r (by omega), one r 2 (0 + 1) _ (by omega), one r 1 (0 + 1 + 1) _ (by omega), ZV]
  show cond (decide ((3 : Int) < 3)) _ _ = _
  rw [decide_eq_false (by omega), cond_false]
  rfl
theorem ZhS (m : Gm) (ok : OkE m.Pq.length m.Tr) {a b : Int} (ha : 0 ≤ a) (hab : a < b) (hb : b < (m.Pq.length : Int)) : ∀ (k : Nat) (i : Nat) (r : List Bool), i ≤ m.Tr.length → ((m.Tr.length : Int) - i).toNat < k → r.length = (IntKind.wrap .i64 ((m.Pq.length : Int) * (m.Pq.length : Int))).toNat →
    (Z1g m k i r).getD (IntKind.wrap .i64 (IntKind.wrap .i64 (a * (m.Pq.length : Int)) + b)).toNat default = (r.getD (IntKind.wrap .i64 (IntKind.wrap .i64 (a * (m.Pq.length : Int)) + b)).toNat default || (m.Tr.drop i).any fun t => tHas t a b) := by
  intro k
  induction k with
  | zero => intro i r _ hk; exact absurd hk (Nat.not_lt_zero _)
  | succ k ih =>
    intro i r hle hk hr
    rw [Z1g]
    by_cases hi : (i : Int) < (m.Tr.length : Int)
    · have hn : i < m.Tr.length := by omega
      rw [decide_eq_true hi, cond_true]
      have := ih (i + 1) (Z2e m i r) (by omega) (by omega) (by rw [Zax]; exact hr)
      rw [show ((i : Int) + 1) = ((i + 1 : Nat) : Int) from by omega, this, ZhR, List.drop_eq_getElem_cons hn, List.any_cons]
      have hg : m.Tr.getD ((i : Nat) : Int).toNat default = m.Tr[i] := by rw [show ((i : Nat) : Int).toNat = i from by omega, List.getD_eq_getElem?_getD, List.getElem?_eq_getElem hn]; rfl
      obtain ⟨x, y, z, ht, r1, r2, r3, n1, n2, n3⟩ := ok.2.2 _ (List.getElem_mem hn)
      have h64 : (m.Pq.length : Int) ≤ 64 := by have := ok.1; omega
      rw [hg, ht]
      simp only [List.getD_cons_zero, List.getD_cons_succ]
      rw [seen_set h64 (Zcq z x) (Zb2 r3 r1) (Zb3 r3 r1) ha hab hb (by simpa using hr), seen_set h64 (Zcq y z) (Zb2 r2 r3) (Zb3 r2 r3) ha hab hb (by simpa using hr), seen_set h64 (Zcq x y) (Zb2 r1 r2) (Zb3 r1 r2) ha hab hb hr]
      have hT := mem_tE n1 n2 n3 hab
      unfold tE at hT
      simp only [List.getD_cons_zero, List.getD_cons_succ, List.mem_cons, List.not_mem_nil, or_false] at hT
      generalize r.getD (IntKind.wrap .i64 (IntKind.wrap .i64 (a * (m.Pq.length : Int)) + b)).toNat default = q
      generalize ((m.Tr.drop (i + 1)).any fun t => tHas t a b) = q2
      have hB : tHas [x, y, z] a b = (decide ((⟨a, b⟩ : Gedge) = mkE x y) || (decide ((⟨a, b⟩ : Gedge) = mkE y z) || decide ((⟨a, b⟩ : Gedge) = mkE z x))) := by
        rw [Bool.eq_iff_iff, ← hT]; simp only [Bool.or_eq_true, decide_eq_true_eq]
      rw [hB]
      cases decide ((⟨a, b⟩ : Gedge) = mkE x y) <;> cases decide ((⟨a, b⟩ : Gedge) = mkE y z) <;> cases decide ((⟨a, b⟩ : Gedge) = mkE z x) <;> cases q <;> cases q2 <;> rfl
    · rw [decide_eq_false hi, cond_false, List.drop_eq_nil_of_le (by omega)]; simp
theorem ZhY (m : Gm) (ok : OkE m.Pq.length m.Tr) {a b : Int} (ha : 0 ≤ a) (hab : a < b) (hb : b < (m.Pq.length : Int)) :
    (ZM m).getD (IntKind.wrap .i64 (IntKind.wrap .i64 (a * (m.Pq.length : Int)) + b)).toNat default = m.Tr.any fun t => tHas t a b := by
  unfold ZM
  have := ZhS m ok ha hab hb (((m.Tr.length : Int) - 0).toNat + 1) 0 (List.replicate (IntKind.wrap .i64 ((m.Pq.length : Int) * (m.Pq.length : Int))).toNat false) (Nat.zero_le _) (by omega) (by simp)
  rw [List.drop_zero] at this
  refine this.trans ?_
  rw [List.getD_eq_getElem?_getD, List.getElem?_replicate]
  split <;> simp
theorem ZbT (m : Gm) (ok : OkE m.Pq.length m.Tr) : Z8 m = (edgL m.Pq.length m.Tr).map e2 := by
  rw [edgL_map]
  unfold Z8 Z54
  refine pair_loop (n := m.Pq.length) (p := fun a b => m.Tr.any fun t => tHas t a b) (g := fun a b => e2 ⟨a, b⟩) (lo := Z2T m) (li := Z3d m) (fun k a r => rfl) (fun a r ha => ?_) _ 0 (Nat.zero_le _) (by omega)
  unfold Z3d
  have hf := filt_loop (n := (m.Pq.length : Int)) (f := fun b => !((ZM m).getD ((IntKind.wrap .i64 ((IntKind.wrap .i64 ((a : Int) * (m.Pq.length : Int))) + b)).toNat) default)) (g := fun b => [(a : Int), b]) (lo := Z1h m a r) (fun k i r' => by
    rw [Z1h]
    cases ((ZM m).getD ((IntKind.wrap .i64 ((IntKind.wrap .i64 ((a : Int) * (m.Pq.length : Int))) + i)).toNat) default) <;> rfl) (((m.Pq.length : Int) - ((a : Int) + 1)).toNat + 1) ((a : Int) + 1) r (Nat.lt_succ_self _)
  rw [hf, show ((m.Pq.length : Int) - ((a : Int) + 1)).toNat = m.Pq.length - (a + 1) from by omega]
  congr 1
  have hfc : ((List.range (m.Pq.length - (a + 1))).filter fun (j : Nat) => !(!((ZM m).getD ((IntKind.wrap .i64 ((IntKind.wrap .i64 ((a : Int) * (m.Pq.length : Int))) + ((a : Int) + 1 + (j : Int)))).toNat) default))) = (List.range (m.Pq.length - (a + 1))).filter fun (j : Nat) => m.Tr.any fun t => tHas t a ((a : Int) + 1 + j) := by
    refine List.filter_congr fun j hj => ?_
    rw [List.mem_range] at hj
    rw [Bool.not_not, ZhY m ok (by omega) (by omega) (by omega)]
  rw [hfc]
  rfl
theorem ZgB (m : Gm) (ok : OkE m.Pq.length m.Tr) : (Z8 m).length ≤ 4096 := by
  rw [ZbT m ok, List.length_map]; exact edgL_len ok
theorem Z5f (m : Gm) (ok : OkE m.Pq.length m.Tr) {i : Int} (h0 : 0 ≤ i) (hi : i < ((Z8 m).length : Int)) :
    ((Z8 m).getD i.toNat default).length = 2 ∧ 0 ≤ ((Z8 m).getD i.toNat default).getD 0 default ∧ ((Z8 m).getD i.toNat default).getD 0 default < ((Z8 m).getD i.toNat default).getD 1 default ∧ ((Z8 m).getD i.toNat default).getD 1 default < (m.Pq.length : Int) ∧ (m.Pq.length : Int) ≤ 64 ∧ ((Z8 m).length : Int) ≤ 4096 := by
  have hl := ZgB m ok
  have h64 := ok.1
  rw [ZbT m ok] at hi hl ⊢
  rw [List.length_map] at hi hl
  have hn : i.toNat < (edgL m.Pq.length m.Tr).length := by omega
  have hg : ((edgL m.Pq.length m.Tr).map e2).getD i.toNat default = e2 (edgL m.Pq.length m.Tr)[i.toNat] := by rw [List.getD_eq_getElem?_getD, List.getElem?_map, List.getElem?_eq_getElem hn]; rfl
  have hb := edgL_at (List.getElem_mem hn)
  rw [hg, List.length_map]
  exact ⟨rfl, hb.1, hb.2.1, hb.2.2, by omega, by omega⟩
end Go.Ab
