/- The functions of this seat as plain Lean, and that the program's are these. Printed by a program of the prover's own. -/
import Derived.Test.YtpndflbllggeiaaGreatB1
set_option linter.unusedVariables false
set_option linter.unusedSimpArgs false
set_option maxRecDepth 100000
namespace Go.Ab
open Go.RowKit Go.Proofs.Tryz
theorem Zdb (b : GBody) (h : Z1o b = true) : Z1n b.Mesh = true ∧ (b.Weights.length : Int) = (b.Mesh.Places.length : Int) ∧ (b.Springs.all fun s => Z1A s (b.Mesh.Places.length : Int)) = true := by
  unfold Z1o Z4a at h
  rw [all_from (a := b.Springs) (p := fun s => Z1A s (b.Mesh.Places.length : Int)) (lo := Z2q b) (x := ()) (y := ()) (fun k i => rfl)] at h
  cases h1 : Z1n b.Mesh <;> rw [h1] at h <;> (try (cases h; done))
  cases h2 : decide ((b.Springs.length : Int) > 200) <;> rw [h2] at h <;> (try (cases h; done))
  cases h3 : ((b.Weights.length : Int) != (b.Mesh.Places.length : Int)) <;> rw [h3] at h <;> (try (cases h; done))
  cases h4 : (b.Springs.all fun s => Z1A s (b.Mesh.Places.length : Int)) <;> rw [h4] at h <;> (try (cases h; done))
  simp only [bne_eq_false_iff_eq] at h3
  exact ⟨rfl, h3, rfl⟩
theorem ZfY (s : GSpring) {n : Nat} (hn : n ≤ 9223372036854775807) (h : Z1A s (n : Int) = true) : (0 ≤ s.A ∧ s.A < (n : Int)) ∧ (0 ≤ s.B ∧ s.B < (n : Int)) := by
  unfold Z1A at h
  cases h1 : ZL s.A 0 (IntKind.wrap .i64 ((n : Int) - 1)) <;> rw [h1] at h <;> (try (cases h; done))
  cases h2 : ZL s.B 0 (IntKind.wrap .i64 ((n : Int) - 1)) <;> rw [h2] at h <;> (try (cases h; done))
  exact ⟨ZfN hn h1, ZfN hn h2⟩
theorem Zgu (b : GBody) (h : Z1o b = true) : OkIx b.Mesh.Places.length GSpring.A b.Springs := by
  obtain ⟨h1, _, h3⟩ := Zdb b h
  have hn : b.Mesh.Places.length ≤ 64 := by
    rw [Z8S] at h1
    cases h2 : decide ((b.Mesh.Places.length : Int) > 64) <;> rw [h2] at h1 <;> (try (cases h1; done))
    simp only [decide_eq_false_iff_not] at h2
    omega
  rw [List.all_eq_true] at h3
  exact fun s hs => (ZfY s (by omega) (h3 s hs)).1
theorem Zgv (b : GBody) (h : Z1o b = true) : OkIx b.Mesh.Places.length GSpring.B b.Springs := by
  obtain ⟨h1, _, h3⟩ := Zdb b h
  have hn : b.Mesh.Places.length ≤ 64 := by
    rw [Z8S] at h1
    cases h2 : decide ((b.Mesh.Places.length : Int) > 64) <;> rw [h2] at h1 <;> (try (cases h1; done))
    simp only [decide_eq_false_iff_not] at h2
    omega
  rw [List.all_eq_true] at h3
  exact fun s hs => (ZfY s (by omega) (h3 s hs)).2
structure OkBd (b : GBody) : Prop where
  e : OkE b.Mesh.Places.length b.Mesh.Triangles
  w : b.Weights.length = b.Mesh.Places.length
  a : OkIx b.Mesh.Places.length GSpring.A b.Springs
  b : OkIx b.Mesh.Places.length GSpring.B b.Springs
theorem Ze5 (b : GBody) (h : Z1o b = true) : OkBd b := by
  obtain ⟨h1, h2, h3⟩ := Zdb b h
  exact ⟨Zgt _ h1, by omega, Zgu b h, Zgv b h⟩
theorem Z4u {b : GBody} (h : OkBd b) {i : Int} (h0 : 0 ≤ i) (hi : decide (i < (b.Springs.length : Int)) = true) : (0 ≤ (b.Springs.getD i.toNat default).A ∧ (b.Springs.getD i.toNat default).A < (b.Mesh.Places.length : Int)) ∧ (0 ≤ (b.Springs.getD i.toNat default).B ∧ (b.Springs.getD i.toNat default).B < (b.Mesh.Places.length : Int)) :=
  ⟨OkIx.at h.a h0 (of_decide_eq_true hi), OkIx.at h.b h0 (of_decide_eq_true hi)⟩
def Z3A (Y2 : GMotion) : Bool := (cond (Z1o Y2.Body)
  ((Y2.Speeds.length : Int) == (Y2.Body.Mesh.Places.length : Int))
  false)
theorem Zf7 (Y2 : GMotion) (hp0 : Y2.Body.Mesh.Places.length ≤ 1073741824) (hp1 : Y2.Body.Mesh.Triangles.length ≤ 1073741824) (hp2 : ∀ t ∈ Y2.Body.Mesh.Triangles, t.length ≤ 1073741824) (hp3 : Y2.Body.Springs.length ≤ 1073741824) (hp4 : Y2.Body.Weights.length ≤ 1073741824) (hp5 : Y2.Speeds.length ≤ 1073741824)  : Fn prog 126 [.ref (GMotion.cells Y2) 0] (.b (Z3A Y2)) [] := by
 have p {a C} (s : Scr a C) := sK [17, 17] <| sF (Fn.sub (args := [.ref (GMotion.cells Y2) 0]) (r := .b (Z1o Y2.Body)) (new := []) [some 9] (Zf6 Y2.Body hp0 hp1 hp2 hp3 hp4)) <| s
 cases h0 : (Z1o Y2.Body) with
 | true =>
  refine fnS E0Ok Z5 (c := bodyOf f126) [] (.b ((Y2.Speeds.length : Int) == (Y2.Body.Mesh.Places.length : Int))) [] func126 (p (sB h0 <| sB h0 <| sB h0 <| sB h0 <| sB h0 <| sZ GVector.cells Y2.Speeds <| sB h0 <| sB h0 <| sB h0 <| sB h0 <| sB h0 <| sB h0 <| sB h0 <| sZ GVector.cells Y2.Body.Mesh.Places <| sB h0 <| sB h0 <| sK [] sN)) rfl (by kernel_rfl) (by kernel_rfl) rfl ?_ ?_
  · simp only [Z3A, h0, cond_true]
  · rfl
 | false =>
  refine fnS E0Ok Z5 (c := bodyOf f126) [] (.b false) [] func126 (p (sB h0 <| sB h0 <| sB h0 <| sB h0 <| sB h0 <| sB h0 <| sB h0 <| sB h0 <| sB h0 <| sB h0 <| sB h0 <| sB h0 <| sB h0 <| sB h0 <| sK [] sN)) rfl (by kernel_rfl) (by kernel_rfl) rfl ?_ ?_
  · simp only [Z3A, h0, cond_false]
  · rfl
def ZC (Yn : (List Int)) (YE : Int) (Yy : Int) : Nat → Int → (Unit) ⊕ (Unit)
  | 0, _ => .inl default
  | k + 1, Y7 => (cond (decide (Y7 < (Yn.length : Int)))
    (cond (ZL (Yn.getD Y7.toNat default) YE Yy)
      (cond (decide (Y7 > 0))
        (cond (decide ((Yn.getD (Y7 - 1).toNat default) ≥ (Yn.getD Y7.toNat default)))
          (.inl ())
          (ZC Yn YE Yy k (Y7 + 1)))
        (ZC Yn YE Yy k (Y7 + 1)))
      (.inl ()))
    (.inr ()))
def Z56 (Yn : (List Int)) (YE : Int) (Yy : Int) : (Unit) ⊕ (Unit) → Ex × St
  | .inl r => (.ret, ⟨an 6 (.b false :: an 31 []), []⟩)
  | .inr r => ((.exit 0), ⟨an 38 [], []⟩)
def Zc4 (Yn : (List Int)) (YE : Int) (Yy : Int) (Y7 : Int) : St := ⟨.sl (Yn.map (cI .i64)) :: .i .i64 YE :: .i .i64 Yy :: an 4 (.i .i64 Y7 :: an 30 []), []⟩
theorem Z8W (Yn : (List Int)) (YE : Int) (Yy : Int) (hp0 : Yn.length ≤ 1073741824) : ∀ (k : Nat) (Y7 : Int) (Z7U : 0 ≤ Y7) (hk : ((Yn.length : Int) - Y7).toNat < k), Lp prog 0 (sub (bodyOf f120) [1, 0, 1, 0, 0]) (Zc4 Yn YE Yy Y7) (Z56 Yn YE Yy (ZC Yn YE Yy k Y7)).1 (Z56 Yn YE Yy (ZC Yn YE Yy k Y7)).2 := by
 intro k
 induction k with
 | zero => intro Y7 Z7U hk; exact absurd hk (Nat.not_lt_zero _)
 | succ k ih =>
  intro Y7 Z7U hk
  have p {a C} (s : Scr a C) := sZ (cI .i64) Yn <| s
  cases Yl : (decide (Y7 < (Yn.length : Int))) with
  | true =>
   have Yw := of_decide_eq_true Yl
   have YF : (0 : Int) ≤ Y7 := by clear p; exact (by assumption)
   have YG : Y7 < (Yn.length : Int) := by clear p; exact (by assumption)
   have q {a C} (s : Scr a C) := p (sB Yl <| sK [21, 21] <| sG (cI .i64) Yn Y7 YF YG <| sF (Z5j (Yn.getD Y7.toNat default) YE Yy) <| s)
   clear p
   cases Yr : (ZL (Yn.getD Y7.toNat default) YE Yy) with
   | true =>
    have p {a C} (s : Scr a C) := q (sB' Yr <| sB' Yr <| sB' Yr <| s)
    clear q
    cases YL : (decide (Y7 > 0)) with
    | true =>
     have Y1e := of_decide_eq_true YL
     have YH : (-9223372036854775808 : Int) ≤ (Y7 - 1) := by clear p; exact (by omega)
     have YI : (Y7 - 1) ≤ (9223372036854775807 : Int) := by clear p; exact (by omega)
     have YP : (0 : Int) ≤ (Y7 - 1) := by clear p; exact (by omega)
     have YS : (Y7 - 1) < (Yn.length : Int) := by clear p; exact (by omega)
     have q {a C} (s : Scr a C) := p (sB YL <| sB YL <| sB YL <| sI (Y7 - 1) YH YI <| sB YL <| sG (cI .i64) Yn (Y7 - 1) YP YS <| sB YL <| sB YL <| sB YL <| sB YL <| sG (cI .i64) Yn Y7 YF YG <| sB YL <| sB YL <| sB' Yr <| sB YL <| sB' Yr <| s)
     clear p
     cases YX : (decide ((Yn.getD (Y7 - 1).toNat default) ≥ (Yn.getD Y7.toNat default))) with
     | true =>
      have Y1x := of_decide_eq_true YX
      have e : ZC Yn YE Yy (k + 1) Y7 = (.inl ()) := by simp only [ZC, Yl, Yr, YL, YX, cond_true]
      rw [e]
      exact outR (e := .ret) E0Ok Z5 [] (mR false [6, 1, 31]) [] (q (sB YX <| sN)) (by kernel_rfl) (by intro h; cases h)
     | false =>
      have Y1x := of_decide_eq_false YX
      have y_6 : (-9223372036854775808 : Int) ≤ (Y7 + 1) := by clear q; exact (by omega)
      have y_7 : (Y7 + 1) ≤ (9223372036854775807 : Int) := by clear q; exact (by omega)
      have e : ZC Yn YE Yy (k + 1) Y7 = (ZC Yn YE Yy k (Y7 + 1)) := by simp only [ZC, Yl, Yr, YL, YX, cond_true, cond_false]
      rw [e]
      exact nextR E0Ok Z5 [] (mR false [0, 3, 4, 1, 30]) [] (ih (Y7 + 1) (show 0 ≤ (Y7 + 1) from (by omega)) (by omega)) (q (sB YX <| sI (Y7 + 1) y_6 y_7 <| sN)) (by kernel_rfl)
    | false =>
     have Y1e := of_decide_eq_false YL
     have YH : (-9223372036854775808 : Int) ≤ (Y7 + 1) := by clear p; exact (by omega)
     have YI : (Y7 + 1) ≤ (9223372036854775807 : Int) := by clear p; exact (by omega)
     have e : ZC Yn YE Yy (k + 1) Y7 = (ZC Yn YE Yy k (Y7 + 1)) := by simp only [ZC, Yl, Yr, YL, cond_true, cond_false]
     rw [e]
     exact nextR E0Ok Z5 [] (mR false [0, 3, 4, 1, 30]) [] (ih (Y7 + 1) (show 0 ≤ (Y7 + 1) from (by omega)) (by omega)) (p (sB YL <| sB YL <| sB YL <| sB YL <| sB YL <| sB YL <| sB YL <| sB YL <| sB YL <| sB YL <| sB' Yr <| sB YL <| sB' Yr <| sB (show false = false from rfl) <| sI (Y7 + 1) YH YI <| sN)) (by kernel_rfl)
   | false =>
    have e : ZC Yn YE Yy (k + 1) Y7 = (.inl ()) := by simp only [ZC, Yl, Yr, cond_true, cond_false]
    rw [e]
    exact outR (e := .ret) E0Ok Z5 [] (mR false [6, 1, 31]) [] (q (sB' Yr <| sB' Yr <| sB' Yr <| sB' Yr <| sB' Yr <| sB (show true = true from rfl) <| sN)) (by kernel_rfl) (by intro h; cases h)
  | false =>
   have Yw := of_decide_eq_false Yl
   have e : ZC Yn YE Yy (k + 1) Y7 = (.inr ()) := by simp only [ZC, Yl, cond_false]
   rw [e]
   exact outR (e := (.exit 0)) E0Ok Z5 [] (mR false [38]) [] (p (sB Yl <| sN)) (by kernel_rfl) (by intro h; cases h)
def Z3G (Yn : (List Int)) (YE : Int) (Yy : Int) : (Unit) ⊕ (Unit) := (ZC Yn YE Yy (((Yn.length : Int) - 0).toNat + 1) 0)
def Z45 (Yn : (List Int)) (YE : Int) (Yy : Int) : Bool := (match (Z3G Yn YE Yy) with
  | .inl r1 => false
  | .inr r1 => true)
theorem ZdG (Yn : (List Int)) (YE : Int) (Yy : Int) (hp0 : Yn.length ≤ 1073741824)  : Fn prog 120 [.sl (Yn.map (cI .i64)), .i .i64 YE, .i .i64 Yy] (.b (Z45 Yn YE Yy)) [] := by
 cases h0 : (Z3G Yn YE Yy) with
 | inl r1 =>
  refine fnS E0Ok Z5 (c := bodyOf f120) [] (.b false) [] func120 (sL (mR false [0, 3, 4, 1, 30]) 0 (lp_val (Z56 Yn YE Yy) (x := (Z3G Yn YE Yy)) (Z8W Yn YE Yy hp0 (((Yn.length : Int) - 0).toNat + 1) 0 (show 0 ≤ 0 from (by omega)) (Nat.lt_succ_self _)) h0) <| sK [] sN) rfl (by kernel_rfl) (by kernel_rfl) rfl ?_ ?_
  · simp only [Z45, h0]
  · rfl
 | inr r1 =>
  refine fnS E0Ok Z5 (c := bodyOf f120) [] (.b true) [] func120 (sL (mR false [0, 3, 4, 1, 30]) 0 (lp_val (Z56 Yn YE Yy) (x := (Z3G Yn YE Yy)) (Z8W Yn YE Yy hp0 (((Yn.length : Int) - 0).toNat + 1) 0 (show 0 ≤ 0 from (by omega)) (Nat.lt_succ_self _)) h0) <| sK [] sN) rfl (by kernel_rfl) (by kernel_rfl) rfl ?_ ?_
  · simp only [Z45, h0]
  · rfl
def Z3g (Ya : GBody) (Y3 : (List Int)) : Bool := (Z45 Y3 0 (IntKind.wrap .i64 ((Ya.Mesh.Places.length : Int) - 1)))
theorem Ze6 (Ya : GBody) (Y3 : (List Int)) (hp0 : Ya.Mesh.Places.length ≤ 1073741824) (hp1 : Ya.Mesh.Triangles.length ≤ 1073741824) (hp2 : ∀ t ∈ Ya.Mesh.Triangles, t.length ≤ 1073741824) (hp3 : Ya.Springs.length ≤ 1073741824) (hp4 : Ya.Weights.length ≤ 1073741824) (hp5 : Y3.length ≤ 1073741824)  : Fn prog 63 [.ref (GBody.cells Ya) 0, .sl (Y3.map (cI .i64))] (.b (Z3g Ya Y3)) [] := by
 refine fnS E0Ok Z5 (c := bodyOf f63) [] (.b (Z45 Y3 0 (IntKind.wrap .i64 ((Ya.Mesh.Places.length : Int) - 1)))) [] func63 (sZ GVector.cells Ya.Mesh.Places <| sW .i64 ((Ya.Mesh.Places.length : Int) - 1) <| sF (ZdG Y3 0 (IntKind.wrap .i64 ((Ya.Mesh.Places.length : Int) - 1)) hp5) <| sK [] sN) rfl (by kernel_rfl) (by kernel_rfl) rfl ?_ ?_
 · rfl
 · rfl
theorem Zgf (l : List Int) (h : Int) : ∀ (k : Nat) (i : Int), 0 ≤ i → ZC l 0 h k i = .inr () → ∀ j : Nat, i.toNat ≤ j → j < l.length → ZL (l.getD j default) 0 h = true := by
  intro k
  induction k with
  | zero => intro i _ e; cases e
  | succ k ih =>
    intro i h0 e j hj hl
    rw [ZC, decide_eq_true (show i < (l.length : Int) from by omega), cond_true] at e
    cases hc : ZL (l.getD i.toNat default) 0 h with
    | false => rw [hc] at e; cases e
    | true =>
      have e2 : ZC l 0 h k (i + 1) = .inr () := by
        rw [hc, cond_true] at e
        cases h1 : decide (i > 0) with
        | false => rw [h1, cond_false] at e; exact e
        | true =>
          rw [h1, cond_true] at e
          cases h2 : decide ((l.getD (i - 1).toNat default) ≥ (l.getD i.toNat default)) with
          | true => rw [h2] at e; cases e
          | false => rw [h2, cond_false] at e; exact e
      by_cases hij : i.toNat = j
      · rw [← hij]; exact hc
      · exact ih (i + 1) (by omega) e2 j (by omega) hl
theorem Ze7 (b : GBody) (l : List Int) (hn : b.Mesh.Places.length ≤ 1073741824) (h : Z3g b l = true) : OkIx b.Mesh.Places.length (fun x => x) l := by
  intro x hx
  obtain ⟨j, hj, rfl⟩ := List.getElem_of_mem hx
  unfold Z3g Z45 Z3G at h
  cases e : ZC l 0 (IntKind.wrap .i64 ((b.Mesh.Places.length : Int) - 1)) (((l.length : Int) - 0).toNat + 1) 0 with
  | inl r => rw [e] at h; cases h
  | inr r =>
    have := Zgf l _ _ 0 (Int.le_refl 0) e j (by omega) hj
    rw [List.getD_eq_getElem?_getD, List.getElem?_eq_getElem hj, Option.getD_some] at this
    exact ZfN (by omega) this
def Z7h (YJ : Nat) : Bool := (fcmp .eql .f32 (fop .sub .f32 YJ YJ) 0)
theorem Zdc (YJ : Nat)   : Fn prog 121 [.f .f32 YJ] (.b (Z7h YJ)) [] := by
 refine fnS E0Ok Z5 (c := bodyOf f121) [] (.b (fcmp .eql .f32 (fop .sub .f32 YJ YJ) 0)) [] func121 (sK [] sN) rfl (by kernel_rfl) (by kernel_rfl) rfl ?_ ?_
 · rfl
 · rfl
def Z27 (YJ : Nat) : Bool := (cond (Z7h YJ)
  (fcmp .gtr .f32 YJ 0)
  false)
theorem Z8X (YJ : Nat)   : Fn prog 69 [.f .f32 YJ] (.b (Z27 YJ)) [] := by
 have p {a C} (s : Scr a C) := sF (Zdc YJ) <| s
 cases h0 : (Z7h YJ) with
 | true =>
  refine fnS E0Ok Z5 (c := bodyOf f69) [] (.b (fcmp .gtr .f32 YJ 0)) [] func69 (p (sB h0 <| sB h0 <| sB h0 <| sK [] sN)) rfl (by kernel_rfl) (by kernel_rfl) rfl ?_ ?_
  · simp only [Z27, h0, cond_true]
  · rfl
 | false =>
  refine fnS E0Ok Z5 (c := bodyOf f69) [] (.b false) [] func69 (p (sB h0 <| sB h0 <| sB h0 <| sK [] sN)) rfl (by kernel_rfl) (by kernel_rfl) rfl ?_ ?_
  · simp only [Z27, h0, cond_false]
  · rfl
def Z2X (Y2 : GMotion) (Y3 : (List Int)) (Yc : Nat) (Y19 : Nat) : Bool := (cond (Z3A Y2)
  (cond (Z3g Y2.Body Y3)
    (cond (Z27 Yc)
      (Z27 Y19)
      false)
    false)
  false)
theorem ZeC (Y2 : GMotion) (Y3 : (List Int)) (Yc : Nat) (Y19 : Nat) (hp0 : Y2.Body.Mesh.Places.length ≤ 1073741824) (hp1 : Y2.Body.Mesh.Triangles.length ≤ 1073741824) (hp2 : ∀ t ∈ Y2.Body.Mesh.Triangles, t.length ≤ 1073741824) (hp3 : Y2.Body.Springs.length ≤ 1073741824) (hp4 : Y2.Body.Weights.length ≤ 1073741824) (hp5 : Y2.Speeds.length ≤ 1073741824) (hp6 : Y3.length ≤ 1073741824)  : Fn prog 76 [.ref (GMotion.cells Y2) 0, .sl (Y3.map (cI .i64)), .f .f32 Yc, .f .f32 Y19] (.b (Z2X Y2 Y3 Yc Y19)) [] := by
 have p {a C} (s : Scr a C) := sF (Zf7 Y2 hp0 hp1 hp2 hp3 hp4 hp5) <| s
 cases h0 : (Z3A Y2) with
 | true =>
  have q {a C} (s : Scr a C) := p (sB h0 <| sB h0 <| sB h0 <| sB h0 <| sB h0 <| sF (Fn.sub (args := [.ref (GMotion.cells Y2) 0, .sl (Y3.map (cI .i64))]) (r := .b (Z3g Y2.Body Y3)) (new := []) [some 9, none] (Ze6 Y2.Body Y3 hp0 hp1 hp2 hp3 hp4 hp6)) <| sB h0 <| s)
  clear p
  cases h1 : (Z3g Y2.Body Y3) with
  | true =>
   have p {a C} (s : Scr a C) := q (sB h1 <| sB h1 <| sF (Z8X Yc) <| sB h1 <| s)
   clear q
   cases h2 : (Z27 Yc) with
   | true =>
    refine fnS E0Ok Z5 (c := bodyOf f76) [] (.b (Z27 Y19)) [] func76 (p (sB h2 <| sB h2 <| sF (Z8X Y19) <| sB h2 <| sK [] sN)) rfl (by kernel_rfl) (by kernel_rfl) rfl ?_ ?_
    · simp only [Z2X, h0, h1, h2, cond_true]
    · rfl
   | false =>
    refine fnS E0Ok Z5 (c := bodyOf f76) [] (.b false) [] func76 (p (sB h2 <| sB h2 <| sB h2 <| sK [] sN)) rfl (by kernel_rfl) (by kernel_rfl) rfl ?_ ?_
    · simp only [Z2X, h0, h1, h2, cond_true, cond_false]
    · rfl
  | false =>
   refine fnS E0Ok Z5 (c := bodyOf f76) [] (.b false) [] func76 (q (sB h1 <| sB h1 <| sB h1 <| sB (show false = false from rfl) <| sB (show false = false from rfl) <| sB (show false = false from rfl) <| sK [] sN)) rfl (by kernel_rfl) (by kernel_rfl) rfl ?_ ?_
   · simp only [Z2X, h0, h1, cond_true, cond_false]
   · rfl
 | false =>
  refine fnS E0Ok Z5 (c := bodyOf f76) [] (.b false) [] func76 (p (sB h0 <| sB h0 <| sB h0 <| sB h0 <| sB h0 <| sB h0 <| sB (show false = false from rfl) <| sB (show false = false from rfl) <| sB (show false = false from rfl) <| sB (show false = false from rfl) <| sB (show false = false from rfl) <| sB (show false = false from rfl) <| sK [] sN)) rfl (by kernel_rfl) (by kernel_rfl) rfl ?_ ?_
  · simp only [Z2X, h0, cond_false]
  · rfl
theorem ZdH (m : GMotion) (h : List Int) (a t : Nat) (e : Z2X m h a t = true) : Z1o m.Body = true ∧ m.Speeds.length = m.Body.Mesh.Places.length ∧ Z3g m.Body h = true ∧ Z27 a = true ∧ Z27 t = true := by
  unfold Z2X Z3A at e
  cases h1 : Z1o m.Body <;> rw [h1] at e <;> (try (cases e; done))
  cases h2 : ((m.Speeds.length : Int) == (m.Body.Mesh.Places.length : Int)) <;> rw [h2] at e <;> (try (cases e; done))
  cases h3 : Z3g m.Body h <;> rw [h3] at e <;> (try (cases e; done))
  cases h4 : Z27 a <;> rw [h4] at e <;> (try (cases e; done))
  rw [beq_iff_eq] at h2
  exact ⟨rfl, by omega, rfl, rfl, e⟩
def Z1S (Y4 : GVector) (Yi : GVector) : GVector := (⟨(fop .sub .f32 Y4.X Yi.X), (fop .sub .f32 Y4.Y Yi.Y), (fop .sub .f32 Y4.Z Yi.Z)⟩ : GVector)
theorem Z5k (Y4 : GVector) (Yi : GVector)   : Fn prog 99 [.agg [.f .f32 Y4.X, .f .f32 Y4.Y, .f .f32 Y4.Z], .agg [.f .f32 Yi.X, .f .f32 Yi.Y, .f .f32 Yi.Z]] (.agg [.f .f32 ((Z1S Y4 Yi).X), .f .f32 ((Z1S Y4 Yi).Y), .f .f32 ((Z1S Y4 Yi).Z)]) [] := by
 refine fnS E0Ok Z5 (c := bodyOf f99) [] (.agg [.f .f32 (fop .sub .f32 Y4.X Yi.X), .f .f32 (fop .sub .f32 Y4.Y Yi.Y), .f .f32 (fop .sub .f32 Y4.Z Yi.Z)]) [] func99 (sK [] sN) rfl (by kernel_rfl) (by kernel_rfl) rfl ?_ ?_
 · rfl
 · rfl
theorem Z2r {n : Nat} {ts : List (List Int)} {i k : Int} (h : OkE n ts) (h0 : 0 ≤ i) (hi : i < (ts.length : Int)) (k0 : 0 ≤ k) (k3 : k < 3) :
    (ts.getD i.toNat default).length = 3 ∧ 0 ≤ Int.tmod (k + 1) 3 ∧ Int.tmod (k + 1) 3 < 3 ∧ 0 ≤ Int.tmod (k + 2) 3 ∧ Int.tmod (k + 2) 3 < 3 ∧
    (0 ≤ (ts.getD i.toNat default).getD k.toNat default ∧ (ts.getD i.toNat default).getD k.toNat default < (n : Int)) ∧
    (0 ≤ (ts.getD i.toNat default).getD (Int.tmod (k + 1) 3).toNat default ∧ (ts.getD i.toNat default).getD (Int.tmod (k + 1) 3).toNat default < (n : Int)) ∧
    (0 ≤ (ts.getD i.toNat default).getD (Int.tmod (k + 2) 3).toNat default ∧ (ts.getD i.toNat default).getD (Int.tmod (k + 2) 3).toNat default < (n : Int)) := by
  have q1 := h.tris.at2 h0 hi k0 (.inl k3)
  have q2 := tmod3 (x := k + 1) (by omega)
  have q3 := h.tris.at2 h0 hi q2.1 (.inl q2.2)
  have q4 := tmod3 (x := k + 2) (by omega)
  have q5 := h.tris.at2 h0 hi q4.1 (.inl q4.2)
  exact ⟨q1.1, q2.1, q2.2, q4.1, q4.2, q1.2, q3.2, q5.2⟩
def Z6p (Y4 : GVector) (Yi : GVector) : Nat := (fop .add .f32 (fop .add .f32 (fop .mul .f32 Y4.X Yi.X) (fop .mul .f32 Y4.Y Yi.Y)) (fop .mul .f32 Y4.Z Yi.Z))
theorem ZdI (Y4 : GVector) (Yi : GVector)   : Fn prog 131 [.agg [.f .f32 Y4.X, .f .f32 Y4.Y, .f .f32 Y4.Z], .agg [.f .f32 Yi.X, .f .f32 Yi.Y, .f .f32 Yi.Z]] (.f .f32 (Z6p Y4 Yi)) [] := by
 refine fnS E0Ok Z5 (c := bodyOf f131) [] (.f .f32 (fop .add .f32 (fop .add .f32 (fop .mul .f32 Y4.X Yi.X) (fop .mul .f32 Y4.Y Yi.Y)) (fop .mul .f32 Y4.Z Yi.Z))) [] func131 (sK [] sN) rfl (by kernel_rfl) (by kernel_rfl) rfl ?_ ?_
 · rfl
 · rfl
def Z4Q (YJ : Nat) : Nat := (fsqrt YJ)
theorem ZcU (YJ : Nat)   : Fn prog 146 [.f .f64 YJ] (.f .f64 (Z4Q YJ)) [] := by
 refine fnS E0Ok Z5 (c := bodyOf f146) [] (.f .f64 (fsqrt YJ)) [] func146 (sK [] sN) rfl (by kernel_rfl) (by kernel_rfl) rfl ?_ ?_
 · rfl
 · rfl
def Z7i (YJ : Nat) : Nat := (fcv .f64 .f32 YJ)
theorem Zdd (YJ : Nat) (hp0 : fcvOk .f64 .f32 YJ = true)  : Fn prog 145 [.f .f64 YJ] (.f .f32 (Z7i YJ)) [] := by
 refine fnS E0Ok Z5 (c := bodyOf f145) [] (.f .f32 (fcv .f64 .f32 YJ)) [] func145 (sC hp0 <| sK [] sN) rfl (by kernel_rfl) (by kernel_rfl) rfl ?_ ?_
 · rfl
 · rfl
def Z8T (YJ : Nat) : Nat := (Z7i (Z4Q (fcv .f32 .f64 YJ)))
theorem Ze8 (YJ : Nat)   : Fn prog 136 [.f .f32 YJ] (.f .f32 (Z8T YJ)) [] := by
 have y0 : fcvOk .f64 .f32 (Z4Q (fcv .f32 .f64 YJ)) = true := (narrow_sqrt _)
 refine fnS E0Ok Z5 (c := bodyOf f136) [] (.f .f32 (Z7i (Z4Q (fcv .f32 .f64 YJ)))) [] func136 (sC (widenOk YJ) <| sF (ZcU (fcv .f32 .f64 YJ)) <| sF (Zdd (Z4Q (fcv .f32 .f64 YJ)) y0) <| sK [] sN) rfl (by kernel_rfl) (by kernel_rfl) rfl ?_ ?_
 · rfl
 · rfl
def Z2I (YY : GVector) : Nat := (Z8T (Z6p YY YY))
theorem ZaC (YY : GVector)   : Fn prog 98 [.agg [.f .f32 YY.X, .f .f32 YY.Y, .f .f32 YY.Z]] (.f .f32 (Z2I YY)) [] := by
 refine fnS E0Ok Z5 (c := bodyOf f98) [] (.f .f32 (Z8T (Z6p YY YY))) [] func98 (sF (ZdI YY YY) <| sF (Ze8 (Z6p YY YY)) <| sK [] sN) rfl (by kernel_rfl) (by kernel_rfl) rfl ?_ ?_
 · rfl
 · rfl
def Z4d (YJ : Nat) (Y16 : Nat) : Nat := (cond (fcmp .gtr .f32 Y16 0)
  (fop .quo .f32 YJ Y16)
  0)
theorem ZaD (YJ : Nat) (Y16 : Nat)   : Fn prog 87 [.f .f32 YJ, .f .f32 Y16] (.f .f32 (Z4d YJ Y16)) [] := by
 cases h0 : (fcmp .gtr .f32 Y16 0) with
 | true =>
  refine fnS E0Ok Z5 (c := bodyOf f87) [] (.f .f32 (fop .quo .f32 YJ Y16)) [] func87 (sB h0 <| sK [] sN) rfl (by kernel_rfl) (by kernel_rfl) rfl ?_ ?_
  · simp only [Z4d, h0, cond_true]
  · rfl
 | false =>
  refine fnS E0Ok Z5 (c := bodyOf f87) [] (.f .f32 0) [] func87 (sB h0 <| sK [] sN) rfl (by kernel_rfl) (by kernel_rfl) rfl ?_ ?_
  · simp only [Z4d, h0, cond_false]
  · rfl
def Z9Q (Ya : GBody) (x_1 : GSpring) : Nat := (fop .mul .f32 x_1.Stiff (fop .sub .f32 (Z2I (Z1S (Ya.Mesh.Places.getD x_1.B.toNat default) (Ya.Mesh.Places.getD x_1.A.toNat default))) x_1.Long))
def Z9R (Ya : GBody) (x_1 : GSpring) : Nat := (Z4d (Z9Q Ya x_1) (Z2I (Z1S (Ya.Mesh.Places.getD x_1.B.toNat default) (Ya.Mesh.Places.getD x_1.A.toNat default))))
def Z2K (Ya : GBody) (x_1 : GSpring) : GVector × Nat := ((Z1S (Ya.Mesh.Places.getD x_1.B.toNat default) (Ya.Mesh.Places.getD x_1.A.toNat default)), (Z9R Ya x_1))
theorem ZeD (Ya : GBody) (x_1 : GSpring) (hp0 : Ya.Mesh.Places.length ≤ 1073741824) (hp1 : Ya.Mesh.Triangles.length ≤ 1073741824) (hp2 : ∀ t ∈ Ya.Mesh.Triangles, t.length ≤ 1073741824) (hp3 : Ya.Springs.length ≤ 1073741824) (hp4 : Ya.Weights.length ≤ 1073741824) (hp5 : 0 ≤ x_1.A) (hp6 : x_1.A < (Ya.Mesh.Places.length : Int)) (hp7 : 0 ≤ x_1.B) (hp8 : x_1.B < (Ya.Mesh.Places.length : Int))  : Fn prog 96 [.ref (GBody.cells Ya) 0, .ref (GSpring.cells x_1) 0] (.tup [.agg [.f .f32 ((Z2K Ya x_1).1.X), .f .f32 ((Z2K Ya x_1).1.Y), .f .f32 ((Z2K Ya x_1).1.Z)], .f .f32 ((Z2K Ya x_1).2)]) [] := by
 have y0 : (0 : Int) ≤ x_1.B := (by assumption)
 have y1 : (0 : Int) ≤ x_1.A := (by assumption)
 refine fnS E0Ok Z5 (c := bodyOf f96) [] (.tup [.agg [.f .f32 ((Z1S (Ya.Mesh.Places.getD x_1.B.toNat default) (Ya.Mesh.Places.getD x_1.A.toNat default)).X), .f .f32 ((Z1S (Ya.Mesh.Places.getD x_1.B.toNat default) (Ya.Mesh.Places.getD x_1.A.toNat default)).Y), .f .f32 ((Z1S (Ya.Mesh.Places.getD x_1.B.toNat default) (Ya.Mesh.Places.getD x_1.A.toNat default)).Z)], .f .f32 (Z9R Ya x_1)]) [] func96 (sK [24, 24] <| sG GVector.cells Ya.Mesh.Places x_1.B y0 hp8 <| sG GVector.cells Ya.Mesh.Places x_1.A y1 hp6 <| sF (Z5k (Ya.Mesh.Places.getD x_1.B.toNat default) (Ya.Mesh.Places.getD x_1.A.toNat default)) <| sF (ZaC (Z1S (Ya.Mesh.Places.getD x_1.B.toNat default) (Ya.Mesh.Places.getD x_1.A.toNat default))) <| sK [14, 14] <| sF (ZaD (Z9Q Ya x_1) (Z2I (Z1S (Ya.Mesh.Places.getD x_1.B.toNat default) (Ya.Mesh.Places.getD x_1.A.toNat default)))) <| sK [] sN) rfl (by kernel_rfl) (by kernel_rfl) rfl ?_ ?_
 · rfl
 · rfl
def Zn (YY : GVector) (Yq : Nat) : GVector := (⟨(fop .mul .f32 YY.X Yq), (fop .mul .f32 YY.Y Yq), (fop .mul .f32 YY.Z Yq)⟩ : GVector)
theorem Z30 (YY : GVector) (Yq : Nat)   : Fn prog 90 [.agg [.f .f32 YY.X, .f .f32 YY.Y, .f .f32 YY.Z], .f .f32 Yq] (.agg [.f .f32 ((Zn YY Yq).X), .f .f32 ((Zn YY Yq).Y), .f .f32 ((Zn YY Yq).Z)]) [] := by
 refine fnS E0Ok Z5 (c := bodyOf f90) [] (.agg [.f .f32 (fop .mul .f32 YY.X Yq), .f .f32 (fop .mul .f32 YY.Y Yq), .f .f32 (fop .mul .f32 YY.Z Yq)]) [] func90 (sK [] sN) rfl (by kernel_rfl) (by kernel_rfl) rfl ?_ ?_
 · rfl
 · rfl
def Zz (Y4 : GVector) (Yi : GVector) : GVector := (⟨(fop .add .f32 Y4.X Yi.X), (fop .add .f32 Y4.Y Yi.Y), (fop .add .f32 Y4.Z Yi.Z)⟩ : GVector)
theorem Z3b (Y4 : GVector) (Yi : GVector)   : Fn prog 89 [.agg [.f .f32 Y4.X, .f .f32 Y4.Y, .f .f32 Y4.Z], .agg [.f .f32 Yi.X, .f .f32 Yi.Y, .f .f32 Yi.Z]] (.agg [.f .f32 ((Zz Y4 Yi).X), .f .f32 ((Zz Y4 Yi).Y), .f .f32 ((Zz Y4 Yi).Z)]) [] := by
 refine fnS E0Ok Z5 (c := bodyOf f89) [] (.agg [.f .f32 (fop .add .f32 Y4.X Yi.X), .f .f32 (fop .add .f32 Y4.Y Yi.Y), .f .f32 (fop .add .f32 Y4.Z Yi.Z)]) [] func89 (sK [] sN) rfl (by kernel_rfl) (by kernel_rfl) rfl ?_ ?_
 · rfl
 · rfl
def Z4m (Y4 : GVector) (Yi : GVector) : GVector := (⟨(fop .sub .f32 (fop .mul .f32 Y4.Y Yi.Z) (fop .mul .f32 Y4.Z Yi.Y)), (fop .sub .f32 (fop .mul .f32 Y4.Z Yi.X) (fop .mul .f32 Y4.X Yi.Z)), (fop .sub .f32 (fop .mul .f32 Y4.X Yi.Y) (fop .mul .f32 Y4.Y Yi.X))⟩ : GVector)
theorem Zaj (Y4 : GVector) (Yi : GVector)   : Fn prog 100 [.agg [.f .f32 Y4.X, .f .f32 Y4.Y, .f .f32 Y4.Z], .agg [.f .f32 Yi.X, .f .f32 Yi.Y, .f .f32 Yi.Z]] (.agg [.f .f32 ((Z4m Y4 Yi).X), .f .f32 ((Z4m Y4 Yi).Y), .f .f32 ((Z4m Y4 Yi).Z)]) [] := by
 refine fnS E0Ok Z5 (c := bodyOf f100) [] (.agg [.f .f32 (fop .sub .f32 (fop .mul .f32 Y4.Y Yi.Z) (fop .mul .f32 Y4.Z Yi.Y)), .f .f32 (fop .sub .f32 (fop .mul .f32 Y4.Z Yi.X) (fop .mul .f32 Y4.X Yi.Z)), .f .f32 (fop .sub .f32 (fop .mul .f32 Y4.X Yi.Y) (fop .mul .f32 Y4.Y Yi.X))]) [] func100 (sK [] sN) rfl (by kernel_rfl) (by kernel_rfl) rfl ?_ ?_
 · rfl
 · rfl
def Z4W (Y2 : GMesh) (YQ : (List Int)) : GVector := (Z4m (Z1S (Y2.Places.getD (YQ.getD 1 default).toNat default) (Y2.Places.getD (YQ.getD 0 default).toNat default)) (Z1S (Y2.Places.getD (YQ.getD 2 default).toNat default) (Y2.Places.getD (YQ.getD 0 default).toNat default)))
def Ze (Y2 : GMesh) (YQ : (List Int)) : GVector := (Z4W Y2 YQ)
theorem Zde (Y2 : GMesh) (YQ : (List Int)) (hp0 : Y2.Places.length ≤ 1073741824) (hp1 : Y2.Triangles.length ≤ 1073741824) (hp2 : ∀ t ∈ Y2.Triangles, t.length ≤ 1073741824) (hp3 : YQ.length ≤ 1073741824) (hp4 : YQ.length = 3 ∧ ∀ x ∈ YQ, 0 ≤ x ∧ x < (Y2.Places.length : Int))  : Fn prog 97 [.ref (GMesh.cells Y2) 0, .sl (YQ.map (cI .i64))] (.agg [.f .f32 ((Ze Y2 YQ).X), .f .f32 ((Ze Y2 YQ).Y), .f .f32 ((Ze Y2 YQ).Z)]) [] := by
 have y0 : (0 : Int) ≤ 0 := (by omega)
 have y1 : 0 < (YQ.length : Int) := (by omega)
 have y2 : (0 : Int) ≤ (YQ.getD 0 default) := (by have q := Okt.at hp4; omega)
 have y3 : (YQ.getD 0 default) < (Y2.Places.length : Int) := (by have q := Okt.at hp4; omega)
 have y4 : (0 : Int) ≤ 1 := (by omega)
 have y5 : 1 < (YQ.length : Int) := (by omega)
 have y6 : (0 : Int) ≤ (YQ.getD 1 default) := (by have q := Okt.at hp4; omega)
 have y7 : (YQ.getD 1 default) < (Y2.Places.length : Int) := (by have q := Okt.at hp4; omega)
 have y8 : (0 : Int) ≤ 2 := (by omega)
 have y9 : 2 < (YQ.length : Int) := (by omega)
 have y10 : (0 : Int) ≤ (YQ.getD 2 default) := (by have q := Okt.at hp4; omega)
 have y11 : (YQ.getD 2 default) < (Y2.Places.length : Int) := (by have q := Okt.at hp4; omega)
 refine fnS E0Ok Z5 (c := bodyOf f97) [] (.agg [.f .f32 ((Z4W Y2 YQ).X), .f .f32 ((Z4W Y2 YQ).Y), .f .f32 ((Z4W Y2 YQ).Z)]) [] func97 (sK [10, 10] <| sG (cI .i64) YQ 0 y0 y1 <| sG GVector.cells Y2.Places (YQ.getD 0 default) y2 y3 <| sK [21, 21] <| sG (cI .i64) YQ 1 y4 y5 <| sG GVector.cells Y2.Places (YQ.getD 1 default) y6 y7 <| sF (Z5k (Y2.Places.getD (YQ.getD 1 default).toNat default) (Y2.Places.getD (YQ.getD 0 default).toNat default)) <| sG (cI .i64) YQ 2 y8 y9 <| sG GVector.cells Y2.Places (YQ.getD 2 default) y10 y11 <| sF (Z5k (Y2.Places.getD (YQ.getD 2 default).toNat default) (Y2.Places.getD (YQ.getD 0 default).toNat default)) <| sF (Zaj (Z1S (Y2.Places.getD (YQ.getD 1 default).toNat default) (Y2.Places.getD (YQ.getD 0 default).toNat default)) (Z1S (Y2.Places.getD (YQ.getD 2 default).toNat default) (Y2.Places.getD (YQ.getD 0 default).toNat default))) <| sK [] sN) rfl (by kernel_rfl) (by kernel_rfl) rfl ?_ ?_
 · rfl
 · rfl
def Z3c (Y4 : Int) (Yi : Int) : Int := (cond (decide (Y4 < Yi))
  Y4
  Yi)
theorem ZeE (Y4 : Int) (Yi : Int)   : Fn prog 147 [.i .i64 Y4, .i .i64 Yi] (.i .i64 (Z3c Y4 Yi)) [] := by
 cases h0 : (decide (Y4 < Yi)) with
 | true =>
  have gh0 := of_decide_eq_true h0
  refine fnS E0Ok Z5 (c := bodyOf f147) [] (.i .i64 Y4) [] func147 (sB h0 <| sK [] sN) rfl (by kernel_rfl) (by kernel_rfl) rfl ?_ ?_
  · simp only [Z3c, h0, cond_true]
  · rfl
 | false =>
  have gh0 := of_decide_eq_false h0
  refine fnS E0Ok Z5 (c := bodyOf f147) [] (.i .i64 Yi) [] func147 (sB h0 <| sK [] sN) rfl (by kernel_rfl) (by kernel_rfl) rfl ?_ ?_
  · simp only [Z3c, h0, cond_false]
  · rfl
theorem Z9S {a b n : Int} (h1 : 0 ≤ a ∧ a < n) (h2 : 0 ≤ b ∧ b < n) : 0 ≤ Z3c a b ∧ Z3c a b < n := by
  unfold Z3c; cases decide (a < b) <;> simp only [cond_true, cond_false] <;> omega
def Z3d (Y4 : Int) (Yi : Int) : Int := (cond (decide (Y4 > Yi))
  Y4
  Yi)
theorem ZeF (Y4 : Int) (Yi : Int)   : Fn prog 148 [.i .i64 Y4, .i .i64 Yi] (.i .i64 (Z3d Y4 Yi)) [] := by
 cases h0 : (decide (Y4 > Yi)) with
 | true =>
  have gh0 := of_decide_eq_true h0
  refine fnS E0Ok Z5 (c := bodyOf f148) [] (.i .i64 Y4) [] func148 (sB h0 <| sK [] sN) rfl (by kernel_rfl) (by kernel_rfl) rfl ?_ ?_
  · simp only [Z3d, h0, cond_true]
  · rfl
 | false =>
  have gh0 := of_decide_eq_false h0
  refine fnS E0Ok Z5 (c := bodyOf f148) [] (.i .i64 Yi) [] func148 (sB h0 <| sK [] sN) rfl (by kernel_rfl) (by kernel_rfl) rfl ?_ ?_
  · simp only [Z3d, h0, cond_false]
  · rfl
theorem Z9T {a b n : Int} (h1 : 0 ≤ a ∧ a < n) (h2 : 0 ≤ b ∧ b < n) : 0 ≤ Z3d a b ∧ Z3d a b < n := by
  unfold Z3d; cases decide (a > b) <;> simp only [cond_true, cond_false] <;> omega
theorem Zb4 (a b : Int) : (⟨Z3c a b, Z3d a b⟩ : Gedge) = mkE a b := by
  unfold Z3c Z3d mkE
  by_cases h : a < b
  · rw [decide_eq_true h, decide_eq_false (by omega), if_pos (by omega)]; rfl
  · rw [decide_eq_false h]
    by_cases h2 : a > b
    · rw [decide_eq_true h2, if_neg (by omega)]; rfl
    · rw [decide_eq_false h2, show a = b from by omega, if_pos (by omega)]; rfl
def Z1r (Y2 : GMesh) (Y7 : Int) (Ye : Int) : Int := (Z3c ((Y2.Triangles.getD Y7.toNat default).getD Ye.toNat default) ((Y2.Triangles.getD Y7.toNat default).getD (Int.tmod (Ye + 1) 3).toNat default))
def Z1B (Y2 : GMesh) (Y7 : Int) (Ye : Int) : Int := (Z3d ((Y2.Triangles.getD Y7.toNat default).getD Ye.toNat default) ((Y2.Triangles.getD Y7.toNat default).getD (Int.tmod (Ye + 1) 3).toNat default))
def ZO (Y2 : GMesh) (Y7 : Int) (Y5 : (List Bool)) : Nat → Int → (List Bool) → (List Bool)
  | 0, _, _ => default
  | k + 1, Ye, Yo => (cond (decide (Ye < 3))
    (ZO Y2 Y7 Y5 k (Ye + 1) (Yo.set ((IntKind.wrap .i64 ((IntKind.wrap .i64 ((Z1r Y2 Y7 Ye) * (Y2.Places.length : Int))) + (Z1B Y2 Y7 Ye))).toNat) true))
    Yo)
def Z6y (Y2 : GMesh) (Y7 : Int) (Y5 : (List Bool)) (r : (List Bool)) : Ex × St := ((.exit 2), ⟨.ref (GMesh.cells Y2) 0 :: .any :: .nils :: .i .i64 (Y2.Places.length : Int) :: .own 0 :: .i .i64 Y7 :: .sl ((Y2.Triangles.getD Y7.toNat default).map (cI .i64)) :: an 6 (.ref (GMesh.cells Y2) 0 :: .ref (GMesh.cells Y2) 0 :: .ref (GMesh.cells Y2) 0 :: .sl (Y2.Places.map GVector.cells) :: .i .i64 (Y2.Places.length : Int) :: .i .i64 (Y2.Places.length : Int) :: .i .i64 (Y2.Places.length : Int) :: .i .i64 (IntKind.wrap .i64 ((Y2.Places.length : Int) * (Y2.Places.length : Int))) :: .own 0 :: .i .i64 Y7 :: .ref (GMesh.cells Y2) 0 :: .ref (GMesh.cells Y2) 0 :: .ref (GMesh.cells Y2) 1 :: .sl (Y2.Triangles.map (cL (cI .i64))) :: .i .i64 (Y2.Triangles.length : Int) :: .b (decide (Y7 < (Y2.Triangles.length : Int))) :: .any :: .any :: .ref (GMesh.cells Y2) 0 :: .ref (GMesh.cells Y2) 0 :: .ref (GMesh.cells Y2) 1 :: .sl (Y2.Triangles.map (cL (cI .i64))) :: .i .i64 Y7 :: .ref [.sl ((Y2.Triangles.getD Y7.toNat default).map (cI .i64))] 0 :: .sl ((Y2.Triangles.getD Y7.toNat default).map (cI .i64)) :: an 53 []), [.vec 4 1 (r.map cB) false]⟩)
def Z8Y (Y2 : GMesh) (Y7 : Int) (Y5 : (List Bool)) (Ye : Int) (Yo : (List Bool)) : St := ⟨.ref (GMesh.cells Y2) 0 :: .any :: .nils :: .i .i64 (Y2.Places.length : Int) :: .own 0 :: .i .i64 Y7 :: .sl ((Y2.Triangles.getD Y7.toNat default).map (cI .i64)) :: .i .i64 Ye :: an 5 (.ref (GMesh.cells Y2) 0 :: .ref (GMesh.cells Y2) 0 :: .ref (GMesh.cells Y2) 0 :: .sl (Y2.Places.map GVector.cells) :: .i .i64 (Y2.Places.length : Int) :: .i .i64 (Y2.Places.length : Int) :: .i .i64 (Y2.Places.length : Int) :: .i .i64 (IntKind.wrap .i64 ((Y2.Places.length : Int) * (Y2.Places.length : Int))) :: .own 0 :: .i .i64 Y7 :: .ref (GMesh.cells Y2) 0 :: .ref (GMesh.cells Y2) 0 :: .ref (GMesh.cells Y2) 1 :: .sl (Y2.Triangles.map (cL (cI .i64))) :: .i .i64 (Y2.Triangles.length : Int) :: .b (decide (Y7 < (Y2.Triangles.length : Int))) :: .any :: .any :: .ref (GMesh.cells Y2) 0 :: .ref (GMesh.cells Y2) 0 :: .ref (GMesh.cells Y2) 1 :: .sl (Y2.Triangles.map (cL (cI .i64))) :: .i .i64 Y7 :: .ref [.sl ((Y2.Triangles.getD Y7.toNat default).map (cI .i64))] 0 :: .sl ((Y2.Triangles.getD Y7.toNat default).map (cI .i64)) :: an 53 []), [.vec 4 1 (Yo.map cB) false]⟩
def Z7V : List Bool := (mR false [0, 1, 1, 6, 5, 16, 2, 7, 53])
def Zb5 : List Bool := (mR false [0, 1, 1, 5, 6, 16, 2, 7, 53])
set_option maxHeartbeats 1000000 in
theorem Zc5 (Y2 : GMesh) (Y7 : Int) (Y5 : (List Bool)) (hp0 : Y2.Places.length ≤ 1073741824) (hp1 : Y2.Triangles.length ≤ 1073741824) (hp2 : ∀ t ∈ Y2.Triangles, t.length ≤ 1073741824) (hp3 : OkE Y2.Places.length Y2.Triangles) (Z2A : 0 ≤ Y7) (Z4C : Y5.length = (IntKind.wrap .i64 ((Y2.Places.length : Int) * (Y2.Places.length : Int))).toNat) (ZfO : (decide (Y7 < (Y2.Triangles.length : Int))) = true) : ∀ (k : Nat) (Ye : Int) (Yo : (List Bool)) (Z3v : 0 ≤ Ye) (Z7W : Yo.length = Y5.length) (hk : ((3 : Int) - Ye).toNat < k), Lp prog 0 (sub (bodyOf f137) [1, 1, 1, 0, 1, 0, 0, 1, 0, 0, 1, 1, 0, 0]) (Z8Y Y2 Y7 Y5 Ye Yo) (Z6y Y2 Y7 Y5 (ZO Y2 Y7 Y5 k Ye Yo)).1 (Z6y Y2 Y7 Y5 (ZO Y2 Y7 Y5 k Ye Yo)).2 := by
 intro k
 induction k with
 | zero => intro Ye Yo Z3v Z7W hk; exact absurd hk (Nat.not_lt_zero _)
 | succ k ih =>
  intro Ye Yo Z3v Z7W hk
  cases YD : (decide (Ye < 3)) with
  | true =>
   have YB := of_decide_eq_true YD
   have Y13 : (0 : Int) ≤ Ye := (by assumption)
   have Y14 : Ye < ((Y2.Triangles.getD Y7.toNat default).length : Int) := (by ((have q := OkE.at (by assumption) Z2A (of_decide_eq_true (by assumption)) Z3v (of_decide_eq_true (by assumption)); omega)))
   have Y11 : (-9223372036854775808 : Int) ≤ (Ye + 1) := (by omega)
   have YZ : (Ye + 1) ≤ (9223372036854775807 : Int) := (by omega)
   have Y15 : (0 : Int) ≤ (Int.tmod (Ye + 1) 3) := (by ((have q := OkE.at (by assumption) Z2A (of_decide_eq_true (by assumption)) Z3v (of_decide_eq_true (by assumption)); omega)))
   have Y1a : (Int.tmod (Ye + 1) 3) < ((Y2.Triangles.getD Y7.toNat default).length : Int) := (by ((have q := OkE.at (by assumption) Z2A (of_decide_eq_true (by assumption)) Z3v (of_decide_eq_true (by assumption)); omega)))
   have Y17 : (0 : Int) ≤ (IntKind.wrap .i64 ((IntKind.wrap .i64 ((Z1r Y2 Y7 Ye) * (Y2.Places.length : Int))) + (Z1B Y2 Y7 Ye))) := (by ((have q := OkE.at (by assumption) Z2A (of_decide_eq_true (by assumption)) Z3v (of_decide_eq_true (by assumption)); have q2 := ix2F q.2.2.2.2.2.1 (Z9S q.2.2.2.1 q.2.2.2.2.1).1 (Z9S q.2.2.2.1 q.2.2.2.2.1).2 (Z9T q.2.2.2.1 q.2.2.2.2.1).1 (Z9T q.2.2.2.1 q.2.2.2.2.1).2; unfold Z1r Z1B; omega)))
   have Y1b : (IntKind.wrap .i64 ((IntKind.wrap .i64 ((Z1r Y2 Y7 Ye) * (Y2.Places.length : Int))) + (Z1B Y2 Y7 Ye))) < (Yo.length : Int) := (by ((have q := OkE.at (by assumption) Z2A (of_decide_eq_true (by assumption)) Z3v (of_decide_eq_true (by assumption)); have q2 := ix2F q.2.2.2.2.2.1 (Z9S q.2.2.2.1 q.2.2.2.2.1).1 (Z9S q.2.2.2.1 q.2.2.2.2.1).2 (Z9T q.2.2.2.1 q.2.2.2.2.1).1 (Z9T q.2.2.2.1 q.2.2.2.2.1).2; unfold Z1r Z1B; omega)))
   have Y1n : (IntKind.wrap .i64 ((IntKind.wrap .i64 ((Z1r Y2 Y7 Ye) * (Y2.Places.length : Int))) + (Z1B Y2 Y7 Ye))).toNat < Yo.length := (by omega)
   have e : ZO Y2 Y7 Y5 (k + 1) Ye Yo = (ZO Y2 Y7 Y5 k (Ye + 1) (Yo.set ((IntKind.wrap .i64 ((IntKind.wrap .i64 ((Z1r Y2 Y7 Ye) * (Y2.Places.length : Int))) + (Z1B Y2 Y7 Ye))).toNat) true)) := by simp only [ZO, YD, cond_true]
   rw [e]
   exact nextS E0Ok Z5 [] Z7V [0] (⟨.ref (GMesh.cells Y2) 0 :: .any :: .nils :: .i .i64 (Y2.Places.length : Int) :: .own 0 :: .i .i64 Y7 :: .sl ((Y2.Triangles.getD Y7.toNat default).map (cI .i64)) :: .i .i64 (Ye + 1) :: an 5 (.ref (GMesh.cells Y2) 0 :: .ref (GMesh.cells Y2) 0 :: .ref (GMesh.cells Y2) 0 :: .sl (Y2.Places.map GVector.cells) :: .i .i64 (Y2.Places.length : Int) :: .i .i64 (Y2.Places.length : Int) :: .i .i64 (Y2.Places.length : Int) :: .i .i64 (IntKind.wrap .i64 ((Y2.Places.length : Int) * (Y2.Places.length : Int))) :: .own 0 :: .i .i64 Y7 :: .ref (GMesh.cells Y2) 0 :: .ref (GMesh.cells Y2) 0 :: .ref (GMesh.cells Y2) 1 :: .sl (Y2.Triangles.map (cL (cI .i64))) :: .i .i64 (Y2.Triangles.length : Int) :: .b (decide (Y7 < (Y2.Triangles.length : Int))) :: .any :: .any :: .ref (GMesh.cells Y2) 0 :: .ref (GMesh.cells Y2) 0 :: .ref (GMesh.cells Y2) 1 :: .sl (Y2.Triangles.map (cL (cI .i64))) :: .i .i64 Y7 :: .ref [.sl ((Y2.Triangles.getD Y7.toNat default).map (cI .i64))] 0 :: .sl ((Y2.Triangles.getD Y7.toNat default).map (cI .i64)) :: an 53 []), [.vec 4 1 ((Yo.map cB).set ((IntKind.wrap .i64 ((IntKind.wrap .i64 ((Z1r Y2 Y7 Ye) * (Y2.Places.length : Int))) + (Z1B Y2 Y7 Ye))).toNat) [.b true]) false]⟩) (sB YD <| sG (cI .i64) (Y2.Triangles.getD Y7.toNat default) Ye Y13 Y14 <| sI (Ye + 1) Y11 YZ <| sC (show (3 : Int) ≠ 0 from (by decide)) <| sQ (Int.tmod (Ye + 1) 3) <| sG (cI .i64) (Y2.Triangles.getD Y7.toNat default) (Int.tmod (Ye + 1) 3) Y15 Y1a <| sF (ZeE ((Y2.Triangles.getD Y7.toNat default).getD Ye.toNat default) ((Y2.Triangles.getD Y7.toNat default).getD (Int.tmod (Ye + 1) 3).toNat default)) <| sW .i64 ((Z1r Y2 Y7 Ye) * (Y2.Places.length : Int)) <| sF (ZeF ((Y2.Triangles.getD Y7.toNat default).getD Ye.toNat default) ((Y2.Triangles.getD Y7.toNat default).getD (Int.tmod (Ye + 1) 3).toNat default)) <| sW .i64 ((IntKind.wrap .i64 ((Z1r Y2 Y7 Ye) * (Y2.Places.length : Int))) + (Z1B Y2 Y7 Ye)) <| sX cB Yo (IntKind.wrap .i64 ((IntKind.wrap .i64 ((Z1r Y2 Y7 Ye) * (Y2.Places.length : Int))) + (Z1B Y2 Y7 Ye))) Y17 Y1b <| sC (maplt (c := cB) (l := Yo) Y1n) <| sI (Ye + 1) Y11 YZ <| sN) (by kernel_rfl) (by simp [Z8Y, cL, cI, cB]) (ih (Ye + 1) (Yo.set ((IntKind.wrap .i64 ((IntKind.wrap .i64 ((Z1r Y2 Y7 Ye) * (Y2.Places.length : Int))) + (Z1B Y2 Y7 Ye))).toNat) true) (show 0 ≤ (Ye + 1) from (by omega)) (show (Yo.set ((IntKind.wrap .i64 ((IntKind.wrap .i64 ((Z1r Y2 Y7 Ye) * (Y2.Places.length : Int))) + (Z1B Y2 Y7 Ye))).toNat) true).length = Y5.length from (by simp_all <;> omega)) (by omega))
  | false =>
   have YB := of_decide_eq_false YD
   have e : ZO Y2 Y7 Y5 (k + 1) Ye Yo = Yo := by simp only [ZO, YD, cond_false]
   rw [e]
   exact outR (e := (.exit 2)) E0Ok Z5 [] Zb5 [0] (sB YD <| sN) (by kernel_rfl) (by intro h; cases h)
theorem Zb6 (Y2 : GMesh) (Y7 : Int) (Y5 : (List Bool)) : ∀ (k : Nat) (Ye : Int) (Yo : (List Bool)) (hk : ((3 : Int) - Ye).toNat < k), (ZO Y2 Y7 Y5 k Ye Yo).length = Yo.length := by
  intro k
  induction k with
  | zero => intro Ye Yo hk; exact absurd hk (Nat.not_lt_zero _)
  | succ k ih =>
    intro Ye Yo hk
    cases YD : (decide (Ye < 3)) with
    | true =>
      have e : ZO Y2 Y7 Y5 (k + 1) Ye Yo = (ZO Y2 Y7 Y5 k (Ye + 1) (Yo.set ((IntKind.wrap .i64 ((IntKind.wrap .i64 ((Z1r Y2 Y7 Ye) * (Y2.Places.length : Int))) + (Z1B Y2 Y7 Ye))).toNat) true)) := by simp only [ZO, YD, cond_true]
      rw [e, ih (Ye + 1) (Yo.set ((IntKind.wrap .i64 ((IntKind.wrap .i64 ((Z1r Y2 Y7 Ye) * (Y2.Places.length : Int))) + (Z1B Y2 Y7 Ye))).toNat) true) (by simp_all <;> omega)]; simp
    | false =>
      have e : ZO Y2 Y7 Y5 (k + 1) Ye Yo = Yo := by simp only [ZO, YD, cond_false]
      first | (rw [e]; done) | (rw [e]; rfl)
def Z23 (Y2 : GMesh) (Y7 : Int) (Y5 : (List Bool)) : (List Bool) := (ZO Y2 Y7 Y5 (((3 : Int) - 0).toNat + 1) 0 Y5)
@[simp] theorem Z9l (Y2 : GMesh) (Y7 : Int) (Y5 : (List Bool)) : (Z23 Y2 Y7 Y5).length = (Y5 : (List Bool)).length := Zb6 Y2 Y7 Y5 (((3 : Int) - 0).toNat + 1) 0 Y5 (by exact Nat.lt_succ_self _)
def Z1b (Y2 : GMesh) : Nat → Int → (List Bool) → (List Bool)
  | 0, _, _ => default
  | k + 1, Y7, Y5 => (cond (decide (Y7 < (Y2.Triangles.length : Int)))
    (Z1b Y2 k (Y7 + 1) (Z23 Y2 Y7 Y5))
    Y5)
def Z6z (Y2 : GMesh) (r : (List Bool)) : Ex × St := ((.exit 0), ⟨.ref (GMesh.cells Y2) 0 :: .any :: .nils :: .i .i64 (Y2.Places.length : Int) :: .own 0 :: an 8 (.ref (GMesh.cells Y2) 0 :: .ref (GMesh.cells Y2) 0 :: .ref (GMesh.cells Y2) 0 :: .sl (Y2.Places.map GVector.cells) :: .i .i64 (Y2.Places.length : Int) :: .i .i64 (Y2.Places.length : Int) :: .i .i64 (Y2.Places.length : Int) :: .i .i64 (IntKind.wrap .i64 ((Y2.Places.length : Int) * (Y2.Places.length : Int))) :: .own 0 :: an 69 []), [.vec 4 1 (r.map cB) false]⟩)
def Z8Z (Y2 : GMesh) (Y7 : Int) (Y5 : (List Bool)) : St := ⟨.ref (GMesh.cells Y2) 0 :: .any :: .nils :: .i .i64 (Y2.Places.length : Int) :: .own 0 :: .i .i64 Y7 :: an 7 (.ref (GMesh.cells Y2) 0 :: .ref (GMesh.cells Y2) 0 :: .ref (GMesh.cells Y2) 0 :: .sl (Y2.Places.map GVector.cells) :: .i .i64 (Y2.Places.length : Int) :: .i .i64 (Y2.Places.length : Int) :: .i .i64 (Y2.Places.length : Int) :: .i .i64 (IntKind.wrap .i64 ((Y2.Places.length : Int) * (Y2.Places.length : Int))) :: .own 0 :: an 69 []), [.vec 4 1 (Y5.map cB) false]⟩
theorem Zc6 (Y2 : GMesh) (hp0 : Y2.Places.length ≤ 1073741824) (hp1 : Y2.Triangles.length ≤ 1073741824) (hp2 : ∀ t ∈ Y2.Triangles, t.length ≤ 1073741824) (hp3 : OkE Y2.Places.length Y2.Triangles) : ∀ (k : Nat) (Y7 : Int) (Y5 : (List Bool)) (Z2A : 0 ≤ Y7) (Z4C : Y5.length = (IntKind.wrap .i64 ((Y2.Places.length : Int) * (Y2.Places.length : Int))).toNat) (hk : ((Y2.Triangles.length : Int) - Y7).toNat < k), Lp prog 0 (sub (bodyOf f137) [1, 1, 1, 0, 1, 0, 0]) (Z8Z Y2 Y7 Y5) (Z6z Y2 (Z1b Y2 k Y7 Y5)).1 (Z6z Y2 (Z1b Y2 k Y7 Y5)).2 := by
 intro k
 induction k with
 | zero => intro Y7 Y5 Z2A Z4C hk; exact absurd hk (Nat.not_lt_zero _)
 | succ k ih =>
  intro Y7 Y5 Z2A Z4C hk
  have p {a C} (s : Scr a C) := sZ (cL (cI .i64)) Y2.Triangles <| s
  cases Yl : (decide (Y7 < (Y2.Triangles.length : Int))) with
  | true =>
   have Yw := of_decide_eq_true Yl
   have YF : (0 : Int) ≤ Y7 := by clear p; exact (by assumption)
   have YG : Y7 < (Y2.Triangles.length : Int) := by clear p; exact (by assumption)
   have YH : (-9223372036854775808 : Int) ≤ (Y7 + 1) := by clear p; exact (by omega)
   have YI : (Y7 + 1) ≤ (9223372036854775807 : Int) := by clear p; exact (by omega)
   have e : Z1b Y2 (k + 1) Y7 Y5 = (Z1b Y2 k (Y7 + 1) (Z23 Y2 Y7 Y5)) := by simp only [Z1b, Yl, cond_true]
   rw [e]
   exact nextR E0Ok Z5 [] (mR false [0, 1, 1, 4, 7, 9, 69]) [0] (ih (Y7 + 1) (Z23 Y2 Y7 Y5) (show 0 ≤ (Y7 + 1) from (by omega)) (show (Z23 Y2 Y7 Y5).length = (IntKind.wrap .i64 ((Y2.Places.length : Int) * (Y2.Places.length : Int))).toNat from (by simp_all <;> omega)) (by omega)) (p (sB Yl <| sG (cL (cI .i64)) Y2.Triangles Y7 YF YG <| sL Z7V 1 (lp_val (Z6y Y2 Y7 Y5) (x := (Z23 Y2 Y7 Y5)) (Zc5 Y2 Y7 Y5 hp0 hp1 hp2 hp3 Z2A Z4C Yl (((3 : Int) - 0).toNat + 1) 0 Y5 (show 0 ≤ 0 from (by omega)) (show Y5.length = Y5.length from (by omega)) (Nat.lt_succ_self _)) rfl) <| sI (Y7 + 1) YH YI <| sN)) (by kernel_rfl)
  | false =>
   have Yw := of_decide_eq_false Yl
   have e : Z1b Y2 (k + 1) Y7 Y5 = Y5 := by simp only [Z1b, Yl, cond_false]
   rw [e]
   exact outR (e := (.exit 0)) E0Ok Z5 [] (mR false [0, 1, 1, 3, 8, 9, 69]) [0] (p (sB Yl <| sN)) (by kernel_rfl) (by intro h; cases h)
theorem Zb7 (Y2 : GMesh) : ∀ (k : Nat) (Y7 : Int) (Y5 : (List Bool)) (hk : ((Y2.Triangles.length : Int) - Y7).toNat < k), (Z1b Y2 k Y7 Y5).length = Y5.length := by
  intro k
  induction k with
  | zero => intro Y7 Y5 hk; exact absurd hk (Nat.not_lt_zero _)
  | succ k ih =>
    intro Y7 Y5 hk
    cases Yl : (decide (Y7 < (Y2.Triangles.length : Int))) with
    | true =>
      have e : Z1b Y2 (k + 1) Y7 Y5 = (Z1b Y2 k (Y7 + 1) (Z23 Y2 Y7 Y5)) := by simp only [Z1b, Yl, cond_true]
      rw [e, ih (Y7 + 1) (Z23 Y2 Y7 Y5) (by simp_all <;> omega)]; simp
    | false =>
      have e : Z1b Y2 (k + 1) Y7 Y5 = Y5 := by simp only [Z1b, Yl, cond_false]
      first | (rw [e]; done) | (rw [e]; rfl)
def ZH (Y2 : GMesh) : (List Bool) := (Z1b Y2 (((Y2.Triangles.length : Int) - 0).toNat + 1) 0 (List.replicate (IntKind.wrap .i64 ((Y2.Places.length : Int) * (Y2.Places.length : Int))).toNat false))
@[simp] theorem Z9m (Y2 : GMesh) : (ZH Y2).length = ((List.replicate (IntKind.wrap .i64 ((Y2.Places.length : Int) * (Y2.Places.length : Int))).toNat false) : (List Bool)).length := Zb7 Y2 (((Y2.Triangles.length : Int) - 0).toNat + 1) 0 (List.replicate (IntKind.wrap .i64 ((Y2.Places.length : Int) * (Y2.Places.length : Int))).toNat false) (by exact Nat.lt_succ_self _)
def Z1c (Y2 : GMesh) (Yx : Int) (Yh : (List (List Int))) : Nat → Int → (List (List Int)) → (List (List Int))
  | 0, _, _ => default
  | k + 1, YM, Yg => (cond (decide (YM < (Y2.Places.length : Int)))
    (cond ((ZH Y2).getD ((IntKind.wrap .i64 ((IntKind.wrap .i64 (Yx * (Y2.Places.length : Int))) + YM)).toNat) default)
      (Z1c Y2 Yx Yh k (YM + 1) (Yg ++ [[Yx, YM]]))
      (Z1c Y2 Yx Yh k (YM + 1) Yg))
    Yg)
def Z6A (Y2 : GMesh) (Yx : Int) (Yh : (List (List Int))) (r : (List (List Int))) : Ex × St := ((.exit 6), ⟨.ref (GMesh.cells Y2) 0 :: .any :: .nils :: .i .i64 (Y2.Places.length : Int) :: .own 0 :: an 5 (.own 1 :: .i .i64 Yx :: .any :: .ref (GMesh.cells Y2) 0 :: .ref (GMesh.cells Y2) 0 :: .ref (GMesh.cells Y2) 0 :: .sl (Y2.Places.map GVector.cells) :: .i .i64 (Y2.Places.length : Int) :: .i .i64 (Y2.Places.length : Int) :: .i .i64 (Y2.Places.length : Int) :: .i .i64 (IntKind.wrap .i64 ((Y2.Places.length : Int) * (Y2.Places.length : Int))) :: .own 0 :: an 42 (.i .i64 Yx :: .i .i64 (Y2.Places.length : Int) :: .b (decide (Yx < (Y2.Places.length : Int))) :: .any :: .any :: .i .i64 Yx :: .i .i64 (Yx + 1) :: an 20 [])), [.vec 4 1 ((ZH Y2).map cB) false, .nest 49 (r.map fun l => l.map (cI .i64)) false]⟩)
def Z90 (Y2 : GMesh) (Yx : Int) (Yh : (List (List Int))) (YM : Int) (Yg : (List (List Int))) : St := ⟨.ref (GMesh.cells Y2) 0 :: .any :: .nils :: .i .i64 (Y2.Places.length : Int) :: .own 0 :: an 5 (.own 1 :: .i .i64 Yx :: .i .i64 YM :: .ref (GMesh.cells Y2) 0 :: .ref (GMesh.cells Y2) 0 :: .ref (GMesh.cells Y2) 0 :: .sl (Y2.Places.map GVector.cells) :: .i .i64 (Y2.Places.length : Int) :: .i .i64 (Y2.Places.length : Int) :: .i .i64 (Y2.Places.length : Int) :: .i .i64 (IntKind.wrap .i64 ((Y2.Places.length : Int) * (Y2.Places.length : Int))) :: .own 0 :: an 42 (.i .i64 Yx :: .i .i64 (Y2.Places.length : Int) :: .b (decide (Yx < (Y2.Places.length : Int))) :: .any :: .any :: .i .i64 Yx :: .i .i64 (Yx + 1) :: an 20 [])), [.vec 4 1 ((ZH Y2).map cB) false, .nest 49 (Yg.map fun l => l.map (cI .i64)) false]⟩
def Z5G : List Bool := (mR false [0, 1, 1, 3, 5, 12, 42, 3, 2, 2, 20])
def Zb8 : List Bool := (mR false [0, 1, 1, 3, 5, 2, 1, 9, 42, 3, 2, 2, 20])
set_option maxHeartbeats 1000000 in
theorem Zc7 (Y2 : GMesh) (Yx : Int) (Yh : (List (List Int))) (hp0 : Y2.Places.length ≤ 1073741824) (hp1 : Y2.Triangles.length ≤ 1073741824) (hp2 : ∀ t ∈ Y2.Triangles, t.length ≤ 1073741824) (hp3 : OkE Y2.Places.length Y2.Triangles) (Z4D : 0 ≤ Yx) (Z4E : (Yh.length : Int) ≤ 64 * Yx) (Z4F : (decide (Yx < (Y2.Places.length : Int))) = true) : ∀ (k : Nat) (YM : Int) (Yg : (List (List Int))) (Z7X : Yx < YM) (Z7Y : (Yg.length : Int) ≤ (Yh.length : Int) + YM) (hk : ((Y2.Places.length : Int) - YM).toNat < k), Lp prog 0 (sub (bodyOf f137) [1, 1, 1, 1, 1, 0, 1, 0, 0, 1, 0, 0, 1, 0, 0]) (Z90 Y2 Yx Yh YM Yg) (Z6A Y2 Yx Yh (Z1c Y2 Yx Yh k YM Yg)).1 (Z6A Y2 Yx Yh (Z1c Y2 Yx Yh k YM Yg)).2 := by
 intro k
 induction k with
 | zero => intro YM Yg Z7X Z7Y hk; exact absurd hk (Nat.not_lt_zero _)
 | succ k ih =>
  intro YM Yg Z7X Z7Y hk
  cases YD : (decide (YM < (Y2.Places.length : Int))) with
  | true =>
   have YB := of_decide_eq_true YD
   have Y13 : (0 : Int) ≤ (IntKind.wrap .i64 ((IntKind.wrap .i64 (Yx * (Y2.Places.length : Int))) + YM)) := (by ((have := hp3.1; have g4 := of_decide_eq_true Z4F; (have q2 := ix2F (n := (Y2.Places.length : Int)) (a := Yx) (b := YM) (by omega) (by omega) (by omega) (by omega) (by omega); omega))))
   have Y14 : (IntKind.wrap .i64 ((IntKind.wrap .i64 (Yx * (Y2.Places.length : Int))) + YM)) < ((ZH Y2).length : Int) := (by ((have := hp3.1; have g4 := of_decide_eq_true Z4F; (have q2 := ix2F (n := (Y2.Places.length : Int)) (a := Yx) (b := YM) (by omega) (by omega) (by omega) (by omega) (by omega); (simp only [Z9m, List.length_replicate]; omega)))))
   have Y11 : (IntKind.wrap .i64 ((IntKind.wrap .i64 (Yx * (Y2.Places.length : Int))) + YM)).toNat < (ZH Y2).length := (by omega)
   have p {a C} (s : Scr a C) := sB YD <| sW .i64 (Yx * (Y2.Places.length : Int)) <| sW .i64 ((IntKind.wrap .i64 (Yx * (Y2.Places.length : Int))) + YM) <| sX cB (ZH Y2) (IntKind.wrap .i64 ((IntKind.wrap .i64 (Yx * (Y2.Places.length : Int))) + YM)) Y13 Y14 <| sV cB (ZH Y2) ((IntKind.wrap .i64 ((IntKind.wrap .i64 (Yx * (Y2.Places.length : Int))) + YM)).toNat) Y11 <| s
   cases YW : ((ZH Y2).getD ((IntKind.wrap .i64 ((IntKind.wrap .i64 (Yx * (Y2.Places.length : Int))) + YM)).toNat) default) with
   | true =>
    have YZ : Yg.length + [[Yx, YM]].length ≤ 1073741824 := by clear p; exact (by ((have := hp3.1; have g4 := of_decide_eq_true Z4F; (simp only [List.length_append, List.length_cons, List.length_nil]; omega))))
    have Y15 : (-9223372036854775808 : Int) ≤ (YM + 1) := by clear p; exact (by omega)
    have Y1a : (YM + 1) ≤ (9223372036854775807 : Int) := by clear p; exact (by omega)
    have e : Z1c Y2 Yx Yh (k + 1) YM Yg = (Z1c Y2 Yx Yh k (YM + 1) (Yg ++ [[Yx, YM]])) := by simp only [Z1c, YD, YW, cond_true]
    rw [e]
    exact nextS E0Ok Z5 [] Z5G [0, 1] (⟨.ref (GMesh.cells Y2) 0 :: .any :: .nils :: .i .i64 (Y2.Places.length : Int) :: .own 0 :: an 5 (.own 1 :: .i .i64 Yx :: .i .i64 (YM + 1) :: .ref (GMesh.cells Y2) 0 :: .ref (GMesh.cells Y2) 0 :: .ref (GMesh.cells Y2) 0 :: .sl (Y2.Places.map GVector.cells) :: .i .i64 (Y2.Places.length : Int) :: .i .i64 (Y2.Places.length : Int) :: .i .i64 (Y2.Places.length : Int) :: .i .i64 (IntKind.wrap .i64 ((Y2.Places.length : Int) * (Y2.Places.length : Int))) :: .own 0 :: an 42 (.i .i64 Yx :: .i .i64 (Y2.Places.length : Int) :: .b (decide (Yx < (Y2.Places.length : Int))) :: .any :: .any :: .i .i64 Yx :: .i .i64 (Yx + 1) :: an 20 [])), [.vec 4 1 ((ZH Y2).map cB) false, .nest 49 ((Yg.map fun l => l.map (cI .i64)) ++ [([[.i .i64 Yx], [.i .i64 YM]] : List (List AV))]) false]⟩) (p (sB YW <| sC (show (Yg.map fun l => l.map (cI .i64)).length + [([[.i .i64 Yx], [.i .i64 YM]] : List (List AV))].length ≤ 1073741824 from (by simpa using YZ)) <| sI (YM + 1) Y15 Y1a <| sN)) (by kernel_rfl) (by simp [Z90, cL, cI, cB]) (ih (YM + 1) (Yg ++ [[Yx, YM]]) (show Yx < (YM + 1) from (by omega)) (show ((Yg ++ [[Yx, YM]]).length : Int) ≤ (Yh.length : Int) + (YM + 1) from (by ((have := hp3.1; have g4 := of_decide_eq_true Z4F; (simp only [List.length_append, List.length_cons, List.length_nil]; omega))))) (by omega))
   | false =>
    have YZ : (-9223372036854775808 : Int) ≤ (YM + 1) := by clear p; exact (by omega)
    have Y15 : (YM + 1) ≤ (9223372036854775807 : Int) := by clear p; exact (by omega)
    have e : Z1c Y2 Yx Yh (k + 1) YM Yg = (Z1c Y2 Yx Yh k (YM + 1) Yg) := by simp only [Z1c, YD, YW, cond_true, cond_false]
    rw [e]
    exact nextR E0Ok Z5 [] Z5G [0, 1] (ih (YM + 1) Yg (show Yx < (YM + 1) from (by omega)) (show (Yg.length : Int) ≤ (Yh.length : Int) + (YM + 1) from (by omega)) (by omega)) (p (sB YW <| sI (YM + 1) YZ Y15 <| sN)) (by kernel_rfl)
  | false =>
   have YB := of_decide_eq_false YD
   have e : Z1c Y2 Yx Yh (k + 1) YM Yg = Yg := by simp only [Z1c, YD, cond_false]
   rw [e]
   exact outR (e := (.exit 6)) E0Ok Z5 [] Zb8 [0, 1] (sB YD <| sN) (by kernel_rfl) (by intro h; cases h)
def Z31 (Y2 : GMesh) (Yx : Int) (Yh : (List (List Int))) : (List (List Int)) := (Z1c Y2 Yx Yh (((Y2.Places.length : Int) - (Yx + 1)).toNat + 1) (Yx + 1) Yh)
theorem Zgo (m : GMesh) (a : Int) (r1 : List (List Int)) : ∀ (k : Nat) (b : Int) (r : List (List Int)), (Z1c m a r1 k b r).length ≤ r.length + k := by
  intro k
  induction k with
  | zero => intro b r; exact Nat.zero_le _
  | succ k ih =>
    intro b r
    rw [Z1c]
    cases decide (b < (m.Places.length : Int)) with
    | false => rw [cond_false]; omega
    | true =>
      rw [cond_true]
      cases ((ZH m).getD ((IntKind.wrap .i64 ((IntKind.wrap .i64 (a * (m.Places.length : Int))) + b)).toNat) default) with
      | true => rw [cond_true]; have := ih (b + 1) (r ++ [[a, b]]); simp only [List.length_append, List.length_cons, List.length_nil] at this; omega
      | false => rw [cond_false]; have := ih (b + 1) r; omega
def Z2F (Y2 : GMesh) : Nat → Int → (List (List Int)) → (List (List Int))
  | 0, _, _ => default
  | k + 1, Yx, Yh => (cond (decide (Yx < (Y2.Places.length : Int)))
    (Z2F Y2 k (Yx + 1) (Z31 Y2 Yx Yh))
    Yh)
def Z6B (Y2 : GMesh) (r : (List (List Int))) : Ex × St := ((.exit 4), ⟨.ref (GMesh.cells Y2) 0 :: .any :: .nils :: .i .i64 (Y2.Places.length : Int) :: .own 0 :: an 5 (.own 1 :: .any :: .any :: .ref (GMesh.cells Y2) 0 :: .ref (GMesh.cells Y2) 0 :: .ref (GMesh.cells Y2) 0 :: .sl (Y2.Places.map GVector.cells) :: .i .i64 (Y2.Places.length : Int) :: .i .i64 (Y2.Places.length : Int) :: .i .i64 (Y2.Places.length : Int) :: .i .i64 (IntKind.wrap .i64 ((Y2.Places.length : Int) * (Y2.Places.length : Int))) :: .own 0 :: an 69 []), [.vec 4 1 ((ZH Y2).map cB) false, .nest 49 (r.map fun l => l.map (cI .i64)) false]⟩)
def Z91 (Y2 : GMesh) (Yx : Int) (Yh : (List (List Int))) : St := ⟨.ref (GMesh.cells Y2) 0 :: .any :: .nils :: .i .i64 (Y2.Places.length : Int) :: .own 0 :: an 5 (.own 1 :: .i .i64 Yx :: .any :: .ref (GMesh.cells Y2) 0 :: .ref (GMesh.cells Y2) 0 :: .ref (GMesh.cells Y2) 0 :: .sl (Y2.Places.map GVector.cells) :: .i .i64 (Y2.Places.length : Int) :: .i .i64 (Y2.Places.length : Int) :: .i .i64 (Y2.Places.length : Int) :: .i .i64 (IntKind.wrap .i64 ((Y2.Places.length : Int) * (Y2.Places.length : Int))) :: .own 0 :: an 69 []), [.vec 4 1 ((ZH Y2).map cB) false, .nest 49 (Yh.map fun l => l.map (cI .i64)) false]⟩
theorem Zc8 (Y2 : GMesh) (hp0 : Y2.Places.length ≤ 1073741824) (hp1 : Y2.Triangles.length ≤ 1073741824) (hp2 : ∀ t ∈ Y2.Triangles, t.length ≤ 1073741824) (hp3 : OkE Y2.Places.length Y2.Triangles) : ∀ (k : Nat) (Yx : Int) (Yh : (List (List Int))) (Z4D : 0 ≤ Yx) (Z4E : (Yh.length : Int) ≤ 64 * Yx) (hk : ((Y2.Places.length : Int) - Yx).toNat < k), Lp prog 0 (sub (bodyOf f137) [1, 1, 1, 1, 1, 0, 1, 0, 0]) (Z91 Y2 Yx Yh) (Z6B Y2 (Z2F Y2 k Yx Yh)).1 (Z6B Y2 (Z2F Y2 k Yx Yh)).2 := by
 intro k
 induction k with
 | zero => intro Yx Yh Z4D Z4E hk; exact absurd hk (Nat.not_lt_zero _)
 | succ k ih =>
  intro Yx Yh Z4D Z4E hk
  cases Yl : (decide (Yx < (Y2.Places.length : Int))) with
  | true =>
   have Yw := of_decide_eq_true Yl
   have YF : (-9223372036854775808 : Int) ≤ (Yx + 1) := (by omega)
   have YG : (Yx + 1) ≤ (9223372036854775807 : Int) := (by omega)
   have e : Z2F Y2 (k + 1) Yx Yh = (Z2F Y2 k (Yx + 1) (Z31 Y2 Yx Yh)) := by simp only [Z2F, Yl, cond_true]
   rw [e]
   exact nextR E0Ok Z5 [] (mR false [0, 1, 1, 3, 5, 2, 1, 9, 69]) [0, 1] (ih (Yx + 1) (Z31 Y2 Yx Yh) (show 0 ≤ (Yx + 1) from (by omega)) (show ((Z31 Y2 Yx Yh).length : Int) ≤ 64 * (Yx + 1) from (by ((have := hp3.1; have g4 := of_decide_eq_true Yl; have q := Zgo Y2 Yx Yh (((Y2.Places.length : Int) - (Yx + 1)).toNat + 1) (Yx + 1) Yh; unfold Z31; omega)))) (by omega)) (sB Yl <| sI (Yx + 1) YF YG <| sL Z5G 2 (lp_val (Z6A Y2 Yx Yh) (x := (Z31 Y2 Yx Yh)) (Zc7 Y2 Yx Yh hp0 hp1 hp2 hp3 Z4D Z4E Yl (((Y2.Places.length : Int) - (Yx + 1)).toNat + 1) (Yx + 1) Yh (show Yx < (Yx + 1) from (by omega)) (show (Yh.length : Int) ≤ (Yh.length : Int) + (Yx + 1) from (by omega)) (Nat.lt_succ_self _)) rfl) <| sI (Yx + 1) YF YG <| sN) (by kernel_rfl)
  | false =>
   have Yw := of_decide_eq_false Yl
   have e : Z2F Y2 (k + 1) Yx Yh = Yh := by simp only [Z2F, Yl, cond_false]
   rw [e]
   exact outR (e := (.exit 4)) E0Ok Z5 [] (mR false [0, 1, 1, 3, 5, 1, 2, 9, 69]) [0, 1] (sB Yl <| sN) (by kernel_rfl) (by intro h; cases h)
end Go.Ab
