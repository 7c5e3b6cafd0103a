/- The functions of this seat as plain Lean, and that the program's are these. Printed by a program of the prover's own. -/
import Derived.Test.YtpndflbllggeiaaGreatB5
set_option linter.unusedVariables false
set_option linter.unusedSimpArgs false
set_option maxRecDepth 100000
namespace Go.Ab
open Go.RowKit Go.Proofs.Tryz
def Z4d (Y3 : GBody) : (Unit) ⊕ (Unit) := (ZG Y3 (((Y3.Springs.length : Int) - 0).toNat + 1) 0)
def Z1S (Y3 : GBody) : Bool := (cond (Z1M Y3.Mesh)
  (cond (decide ((Y3.Springs.length : Int) > 200))
    false
    (cond ((Y3.Weights.length : Int) != (Y3.Mesh.Places.length : Int))
      false
      (match (Z4d Y3) with
        | .inl r4 => false
        | .inr r4 => true)))
  false)
theorem Zej (Y3 : GBody) (hp0 : Y3.Mesh.Places.length ≤ 1073741824) (hp1 : Y3.Mesh.Triangles.length ≤ 1073741824) (hp2 : ∀ t ∈ Y3.Mesh.Triangles, t.length ≤ 1073741824) (hp3 : Y3.Springs.length ≤ 1073741824) (hp4 : Y3.Weights.length ≤ 1073741824)  : Fn prog 56 [.agg [.sl (Y3.Mesh.Places.map GVector.cells), .sl (Y3.Mesh.Triangles.map (cL (cI .i64))), .sl (Y3.Springs.map GSpring.cells), .f .f32 Y3.Film, .f .f32 Y3.Bend, .sl (Y3.Weights.map (cF .f32)), .f .f32 Y3.Fall.X, .f .f32 Y3.Fall.Y, .f .f32 Y3.Fall.Z]] (.b (Z1S Y3)) [] := by
 have p {a C} (s : Scr a C) := sZ GVector.cells Y3.Mesh.Places <| sF (Zei Y3.Mesh hp0 hp1 hp2) <| s
 cases h0 : (Z1M Y3.Mesh) with
 | true =>
  have q {a C} (s : Scr a C) := p (sB' h0 <| sB' h0 <| sB' h0 <| sZ GSpring.cells Y3.Springs <| sB' h0 <| sB' h0 <| s)
  clear p
  cases h1 : (decide ((Y3.Springs.length : Int) > 200)) with
  | true =>
   have gh1 := of_decide_eq_true h1
   refine fnS E0Ok Z4 (c := bodyOf f56) [] (.b false) [] func56 (q (sB h1 <| sB h1 <| sB h1 <| sB h1 <| sB h1 <| sB h1 <| sB (show true = true from rfl) <| sK [] sN)) rfl (by kernel_rfl) (by kernel_rfl) rfl ?_ ?_
   · simp only [Z1S, h0, h1, cond_true]
   · rfl
  | false =>
   have gh1 := of_decide_eq_false h1
   have p {a C} (s : Scr a C) := q (sB h1 <| sB h1 <| sB h1 <| sZ (cF .f32) Y3.Weights <| sB h1 <| sB h1 <| sB h1 <| s)
   clear q
   cases h2 : ((Y3.Weights.length : Int) != (Y3.Mesh.Places.length : Int)) with
   | true =>
    have gh2 := bne_iff_ne.1 h2
    refine fnS E0Ok Z4 (c := bodyOf f56) [] (.b false) [] func56 (p (sB h2 <| sK [] sN)) rfl (by kernel_rfl) (by kernel_rfl) rfl ?_ ?_
    · simp only [Z1S, h0, h1, h2, cond_true, cond_false]
    · rfl
   | false =>
    have gh2 := bne_eq_false_iff_eq.1 h2
    have q {a C} (s : Scr a C) := p (sB h2 <| sZ GSpring.cells Y3.Springs <| s)
    clear p
    cases h3 : (Z4d Y3) with
    | inl r4 =>
     refine fnS E0Ok Z4 (c := bodyOf f56) [] (.b false) [] func56 (q (sL (mR false [0, 2, 1, 1, 2, 25, 31]) 1 (lp_val (Z5i Y3) (x := (Z4d Y3)) (Z8Z Y3 hp0 hp1 hp2 hp3 hp4 h2 h1 h0 (((Y3.Springs.length : Int) - 0).toNat + 1) 0 (show 0 ≤ 0 from (by omega)) (Nat.lt_succ_self _)) h3) <| sK [] sN)) rfl (by kernel_rfl) (by kernel_rfl) rfl ?_ ?_
     · simp only [Z1S, h0, h1, h2, h3, cond_true, cond_false]
     · rfl
    | inr r4 =>
     refine fnS E0Ok Z4 (c := bodyOf f56) [] (.b true) [] func56 (q (sL (mR false [0, 2, 1, 1, 2, 25, 31]) 1 (lp_val (Z5i Y3) (x := (Z4d Y3)) (Z8Z Y3 hp0 hp1 hp2 hp3 hp4 h2 h1 h0 (((Y3.Springs.length : Int) - 0).toNat + 1) 0 (show 0 ≤ 0 from (by omega)) (Nat.lt_succ_self _)) h3) <| sK [] sN)) rfl (by kernel_rfl) (by kernel_rfl) rfl ?_ ?_
     · simp only [Z1S, h0, h1, h2, h3, cond_true, cond_false]
     · rfl
 | false =>
  refine fnS E0Ok Z4 (c := bodyOf f56) [] (.b false) [] func56 (p (sB' h0 <| sB' h0 <| sB' h0 <| sB' h0 <| sB' h0 <| sB (show true = true from rfl) <| sB (show true = true from rfl) <| sB (show true = true from rfl) <| sB (show true = true from rfl) <| sB (show true = true from rfl) <| sB (show true = true from rfl) <| sB (show true = true from rfl) <| sK [] sN)) rfl (by kernel_rfl) (by kernel_rfl) rfl ?_ ?_
  · simp only [Z1S, h0, cond_false]
  · rfl
theorem Zhn (s : GSpring) (n : Int) : cond (Z1n s.A 0 (IntKind.wrap .i64 (n - 1))) (cond (Z1n s.B 0 (IntKind.wrap .i64 (n - 1))) (cond (s.A == s.B) false (fcmp .geq .f32 s.Long 0)) false) false = Z1D s n := by
  unfold Z1D
  rw [show Z1n = ZK from rfl, show (s.A != s.B) = !(s.A == s.B) from rfl]
  cases (s.A == s.B) <;> rfl
theorem Zg3 (b : GBody) (k : Nat) (i : Int) : ZG b (k + 1) i = cond (decide (i < (b.Springs.length : Int))) (cond (Z1D (b.Springs.getD i.toNat default) (b.Mesh.Places.length : Int)) (ZG b k (i + 1)) (.inl ())) (.inr ()) := by
  rw [ZG, ← Zhn]
  generalize b.Springs.getD i.toNat default = s
  cases Z1n s.A 0 (IntKind.wrap .i64 ((b.Mesh.Places.length : Int) - 1)) <;> cases Z1n s.B 0 (IntKind.wrap .i64 ((b.Mesh.Places.length : Int) - 1)) <;> cases (s.A == s.B) <;> cases fcmp .geq .f32 s.Long 0 <;> rfl
theorem Zg4 (b : GBody) : Z1S b = Z1E b := by
  unfold Z1S Z1E Z4d Z4n
  rw [Zg2, all_from (a := b.Springs) (p := fun s => Z1D s (b.Mesh.Places.length : Int)) (lo := ZG b) (x := ()) (y := ()) (Zg3 b),
    all_from (a := b.Springs) (p := fun s => Z1D s (b.Mesh.Places.length : Int)) (lo := Z2x b) (x := ()) (y := ()) (fun k i => rfl)]
  rfl
theorem ZgX (b : GBody) (h : Z1E b = true) : Z1m b.Mesh = true := by
  cases hm : Z1m b.Mesh with
  | true => rfl
  | false => simp [Z1E, hm] at h
theorem ZgY (m : GMesh) (h : Z1m m = true) : m.Places.length ≤ 64 ∧ m.Triangles.length ≤ 128 := by
  rw [Z9f] at h
  cases h1 : decide ((m.Places.length : Int) > 64) <;> rw [h1] at h <;> (try (cases h; done))
  cases h2 : decide ((m.Triangles.length : Int) > 128) <;> rw [h2] at h <;> (try (cases h; done))
  simp only [decide_eq_false_iff_not] at h1 h2
  omega
def Z2m (Y3 : GBody) (Ya : (List Int)) : Nat → Int → Int → (Unit) ⊕ (Unit)
  | 0, _, _ => .inl default
  | k + 1, YR, YT => (cond (decide (YT < (Ya.length : Int)))
    (cond (Z1n (Ya.getD YT.toNat default) (IntKind.wrap .i64 (YR + 1)) (IntKind.wrap .i64 ((Y3.Mesh.Places.length : Int) - 1)))
      (Z2m Y3 Ya k (Ya.getD YT.toNat default) (YT + 1))
      (.inl ()))
    (.inr ()))
def Z5Z (Y3 : GBody) (Ya : (List Int)) : (Unit) ⊕ (Unit) → Ex × St
  | .inl r => (.ret, ⟨an 4 (.b false :: an 24 []), []⟩)
  | .inr r => ((.exit 0), ⟨.agg [.sl (Y3.Mesh.Places.map GVector.cells), .sl (Y3.Mesh.Triangles.map (cL (cI .i64))), .sl (Y3.Springs.map GSpring.cells), .f .f32 Y3.Film, .f .f32 Y3.Bend, .sl (Y3.Weights.map (cF .f32)), .f .f32 Y3.Fall.X, .f .f32 Y3.Fall.Y, .f .f32 Y3.Fall.Z] :: .sl (Ya.map (cI .i64)) :: .ptr 0 0 0 :: an 5 (.agg [.sl (Y3.Mesh.Places.map GVector.cells), .sl (Y3.Mesh.Triangles.map (cL (cI .i64))), .sl (Y3.Springs.map GSpring.cells), .f .f32 Y3.Film, .f .f32 Y3.Bend, .sl (Y3.Weights.map (cF .f32)), .f .f32 Y3.Fall.X, .f .f32 Y3.Fall.Y, .f .f32 Y3.Fall.Z] :: .b (Z1S Y3) :: .b (!(Z1S Y3)) :: .sl (Ya.map (cI .i64)) :: an 17 []), [.box 42 [.sl (Y3.Mesh.Places.map GVector.cells), .sl (Y3.Mesh.Triangles.map (cL (cI .i64))), .sl (Y3.Springs.map GSpring.cells), .f .f32 Y3.Film, .f .f32 Y3.Bend, .sl (Y3.Weights.map (cF .f32)), .f .f32 Y3.Fall.X, .f .f32 Y3.Fall.Y, .f .f32 Y3.Fall.Z]]⟩)
def Zek (Y3 : GBody) (Ya : (List Int)) (YR : Int) (YT : Int) : St := ⟨.agg [.sl (Y3.Mesh.Places.map GVector.cells), .sl (Y3.Mesh.Triangles.map (cL (cI .i64))), .sl (Y3.Springs.map GSpring.cells), .f .f32 Y3.Film, .f .f32 Y3.Bend, .sl (Y3.Weights.map (cF .f32)), .f .f32 Y3.Fall.X, .f .f32 Y3.Fall.Y, .f .f32 Y3.Fall.Z] :: .sl (Ya.map (cI .i64)) :: .ptr 0 0 0 :: .any :: .any :: .i .i64 YR :: .any :: .any :: .agg [.sl (Y3.Mesh.Places.map GVector.cells), .sl (Y3.Mesh.Triangles.map (cL (cI .i64))), .sl (Y3.Springs.map GSpring.cells), .f .f32 Y3.Film, .f .f32 Y3.Bend, .sl (Y3.Weights.map (cF .f32)), .f .f32 Y3.Fall.X, .f .f32 Y3.Fall.Y, .f .f32 Y3.Fall.Z] :: .b (Z1S Y3) :: .b (!(Z1S Y3)) :: .sl (Ya.map (cI .i64)) :: .i .i64 (Ya.length : Int) :: .i .i64 YT :: an 15 [], [.box 42 [.sl (Y3.Mesh.Places.map GVector.cells), .sl (Y3.Mesh.Triangles.map (cL (cI .i64))), .sl (Y3.Springs.map GSpring.cells), .f .f32 Y3.Film, .f .f32 Y3.Bend, .sl (Y3.Weights.map (cF .f32)), .f .f32 Y3.Fall.X, .f .f32 Y3.Fall.Y, .f .f32 Y3.Fall.Z]]⟩
theorem Zax (Y3 : GBody) (Ya : (List Int)) (hp0 : Y3.Mesh.Places.length ≤ 1073741824) (hp1 : Y3.Mesh.Triangles.length ≤ 1073741824) (hp2 : ∀ t ∈ Y3.Mesh.Triangles, t.length ≤ 1073741824) (hp3 : Y3.Springs.length ≤ 1073741824) (hp4 : Y3.Weights.length ≤ 1073741824) (hp5 : Ya.length ≤ 1073741824) (ZgZ : (Z1S Y3) = true) : ∀ (k : Nat) (YR : Int) (YT : Int) (Z9v : 0 ≤ YT) (hk : ((Ya.length : Int) - YT).toNat < k), Lp prog 0 (sub (bodyOf f67) [1, 1, 1, 0, 1, 0, 0]) (Zek Y3 Ya YR YT) (Z5Z Y3 Ya (Z2m Y3 Ya k YR YT)).1 (Z5Z Y3 Ya (Z2m Y3 Ya k YR YT)).2 := by
 intro k
 induction k with
 | zero => intro YR YT Z9v hk; exact absurd hk (Nat.not_lt_zero _)
 | succ k ih =>
  intro YR YT Z9v hk
  cases Yg : (decide (YT < (Ya.length : Int))) with
  | true =>
   have Yt := of_decide_eq_true Yg
   have YA : (0 : Int) ≤ YT := (by assumption)
   have YE : YT < (Ya.length : Int) := (by assumption)
   have p {a C} (s : Scr a C) := sB Yg <| sG (cI .i64) Ya YT YA YE <| sW .i64 (YR + 1) <| sZ GVector.cells Y3.Mesh.Places <| sW .i64 ((Y3.Mesh.Places.length : Int) - 1) <| sF (Z7o (Ya.getD YT.toNat default) (IntKind.wrap .i64 (YR + 1)) (IntKind.wrap .i64 ((Y3.Mesh.Places.length : Int) - 1))) <| s
   cases Yq : (Z1n (Ya.getD YT.toNat default) (IntKind.wrap .i64 (YR + 1)) (IntKind.wrap .i64 ((Y3.Mesh.Places.length : Int) - 1))) with
   | true =>
    have YG : (-9223372036854775808 : Int) ≤ (YT + 1) := by clear p; exact (by omega)
    have YH : (YT + 1) ≤ (9223372036854775807 : Int) := by clear p; exact (by omega)
    have e : Z2m Y3 Ya (k + 1) YR YT = (Z2m Y3 Ya k (Ya.getD YT.toNat default) (YT + 1)) := by simp only [Z2m, Yg, Yq, cond_true]
    rw [e]
    exact nextR E0Ok Z4 [] (mR false [0, 3, 2, 1, 2, 6, 15]) [0] (ih (Ya.getD YT.toNat default) (YT + 1) (show 0 ≤ (YT + 1) from (by omega)) (by omega)) (p (sB' Yq <| sI (YT + 1) YG YH <| sN)) (by kernel_rfl)
   | false =>
    have e : Z2m Y3 Ya (k + 1) YR YT = (.inl ()) := by simp only [Z2m, Yg, Yq, cond_true, cond_false]
    rw [e]
    exact outR (e := .ret) E0Ok Z4 [] (mR false [4, 1, 24]) [] (p (sB' Yq <| sN)) (by kernel_rfl) (by intro h; cases h)
  | false =>
   have Yt := of_decide_eq_false Yg
   have e : Z2m Y3 Ya (k + 1) YR YT = (.inr ()) := by simp only [Z2m, Yg, cond_false]
   rw [e]
   exact outR (e := (.exit 0)) E0Ok Z4 [] (mR false [0, 3, 5, 4, 17]) [0] (sB Yg <| sN) (by kernel_rfl) (by intro h; cases h)
def Z4A (Y3 : GBody) (Ya : (List Int)) : (Unit) ⊕ (Unit) := (Z2m Y3 Ya (((Ya.length : Int) - 0).toNat + 1) (-1) 0)
def Z44 (Y3 : GBody) (Ya : (List Int)) : Bool := (cond (Z1S Y3)
  (match (Z4A Y3 Ya) with
    | .inl r2 => false
    | .inr r2 => true)
  false)
theorem ZfI (Y3 : GBody) (Ya : (List Int)) (hp0 : Y3.Mesh.Places.length ≤ 1073741824) (hp1 : Y3.Mesh.Triangles.length ≤ 1073741824) (hp2 : ∀ t ∈ Y3.Mesh.Triangles, t.length ≤ 1073741824) (hp3 : Y3.Springs.length ≤ 1073741824) (hp4 : Y3.Weights.length ≤ 1073741824) (hp5 : Ya.length ≤ 1073741824)  : Fn prog 67 [.agg [.sl (Y3.Mesh.Places.map GVector.cells), .sl (Y3.Mesh.Triangles.map (cL (cI .i64))), .sl (Y3.Springs.map GSpring.cells), .f .f32 Y3.Film, .f .f32 Y3.Bend, .sl (Y3.Weights.map (cF .f32)), .f .f32 Y3.Fall.X, .f .f32 Y3.Fall.Y, .f .f32 Y3.Fall.Z], .sl (Ya.map (cI .i64))] (.b (Z44 Y3 Ya)) [] := by
 have p {a C} (s : Scr a C) := sF (Zej Y3 hp0 hp1 hp2 hp3 hp4) <| s
 cases h0 : (Z1S Y3) with
 | true =>
  have q {a C} (s : Scr a C) := p (sB' h0 <| sZ (cI .i64) Ya <| s)
  clear p
  cases h1 : (Z4A Y3 Ya) with
  | inl r2 =>
   refine fnS E0Ok Z4 (c := bodyOf f67) [] (.b false) [] func67 (q (sL (mR false [0, 3, 2, 1, 2, 6, 15]) 1 (lp_val (Z5Z Y3 Ya) (x := (Z4A Y3 Ya)) (Zax Y3 Ya hp0 hp1 hp2 hp3 hp4 hp5 h0 (((Ya.length : Int) - 0).toNat + 1) (-1) 0 (show 0 ≤ 0 from (by omega)) (Nat.lt_succ_self _)) h1) <| sK [] sN)) rfl (by kernel_rfl) (by kernel_rfl) rfl ?_ ?_
   · simp only [Z44, h0, h1, cond_true]
   · rfl
  | inr r2 =>
   refine fnS E0Ok Z4 (c := bodyOf f67) [] (.b true) [] func67 (q (sL (mR false [0, 3, 2, 1, 2, 6, 15]) 1 (lp_val (Z5Z Y3 Ya) (x := (Z4A Y3 Ya)) (Zax Y3 Ya hp0 hp1 hp2 hp3 hp4 hp5 h0 (((Ya.length : Int) - 0).toNat + 1) (-1) 0 (show 0 ≤ 0 from (by omega)) (Nat.lt_succ_self _)) h1) <| sK [] sN)) rfl (by kernel_rfl) (by kernel_rfl) rfl ?_ ?_
   · simp only [Z44, h0, h1, cond_true]
   · rfl
 | false =>
  refine fnS E0Ok Z4 (c := bodyOf f67) [] (.b false) [] func67 (p (sB' h0 <| sK [] sN)) rfl (by kernel_rfl) (by kernel_rfl) rfl ?_ ?_
  · simp only [Z44, h0, cond_false]
  · rfl
theorem Zg5 (p last n : Int) (h0 : -1 ≤ last) (hn : 0 ≤ n) (hn' : n ≤ 64) (hl : last < n ∨ last = -1) : Z1n p (IntKind.wrap .i64 (last + 1)) (IntKind.wrap .i64 (n - 1)) = (ZK p 0 (IntKind.wrap .i64 (n - 1)) && !(decide (last ≥ p))) := by
  rw [show Z1n = ZK from rfl]
  unfold ZK
  rw [wrap_id (n := last + 1) (by omega) (by omega), wrap_id (n := n - 1) (by omega) (by omega)]
  by_cases h1 : p ≥ last + 1 <;> by_cases h2 : p ≤ n - 1 <;> by_cases h3 : p ≥ 0 <;> by_cases h4 : last ≥ p <;> simp [h1, h2, h3, h4] <;> omega
theorem Zh0 (b : GBody) (hs : List Int) (hn : b.Mesh.Places.length ≤ 64) : ∀ (k : Nat) (last i : Int), 0 ≤ i → (i = 0 ∧ last = -1 ∨ 0 < i ∧ last = hs.getD (i - 1).toNat default ∧ 0 ≤ last ∧ last < (b.Mesh.Places.length : Int)) → Z2m b hs k last i = ZA hs 0 (IntKind.wrap .i64 ((b.Mesh.Places.length : Int) - 1)) k i := by
  intro k
  induction k with
  | zero => intros; rfl
  | succ k ih =>
    intro last i h0 hl
    rw [Z2m, ZA]
    cases decide (i < (hs.length : Int)) with
    | false => rfl
    | true =>
      rw [cond_true, cond_true, Zg5 _ last (b.Mesh.Places.length : Int) (by omega) (by omega) (by omega) (by omega)]
      cases hP : ZK (hs.getD i.toNat default) 0 (IntKind.wrap .i64 ((b.Mesh.Places.length : Int) - 1)) with
      | false => rfl
      | true =>
        rw [Bool.true_and, cond_true]
        have hb : 0 ≤ hs.getD i.toNat default ∧ hs.getD i.toNat default < (b.Mesh.Places.length : Int) := by
          unfold ZK at hP
          rw [wrap_id (n := (b.Mesh.Places.length : Int) - 1) (by omega) (by omega)] at hP
          generalize hs.getD i.toNat default = P at hP ⊢
          by_cases h1 : P ≥ 0 <;> simp [h1] at hP
          omega
        have hi := ih (hs.getD i.toNat default) (i + 1) (by omega) (.inr ⟨by omega, by rw [show i + 1 - 1 = i from by omega], hb.1, hb.2⟩)
        rw [hi]
        rcases hl with ⟨hi0, hl⟩ | ⟨hi0, hl, _⟩
        · rw [decide_eq_false (show ¬ last ≥ hs.getD i.toNat default from by omega), decide_eq_false (show ¬ i > 0 from by omega)]; rfl
        · rw [decide_eq_true (show i > 0 from hi0), cond_true, ← hl]
          cases decide (last ≥ hs.getD i.toNat default) <;> rfl
theorem Zfr (b : GBody) (hs : List Int) : Z44 b hs = cond (Z1E b) (Z3S b hs) false := by
  unfold Z44
  rw [Zg4]
  cases h : Z1E b with
  | false => rfl
  | true =>
    unfold Z3S Z4i Z4A Z3R
    rw [Zh0 b hs (ZgY _ (ZgX b h)).1 _ _ _ (Int.le_refl 0) (.inl ⟨rfl, rfl⟩)]
    rfl
def Z8r (YI : Nat) : Bool := (fcmp .eql .f32 (fop .sub .f32 YI YI) 0)
theorem ZeM (YI : Nat)   : Fn prog 123 [.f .f32 YI] (.b (Z8r YI)) [] := by
 refine fnS E0Ok Z4 (c := bodyOf f123) [] (.b (fcmp .eql .f32 (fop .sub .f32 YI YI) 0)) [] func123 (sK [] sN) rfl (by kernel_rfl) (by kernel_rfl) rfl ?_ ?_
 · rfl
 · rfl
def Z5n (YI : Nat) : Bool := (cond (Z8r YI)
  (fcmp .gtr .f32 YI 0)
  false)
theorem ZfJ (YI : Nat)   : Fn prog 71 [.f .f32 YI] (.b (Z5n YI)) [] := by
 have p {a C} (s : Scr a C) := sF (ZeM YI) <| s
 cases h0 : (Z8r YI) with
 | true =>
  refine fnS E0Ok Z4 (c := bodyOf f71) [] (.b (fcmp .gtr .f32 YI 0)) [] func71 (p (sB h0 <| sB h0 <| sB h0 <| sK [] sN)) rfl (by kernel_rfl) (by kernel_rfl) rfl ?_ ?_
  · simp only [Z5n, h0, cond_true]
  · rfl
 | false =>
  refine fnS E0Ok Z4 (c := bodyOf f71) [] (.b false) [] func71 (p (sB h0 <| sB h0 <| sB h0 <| sK [] sN)) rfl (by kernel_rfl) (by kernel_rfl) rfl ?_ ?_
  · simp only [Z5n, h0, cond_false]
  · rfl
def Z1W (Y5 : GVector) (Yk : GVector) : GVector := (⟨(fop .sub .f32 Y5.X Yk.X), (fop .sub .f32 Y5.Y Yk.Y), (fop .sub .f32 Y5.Z Yk.Z)⟩ : GVector)
theorem Z4e (Y5 : GVector) (Yk : GVector)   : Fn prog 114 [.agg [.f .f32 Y5.X, .f .f32 Y5.Y, .f .f32 Y5.Z], .agg [.f .f32 Yk.X, .f .f32 Yk.Y, .f .f32 Yk.Z]] (.agg [.f .f32 ((Z1W Y5 Yk).X), .f .f32 ((Z1W Y5 Yk).Y), .f .f32 ((Z1W Y5 Yk).Z)]) [] := by
 refine fnS E0Ok Z4 (c := bodyOf f114) [] (.agg [.f .f32 (fop .sub .f32 Y5.X Yk.X), .f .f32 (fop .sub .f32 Y5.Y Yk.Y), .f .f32 (fop .sub .f32 Y5.Z Yk.Z)]) [] func114 (sK [] sN) rfl (by kernel_rfl) (by kernel_rfl) rfl ?_ ?_
 · rfl
 · rfl
def Zn (Y3 : GBody) (s_1 : GSpring) : GVector := (Z1W (Y3.Mesh.Places.getD s_1.B.toNat default) (Y3.Mesh.Places.getD s_1.A.toNat default))
theorem Z9w (Y3 : GBody) (s_1 : GSpring) (hp0 : Y3.Mesh.Places.length ≤ 1073741824) (hp1 : Y3.Mesh.Triangles.length ≤ 1073741824) (hp2 : ∀ t ∈ Y3.Mesh.Triangles, t.length ≤ 1073741824) (hp3 : Y3.Springs.length ≤ 1073741824) (hp4 : Y3.Weights.length ≤ 1073741824) (hp5 : 0 ≤ s_1.A) (hp6 : s_1.A < (Y3.Mesh.Places.length : Int)) (hp7 : 0 ≤ s_1.B) (hp8 : s_1.B < (Y3.Mesh.Places.length : Int))  : Fn prog 109 [.agg [.sl (Y3.Mesh.Places.map GVector.cells), .sl (Y3.Mesh.Triangles.map (cL (cI .i64))), .sl (Y3.Springs.map GSpring.cells), .f .f32 Y3.Film, .f .f32 Y3.Bend, .sl (Y3.Weights.map (cF .f32)), .f .f32 Y3.Fall.X, .f .f32 Y3.Fall.Y, .f .f32 Y3.Fall.Z], .agg [.i .i64 s_1.A, .i .i64 s_1.B, .f .f32 s_1.Long, .f .f32 s_1.Stiff]] (.agg [.f .f32 ((Zn Y3 s_1).X), .f .f32 ((Zn Y3 s_1).Y), .f .f32 ((Zn Y3 s_1).Z)]) [] := by
 have y0 : (0 : Int) ≤ s_1.B := (by assumption)
 have y1 : (0 : Int) ≤ s_1.A := (by assumption)
 refine fnS E0Ok Z4 (c := bodyOf f109) [] (.agg [.f .f32 ((Z1W (Y3.Mesh.Places.getD s_1.B.toNat default) (Y3.Mesh.Places.getD s_1.A.toNat default)).X), .f .f32 ((Z1W (Y3.Mesh.Places.getD s_1.B.toNat default) (Y3.Mesh.Places.getD s_1.A.toNat default)).Y), .f .f32 ((Z1W (Y3.Mesh.Places.getD s_1.B.toNat default) (Y3.Mesh.Places.getD s_1.A.toNat default)).Z)]) [] func109 (sK [14, 14] <| sG GVector.cells Y3.Mesh.Places s_1.B y0 hp8 <| sG GVector.cells Y3.Mesh.Places s_1.A y1 hp6 <| sF (Z4e (Y3.Mesh.Places.getD s_1.B.toNat default) (Y3.Mesh.Places.getD s_1.A.toNat default)) <| sK [] sN) rfl (by kernel_rfl) (by kernel_rfl) rfl ?_ ?_
 · rfl
 · rfl
def Z5a (Y5 : GVector) (Yk : GVector) : Nat := (fop .add .f32 (fop .add .f32 (fop .mul .f32 Y5.X Yk.X) (fop .mul .f32 Y5.Y Yk.Y)) (fop .mul .f32 Y5.Z Yk.Z))
theorem Z9h (Y5 : GVector) (Yk : GVector)   : Fn prog 140 [.agg [.f .f32 Y5.X, .f .f32 Y5.Y, .f .f32 Y5.Z], .agg [.f .f32 Yk.X, .f .f32 Yk.Y, .f .f32 Yk.Z]] (.f .f32 (Z5a Y5 Yk)) [] := by
 refine fnS E0Ok Z4 (c := bodyOf f140) [] (.f .f32 (fop .add .f32 (fop .add .f32 (fop .mul .f32 Y5.X Yk.X) (fop .mul .f32 Y5.Y Yk.Y)) (fop .mul .f32 Y5.Z Yk.Z))) [] func140 (sK [] sN) rfl (by kernel_rfl) (by kernel_rfl) rfl ?_ ?_
 · rfl
 · rfl
def Z77 (YI : Nat) : Nat := (fcv .f64 .f32 (Z57 (fcv .f32 .f64 YI)))
theorem ZdF (YI : Nat)   : Fn prog 139 [.f .f32 YI] (.f .f32 (Z77 YI)) [] := by
 have y0 : fcvOk .f64 .f32 (Z57 (fcv .f32 .f64 YI)) = true := (narrow_sqrt _)
 refine fnS E0Ok Z4 (c := bodyOf f139) [] (.f .f32 (fcv .f64 .f32 (Z57 (fcv .f32 .f64 YI)))) [] func139 (sC (widenOk YI) <| sF (ZdS (fcv .f32 .f64 YI)) <| sC y0 <| sK [] sN) rfl (by kernel_rfl) (by kernel_rfl) rfl ?_ ?_
 · rfl
 · rfl
def Zs (YY : GVector) : Nat := (Z77 (Z5a YY YY))
theorem Z7p (YY : GVector)   : Fn prog 112 [.agg [.f .f32 YY.X, .f .f32 YY.Y, .f .f32 YY.Z]] (.f .f32 (Zs YY)) [] := by
 refine fnS E0Ok Z4 (c := bodyOf f112) [] (.f .f32 (Z77 (Z5a YY YY))) [] func112 (sF (Z9h YY YY) <| sF (ZdF (Z5a YY YY)) <| sK [] sN) rfl (by kernel_rfl) (by kernel_rfl) rfl ?_ ?_
 · rfl
 · rfl
def Z45 (d_0 : GVector) (s_1 : GSpring) : Nat := (cond (fcmp .gtr .f32 (Zs d_0) 0)
  (fop .quo .f32 (fop .mul .f32 s_1.Stiff (fop .sub .f32 (Zs d_0) s_1.Long)) (Zs d_0))
  0)
theorem ZfK (d_0 : GVector) (s_1 : GSpring)   : Fn prog 110 [.agg [.f .f32 d_0.X, .f .f32 d_0.Y, .f .f32 d_0.Z], .agg [.i .i64 s_1.A, .i .i64 s_1.B, .f .f32 s_1.Long, .f .f32 s_1.Stiff]] (.f .f32 (Z45 d_0 s_1)) [] := by
 have p {a C} (s : Scr a C) := sF (Z7p d_0) <| s
 cases h0 : (fcmp .gtr .f32 (Zs d_0) 0) with
 | true =>
  refine fnS E0Ok Z4 (c := bodyOf f110) [] (.f .f32 (fop .quo .f32 (fop .mul .f32 s_1.Stiff (fop .sub .f32 (Zs d_0) s_1.Long)) (Zs d_0))) [] func110 (p (sB' h0 <| sK [] sN)) rfl (by kernel_rfl) (by kernel_rfl) rfl ?_ ?_
  · simp only [Z45, h0, cond_true]
  · rfl
 | false =>
  refine fnS E0Ok Z4 (c := bodyOf f110) [] (.f .f32 0) [] func110 (p (sB' h0 <| sK [] sN)) rfl (by kernel_rfl) (by kernel_rfl) rfl ?_ ?_
  · simp only [Z45, h0, cond_false]
  · rfl
def Z11 (YY : GVector) (Yj : Nat) : GVector := (⟨(fop .mul .f32 YY.X Yj), (fop .mul .f32 YY.Y Yj), (fop .mul .f32 YY.Z Yj)⟩ : GVector)
theorem Z9x (YY : GVector) (Yj : Nat)   : Fn prog 108 [.agg [.f .f32 YY.X, .f .f32 YY.Y, .f .f32 YY.Z], .f .f32 Yj] (.agg [.f .f32 ((Z11 YY Yj).X), .f .f32 ((Z11 YY Yj).Y), .f .f32 ((Z11 YY Yj).Z)]) [] := by
 refine fnS E0Ok Z4 (c := bodyOf f108) [] (.agg [.f .f32 (fop .mul .f32 YY.X Yj), .f .f32 (fop .mul .f32 YY.Y Yj), .f .f32 (fop .mul .f32 YY.Z Yj)]) [] func108 (sK [] sN) rfl (by kernel_rfl) (by kernel_rfl) rfl ?_ ?_
 · rfl
 · rfl
def ZV (Y5 : GVector) (Yk : GVector) : GVector := (⟨(fop .add .f32 Y5.X Yk.X), (fop .add .f32 Y5.Y Yk.Y), (fop .add .f32 Y5.Z Yk.Z)⟩ : GVector)
theorem Z5A (Y5 : GVector) (Yk : GVector)   : Fn prog 107 [.agg [.f .f32 Y5.X, .f .f32 Y5.Y, .f .f32 Y5.Z], .agg [.f .f32 Yk.X, .f .f32 Yk.Y, .f .f32 Yk.Z]] (.agg [.f .f32 ((ZV Y5 Yk).X), .f .f32 ((ZV Y5 Yk).Y), .f .f32 ((ZV Y5 Yk).Z)]) [] := by
 refine fnS E0Ok Z4 (c := bodyOf f107) [] (.agg [.f .f32 (fop .add .f32 Y5.X Yk.X), .f .f32 (fop .add .f32 Y5.Y Yk.Y), .f .f32 (fop .add .f32 Y5.Z Yk.Z)]) [] func107 (sK [] sN) rfl (by kernel_rfl) (by kernel_rfl) rfl ?_ ?_
 · rfl
 · rfl
def Zu (Y14 : Int) (v_1 : GVector) (Y1f : Nat) (p_3 : (List GVector)) : (List GVector) := (p_3.set Y14.toNat (ZV (p_3.getD Y14.toNat default) (Z11 v_1 Y1f)))
@[simp] theorem Zex (Y14 : Int) (v_1 : GVector) (Y1f : Nat) (p_3 : (List GVector)) : (Zu Y14 v_1 Y1f p_3).length = p_3.length := by
  first | (simp [Zu]; done)
theorem Z20 (Y14 : Int) (v_1 : GVector) (Y1f : Nat) (p_3 : (List GVector)) (hp0 : p_3.length ≤ 1073741824) (hp1 : 0 ≤ Y14) (hp2 : Y14 < (p_3.length : Int))  : CallSt prog 106 [.box 34 [.own 1], .vec 40 3 (p_3.map GVector.cells) false] [.i .i64 Y14, .agg [.f .f32 v_1.X, .f .f32 v_1.Y, .f .f32 v_1.Z], .f .f32 Y1f, .ptr 0 0 0] (.tup []) [.box 34 [.own 1], .vec 40 3 ((Zu Y14 v_1 Y1f p_3).map GVector.cells) false] := by
 have y0 : (0 : Int) ≤ Y14 := (by assumption)
 have y1 : Y14.toNat < p_3.length := (by omega)
 refine callS (EpOk 2) Z4 (c := bodyOf f106) [.box 34 [.own 1], .vec 40 3 (p_3.map GVector.cells) false] [] (.tup []) [.box 34 [.own 1], .vec 40 3 ((p_3.map GVector.cells).set Y14.toNat [.f .f32 ((ZV (p_3.getD Y14.toNat default) (Z11 v_1 Y1f)).X), .f .f32 ((ZV (p_3.getD Y14.toNat default) (Z11 v_1 Y1f)).Y), .f .f32 ((ZV (p_3.getD Y14.toNat default) (Z11 v_1 Y1f)).Z)]) false] func106 (sK [10, 10] <| sX GVector.cells p_3 Y14 y0 hp2 <| sV GVector.cells p_3 Y14.toNat y1 <| sF (Z9x v_1 Y1f) <| sF (Z5A (p_3.getD Y14.toNat default) (Z11 v_1 Y1f)) <| sX GVector.cells p_3 Y14 y0 hp2 <| sC (maplt (c := GVector.cells) (l := p_3) y1) <| sK [] sN) rfl (by kernel_rfl) (by kernel_rfl) ?_ ?_
 · rfl
 · simp [Zu, GVector.cells]
def Z2A (Y5 : GVector) (Yk : GVector) : GVector := (⟨(fop .sub .f32 (fop .mul .f32 Y5.Y Yk.Z) (fop .mul .f32 Y5.Z Yk.Y)), (fop .sub .f32 (fop .mul .f32 Y5.Z Yk.X) (fop .mul .f32 Y5.X Yk.Z)), (fop .sub .f32 (fop .mul .f32 Y5.X Yk.Y) (fop .mul .f32 Y5.Y Yk.X))⟩ : GVector)
theorem Z9i (Y5 : GVector) (Yk : GVector)   : Fn prog 113 [.agg [.f .f32 Y5.X, .f .f32 Y5.Y, .f .f32 Y5.Z], .agg [.f .f32 Yk.X, .f .f32 Yk.Y, .f .f32 Yk.Z]] (.agg [.f .f32 ((Z2A Y5 Yk).X), .f .f32 ((Z2A Y5 Yk).Y), .f .f32 ((Z2A Y5 Yk).Z)]) [] := by
 refine fnS E0Ok Z4 (c := bodyOf f113) [] (.agg [.f .f32 (fop .sub .f32 (fop .mul .f32 Y5.Y Yk.Z) (fop .mul .f32 Y5.Z Yk.Y)), .f .f32 (fop .sub .f32 (fop .mul .f32 Y5.Z Yk.X) (fop .mul .f32 Y5.X Yk.Z)), .f .f32 (fop .sub .f32 (fop .mul .f32 Y5.X Yk.Y) (fop .mul .f32 Y5.Y Yk.X))]) [] func113 (sK [] sN) rfl (by kernel_rfl) (by kernel_rfl) rfl ?_ ?_
 · rfl
 · rfl
def Z5t (Y4 : GMesh) (YP : (List Int)) : GVector := (Z2A (Z1W (Y4.Places.getD (YP.getD 1 default).toNat default) (Y4.Places.getD (YP.getD 0 default).toNat default)) (Z1W (Y4.Places.getD (YP.getD 2 default).toNat default) (Y4.Places.getD (YP.getD 0 default).toNat default)))
def Za (Y4 : GMesh) (YP : (List Int)) : GVector := (Z5t Y4 YP)
theorem ZaT (Y4 : GMesh) (YP : (List Int)) (hp0 : Y4.Places.length ≤ 1073741824) (hp1 : Y4.Triangles.length ≤ 1073741824) (hp2 : ∀ t ∈ Y4.Triangles, t.length ≤ 1073741824) (hp3 : YP.length ≤ 1073741824) (hp4 : YP.length = 3 ∧ ∀ x ∈ YP, 0 ≤ x ∧ x < (Y4.Places.length : Int))  : Fn prog 111 [.agg [.sl (Y4.Places.map GVector.cells), .sl (Y4.Triangles.map (cL (cI .i64)))], .sl (YP.map (cI .i64))] (.agg [.f .f32 ((Za Y4 YP).X), .f .f32 ((Za Y4 YP).Y), .f .f32 ((Za Y4 YP).Z)]) [] := by
 have y0 : (0 : Int) ≤ 0 := (by omega)
 have y1 : 0 < (YP.length : Int) := (by omega)
 have y2 : (0 : Int) ≤ (YP.getD 0 default) := (by have q := Okt.at hp4; omega)
 have y3 : (YP.getD 0 default) < (Y4.Places.length : Int) := (by have q := Okt.at hp4; omega)
 have y4 : (0 : Int) ≤ 1 := (by omega)
 have y5 : 1 < (YP.length : Int) := (by omega)
 have y6 : (0 : Int) ≤ (YP.getD 1 default) := (by have q := Okt.at hp4; omega)
 have y7 : (YP.getD 1 default) < (Y4.Places.length : Int) := (by have q := Okt.at hp4; omega)
 have y8 : (0 : Int) ≤ 2 := (by omega)
 have y9 : 2 < (YP.length : Int) := (by omega)
 have y10 : (0 : Int) ≤ (YP.getD 2 default) := (by have q := Okt.at hp4; omega)
 have y11 : (YP.getD 2 default) < (Y4.Places.length : Int) := (by have q := Okt.at hp4; omega)
 refine fnS E0Ok Z4 (c := bodyOf f111) [] (.agg [.f .f32 ((Z5t Y4 YP).X), .f .f32 ((Z5t Y4 YP).Y), .f .f32 ((Z5t Y4 YP).Z)]) [] func111 (sK [8, 8] <| sG (cI .i64) YP 0 y0 y1 <| sG GVector.cells Y4.Places (YP.getD 0 default) y2 y3 <| sK [17, 17] <| sG (cI .i64) YP 1 y4 y5 <| sG GVector.cells Y4.Places (YP.getD 1 default) y6 y7 <| sF (Z4e (Y4.Places.getD (YP.getD 1 default).toNat default) (Y4.Places.getD (YP.getD 0 default).toNat default)) <| sG (cI .i64) YP 2 y8 y9 <| sG GVector.cells Y4.Places (YP.getD 2 default) y10 y11 <| sF (Z4e (Y4.Places.getD (YP.getD 2 default).toNat default) (Y4.Places.getD (YP.getD 0 default).toNat default)) <| sF (Z9i (Z1W (Y4.Places.getD (YP.getD 1 default).toNat default) (Y4.Places.getD (YP.getD 0 default).toNat default)) (Z1W (Y4.Places.getD (YP.getD 2 default).toNat default) (Y4.Places.getD (YP.getD 0 default).toNat default))) <| sK [] sN) rfl (by kernel_rfl) (by kernel_rfl) rfl ?_ ?_
 · rfl
 · rfl
def Z69 (Y5 : Int) (Yk : Int) : Gedge := (⟨(if Yk < Y5 then Yk else Y5), (if Yk > Y5 then Yk else Y5)⟩ : Gedge)
theorem ZfL (Y5 : Int) (Yk : Int)   : Fn prog 149 [.i .i64 Y5, .i .i64 Yk] (.agg [.i .i64 ((Z69 Y5 Yk).e0), .i .i64 ((Z69 Y5 Yk).e1)]) [] := by
 refine fnS E0Ok Z4 (c := bodyOf f149) [] (.agg [.i .i64 (if Yk < Y5 then Yk else Y5), .i .i64 (if Yk > Y5 then Yk else Y5)]) [] func149 (sC (show (if false = true then (if Yk > Y5 then Yk else Y5) else (if Yk < Y5 then Yk else Y5)) = (if Yk < Y5 then Yk else Y5) from (by simp)) <| sA (.num (if Yk < Y5 then Yk else Y5)) <| sC (show (if true = true then (if Yk > Y5 then Yk else Y5) else (if Yk < Y5 then Yk else Y5)) = (if Yk > Y5 then Yk else Y5) from (by simp)) <| sA (.num (if Yk > Y5 then Yk else Y5)) <| sK [] sN) rfl (by kernel_rfl) (by kernel_rfl) rfl ?_ ?_
 · rfl
 · rfl
theorem Zh1 (a b : Int) : Z69 a b = mkE a b := by
  unfold Z69 mkE
  by_cases h : a ≤ b
  · rw [if_pos h, if_neg (by omega)]
    by_cases h2 : b > a
    · rw [if_pos h2]
    · rw [if_neg h2, show a = b from by omega]
  · rw [if_neg h, if_pos (by omega), if_neg (by omega)]
def Z3q (YI : Int) : Bool := (YI != YI)
theorem Z9y (YI : Int)   : Fn prog 172 [.i .i64 YI] (.b (Z3q YI)) [] := by
 refine fnS E0Ok Z4 (c := bodyOf f172) [] (.b (YI != YI)) [] func172 (sK [] sN) rfl (by kernel_rfl) (by kernel_rfl) rfl ?_ ?_
 · rfl
 · rfl
def Z1J (YI : Int) (YE : Int) : Int := (cond (Z3q YI)
  (cond (Z3q YE)
    0
    (-1))
  (cond (Z3q YE)
    1
    (cond (decide (YI < YE))
      (-1)
      (cond (decide (YI > YE))
        1
        0))))
theorem ZbQ (YI : Int) (YE : Int)   : Fn prog 166 [.i .i64 YI, .i .i64 YE] (.i .i64 (Z1J YI YE)) [] := by
 have p {a C} (s : Scr a C) := sF (Z9y YI) <| sF (Z9y YE) <| s
 cases h0 : (Z3q YI) with
 | true =>
  have q {a C} (s : Scr a C) := p (sB h0 <| s)
  clear p
  cases h1 : (Z3q YE) with
  | true =>
   refine fnS E0Ok Z4 (c := bodyOf f166) [] (.i .i64 0) [] func166 (q (sB h1 <| sK [] sN)) rfl (by kernel_rfl) (by kernel_rfl) rfl ?_ ?_
   · simp only [Z1J, h0, h1, cond_true]
   · rfl
  | false =>
   refine fnS E0Ok Z4 (c := bodyOf f166) [] (.i .i64 (-1)) [] func166 (q (sB h1 <| sK [] sN)) rfl (by kernel_rfl) (by kernel_rfl) rfl ?_ ?_
   · simp only [Z1J, h0, h1, cond_true, cond_false]
   · rfl
 | false =>
  have q {a C} (s : Scr a C) := p (sB h0 <| s)
  clear p
  cases h1 : (Z3q YE) with
  | true =>
   refine fnS E0Ok Z4 (c := bodyOf f166) [] (.i .i64 1) [] func166 (q (sB h1 <| sK [] sN)) rfl (by kernel_rfl) (by kernel_rfl) rfl ?_ ?_
   · simp only [Z1J, h0, h1, cond_true, cond_false]
   · rfl
  | false =>
   have p {a C} (s : Scr a C) := q (sB h1 <| s)
   clear q
   cases h2 : (decide (YI < YE)) with
   | true =>
    have gh2 := of_decide_eq_true h2
    refine fnS E0Ok Z4 (c := bodyOf f166) [] (.i .i64 (-1)) [] func166 (p (sB h2 <| sK [] sN)) rfl (by kernel_rfl) (by kernel_rfl) rfl ?_ ?_
    · simp only [Z1J, h0, h1, h2, cond_true, cond_false]
    · rfl
   | false =>
    have gh2 := of_decide_eq_false h2
    have q {a C} (s : Scr a C) := p (sB h2 <| s)
    clear p
    cases h3 : (decide (YI > YE)) with
    | true =>
     have gh3 := of_decide_eq_true h3
     refine fnS E0Ok Z4 (c := bodyOf f166) [] (.i .i64 1) [] func166 (q (sB h3 <| sK [] sN)) rfl (by kernel_rfl) (by kernel_rfl) rfl ?_ ?_
     · simp only [Z1J, h0, h1, h2, h3, cond_true, cond_false]
     · rfl
    | false =>
     have gh3 := of_decide_eq_false h3
     refine fnS E0Ok Z4 (c := bodyOf f166) [] (.i .i64 0) [] func166 (q (sB h3 <| sK [] sN)) rfl (by kernel_rfl) (by kernel_rfl) rfl ?_ ?_
     · simp only [Z1J, h0, h1, h2, h3, cond_false]
     · rfl
def Zm (YK : (List Int)) (YO : (List Int)) : Nat → Int → (Int) ⊕ (Unit)
  | 0, _ => .inl default
  | k + 1, Y1 => (cond (decide (Y1 < (YK.length : Int)))
    (cond (decide (Y1 ≥ (YO.length : Int)))
      (.inl 1)
      (cond ((Z1J (YK.getD Y1.toNat default) (YO.getD Y1.toNat default)) != 0)
        (.inl (Z1J (YK.getD Y1.toNat default) (YO.getD Y1.toNat default)))
        (Zm YK YO k (Y1 + 1))))
    (.inr ()))
def Z3f (YK : (List Int)) (YO : (List Int)) : (Int) ⊕ (Unit) → Ex × St
  | .inl r => (.ret, ⟨an 4 (.i .i64 r :: an 31 []), []⟩)
  | .inr r => ((.exit 0), ⟨.sl (YK.map (cI .i64)) :: .sl (YO.map (cI .i64)) :: an 7 (.sl (YK.map (cI .i64)) :: an 26 []), []⟩)
def Z78 (YK : (List Int)) (YO : (List Int)) (Y1 : Int) : St := ⟨.sl (YK.map (cI .i64)) :: .sl (YO.map (cI .i64)) :: an 7 (.sl (YK.map (cI .i64)) :: .i .i64 (YK.length : Int) :: .i .i64 Y1 :: an 24 []), []⟩
theorem Z4Q (YK : (List Int)) (YO : (List Int)) (hp0 : YK.length ≤ 1073741824) (hp1 : YO.length ≤ 1073741824) : ∀ (k : Nat) (Y1 : Int) (Z4B : 0 ≤ Y1) (hk : ((YK.length : Int) - Y1).toNat < k), Lp prog 0 (sub (bodyOf f155) [1, 0, 1, 0, 0]) (Z78 YK YO Y1) (Z3f YK YO (Zm YK YO k Y1)).1 (Z3f YK YO (Zm YK YO k Y1)).2 := by
 intro k
 induction k with
 | zero => intro Y1 Z4B hk; exact absurd hk (Nat.not_lt_zero _)
 | succ k ih =>
  intro Y1 Z4B hk
  cases Yg : (decide (Y1 < (YK.length : Int))) with
  | true =>
   have Yt := of_decide_eq_true Yg
   have YA : (0 : Int) ≤ Y1 := (by assumption)
   have YE : Y1 < (YK.length : Int) := (by assumption)
   have p {a C} (s : Scr a C) := sB Yg <| sG (cI .i64) YK Y1 YA YE <| sZ (cI .i64) YO <| s
   cases Yq : (decide (Y1 ≥ (YO.length : Int))) with
   | true =>
    have Y11 := of_decide_eq_true Yq
    have e : Zm YK YO (k + 1) Y1 = (.inl 1) := by simp only [Zm, Yg, Yq, cond_true]
    rw [e]
    exact outR (e := .ret) E0Ok Z4 [] (mR false [4, 1, 31]) [] (p (sB Yq <| sN)) (by kernel_rfl) (by intro h; cases h)
   | false =>
    have Y11 := of_decide_eq_false Yq
    have YG : Y1 < (YO.length : Int) := by clear p; exact (by omega)
    have q {a C} (s : Scr a C) := p (sB Yq <| sG (cI .i64) YO Y1 YA YG <| sF (ZbQ (YK.getD Y1.toNat default) (YO.getD Y1.toNat default)) <| s)
    clear p
    cases YM : ((Z1J (YK.getD Y1.toNat default) (YO.getD Y1.toNat default)) != 0) with
    | true =>
     have Y1e := bne_iff_ne.1 YM
     have e : Zm YK YO (k + 1) Y1 = (.inl (Z1J (YK.getD Y1.toNat default) (YO.getD Y1.toNat default))) := by simp only [Zm, Yg, Yq, YM, cond_true, cond_false]
     rw [e]
     exact outR (e := .ret) E0Ok Z4 [] (mR false [4, 1, 31]) [] (q (sB YM <| sN)) (by kernel_rfl) (by intro h; cases h)
    | false =>
     have Y1e := bne_eq_false_iff_eq.1 YM
     have YH : (-9223372036854775808 : Int) ≤ (Y1 + 1) := by clear q; exact (by omega)
     have YL : (Y1 + 1) ≤ (9223372036854775807 : Int) := by clear q; exact (by omega)
     have e : Zm YK YO (k + 1) Y1 = (Zm YK YO k (Y1 + 1)) := by simp only [Zm, Yg, Yq, YM, cond_true, cond_false]
     rw [e]
     exact nextR E0Ok Z4 [] (mR false [0, 2, 7, 3, 24]) [] (ih (Y1 + 1) (show 0 ≤ (Y1 + 1) from (by omega)) (by omega)) (q (sB YM <| sI (Y1 + 1) YH YL <| sN)) (by kernel_rfl)
  | false =>
   have Yt := of_decide_eq_false Yg
   have e : Zm YK YO (k + 1) Y1 = (.inr ()) := by simp only [Zm, Yg, cond_false]
   rw [e]
   exact outR (e := (.exit 0)) E0Ok Z4 [] (mR false [0, 2, 7, 1, 26]) [] (sB Yg <| sN) (by kernel_rfl) (by intro h; cases h)
def Z2s (YK : (List Int)) (YO : (List Int)) : (Int) ⊕ (Unit) := (Zm YK YO (((YK.length : Int) - 0).toNat + 1) 0)
def Z21 (YK : (List Int)) (YO : (List Int)) : Int := (match (Z2s YK YO) with
  | .inl r1 => r1
  | .inr r1 => (cond (decide ((YK.length : Int) < (YO.length : Int)))
    (-1)
    0))
theorem Z7Z (YK : (List Int)) (YO : (List Int)) (hp0 : YK.length ≤ 1073741824) (hp1 : YO.length ≤ 1073741824)  : Fn prog 155 [.sl (YK.map (cI .i64)), .sl (YO.map (cI .i64))] (.i .i64 (Z21 YK YO)) [] := by
 have p {a C} (s : Scr a C) := sZ (cI .i64) YK <| s
 cases h0 : (Z2s YK YO) with
 | inl r1 =>
  refine fnS E0Ok Z4 (c := bodyOf f155) [] (.i .i64 r1) [] func155 (p (sL (mR false [0, 2, 7, 3, 24]) 0 (lp_val (Z3f YK YO) (x := (Z2s YK YO)) (Z4Q YK YO hp0 hp1 (((YK.length : Int) - 0).toNat + 1) 0 (show 0 ≤ 0 from (by omega)) (Nat.lt_succ_self _)) h0) <| sK [] sN)) rfl (by kernel_rfl) (by kernel_rfl) rfl ?_ ?_
  · simp only [Z21, h0]
  · rfl
 | inr r1 =>
  have q {a C} (s : Scr a C) := p (sL (mR false [0, 2, 7, 3, 24]) 0 (lp_val (Z3f YK YO) (x := (Z2s YK YO)) (Z4Q YK YO hp0 hp1 (((YK.length : Int) - 0).toNat + 1) 0 (show 0 ≤ 0 from (by omega)) (Nat.lt_succ_self _)) h0) <| sZ (cI .i64) YK <| sZ (cI .i64) YO <| s)
  clear p
  cases h1 : (decide ((YK.length : Int) < (YO.length : Int))) with
  | true =>
   have gh1 := of_decide_eq_true h1
   refine fnS E0Ok Z4 (c := bodyOf f155) [] (.i .i64 (-1)) [] func155 (q (sB h1 <| sK [] sN)) rfl (by kernel_rfl) (by kernel_rfl) rfl ?_ ?_
   · simp only [Z21, h0, h1, cond_true]
   · rfl
  | false =>
   have gh1 := of_decide_eq_false h1
   refine fnS E0Ok Z4 (c := bodyOf f155) [] (.i .i64 0) [] func155 (q (sB h1 <| sK [] sN)) rfl (by kernel_rfl) (by kernel_rfl) rfl ?_ ?_
   · simp only [Z21, h0, h1, cond_false]
   · rfl
def Z6t (Y5 : Gedge) (Yk : Gedge) : Int := (Z21 ([Y5.e0, Y5.e1]) ([Yk.e0, Yk.e1]))
theorem Z90 (Y5 : Gedge) (Yk : Gedge)   : Fn prog 151 [.agg [.i .i64 Y5.e0, .i .i64 Y5.e1], .agg [.i .i64 Yk.e0, .i .i64 Yk.e1]] (.i .i64 (Z6t Y5 Yk)) [] := by
 have y0 : ([Y5.e0, Y5.e1]).length ≤ 1073741824 := (by simp_all <;> omega)
 have y1 : ([Yk.e0, Yk.e1]).length ≤ 1073741824 := (by assumption)
 refine fnS E0Ok Z4 (c := bodyOf f151) [] (.i .i64 (Z21 ([Y5.e0, Y5.e1]) ([Yk.e0, Yk.e1]))) [] func151 (sK [2, 2] <| sF (Z7Z ([Y5.e0, Y5.e1]) ([Yk.e0, Yk.e1]) y0 y1) <| sK [] sN) rfl (by kernel_rfl) (by kernel_rfl) rfl ?_ ?_
 · rfl
 · rfl
def Z3 (Y4 : GMesh) (Y1 : Int) (Y6 : Int) : Gedge := (Z69 ((Y4.Triangles.getD Y1.toNat default).getD Y6.toNat default) ((Y4.Triangles.getD Y1.toNat default).getD (Int.tmod (Y6 + 1) 3).toNat default))
def Zf (Y4 : GMesh) (Y1 : Int) (Y8 : (List (Gedge × List Int))) (Yz : (List Gedge)) : Nat → Int → (List (Gedge × List Int)) → (List Gedge) → (List (Gedge × List Int)) × (List Gedge)
  | 0, _, _, _ => default
  | k + 1, Y6, Ye, Yx => (cond (decide (Y6 < 3))
    (cond (mhas Ye (Z3 Y4 Y1 Y6))
      (cond (((Ye.getD (midx Ye (Z3 Y4 Y1 Y6)) default).2.length : Int) == 0)
        (Zf Y4 Y1 Y8 Yz k (Y6 + 1) (mput Ye (midx Ye (Z3 Y4 Y1 Y6)) ((Ye.getD (midx Ye (Z3 Y4 Y1 Y6)) default).2 ++ [Y1])) (Yx ++ [(Z3 Y4 Y1 Y6)]))
        (Zf Y4 Y1 Y8 Yz k (Y6 + 1) (mput Ye (midx Ye (Z3 Y4 Y1 Y6)) ((Ye.getD (midx Ye (Z3 Y4 Y1 Y6)) default).2 ++ [Y1])) Yx))
      (Zf Y4 Y1 Y8 Yz k (Y6 + 1) (Ye ++ [((Z3 Y4 Y1 Y6), [Y1])]) (Yx ++ [(Z3 Y4 Y1 Y6)])))
    (Ye, Yx))
def Z4Y (Y4 : GMesh) (Y1 : Int) (Y8 : (List (Gedge × List Int))) (Yz : (List Gedge)) (r : (List (Gedge × List Int)) × (List Gedge)) : Ex × St := ((.exit 2), ⟨.agg [.sl (Y4.Places.map GVector.cells), .sl (Y4.Triangles.map (cL (cI .i64)))] :: .ptr 0 0 0 :: .any :: .nils :: .mp 1 :: .own 2 :: .i .i64 Y1 :: .sl ((Y4.Triangles.getD Y1.toNat default).map (cI .i64)) :: .any :: .any :: .mp 1 :: .any :: .ptr 0 0 1 :: .sl (Y4.Triangles.map (cL (cI .i64))) :: .i .i64 (Y4.Triangles.length : Int) :: .i .i64 Y1 :: .b (decide (Y1 < (Y4.Triangles.length : Int))) :: .i .i64 Y1 :: .ref [.sl ((Y4.Triangles.getD Y1.toNat default).map (cI .i64))] 0 :: .sl ((Y4.Triangles.getD Y1.toNat default).map (cI .i64)) :: an 37 [], [.box 38 [.sl (Y4.Places.map GVector.cells), .sl (Y4.Triangles.map (cL (cI .i64)))], .mapN 2 (mapC Gedge.pr (cI .i64) r.1) none, .vec 167 2 (r.2.map Gedge.cells) false]⟩)
def Za7 (Y4 : GMesh) (Y1 : Int) (Y8 : (List (Gedge × List Int))) (Yz : (List Gedge)) (Y6 : Int) (Ye : (List (Gedge × List Int))) (Yx : (List Gedge)) : St := ⟨.agg [.sl (Y4.Places.map GVector.cells), .sl (Y4.Triangles.map (cL (cI .i64)))] :: .ptr 0 0 0 :: .any :: .nils :: .mp 1 :: .own 2 :: .i .i64 Y1 :: .sl ((Y4.Triangles.getD Y1.toNat default).map (cI .i64)) :: .any :: .any :: .mp 1 :: .any :: .ptr 0 0 1 :: .sl (Y4.Triangles.map (cL (cI .i64))) :: .i .i64 (Y4.Triangles.length : Int) :: .i .i64 Y1 :: .b (decide (Y1 < (Y4.Triangles.length : Int))) :: .i .i64 Y1 :: .ref [.sl ((Y4.Triangles.getD Y1.toNat default).map (cI .i64))] 0 :: .sl ((Y4.Triangles.getD Y1.toNat default).map (cI .i64)) :: .i .i64 Y6 :: an 36 [], [.box 38 [.sl (Y4.Places.map GVector.cells), .sl (Y4.Triangles.map (cL (cI .i64)))], .mapN 2 (mapC Gedge.pr (cI .i64) Ye) none, .vec 167 2 (Yx.map Gedge.cells) false]⟩
set_option maxHeartbeats 1000000 in
theorem Za8 (Y4 : GMesh) (Y1 : Int) (Y8 : (List (Gedge × List Int))) (Yz : (List Gedge)) (hp0 : Y4.Places.length ≤ 1073741824) (hp1 : Y4.Triangles.length ≤ 1073741824) (hp2 : ∀ t ∈ Y4.Triangles, t.length ≤ 1073741824) (hp3 : OkE Y4.Places.length Y4.Triangles) (ZP : 0 ≤ Y1) (Z3Z : (Yz.length : Int) ≤ 3 * Y1) (Z3r : ∀ y ∈ Y8, (y.2.length : Int) ≤ 3 * Y1) (Z2t : (decide (Y1 < (Y4.Triangles.length : Int))) = true) : ∀ (k : Nat) (Y6 : Int) (Ye : (List (Gedge × List Int))) (Yx : (List Gedge)) (Z1N : 0 ≤ Y6) (Z5J : (Yx.length : Int) ≤ (Yz.length : Int) + Y6) (Z5K : ∀ y ∈ Ye, (y.2.length : Int) ≤ 3 * Y1 + Y6) (hk : ((3 : Int) - Y6).toNat < k), Lp prog 0 (sub (bodyOf f141) [1, 1, 0, 1, 0, 0, 1, 1, 0, 0, 1, 1, 0, 0]) (Za7 Y4 Y1 Y8 Yz Y6 Ye Yx) (Z4Y Y4 Y1 Y8 Yz (Zf Y4 Y1 Y8 Yz k Y6 Ye Yx)).1 (Z4Y Y4 Y1 Y8 Yz (Zf Y4 Y1 Y8 Yz k Y6 Ye Yx)).2 := by
 intro k
 induction k with
 | zero => intro Y6 Ye Yx Z1N Z5J Z5K hk; exact absurd hk (Nat.not_lt_zero _)
 | succ k ih =>
  intro Y6 Ye Yx Z1N Z5J Z5K hk
  cases YD : (decide (Y6 < 3)) with
  | true =>
   have YB := of_decide_eq_true YD
   have Y15 : (0 : Int) ≤ Y6 := (by assumption)
   have Y16 : Y6 < ((Y4.Triangles.getD Y1.toNat default).length : Int) := (by ((have g5 := of_decide_eq_true Z2t; have q := OkE.at hp3 ZP g5 Z1N (of_decide_eq_true (by assumption)); omega)))
   have Y12 : (-9223372036854775808 : Int) ≤ (Y6 + 1) := (by omega)
   have Y10 : (Y6 + 1) ≤ (9223372036854775807 : Int) := (by omega)
   have Y17 : (0 : Int) ≤ (Int.tmod (Y6 + 1) 3) := (by ((have g5 := of_decide_eq_true Z2t; have q := OkE.at hp3 ZP g5 Z1N (of_decide_eq_true (by assumption)); omega)))
   have Y1a : (Int.tmod (Y6 + 1) 3) < ((Y4.Triangles.getD Y1.toNat default).length : Int) := (by ((have g5 := of_decide_eq_true Z2t; have q := OkE.at hp3 ZP g5 Z1N (of_decide_eq_true (by assumption)); omega)))
   have p {a C} (s : Scr a C) := sB YD <| sK [12, 12] <| sG (cI .i64) (Y4.Triangles.getD Y1.toNat default) Y6 Y15 Y16 <| sI (Y6 + 1) Y12 Y10 <| sC (show (3 : Int) ≠ 0 from (by decide)) <| sQ (Int.tmod (Y6 + 1) 3) <| sG (cI .i64) (Y4.Triangles.getD Y1.toNat default) (Int.tmod (Y6 + 1) 3) Y17 Y1a <| sF (ZfL ((Y4.Triangles.getD Y1.toNat default).getD Y6.toNat default) ((Y4.Triangles.getD Y1.toNat default).getD (Int.tmod (Y6 + 1) 3).toNat default)) <| s
   cases YV : (mhas Ye (Z3 Y4 Y1 Y6)) with
   | true =>
    have m__16 := midx_lt YV
    have q {a C} (s : Scr a C) := p (sA (.keep [midx Ye (Z3 Y4 Y1 Y6)]) <| sC (mget_ok (ck := Gedge.pr) (cv := (cI .i64)) YV) <| sM (mget_len (ck := Gedge.pr) (cv := (cI .i64)) (l := Ye) (j := (midx Ye (Z3 Y4 Y1 Y6)))) <| s)
    clear p
    cases Y1w : (((Ye.getD (midx Ye (Z3 Y4 Y1 Y6)) default).2.length : Int) == 0) with
    | true =>
     have gh__2 := eq_of_beq Y1w
     have Y19 : Yx.length + ([(Z3 Y4 Y1 Y6)]).length ≤ 1073741824 := by clear q; exact (by ((have g5 := of_decide_eq_true Z2t; have q := OkE.at hp3 ZP g5 Z1N (of_decide_eq_true (by assumption)); (simp only [List.length_append, List.length_cons, List.length_nil]; omega))))
     have Y1b : (midx Ye (Z3 Y4 Y1 Y6)) < Ye.length := by clear q; exact (by assumption)
     have Y1n : ((Ye.getD (midx Ye (Z3 Y4 Y1 Y6)) default).2).length + ([Y1]).length ≤ 1073741824 := by clear q; exact (by ((have g5 := of_decide_eq_true Z2t; have q := OkE.at hp3 ZP g5 Z1N (of_decide_eq_true (by assumption)); (simp only [List.length_append, List.length_cons, List.length_nil]; omega))))
     have e : Zf Y4 Y1 Y8 Yz (k + 1) Y6 Ye Yx = (Zf Y4 Y1 Y8 Yz k (Y6 + 1) (mput Ye (midx Ye (Z3 Y4 Y1 Y6)) ((Ye.getD (midx Ye (Z3 Y4 Y1 Y6)) default).2 ++ [Y1])) (Yx ++ [(Z3 Y4 Y1 Y6)])) := by simp only [Zf, YD, YV, Y1w, cond_true]
     rw [e]
     exact nextS E0Ok Z4 [] (mR false [0, 2, 1, 5, 2, 1, 1, 9, 36]) [0, 1, 2] (⟨.agg [.sl (Y4.Places.map GVector.cells), .sl (Y4.Triangles.map (cL (cI .i64)))] :: .ptr 0 0 0 :: .any :: .nils :: .mp 1 :: .own 2 :: .i .i64 Y1 :: .sl ((Y4.Triangles.getD Y1.toNat default).map (cI .i64)) :: .any :: .any :: .mp 1 :: .any :: .ptr 0 0 1 :: .sl (Y4.Triangles.map (cL (cI .i64))) :: .i .i64 (Y4.Triangles.length : Int) :: .i .i64 Y1 :: .b (decide (Y1 < (Y4.Triangles.length : Int))) :: .i .i64 Y1 :: .ref [.sl ((Y4.Triangles.getD Y1.toNat default).map (cI .i64))] 0 :: .sl ((Y4.Triangles.getD Y1.toNat default).map (cI .i64)) :: .i .i64 (Y6 + 1) :: an 36 [], [.box 38 [.sl (Y4.Places.map GVector.cells), .sl (Y4.Triangles.map (cL (cI .i64)))], .mapN 2 (((mapC Gedge.pr (cI .i64) Ye).set (midx Ye (Z3 Y4 Y1 Y6)) (((mapC Gedge.pr (cI .i64) Ye).getD (midx Ye (Z3 Y4 Y1 Y6)) default).1, [])).set (midx Ye (Z3 Y4 Y1 Y6)) ((((mapC Gedge.pr (cI .i64) Ye).set (midx Ye (Z3 Y4 Y1 Y6)) (((mapC Gedge.pr (cI .i64) Ye).getD (midx Ye (Z3 Y4 Y1 Y6)) default).1, [])).getD (midx Ye (Z3 Y4 Y1 Y6)) default).1, (((mapC Gedge.pr (cI .i64) Ye).getD (midx Ye (Z3 Y4 Y1 Y6)) default).2 ++ ([Y1].map (cI .i64))))) none, .vec 167 2 ((Yx.map Gedge.cells) ++ ([[.i .i64 ((Z3 Y4 Y1 Y6).e0), .i .i64 ((Z3 Y4 Y1 Y6).e1)]] : List (List AV))) false]⟩) (q (sB Y1w <| sC (show (Yx.map Gedge.cells).length + ([[.i .i64 ((Z3 Y4 Y1 Y6).e0), .i .i64 ((Z3 Y4 Y1 Y6).e1)]] : List (List AV)).length ≤ 1073741824 from (by simpa using Y19)) <| sA (.keep [midx Ye (Z3 Y4 Y1 Y6)]) <| sC (mget_ok (ck := Gedge.pr) (cv := (cI .i64)) YV) <| sC (show (midx Ye (Z3 Y4 Y1 Y6)) < (mapC Gedge.pr (cI .i64) Ye).length from (by simpa using Y1b)) <| sC (show (((mapC Gedge.pr (cI .i64) Ye).getD (midx Ye (Z3 Y4 Y1 Y6)) default).2).length + ([[.i .i64 Y1]] : List (List AV)).length ≤ 1073741824 from (by simpa using Y1n)) <| sA (.keep [(midx Ye (Z3 Y4 Y1 Y6))]) <| sC (show ((midx Ye (Z3 Y4 Y1 Y6)) : Int) = (((midx Ye (Z3 Y4 Y1 Y6)) : Nat) : Int) from rfl) <| sC (show (midx Ye (Z3 Y4 Y1 Y6)) < ((mapC Gedge.pr (cI .i64) Ye).set (midx Ye (Z3 Y4 Y1 Y6)) (((mapC Gedge.pr (cI .i64) Ye).getD (midx Ye (Z3 Y4 Y1 Y6)) default).1, [])).length from (by simpa using Y1b)) <| sC (show ∀ i, some (midx Ye (Z3 Y4 Y1 Y6)) = some i → i = (midx Ye (Z3 Y4 Y1 Y6)) from (fun i h => by cases h; rfl)) <| sI (Y6 + 1) Y12 Y10 <| sN)) (by kernel_rfl) (show _ = ⟨.agg [.sl (Y4.Places.map GVector.cells), .sl (Y4.Triangles.map (cL (cI .i64)))] :: .ptr 0 0 0 :: .any :: .nils :: .mp 1 :: .own 2 :: .i .i64 Y1 :: .sl ((Y4.Triangles.getD Y1.toNat default).map (cI .i64)) :: .any :: .any :: .mp 1 :: .any :: .ptr 0 0 1 :: .sl (Y4.Triangles.map (cL (cI .i64))) :: .i .i64 (Y4.Triangles.length : Int) :: .i .i64 Y1 :: .b (decide (Y1 < (Y4.Triangles.length : Int))) :: .i .i64 Y1 :: .ref [.sl ((Y4.Triangles.getD Y1.toNat default).map (cI .i64))] 0 :: .sl ((Y4.Triangles.getD Y1.toNat default).map (cI .i64)) :: .i .i64 (Y6 + 1) :: an 36 [], [.box 38 [.sl (Y4.Places.map GVector.cells), .sl (Y4.Triangles.map (cL (cI .i64)))], .mapN 2 (mapC Gedge.pr (cI .i64) (mput Ye (midx Ye (Z3 Y4 Y1 Y6)) ((Ye.getD (midx Ye (Z3 Y4 Y1 Y6)) default).2 ++ [Y1]))) none, .vec 167 2 ((Yx ++ [(Z3 Y4 Y1 Y6)]).map Gedge.cells) false]⟩ from (by rw [mapC_put (midx_lt YV)]; simp [List.map_set, Gedge.cells])) (ih (Y6 + 1) (mput Ye (midx Ye (Z3 Y4 Y1 Y6)) ((Ye.getD (midx Ye (Z3 Y4 Y1 Y6)) default).2 ++ [Y1])) (Yx ++ [(Z3 Y4 Y1 Y6)]) (show 0 ≤ (Y6 + 1) from (by omega)) (show ((Yx ++ [(Z3 Y4 Y1 Y6)]).length : Int) ≤ (Yz.length : Int) + (Y6 + 1) from (by simp only [List.length_append, List.length_cons, List.length_nil]; omega)) (show ∀ y ∈ (mput Ye (midx Ye (Z3 Y4 Y1 Y6)) ((Ye.getD (midx Ye (Z3 Y4 Y1 Y6)) default).2 ++ [Y1])), (y.2.length : Int) ≤ 3 * Y1 + (Y6 + 1) from (by exact mput_inv (by assumption) (by omega) (by omega))) (by omega))
    | false =>
     have gh__2 := ne_of_beq_false Y1w
     have Y19 : (midx Ye (Z3 Y4 Y1 Y6)) < Ye.length := by clear q; exact (by assumption)
     have Y1b : ((Ye.getD (midx Ye (Z3 Y4 Y1 Y6)) default).2).length + ([Y1]).length ≤ 1073741824 := by clear q; exact (by ((have g5 := of_decide_eq_true Z2t; have q := OkE.at hp3 ZP g5 Z1N (of_decide_eq_true (by assumption)); (have q3 := mlen_leI (N := 3 * Y1 + Y6) (by omega) (by assumption) (midx Ye (Z3 Y4 Y1 Y6)); simp only [List.length_cons, List.length_nil]; omega))))
     have e : Zf Y4 Y1 Y8 Yz (k + 1) Y6 Ye Yx = (Zf Y4 Y1 Y8 Yz k (Y6 + 1) (mput Ye (midx Ye (Z3 Y4 Y1 Y6)) ((Ye.getD (midx Ye (Z3 Y4 Y1 Y6)) default).2 ++ [Y1])) Yx) := by simp only [Zf, YD, YV, Y1w, cond_true, cond_false]
     rw [e]
     exact nextS E0Ok Z4 [] (mR false [0, 2, 1, 5, 2, 1, 1, 9, 36]) [0, 1, 2] (⟨.agg [.sl (Y4.Places.map GVector.cells), .sl (Y4.Triangles.map (cL (cI .i64)))] :: .ptr 0 0 0 :: .any :: .nils :: .mp 1 :: .own 2 :: .i .i64 Y1 :: .sl ((Y4.Triangles.getD Y1.toNat default).map (cI .i64)) :: .any :: .any :: .mp 1 :: .any :: .ptr 0 0 1 :: .sl (Y4.Triangles.map (cL (cI .i64))) :: .i .i64 (Y4.Triangles.length : Int) :: .i .i64 Y1 :: .b (decide (Y1 < (Y4.Triangles.length : Int))) :: .i .i64 Y1 :: .ref [.sl ((Y4.Triangles.getD Y1.toNat default).map (cI .i64))] 0 :: .sl ((Y4.Triangles.getD Y1.toNat default).map (cI .i64)) :: .i .i64 (Y6 + 1) :: an 36 [], [.box 38 [.sl (Y4.Places.map GVector.cells), .sl (Y4.Triangles.map (cL (cI .i64)))], .mapN 2 (((mapC Gedge.pr (cI .i64) Ye).set (midx Ye (Z3 Y4 Y1 Y6)) (((mapC Gedge.pr (cI .i64) Ye).getD (midx Ye (Z3 Y4 Y1 Y6)) default).1, [])).set (midx Ye (Z3 Y4 Y1 Y6)) ((((mapC Gedge.pr (cI .i64) Ye).set (midx Ye (Z3 Y4 Y1 Y6)) (((mapC Gedge.pr (cI .i64) Ye).getD (midx Ye (Z3 Y4 Y1 Y6)) default).1, [])).getD (midx Ye (Z3 Y4 Y1 Y6)) default).1, (((mapC Gedge.pr (cI .i64) Ye).getD (midx Ye (Z3 Y4 Y1 Y6)) default).2 ++ ([Y1].map (cI .i64))))) none, .vec 167 2 (Yx.map Gedge.cells) false]⟩) (q (sB Y1w <| sA (.keep [midx Ye (Z3 Y4 Y1 Y6)]) <| sC (mget_ok (ck := Gedge.pr) (cv := (cI .i64)) YV) <| sC (show (midx Ye (Z3 Y4 Y1 Y6)) < (mapC Gedge.pr (cI .i64) Ye).length from (by simpa using Y19)) <| sC (show (((mapC Gedge.pr (cI .i64) Ye).getD (midx Ye (Z3 Y4 Y1 Y6)) default).2).length + ([[.i .i64 Y1]] : List (List AV)).length ≤ 1073741824 from (by simpa using Y1b)) <| sA (.keep [(midx Ye (Z3 Y4 Y1 Y6))]) <| sC (show ((midx Ye (Z3 Y4 Y1 Y6)) : Int) = (((midx Ye (Z3 Y4 Y1 Y6)) : Nat) : Int) from rfl) <| sC (show (midx Ye (Z3 Y4 Y1 Y6)) < ((mapC Gedge.pr (cI .i64) Ye).set (midx Ye (Z3 Y4 Y1 Y6)) (((mapC Gedge.pr (cI .i64) Ye).getD (midx Ye (Z3 Y4 Y1 Y6)) default).1, [])).length from (by simpa using Y19)) <| sC (show ∀ i, some (midx Ye (Z3 Y4 Y1 Y6)) = some i → i = (midx Ye (Z3 Y4 Y1 Y6)) from (fun i h => by cases h; rfl)) <| sI (Y6 + 1) Y12 Y10 <| sN)) (by kernel_rfl) (show _ = ⟨.agg [.sl (Y4.Places.map GVector.cells), .sl (Y4.Triangles.map (cL (cI .i64)))] :: .ptr 0 0 0 :: .any :: .nils :: .mp 1 :: .own 2 :: .i .i64 Y1 :: .sl ((Y4.Triangles.getD Y1.toNat default).map (cI .i64)) :: .any :: .any :: .mp 1 :: .any :: .ptr 0 0 1 :: .sl (Y4.Triangles.map (cL (cI .i64))) :: .i .i64 (Y4.Triangles.length : Int) :: .i .i64 Y1 :: .b (decide (Y1 < (Y4.Triangles.length : Int))) :: .i .i64 Y1 :: .ref [.sl ((Y4.Triangles.getD Y1.toNat default).map (cI .i64))] 0 :: .sl ((Y4.Triangles.getD Y1.toNat default).map (cI .i64)) :: .i .i64 (Y6 + 1) :: an 36 [], [.box 38 [.sl (Y4.Places.map GVector.cells), .sl (Y4.Triangles.map (cL (cI .i64)))], .mapN 2 (mapC Gedge.pr (cI .i64) (mput Ye (midx Ye (Z3 Y4 Y1 Y6)) ((Ye.getD (midx Ye (Z3 Y4 Y1 Y6)) default).2 ++ [Y1]))) none, .vec 167 2 (Yx.map Gedge.cells) false]⟩ from (by rw [mapC_put (midx_lt YV)]; done)) (ih (Y6 + 1) (mput Ye (midx Ye (Z3 Y4 Y1 Y6)) ((Ye.getD (midx Ye (Z3 Y4 Y1 Y6)) default).2 ++ [Y1])) Yx (show 0 ≤ (Y6 + 1) from (by omega)) (show (Yx.length : Int) ≤ (Yz.length : Int) + (Y6 + 1) from (by omega)) (show ∀ y ∈ (mput Ye (midx Ye (Z3 Y4 Y1 Y6)) ((Ye.getD (midx Ye (Z3 Y4 Y1 Y6)) default).2 ++ [Y1])), (y.2.length : Int) ≤ 3 * Y1 + (Y6 + 1) from (by exact mput_inv (by assumption) (by omega) (by omega))) (by omega))
   | false =>
    have Y19 : Yx.length + ([(Z3 Y4 Y1 Y6)]).length ≤ 1073741824 := by clear p; exact (by ((have g5 := of_decide_eq_true Z2t; have q := OkE.at hp3 ZP g5 Z1N (of_decide_eq_true (by assumption)); (simp only [List.length_append, List.length_cons, List.length_nil]; omega))))
    have e : Zf Y4 Y1 Y8 Yz (k + 1) Y6 Ye Yx = (Zf Y4 Y1 Y8 Yz k (Y6 + 1) (Ye ++ [((Z3 Y4 Y1 Y6), [Y1])]) (Yx ++ [(Z3 Y4 Y1 Y6)])) := by simp only [Zf, YD, YV, cond_true, cond_false]
    rw [e]
    exact nextS E0Ok Z4 [] (mR false [0, 2, 1, 5, 2, 1, 1, 9, 36]) [0, 1, 2] (⟨.agg [.sl (Y4.Places.map GVector.cells), .sl (Y4.Triangles.map (cL (cI .i64)))] :: .ptr 0 0 0 :: .any :: .nils :: .mp 1 :: .own 2 :: .i .i64 Y1 :: .sl ((Y4.Triangles.getD Y1.toNat default).map (cI .i64)) :: .any :: .any :: .mp 1 :: .any :: .ptr 0 0 1 :: .sl (Y4.Triangles.map (cL (cI .i64))) :: .i .i64 (Y4.Triangles.length : Int) :: .i .i64 Y1 :: .b (decide (Y1 < (Y4.Triangles.length : Int))) :: .i .i64 Y1 :: .ref [.sl ((Y4.Triangles.getD Y1.toNat default).map (cI .i64))] 0 :: .sl ((Y4.Triangles.getD Y1.toNat default).map (cI .i64)) :: .i .i64 (Y6 + 1) :: an 36 [], [.box 38 [.sl (Y4.Places.map GVector.cells), .sl (Y4.Triangles.map (cL (cI .i64)))], .mapN 2 (((mapC Gedge.pr (cI .i64) Ye) ++ [((Gedge.pr (Z3 Y4 Y1 Y6)), [])]).set (mapC Gedge.pr (cI .i64) Ye).length ((((mapC Gedge.pr (cI .i64) Ye) ++ [((Gedge.pr (Z3 Y4 Y1 Y6)), [])]).getD (mapC Gedge.pr (cI .i64) Ye).length default).1, (([Y1]).map (cI .i64)))) none, .vec 167 2 ((Yx.map Gedge.cells) ++ ([[.i .i64 ((Z3 Y4 Y1 Y6).e0), .i .i64 ((Z3 Y4 Y1 Y6).e1)]] : List (List AV))) false]⟩) (p (sA (.keep []) <| sC (mnot_ok (ck := Gedge.pr) (cv := (cI .i64)) Gedge.inj YV) <| sM (show ((0 : Nat) : Int) = 0 from rfl) <| sB (show (0 == 0) = true from rfl) <| sC (show (Yx.map Gedge.cells).length + ([[.i .i64 ((Z3 Y4 Y1 Y6).e0), .i .i64 ((Z3 Y4 Y1 Y6).e1)]] : List (List AV)).length ≤ 1073741824 from (by simpa using Y19)) <| sA (.keep []) <| sC (mnot_ok (ck := Gedge.pr) (cv := (cI .i64)) Gedge.inj YV) <| sC (show ([[.i .i64 Y1]] : List (List AV)) ≠ [] from (by simp)) <| sC (show ([[.i .i64 Y1]] : List (List AV)).length ≤ 1073741824 from (by simp)) <| sA (.keep [(mapC Gedge.pr (cI .i64) Ye).length]) <| sC (show ((mapC Gedge.pr (cI .i64) Ye).length : Int) = (((mapC Gedge.pr (cI .i64) Ye).length : Nat) : Int) from rfl) <| sC (show (mapC Gedge.pr (cI .i64) Ye).length < ((mapC Gedge.pr (cI .i64) Ye) ++ [((Gedge.pr (Z3 Y4 Y1 Y6)), [])]).length from (by simp)) <| sC (show ∀ i, (none : Option Nat) = some i → i = (mapC Gedge.pr (cI .i64) Ye).length from (fun i h => by cases h)) <| sI (Y6 + 1) Y12 Y10 <| sN)) (by kernel_rfl) (show _ = ⟨.agg [.sl (Y4.Places.map GVector.cells), .sl (Y4.Triangles.map (cL (cI .i64)))] :: .ptr 0 0 0 :: .any :: .nils :: .mp 1 :: .own 2 :: .i .i64 Y1 :: .sl ((Y4.Triangles.getD Y1.toNat default).map (cI .i64)) :: .any :: .any :: .mp 1 :: .any :: .ptr 0 0 1 :: .sl (Y4.Triangles.map (cL (cI .i64))) :: .i .i64 (Y4.Triangles.length : Int) :: .i .i64 Y1 :: .b (decide (Y1 < (Y4.Triangles.length : Int))) :: .i .i64 Y1 :: .ref [.sl ((Y4.Triangles.getD Y1.toNat default).map (cI .i64))] 0 :: .sl ((Y4.Triangles.getD Y1.toNat default).map (cI .i64)) :: .i .i64 (Y6 + 1) :: an 36 [], [.box 38 [.sl (Y4.Places.map GVector.cells), .sl (Y4.Triangles.map (cL (cI .i64)))], .mapN 2 (mapC Gedge.pr (cI .i64) (Ye ++ [((Z3 Y4 Y1 Y6), [Y1])])) none, .vec 167 2 ((Yx ++ [(Z3 Y4 Y1 Y6)]).map Gedge.cells) false]⟩ from (by rw [mapC_new]; simp [List.map_set, Gedge.cells])) (ih (Y6 + 1) (Ye ++ [((Z3 Y4 Y1 Y6), [Y1])]) (Yx ++ [(Z3 Y4 Y1 Y6)]) (show 0 ≤ (Y6 + 1) from (by omega)) (show ((Yx ++ [(Z3 Y4 Y1 Y6)]).length : Int) ≤ (Yz.length : Int) + (Y6 + 1) from (by simp only [List.length_append, List.length_cons, List.length_nil]; omega)) (show ∀ y ∈ (Ye ++ [((Z3 Y4 Y1 Y6), [Y1])]), (y.2.length : Int) ≤ 3 * Y1 + (Y6 + 1) from (by exact mnew_inv (by assumption) (by omega) (by omega))) (by omega))
  | false =>
   have YB := of_decide_eq_false YD
   have e : Zf Y4 Y1 Y8 Yz (k + 1) Y6 Ye Yx = (Ye, Yx) := by simp only [Zf, YD, cond_false]
   rw [e]
   exact outR (e := (.exit 2)) E0Ok Z4 [] (mR false [0, 2, 1, 5, 2, 1, 1, 8, 37]) [0, 1, 2] (sB YD <| sN) (by kernel_rfl) (by intro h; cases h)
def ZQ (Y4 : GMesh) (Y1 : Int) (Y8 : (List (Gedge × List Int))) (Yz : (List Gedge)) : (List (Gedge × List Int)) × (List Gedge) := (Zf Y4 Y1 Y8 Yz (((3 : Int) - 0).toNat + 1) 0 Y8 Yz)
theorem Zhh (m : GMesh) (i : Int) (b0 : List (Gedge × List Int)) (l0 : List Gedge) (h0 : 0 ≤ i) : ∀ (k : Nat) (x : Int) (b : List (Gedge × List Int)) (l : List Gedge), 0 ≤ x → (3 - x).toNat < k → x ≤ 3 → (l.length : Int) ≤ 3 * i + x → (∀ y ∈ b, (y.2.length : Int) ≤ 3 * i + x) → ((Zf m i b0 l0 k x b l).2.length : Int) ≤ 3 * (i + 1) ∧ ∀ y ∈ (Zf m i b0 l0 k x b l).1, (y.2.length : Int) ≤ 3 * (i + 1) := by
  intro k
  induction k with
  | zero => intro x b l _ hk; exact absurd hk (Nat.not_lt_zero _)
  | succ k ih =>
    intro x b l hx hk h3 hl hb
    rw [Zf]
    cases hc : decide (x < 3) with
    | false => rw [cond_false]; exact ⟨by simp only; omega, fun y hy => by have := hb y hy; omega⟩
    | true =>
      have hc' := of_decide_eq_true hc
      rw [cond_true]
      cases mhas b (Z3 m i x) with
      | true =>
        rw [cond_true]
        cases (((b.getD (midx b (Z3 m i x)) default).2.length : Int) == 0) with
        | true => rw [cond_true]; exact ih _ _ _ (by omega) (by omega) (by omega) (by simp only [List.length_append, List.length_cons, List.length_nil]; omega) (mput_inv hb (by omega) (by omega))
        | false => rw [cond_false]; exact ih _ _ _ (by omega) (by omega) (by omega) (by omega) (mput_inv hb (by omega) (by omega))
      | false => rw [cond_false]; exact ih _ _ _ (by omega) (by omega) (by omega) (by simp only [List.length_append, List.length_cons, List.length_nil]; omega) (mnew_inv hb (by omega) (by omega))
theorem ZgB (m : GMesh) (i : Int) (b : List (Gedge × List Int)) (l : List Gedge) (h0 : 0 ≤ i) (hl : (l.length : Int) ≤ 3 * i) (hb : ∀ y ∈ b, (y.2.length : Int) ≤ 3 * i) :
    ((ZQ m i b l).2.length : Int) ≤ 3 * (i + 1) ∧ ∀ y ∈ (ZQ m i b l).1, (y.2.length : Int) ≤ 3 * (i + 1) :=
  Zhh m i b l h0 _ 0 b l (Int.le_refl 0) (by omega) (by omega) (by omega) (fun y hy => by have := hb y hy; omega)
def Z17 (Y4 : GMesh) : Nat → Int → (List (Gedge × List Int)) → (List Gedge) → (List (Gedge × List Int)) × (List Gedge)
  | 0, _, _, _ => default
  | k + 1, Y1, Y8, Yz => (cond (decide (Y1 < (Y4.Triangles.length : Int)))
    (Z17 Y4 k (Y1 + 1) ((ZQ Y4 Y1 Y8 Yz).1) ((ZQ Y4 Y1 Y8 Yz).2))
    (Y8, Yz))
def Z4Z (Y4 : GMesh) (r : (List (Gedge × List Int)) × (List Gedge)) : Ex × St := ((.exit 0), ⟨.agg [.sl (Y4.Places.map GVector.cells), .sl (Y4.Triangles.map (cL (cI .i64)))] :: .ptr 0 0 0 :: .any :: .nils :: .mp 1 :: .own 2 :: an 4 (.mp 1 :: .any :: .ptr 0 0 1 :: .sl (Y4.Triangles.map (cL (cI .i64))) :: an 43 []), [.box 38 [.sl (Y4.Places.map GVector.cells), .sl (Y4.Triangles.map (cL (cI .i64)))], .mapN 2 (mapC Gedge.pr (cI .i64) r.1) none, .vec 167 2 (r.2.map Gedge.cells) false]⟩)
def Z6y (Y4 : GMesh) (Y1 : Int) (Y8 : (List (Gedge × List Int))) (Yz : (List Gedge)) : St := ⟨.agg [.sl (Y4.Places.map GVector.cells), .sl (Y4.Triangles.map (cL (cI .i64)))] :: .ptr 0 0 0 :: .any :: .nils :: .mp 1 :: .own 2 :: an 4 (.mp 1 :: .any :: .ptr 0 0 1 :: .sl (Y4.Triangles.map (cL (cI .i64))) :: .i .i64 (Y4.Triangles.length : Int) :: .i .i64 Y1 :: an 41 []), [.box 38 [.sl (Y4.Places.map GVector.cells), .sl (Y4.Triangles.map (cL (cI .i64)))], .mapN 2 (mapC Gedge.pr (cI .i64) Y8) none, .vec 167 2 (Yz.map Gedge.cells) false]⟩
theorem Za9 (Y4 : GMesh) (hp0 : Y4.Places.length ≤ 1073741824) (hp1 : Y4.Triangles.length ≤ 1073741824) (hp2 : ∀ t ∈ Y4.Triangles, t.length ≤ 1073741824) (hp3 : OkE Y4.Places.length Y4.Triangles) : ∀ (k : Nat) (Y1 : Int) (Y8 : (List (Gedge × List Int))) (Yz : (List Gedge)) (ZP : 0 ≤ Y1) (Z3Z : (Yz.length : Int) ≤ 3 * Y1) (Z3r : ∀ y ∈ Y8, (y.2.length : Int) ≤ 3 * Y1) (hk : ((Y4.Triangles.length : Int) - Y1).toNat < k), Lp prog 0 (sub (bodyOf f141) [1, 1, 0, 1, 0, 0]) (Z6y Y4 Y1 Y8 Yz) (Z4Z Y4 (Z17 Y4 k Y1 Y8 Yz)).1 (Z4Z Y4 (Z17 Y4 k Y1 Y8 Yz)).2 := by
 intro k
 induction k with
 | zero => intro Y1 Y8 Yz ZP Z3Z Z3r hk; exact absurd hk (Nat.not_lt_zero _)
 | succ k ih =>
  intro Y1 Y8 Yz ZP Z3Z Z3r hk
  cases Yg : (decide (Y1 < (Y4.Triangles.length : Int))) with
  | true =>
   have Yt := of_decide_eq_true Yg
   have YA : (0 : Int) ≤ Y1 := (by assumption)
   have YE : Y1 < (Y4.Triangles.length : Int) := (by assumption)
   have YG : (-9223372036854775808 : Int) ≤ (Y1 + 1) := (by omega)
   have YH : (Y1 + 1) ≤ (9223372036854775807 : Int) := (by omega)
   have e : Z17 Y4 (k + 1) Y1 Y8 Yz = (Z17 Y4 k (Y1 + 1) ((ZQ Y4 Y1 Y8 Yz).1) ((ZQ Y4 Y1 Y8 Yz).2)) := by simp only [Z17, Yg, cond_true]
   rw [e]
   exact nextR E0Ok Z4 [] (mR false [0, 2, 1, 3, 4, 1, 1, 4, 41]) [0, 1, 2] (ih (Y1 + 1) ((ZQ Y4 Y1 Y8 Yz).1) ((ZQ Y4 Y1 Y8 Yz).2) (show 0 ≤ (Y1 + 1) from (by omega)) (show (((ZQ Y4 Y1 Y8 Yz).2).length : Int) ≤ 3 * (Y1 + 1) from (by exact (ZgB _ _ _ _ ZP (by assumption) (by assumption)).1)) (show ∀ y ∈ ((ZQ Y4 Y1 Y8 Yz).1), (y.2.length : Int) ≤ 3 * (Y1 + 1) from (by exact (ZgB _ _ _ _ ZP (by assumption) (by assumption)).2)) (by omega)) (sB Yg <| sG (cL (cI .i64)) Y4.Triangles Y1 YA YE <| sL (mR false [0, 2, 1, 5, 2, 1, 1, 9, 36]) 3 (lp_val (Z4Y Y4 Y1 Y8 Yz) (x := (ZQ Y4 Y1 Y8 Yz)) (Za8 Y4 Y1 Y8 Yz hp0 hp1 hp2 hp3 ZP Z3Z Z3r Yg (((3 : Int) - 0).toNat + 1) 0 Y8 Yz (show 0 ≤ 0 from (by omega)) (show (Yz.length : Int) ≤ (Yz.length : Int) + 0 from (by omega)) (show ∀ y ∈ Y8, (y.2.length : Int) ≤ 3 * Y1 + 0 from (by intro y hy; have q := Z3r y hy; omega)) (Nat.lt_succ_self _)) rfl) <| sI (Y1 + 1) YG YH <| sN) (by kernel_rfl)
  | false =>
   have Yt := of_decide_eq_false Yg
   have e : Z17 Y4 (k + 1) Y1 Y8 Yz = (Y8, Yz) := by simp only [Z17, Yg, cond_false]
   rw [e]
   exact outR (e := (.exit 0)) E0Ok Z4 [] (mR false [0, 2, 1, 3, 4, 1, 1, 2, 43]) [0, 1, 2] (sB Yg <| sN) (by kernel_rfl) (by intro h; cases h)
def Z13 (Y4 : GMesh) : (List (Gedge × List Int)) × (List Gedge) := (Z17 Y4 (((Y4.Triangles.length : Int) - 0).toNat + 1) 0 ([] : (List (Gedge × List Int))) ([] : List Gedge))
theorem Zho (m : GMesh) (k : Nat) (i : Int) (b : List (Gedge × List Int)) (l : List Gedge) (h0 : 0 ≤ i) : Z17 m (k + 1) i b l = cond (decide (i < (m.Triangles.length : Int))) (Z17 m k (i + 1) (stT (b, l) (m.Triangles.getD i.toNat default) i).1 (stT (b, l) (m.Triangles.getD i.toNat default) i).2) (b, l) := by
  have st : ∀ (x : Int) (k : Nat) (b : List (Gedge × List Int)) (l : List Gedge), x < 3 → Zf m i b l (k + 1) x b l = Zf m i b l (k + 1) x b l := fun _ _ _ _ _ => rfl
  have one : ∀ (b0 : List (Gedge × List Int)) (l0 : List Gedge) (k : Nat) (x : Int) (s : List (Gedge × List Int) × List Gedge), x < 3 → Zf m i b0 l0 (k + 1) x s.1 s.2 = Zf m i b0 l0 k (x + 1) (stE s (Z3 m i x) i).1 (stE s (Z3 m i x) i).2 := by
    intro b0 l0 k x s hx
    rw [Zf, decide_eq_true hx, cond_true]
    unfold stE
    cases mhas s.1 (Z3 m i x) with
    | true =>
      rw [cond_true, cond_true]
      cases (((s.1.getD (midx s.1 (Z3 m i x)) default).2.length : Int) == 0) <;> rfl
    | false => rfl
  have tri : ZQ m i b l = stT (b, l) (m.Triangles.getD i.toNat default) i := by
    unfold ZQ
    show Zf m i b l 4 0 (b, l).1 (b, l).2 = _
    rw [one b l 3 0 (b, l) (by omega), one b l 2 (0 + 1) _ (by omega), one b l 1 (0 + 1 + 1) _ (by omega), Zf]
    show cond (decide ((3 : Int) < 3)) _ _ = _
    rw [decide_eq_false (by omega), cond_false]
    unfold Z3 stT
    simp only [Zh1]
    rfl
  rw [Z17, tri]
theorem Zf5 (m : GMesh) (ok : OkE m.Places.length m.Triangles) : ETab m.Triangles m.Triangles.length (Z13 m) := by
  unfold Z13
  exact ETab.loop ok (Zho m) _ 0 ([], []) (Nat.zero_le _) (ETab.nil _) (by omega)
theorem Zhi (m : GMesh) (ok : OkE m.Places.length m.Triangles) : (Z13 m).2.length ≤ 4096 := by
  have h := congrArg List.length ((Zf5 m ok).sorted ok)
  rw [length_sortE] at h
  rw [h]; exact edgL_len ok
end Go.Ab
namespace Go.Proofs
open Go.Shelf
def Tryz.laysF0n6_ren : Go.Shelf.Ren := ⟨fun | 6 => 150 | 15 => 154 | 14 => 153 | 28 => 164 | 29 => 165 | 20 => 156 | 21 => 157 | 22 => 158 | 23 => 159 | 24 => 160 | 25 => 161 | 26 => 162 | 27 => 163 | 46 => 167 | 47 => 168 | 48 => 169 | 49 => 170 | 50 => 171 | 57 => 173 | n => n, fun | 22 => 163 | 24 => 167 | 25 => 175 | 3 => 3 | 39 => 178 | 0 => 0 | 53 => 189 | 55 => 191 | 4 => 4 | 46 => 182 | 45 => 181 | 50 => 186 | 5 => 5 | 9 => 9 | 66 => 193 | 70 => 197 | 76 => 200 | 77 => 201 | n => n, fun | n => n⟩
theorem Tryz.laysF0n6 : Go.Proofs.SlLaysF0.n6 Tryz.prog Tryz.laysF0n6_ren := {
  mixed := by kernel_rfl
  f6 := ⟨Tryz.f150.name, by decide, Tryz.func150.trans (congrArg some (by kernel_rfl))⟩
  f14 := ⟨Tryz.f153.name, by decide, Tryz.func153.trans (congrArg some (by kernel_rfl))⟩
  f15 := Tryz.func154.trans (congrArg some (by kernel_rfl))
  f20 := ⟨Tryz.f156.name, by decide, Tryz.func156.trans (congrArg some (by kernel_rfl))⟩
  f21 := ⟨Tryz.f157.name, by decide, Tryz.func157.trans (congrArg some (by kernel_rfl))⟩
  f22 := ⟨Tryz.f158.name, by decide, Tryz.func158.trans (congrArg some (by kernel_rfl))⟩
  f23 := ⟨Tryz.f159.name, by decide, Tryz.func159.trans (congrArg some (by kernel_rfl))⟩
  f24 := ⟨Tryz.f160.name, by decide, Tryz.func160.trans (congrArg some (by kernel_rfl))⟩
  f25 := ⟨Tryz.f161.name, by decide, Tryz.func161.trans (congrArg some (by kernel_rfl))⟩
  f26 := ⟨Tryz.f162.name, by decide, Tryz.func162.trans (congrArg some (by kernel_rfl))⟩
  f27 := ⟨Tryz.f163.name, by decide, Tryz.func163.trans (congrArg some (by kernel_rfl))⟩
  f28 := Tryz.func164.trans (congrArg some (by kernel_rfl))
  f29 := Tryz.func165.trans (congrArg some (by kernel_rfl))
  f46 := ⟨Tryz.f167.name, by decide, Tryz.func167.trans (congrArg some (by kernel_rfl))⟩
  f47 := Tryz.func168.trans (congrArg some (by kernel_rfl))
  f48 := Tryz.func169.trans (congrArg some (by kernel_rfl))
  f49 := ⟨Tryz.f170.name, by decide, Tryz.func170.trans (congrArg some (by kernel_rfl))⟩
  f50 := ⟨Tryz.f171.name, by decide, Tryz.func171.trans (congrArg some (by kernel_rfl))⟩
  f57 := ⟨Tryz.f173.name, by decide, Tryz.func173.trans (congrArg some (by kernel_rfl))⟩
  t0 := Tryz.underlying0
  a0 := Tryz.isAgg0
  z0 := Tryz.sizeOf0
  v0 := Tryz.zeroValue0
  t3 := Tryz.underlying3
  a3 := Tryz.isAgg3
  z3 := Tryz.sizeOf3
  v3 := Tryz.zeroValue3
  t4 := Tryz.underlying4
  a4 := Tryz.isAgg4
  z4 := Tryz.sizeOf4
  v4 := Tryz.zeroValue4
  t5 := Tryz.underlying5
  a5 := Tryz.isAgg5
  z5 := Tryz.sizeOf5
  v5 := Tryz.zeroValue5
  t9 := Tryz.underlying9
  a9 := Tryz.isAgg9
  z9 := Tryz.sizeOf9
  v9 := Tryz.zeroValue9
  t22 := Tryz.underlying163
  a22 := Tryz.isAgg163
  z22 := Tryz.sizeOf163
  v22 := Tryz.zeroValue163
  t25 := Tryz.underlying175
  a25 := Tryz.isAgg175
  z25 := Tryz.sizeOf175
  v25 := Tryz.zeroValue175
  t39 := Tryz.underlying178
  a39 := Tryz.isAgg178
  z39 := Tryz.sizeOf178
  v39 := Tryz.zeroValue178
  t45 := Tryz.underlying181
  a45 := Tryz.isAgg181
  z45 := Tryz.sizeOf181
  v45 := Tryz.zeroValue181
  t46 := Tryz.underlying182
  a46 := Tryz.isAgg182
  z46 := Tryz.sizeOf182
  v46 := Tryz.zeroValue182
  t50 := Tryz.underlying186
  a50 := Tryz.isAgg186
  z50 := Tryz.sizeOf186
  v50 := Tryz.zeroValue186
  t53 := Tryz.underlying189
  a53 := Tryz.isAgg189
  z53 := Tryz.sizeOf189
  v53 := Tryz.zeroValue189
  t55 := Tryz.underlying191
  a55 := Tryz.isAgg191
  z55 := Tryz.sizeOf191
  v55 := Tryz.zeroValue191
  t66 := Tryz.underlying193
  a66 := Tryz.isAgg193
  z66 := Tryz.sizeOf193
  v66 := Tryz.zeroValue193
  t70 := Tryz.underlying197
  a70 := Tryz.isAgg197
  z70 := Tryz.sizeOf197
  v70 := Tryz.zeroValue197
  t76 := Tryz.underlying200
  a76 := Tryz.isAgg200
  z76 := Tryz.sizeOf200
  v76 := Tryz.zeroValue200
  t77 := Tryz.underlying201
  a77 := Tryz.isAgg201
  z77 := Tryz.sizeOf201
  v77 := Tryz.zeroValue201 }
end Go.Proofs
namespace Go.Ab
open Go.RowKit Go.Proofs.Tryz
theorem Zhv (x y : Int) : Z1J x y = if x < y then -1 else if x > y then 1 else 0 := by
  unfold Z1J Z3q
  simp only [bne_self_eq_false, cond_false]
  by_cases h1 : x < y
  · simp [h1]
  · by_cases h2 : x > y <;> simp [h1, h2]
theorem Zhw (a b : Gedge) : Z6t a b = cmpP a.pr b.pr := by
  unfold Z6t Z21 Z2s cmpP Gedge.pr
  show (match Zm [a.e0, a.e1] [b.e0, b.e1] 3 0 with | .inl r1 => r1 | .inr r1 => cond (decide (((2 : Nat) : Int) < ((2 : Nat) : Int))) (-1) 0) = _
  simp only [Zm, Zhv, List.length_cons, List.length_nil]
  by_cases h1 : a.e0 < b.e0
  · simp [h1]
  · by_cases h2 : a.e0 > b.e0
    · simp [h1, h2]
    · by_cases h3 : a.e1 < b.e1
      · simp [h1, h2, h3]
      · by_cases h4 : a.e1 > b.e1 <;> simp [h1, h2, h3, h4]
def Z5w (l : List Gedge) : List Gedge := sortE Gedge.pr l
theorem Zay (l : List Gedge) (h : l.length ≤ 1073741824) : CallSt prog 150 [.vec 167 2 (l.map Gedge.cells) false] [.own 0, .fn 151 []] (.tup []) [.vec 167 2 ((Z5w l).map Gedge.cells) false] :=
  sort_row laysF0n6 isAgg167 sizeOf167 Gedge.pr Gedge.inj Gedge.cells (fun _ => rfl) 167 151 ⟨_, func150, rfl, by kernel_rfl⟩ (Z90 default default).1
    (fun a b W => ((Z90 a b).2 W #[keyV a.pr, keyV b.pr] ⟨rfl, fun j c e => by match j, e with | 0, e => cases e; exact Rep.agg _ _ rfl (fun i c e => by match i, e with | 0, e => cases e; exact .i _ _ | 1, e => cases e; exact .i _ _) | 1, e => cases e; exact Rep.agg _ _ rfl (fun i c e => by match i, e with | 0, e => cases e; exact .i _ _ | 1, e => cases e; exact .i _ _)⟩).mono fun e w' ⟨v, μ', he, hb, _, hr⟩ => by
      cases hr; rw [Zhw] at he; exact ⟨he, hb⟩) l h
def Z1 (Y4 : GMesh) : (List (Gedge × List Int)) × (List Gedge) := ((Z13 Y4).1, (Z5w ((Z13 Y4).2)))
theorem Zaz (m : GMesh) (ok : OkE m.Places.length m.Triangles) : (Z1 m).2 = edgL m.Places.length m.Triangles := (Zf5 m ok).sorted ok
theorem Zg6 (m : GMesh) (ok : OkE m.Places.length m.Triangles) {e : Gedge} (he : e ∈ (Z1 m).2) : mhas (Z1 m).1 e = true ∧ ((Z1 m).1.getD (midx (Z1 m).1 e) default).2 = idxP m.Triangles e.e0 e.e1 := by
  rw [Zaz m ok] at he
  have h := (Zf5 m ok).at ok he
  exact ⟨h.1, h.2.trans (idxE_eq ok (mem_edgL.1 he).1.2.1)⟩
theorem Zh2 (m : GMesh) (ok : OkE m.Places.length m.Triangles) : (Z1 m).2.length ≤ 4096 := by
  rw [Zaz m ok]; exact edgL_len ok
theorem Zd2 (m : GMesh) (ok : OkE m.Places.length m.Triangles) {i : Int} (h0 : 0 ≤ i) (hi : i < ((Z1 m).2.length : Int)) : (Z1 m).2.getD i.toNat default ∈ (Z1 m).2 := by
  have hn : i.toNat < (Z1 m).2.length := by omega
  rw [List.getD_eq_getElem?_getD, List.getElem?_eq_getElem hn]; exact List.getElem_mem hn
theorem Z7R (m : GMesh) (ok : OkE m.Places.length m.Triangles) {i : Int} (h0 : 0 ≤ i) (hi : i < ((Z1 m).2.length : Int)) :
    0 ≤ ((Z1 m).2.getD i.toNat default).e0 ∧ ((Z1 m).2.getD i.toNat default).e0 < ((Z1 m).2.getD i.toNat default).e1 ∧ ((Z1 m).2.getD i.toNat default).e1 < (m.Places.length : Int) ∧ (m.Places.length : Int) ≤ 64 ∧ ((Z1 m).2.length : Int) ≤ 4096 := by
  have hl := Zh2 m ok
  have h64 := ok.1
  have hm := Zd2 m ok h0 hi
  rw [Zaz m ok] at hm
  have hb := edgL_at hm
  rw [← Zaz m ok] at hb
  exact ⟨hb.1, hb.2.1, hb.2.2, by omega, by omega⟩
theorem ZaU (m : GMesh) (ok : OkE m.Places.length m.Triangles) {i : Int} (h0 : 0 ≤ i) (hi : i < ((Z1 m).2.length : Int))
    (h2 : ((((Z1 m).1.getD (midx (Z1 m).1 ((Z1 m).2.getD i.toNat default)) default).2.length : Int)) = 2) :
    0 ≤ ((Z1 m).1.getD (midx (Z1 m).1 ((Z1 m).2.getD i.toNat default)) default).2.getD 0 default ∧ ((Z1 m).1.getD (midx (Z1 m).1 ((Z1 m).2.getD i.toNat default)) default).2.getD 0 default < (m.Triangles.length : Int) ∧
    0 ≤ ((Z1 m).1.getD (midx (Z1 m).1 ((Z1 m).2.getD i.toNat default)) default).2.getD 1 default ∧ ((Z1 m).1.getD (midx (Z1 m).1 ((Z1 m).2.getD i.toNat default)) default).2.getD 1 default < (m.Triangles.length : Int) ∧ (m.Triangles.length : Int) ≤ 128 := by
  obtain ⟨g1, g2⟩ := Zg6 m ok (Zd2 m ok h0 hi)
  rw [g2] at h2 ⊢
  have a1 := idxP_at (ts := m.Triangles) (a := ((Z1 m).2.getD i.toNat default).e0) (b := ((Z1 m).2.getD i.toNat default).e1) (k := 0) (by omega)
  have a2 := idxP_at (ts := m.Triangles) (a := ((Z1 m).2.getD i.toNat default).e0) (b := ((Z1 m).2.getD i.toNat default).e1) (k := 1) (by omega)
  have := ok.2.1
  exact ⟨a1.1, a1.2.1, a2.1, a2.2.1, by omega⟩
theorem Zb8 (Y4 : GMesh) (hp0 : Y4.Places.length ≤ 1073741824) (hp1 : Y4.Triangles.length ≤ 1073741824) (hp2 : ∀ t ∈ Y4.Triangles, t.length ≤ 1073741824) (hp3 : OkE Y4.Places.length Y4.Triangles)  : Fn prog 141 [.agg [.sl (Y4.Places.map GVector.cells), .sl (Y4.Triangles.map (cL (cI .i64)))]] (.tup [.mp 0, .own 1]) [.mapN 2 (mapC Gedge.pr (cI .i64) ((Z1 Y4).1)) none, .vec 167 2 (((Z1 Y4).2).map Gedge.cells) false] := by
 have y0 : ((Z13 Y4).2).length ≤ 1073741824 := (by (have q := Zhi Y4 hp3; omega))
 refine fnS E0Ok Z4 (c := bodyOf f141) [] (.tup [.mp 0, .own 1]) [.mapN 2 (mapC Gedge.pr (cI .i64) ((Z13 Y4).1)) none, .vec 167 2 ((Z5w ((Z13 Y4).2)).map Gedge.cells) false] func141 (sZ (cL (cI .i64)) Y4.Triangles <| sL (mR false [0, 2, 1, 3, 4, 1, 1, 4, 41]) 3 (lp_cast (st2 := ⟨.agg [.sl (Y4.Places.map GVector.cells), .sl (Y4.Triangles.map (cL (cI .i64)))] :: .ptr 0 0 0 :: .any :: .nils :: .mp 1 :: .own 2 :: an 4 (.mp 1 :: .any :: .ptr 0 0 1 :: .sl (Y4.Triangles.map (cL (cI .i64))) :: .i .i64 (Y4.Triangles.length : Int) :: .i .i64 0 :: an 41 []), [.box 38 [.sl (Y4.Places.map GVector.cells), .sl (Y4.Triangles.map (cL (cI .i64)))], .mapN 2 [] none, .vec 167 2 ([] : List (List AV)) false]⟩) (lp_val (Z4Z Y4) (x := (Z13 Y4)) (Za9 Y4 hp0 hp1 hp2 hp3 (((Y4.Triangles.length : Int) - 0).toNat + 1) 0 ([] : (List (Gedge × List Int))) ([] : List Gedge) (show 0 ≤ 0 from (by omega)) (show (([] : List Gedge).length : Int) ≤ 3 * 0 from (by simp; done)) (show ∀ y ∈ ([] : (List (Gedge × List Int))), (y.2.length : Int) ≤ 3 * 0 from (by simp; done)) (Nat.lt_succ_self _)) rfl) (by simp [Z6y, mapC, Gedge.cells])) <| sS (CallSt.frame (Zay ((Z13 Y4).2) y0) [2] (R := [.box 38 [.sl (Y4.Places.map GVector.cells), .sl (Y4.Triangles.map (cL (cI .i64)))], .mapN 2 (mapC Gedge.pr (cI .i64) ((Z13 Y4).1)) none, .vec 167 2 (((Z13 Y4).2).map Gedge.cells) false]) (args' := [.own 2, .fn 151 []]) rfl rfl rfl rfl rfl rfl) <| sK [1, 2] sN) rfl (by kernel_rfl) (by kernel_rfl) rfl ?_ ?_
 · rfl
 · simp [Z1]
def Z5B (YC : (List Int)) (e_1 : Gedge) : Int := (IntKind.wrap .i64 ((IntKind.wrap .i64 ((IntKind.wrap .i64 ((IntKind.wrap .i64 ((YC.getD 0 default) + (YC.getD 1 default))) + (YC.getD 2 default))) - e_1.e0)) - e_1.e1))
def Z5F (YC : (List Int)) (e_1 : Gedge) : Int := (Z5B YC e_1)
theorem Zbu (YC : (List Int)) (e_1 : Gedge) (hp0 : YC.length ≤ 1073741824) (hp1 : YC.length = 3)  : Fn prog 142 [.sl (YC.map (cI .i64)), .agg [.i .i64 e_1.e0, .i .i64 e_1.e1]] (.i .i64 (Z5F YC e_1)) [] := by
 have y0 : (0 : Int) ≤ 0 := (by omega)
 have y1 : 0 < (YC.length : Int) := (by omega)
 have y2 : (0 : Int) ≤ 1 := (by omega)
 have y3 : 1 < (YC.length : Int) := (by omega)
 have y4 : (0 : Int) ≤ 2 := (by omega)
 have y5 : 2 < (YC.length : Int) := (by omega)
 refine fnS E0Ok Z4 (c := bodyOf f142) [] (.i .i64 (Z5B YC e_1)) [] func142 (sK [16, 16] <| sG (cI .i64) YC 0 y0 y1 <| sG (cI .i64) YC 1 y2 y3 <| sW .i64 ((YC.getD 0 default) + (YC.getD 1 default)) <| sG (cI .i64) YC 2 y4 y5 <| sW .i64 ((IntKind.wrap .i64 ((YC.getD 0 default) + (YC.getD 1 default))) + (YC.getD 2 default)) <| sC (show (0 : Int) ≤ 0 ∧ 0 < ((2 : Nat) : Int) from (by decide)) <| sW .i64 ((IntKind.wrap .i64 ((IntKind.wrap .i64 ((YC.getD 0 default) + (YC.getD 1 default))) + (YC.getD 2 default))) - e_1.e0) <| sC (show (0 : Int) ≤ 1 ∧ 1 < ((2 : Nat) : Int) from (by decide)) <| sM (show IntKind.wrap .i64 ((IntKind.wrap .i64 ((IntKind.wrap .i64 ((IntKind.wrap .i64 ((YC.getD 0 default) + (YC.getD 1 default))) + (YC.getD 2 default))) - e_1.e0)) - e_1.e1) = (Z5B YC e_1) from rfl) <| sK [] sN) rfl (by kernel_rfl) (by kernel_rfl) rfl ?_ ?_
 · rfl
 · rfl
def Z37 (Y4 : GMesh) (Y1 : Int) : Int := (Z5F (Y4.Triangles.getD ((((Z1 Y4).1).getD (midx ((Z1 Y4).1) (((Z1 Y4).2).getD Y1.toNat default)) default).2.getD 0 default).toNat default) (((Z1 Y4).2).getD Y1.toNat default))
def Z38 (Y4 : GMesh) (Y1 : Int) : Int := (Z5F (Y4.Triangles.getD ((((Z1 Y4).1).getD (midx ((Z1 Y4).1) (((Z1 Y4).2).getD Y1.toNat default)) default).2.getD 1 default).toNat default) (((Z1 Y4).2).getD Y1.toNat default))
def ZR (Y4 : GMesh) : Nat → Int → (List (List Int)) → (List (List Int))
  | 0, _, _ => default
  | k + 1, Y1, Y8 => (cond (decide (Y1 < (((Z1 Y4).2).length : Int)))
    (cond (mhas ((Z1 Y4).1) (((Z1 Y4).2).getD Y1.toNat default))
      (cond (((((Z1 Y4).1).getD (midx ((Z1 Y4).1) (((Z1 Y4).2).getD Y1.toNat default)) default).2.length : Int) == 2)
        (ZR Y4 k (Y1 + 1) (Y8 ++ [[(((Z1 Y4).2).getD Y1.toNat default).e0, (((Z1 Y4).2).getD Y1.toNat default).e1, (Z37 Y4 Y1), (Z38 Y4 Y1)]]))
        (ZR Y4 k (Y1 + 1) Y8))
      (ZR Y4 k (Y1 + 1) Y8))
    Y8)
end Go.Ab
