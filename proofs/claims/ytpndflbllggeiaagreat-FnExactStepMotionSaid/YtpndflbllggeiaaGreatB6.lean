/- The functions of this seat as plain Lean, and that the program's are these. Printed by a program of the prover's own. -/
import Derived.Test.YtpndflbllggeiaaGreatB5
set_option linter.unusedVariables false
set_option linter.unusedSimpArgs false
set_option maxRecDepth 100000
namespace Go.Ab
open Go.RowKit Go.Proofs.Tryz
def ZQ (Y2 : GMesh) (Y1 : Int) (Yh : (List (Gedge × List Int))) (YA : (List Gedge)) : (List (Gedge × List Int)) × (List Gedge) := (Zf Y2 Y1 Yh YA (((3 : Int) - 0).toNat + 1) 0 Yh YA)
theorem Zgi (m : GMesh) (i : Int) (b0 : List (Gedge × List Int)) (l0 : List Gedge) (h0 : 0 ≤ i) : ∀ (k : Nat) (x : Int) (b : List (Gedge × List Int)) (l : List Gedge), 0 ≤ x → (3 - x).toNat < k → x ≤ 3 → (l.length : Int) ≤ 3 * i + x → (∀ y ∈ b, (y.2.length : Int) ≤ 3 * i + x) → ((Zf m i b0 l0 k x b l).2.length : Int) ≤ 3 * (i + 1) ∧ ∀ y ∈ (Zf m i b0 l0 k x b l).1, (y.2.length : Int) ≤ 3 * (i + 1) := by
  intro k
  induction k with
  | zero => intro x b l _ hk; exact absurd hk (Nat.not_lt_zero _)
  | succ k ih =>
    intro x b l hx hk h3 hl hb
    rw [Zf]
    cases hc : decide (x < 3) with
    | false => rw [cond_false]; exact ⟨by simp only; omega, fun y hy => by have := hb y hy; omega⟩
    | true =>
      have hc' := of_decide_eq_true hc
      rw [cond_true]
      cases mhas b (Z4 m i x) with
      | true =>
        rw [cond_true]
        cases (((b.getD (midx b (Z4 m i x)) default).2.length : Int) == 0) with
        | true => rw [cond_true]; exact ih _ _ _ (by omega) (by omega) (by omega) (by simp only [List.length_append, List.length_cons, List.length_nil]; omega) (mput_inv hb (by omega) (by omega))
        | false => rw [cond_false]; exact ih _ _ _ (by omega) (by omega) (by omega) (by omega) (mput_inv hb (by omega) (by omega))
      | false => rw [cond_false]; exact ih _ _ _ (by omega) (by omega) (by omega) (by simp only [List.length_append, List.length_cons, List.length_nil]; omega) (mnew_inv hb (by omega) (by omega))
theorem ZfI (m : GMesh) (i : Int) (b : List (Gedge × List Int)) (l : List Gedge) (h0 : 0 ≤ i) (hl : (l.length : Int) ≤ 3 * i) (hb : ∀ y ∈ b, (y.2.length : Int) ≤ 3 * i) :
    ((ZQ m i b l).2.length : Int) ≤ 3 * (i + 1) ∧ ∀ y ∈ (ZQ m i b l).1, (y.2.length : Int) ≤ 3 * (i + 1) :=
  Zgi m i b l h0 _ 0 b l (Int.le_refl 0) (by omega) (by omega) (by omega) (fun y hy => by have := hb y hy; omega)
def Z1a (Y2 : GMesh) : Nat → Int → (List (Gedge × List Int)) → (List Gedge) → (List (Gedge × List Int)) × (List Gedge)
  | 0, _, _, _ => default
  | k + 1, Y1, Yh, YA => (cond (decide (Y1 < (Y2.Triangles.length : Int)))
    (Z1a Y2 k (Y1 + 1) ((ZQ Y2 Y1 Yh YA).1) ((ZQ Y2 Y1 Yh YA).2))
    (Yh, YA))
def Z4I (Y2 : GMesh) (r : (List (Gedge × List Int)) × (List Gedge)) : Ex × St := ((.exit 0), ⟨.agg [.sl (Y2.Places.map GVector.cells), .sl (Y2.Triangles.map (cL (cI .i64)))] :: .ptr 0 0 0 :: .any :: .nils :: .mp 1 :: .own 2 :: an 4 (.mp 1 :: .any :: .ptr 0 0 1 :: .sl (Y2.Triangles.map (cL (cI .i64))) :: an 43 []), [.box 38 [.sl (Y2.Places.map GVector.cells), .sl (Y2.Triangles.map (cL (cI .i64)))], .mapN 2 (mapC Gedge.pr (cI .i64) r.1) none, .vec 167 2 (r.2.map Gedge.cells) false]⟩)
def Z6q (Y2 : GMesh) (Y1 : Int) (Yh : (List (Gedge × List Int))) (YA : (List Gedge)) : St := ⟨.agg [.sl (Y2.Places.map GVector.cells), .sl (Y2.Triangles.map (cL (cI .i64)))] :: .ptr 0 0 0 :: .any :: .nils :: .mp 1 :: .own 2 :: an 4 (.mp 1 :: .any :: .ptr 0 0 1 :: .sl (Y2.Triangles.map (cL (cI .i64))) :: .i .i64 (Y2.Triangles.length : Int) :: .i .i64 Y1 :: an 41 []), [.box 38 [.sl (Y2.Places.map GVector.cells), .sl (Y2.Triangles.map (cL (cI .i64)))], .mapN 2 (mapC Gedge.pr (cI .i64) Yh) none, .vec 167 2 (YA.map Gedge.cells) false]⟩
theorem Z9I (Y2 : GMesh) (hp0 : Y2.Places.length ≤ 1073741824) (hp1 : Y2.Triangles.length ≤ 1073741824) (hp2 : ∀ t ∈ Y2.Triangles, t.length ≤ 1073741824) (hp3 : OkE Y2.Places.length Y2.Triangles) : ∀ (k : Nat) (Y1 : Int) (Yh : (List (Gedge × List Int))) (YA : (List Gedge)) (ZP : 0 ≤ Y1) (Z3O : (YA.length : Int) ≤ 3 * Y1) (Z3k : ∀ y ∈ Yh, (y.2.length : Int) ≤ 3 * Y1) (hk : ((Y2.Triangles.length : Int) - Y1).toNat < k), Lp prog 0 (sub (bodyOf f141) [1, 1, 0, 1, 0, 0]) (Z6q Y2 Y1 Yh YA) (Z4I Y2 (Z1a Y2 k Y1 Yh YA)).1 (Z4I Y2 (Z1a Y2 k Y1 Yh YA)).2 := by
 intro k
 induction k with
 | zero => intro Y1 Yh YA ZP Z3O Z3k hk; exact absurd hk (Nat.not_lt_zero _)
 | succ k ih =>
  intro Y1 Yh YA ZP Z3O Z3k hk
  cases Yl : (decide (Y1 < (Y2.Triangles.length : Int))) with
  | true =>
   have Yw := of_decide_eq_true Yl
   have YF : (0 : Int) ≤ Y1 := (by assumption)
   have YG : Y1 < (Y2.Triangles.length : Int) := (by assumption)
   have YH : (-9223372036854775808 : Int) ≤ (Y1 + 1) := (by omega)
   have YI : (Y1 + 1) ≤ (9223372036854775807 : Int) := (by omega)
   have e : Z1a Y2 (k + 1) Y1 Yh YA = (Z1a Y2 k (Y1 + 1) ((ZQ Y2 Y1 Yh YA).1) ((ZQ Y2 Y1 Yh YA).2)) := by simp only [Z1a, Yl, cond_true]
   rw [e]
   exact nextR E0Ok Z5 [] (mR false [0, 2, 1, 3, 4, 1, 1, 4, 41]) [0, 1, 2] (ih (Y1 + 1) ((ZQ Y2 Y1 Yh YA).1) ((ZQ Y2 Y1 Yh YA).2) (show 0 ≤ (Y1 + 1) from (by omega)) (show (((ZQ Y2 Y1 Yh YA).2).length : Int) ≤ 3 * (Y1 + 1) from (by exact (ZfI _ _ _ _ ZP (by assumption) (by assumption)).1)) (show ∀ y ∈ ((ZQ Y2 Y1 Yh YA).1), (y.2.length : Int) ≤ 3 * (Y1 + 1) from (by exact (ZfI _ _ _ _ ZP (by assumption) (by assumption)).2)) (by omega)) (sB Yl <| sG (cL (cI .i64)) Y2.Triangles Y1 YF YG <| sL (mR false [0, 2, 1, 5, 2, 1, 1, 9, 36]) 3 (lp_val (Z4H Y2 Y1 Yh YA) (x := (ZQ Y2 Y1 Yh YA)) (Z9H Y2 Y1 Yh YA hp0 hp1 hp2 hp3 ZP Z3O Z3k Yl (((3 : Int) - 0).toNat + 1) 0 Yh YA (show 0 ≤ 0 from (by omega)) (show (YA.length : Int) ≤ (YA.length : Int) + 0 from (by omega)) (show ∀ y ∈ Yh, (y.2.length : Int) ≤ 3 * Y1 + 0 from (by intro y hy; have q := Z3k y hy; omega)) (Nat.lt_succ_self _)) rfl) <| sI (Y1 + 1) YH YI <| sN) (by kernel_rfl)
  | false =>
   have Yw := of_decide_eq_false Yl
   have e : Z1a Y2 (k + 1) Y1 Yh YA = (Yh, YA) := by simp only [Z1a, Yl, cond_false]
   rw [e]
   exact outR (e := (.exit 0)) E0Ok Z5 [] (mR false [0, 2, 1, 3, 4, 1, 1, 2, 43]) [0, 1, 2] (sB Yl <| sN) (by kernel_rfl) (by intro h; cases h)
def Z13 (Y2 : GMesh) : (List (Gedge × List Int)) × (List Gedge) := (Z1a Y2 (((Y2.Triangles.length : Int) - 0).toNat + 1) 0 ([] : (List (Gedge × List Int))) ([] : List Gedge))
theorem Zgr (m : GMesh) (k : Nat) (i : Int) (b : List (Gedge × List Int)) (l : List Gedge) (h0 : 0 ≤ i) : Z1a m (k + 1) i b l = cond (decide (i < (m.Triangles.length : Int))) (Z1a m k (i + 1) (stT (b, l) (m.Triangles.getD i.toNat default) i).1 (stT (b, l) (m.Triangles.getD i.toNat default) i).2) (b, l) := by
  have st : ∀ (x : Int) (k : Nat) (b : List (Gedge × List Int)) (l : List Gedge), x < 3 → Zf m i b l (k + 1) x b l = Zf m i b l (k + 1) x b l := fun _ _ _ _ _ => rfl
  have one : ∀ (b0 : List (Gedge × List Int)) (l0 : List Gedge) (k : Nat) (x : Int) (s : List (Gedge × List Int) × List Gedge), x < 3 → Zf m i b0 l0 (k + 1) x s.1 s.2 = Zf m i b0 l0 k (x + 1) (stE s (Z4 m i x) i).1 (stE s (Z4 m i x) i).2 := by
    intro b0 l0 k x s hx
    rw [Zf, decide_eq_true hx, cond_true]
    unfold stE
    cases mhas s.1 (Z4 m i x) with
    | true =>
      rw [cond_true, cond_true]
      cases (((s.1.getD (midx s.1 (Z4 m i x)) default).2.length : Int) == 0) <;> rfl
    | false => rfl
  have tri : ZQ m i b l = stT (b, l) (m.Triangles.getD i.toNat default) i := by
    unfold ZQ
    show Zf m i b l 4 0 (b, l).1 (b, l).2 = _
    rw [one b l 3 0 (b, l) (by omega), one b l 2 (0 + 1) _ (by omega), one b l 1 (0 + 1 + 1) _ (by omega), Zf]
    show cond (decide ((3 : Int) < 3)) _ _ = _
    rw [decide_eq_false (by omega), cond_false]
    unfold Z4 stT
    simp only [Zg6]
    rfl
  rw [Z1a, tri]
theorem Zed (m : GMesh) (ok : OkE m.Places.length m.Triangles) : ETab m.Triangles m.Triangles.length (Z13 m) := by
  unfold Z13
  exact ETab.loop ok (Zgr m) _ 0 ([], []) (Nat.zero_le _) (ETab.nil _) (by omega)
theorem Zgj (m : GMesh) (ok : OkE m.Places.length m.Triangles) : (Z13 m).2.length ≤ 4096 := by
  have h := congrArg List.length ((Zed m ok).sorted ok)
  rw [length_sortE] at h
  rw [h]; exact edgL_len ok
end Go.Ab
namespace Go.Proofs
open Go.Shelf
def Tryz.laysF0n6_ren : Go.Shelf.Ren := ⟨fun | 6 => 150 | 15 => 154 | 14 => 153 | 28 => 164 | 29 => 165 | 20 => 156 | 21 => 157 | 22 => 158 | 23 => 159 | 24 => 160 | 25 => 161 | 26 => 162 | 27 => 163 | 46 => 167 | 47 => 168 | 48 => 169 | 49 => 170 | 50 => 171 | 57 => 173 | n => n, fun | 22 => 163 | 24 => 167 | 25 => 175 | 3 => 3 | 39 => 178 | 0 => 0 | 53 => 189 | 55 => 191 | 4 => 4 | 46 => 182 | 45 => 181 | 50 => 186 | 5 => 5 | 9 => 9 | 66 => 193 | 70 => 197 | 76 => 200 | 77 => 201 | n => n, fun | n => n⟩
theorem Tryz.laysF0n6 : Go.Proofs.SlLaysF0.n6 Tryz.prog Tryz.laysF0n6_ren := {
  mixed := by kernel_rfl
  f6 := ⟨Tryz.f150.name, by decide, Tryz.func150.trans (congrArg some (by kernel_rfl))⟩
  f14 := ⟨Tryz.f153.name, by decide, Tryz.func153.trans (congrArg some (by kernel_rfl))⟩
  f15 := Tryz.func154.trans (congrArg some (by kernel_rfl))
  f20 := ⟨Tryz.f156.name, by decide, Tryz.func156.trans (congrArg some (by kernel_rfl))⟩
  f21 := ⟨Tryz.f157.name, by decide, Tryz.func157.trans (congrArg some (by kernel_rfl))⟩
  f22 := ⟨Tryz.f158.name, by decide, Tryz.func158.trans (congrArg some (by kernel_rfl))⟩
  f23 := ⟨Tryz.f159.name, by decide, Tryz.func159.trans (congrArg some (by kernel_rfl))⟩
  f24 := ⟨Tryz.f160.name, by decide, Tryz.func160.trans (congrArg some (by kernel_rfl))⟩
  f25 := ⟨Tryz.f161.name, by decide, Tryz.func161.trans (congrArg some (by kernel_rfl))⟩
  f26 := ⟨Tryz.f162.name, by decide, Tryz.func162.trans (congrArg some (by kernel_rfl))⟩
  f27 := ⟨Tryz.f163.name, by decide, Tryz.func163.trans (congrArg some (by kernel_rfl))⟩
  f28 := Tryz.func164.trans (congrArg some (by kernel_rfl))
  f29 := Tryz.func165.trans (congrArg some (by kernel_rfl))
  f46 := ⟨Tryz.f167.name, by decide, Tryz.func167.trans (congrArg some (by kernel_rfl))⟩
  f47 := Tryz.func168.trans (congrArg some (by kernel_rfl))
  f48 := Tryz.func169.trans (congrArg some (by kernel_rfl))
  f49 := ⟨Tryz.f170.name, by decide, Tryz.func170.trans (congrArg some (by kernel_rfl))⟩
  f50 := ⟨Tryz.f171.name, by decide, Tryz.func171.trans (congrArg some (by kernel_rfl))⟩
  f57 := ⟨Tryz.f173.name, by decide, Tryz.func173.trans (congrArg some (by kernel_rfl))⟩
  t0 := Tryz.underlying0
  a0 := Tryz.isAgg0
  z0 := Tryz.sizeOf0
  v0 := Tryz.zeroValue0
  t3 := Tryz.underlying3
  a3 := Tryz.isAgg3
  z3 := Tryz.sizeOf3
  v3 := Tryz.zeroValue3
  t4 := Tryz.underlying4
  a4 := Tryz.isAgg4
  z4 := Tryz.sizeOf4
  v4 := Tryz.zeroValue4
  t5 := Tryz.underlying5
  a5 := Tryz.isAgg5
  z5 := Tryz.sizeOf5
  v5 := Tryz.zeroValue5
  t9 := Tryz.underlying9
  a9 := Tryz.isAgg9
  z9 := Tryz.sizeOf9
  v9 := Tryz.zeroValue9
  t22 := Tryz.underlying163
  a22 := Tryz.isAgg163
  z22 := Tryz.sizeOf163
  v22 := Tryz.zeroValue163
  t25 := Tryz.underlying175
  a25 := Tryz.isAgg175
  z25 := Tryz.sizeOf175
  v25 := Tryz.zeroValue175
  t39 := Tryz.underlying178
  a39 := Tryz.isAgg178
  z39 := Tryz.sizeOf178
  v39 := Tryz.zeroValue178
  t45 := Tryz.underlying181
  a45 := Tryz.isAgg181
  z45 := Tryz.sizeOf181
  v45 := Tryz.zeroValue181
  t46 := Tryz.underlying182
  a46 := Tryz.isAgg182
  z46 := Tryz.sizeOf182
  v46 := Tryz.zeroValue182
  t50 := Tryz.underlying186
  a50 := Tryz.isAgg186
  z50 := Tryz.sizeOf186
  v50 := Tryz.zeroValue186
  t53 := Tryz.underlying189
  a53 := Tryz.isAgg189
  z53 := Tryz.sizeOf189
  v53 := Tryz.zeroValue189
  t55 := Tryz.underlying191
  a55 := Tryz.isAgg191
  z55 := Tryz.sizeOf191
  v55 := Tryz.zeroValue191
  t66 := Tryz.underlying193
  a66 := Tryz.isAgg193
  z66 := Tryz.sizeOf193
  v66 := Tryz.zeroValue193
  t70 := Tryz.underlying197
  a70 := Tryz.isAgg197
  z70 := Tryz.sizeOf197
  v70 := Tryz.zeroValue197
  t76 := Tryz.underlying200
  a76 := Tryz.isAgg200
  z76 := Tryz.sizeOf200
  v76 := Tryz.zeroValue200
  t77 := Tryz.underlying201
  a77 := Tryz.isAgg201
  z77 := Tryz.sizeOf201
  v77 := Tryz.zeroValue201 }
end Go.Proofs
namespace Go.Ab
open Go.RowKit Go.Proofs.Tryz
theorem Zgw (x y : Int) : Z1E x y = if x < y then -1 else if x > y then 1 else 0 := by
  unfold Z1E Z3j
  simp only [bne_self_eq_false, cond_false]
  by_cases h1 : x < y
  · simp [h1]
  · by_cases h2 : x > y <;> simp [h1, h2]
theorem Zgx (a b : Gedge) : Z6i a b = cmpP a.pr b.pr := by
  unfold Z6i Z1Y Z2k cmpP Gedge.pr
  show (match Zo [a.e0, a.e1] [b.e0, b.e1] 3 0 with | .inl r1 => r1 | .inr r1 => cond (decide (((2 : Nat) : Int) < ((2 : Nat) : Int))) (-1) 0) = _
  simp only [Zo, Zgw, List.length_cons, List.length_nil]
  by_cases h1 : a.e0 < b.e0
  · simp [h1]
  · by_cases h2 : a.e0 > b.e0
    · simp [h1, h2]
    · by_cases h3 : a.e1 < b.e1
      · simp [h1, h2, h3]
      · by_cases h4 : a.e1 > b.e1 <;> simp [h1, h2, h3, h4]
def Z5d (l : List Gedge) : List Gedge := sortE Gedge.pr l
theorem Za3 (l : List Gedge) (h : l.length ≤ 1073741824) : CallSt prog 150 [.vec 167 2 (l.map Gedge.cells) false] [.own 0, .fn 151 []] (.tup []) [.vec 167 2 ((Z5d l).map Gedge.cells) false] :=
  sort_row laysF0n6 isAgg167 sizeOf167 Gedge.pr Gedge.inj Gedge.cells (fun _ => rfl) 167 151 ⟨_, func150, rfl, by kernel_rfl⟩ (Z8J default default).1
    (fun a b W => ((Z8J a b).2 W #[keyV a.pr, keyV b.pr] ⟨rfl, fun j c e => by match j, e with | 0, e => cases e; exact Rep.agg _ _ rfl (fun i c e => by match i, e with | 0, e => cases e; exact .i _ _ | 1, e => cases e; exact .i _ _) | 1, e => cases e; exact Rep.agg _ _ rfl (fun i c e => by match i, e with | 0, e => cases e; exact .i _ _ | 1, e => cases e; exact .i _ _)⟩).mono fun e w' ⟨v, μ', he, hb, _, hr⟩ => by
      cases hr; rw [Zgx] at he; exact ⟨he, hb⟩) l h
def Z1 (Y2 : GMesh) : (List (Gedge × List Int)) × (List Gedge) := ((Z13 Y2).1, (Z5d ((Z13 Y2).2)))
theorem Za4 (m : GMesh) (ok : OkE m.Places.length m.Triangles) : (Z1 m).2 = edgL m.Places.length m.Triangles := (Zed m ok).sorted ok
theorem Zfe (m : GMesh) (ok : OkE m.Places.length m.Triangles) {e : Gedge} (he : e ∈ (Z1 m).2) : mhas (Z1 m).1 e = true ∧ ((Z1 m).1.getD (midx (Z1 m).1 e) default).2 = idxP m.Triangles e.e0 e.e1 := by
  rw [Za4 m ok] at he
  have h := (Zed m ok).at ok he
  exact ⟨h.1, h.2.trans (idxE_eq ok (mem_edgL.1 he).1.2.1)⟩
theorem Zg7 (m : GMesh) (ok : OkE m.Places.length m.Triangles) : (Z1 m).2.length ≤ 4096 := by
  rw [Za4 m ok]; exact edgL_len ok
theorem Zcf (m : GMesh) (ok : OkE m.Places.length m.Triangles) {i : Int} (h0 : 0 ≤ i) (hi : i < ((Z1 m).2.length : Int)) : (Z1 m).2.getD i.toNat default ∈ (Z1 m).2 := by
  have hn : i.toNat < (Z1 m).2.length := by omega
  rw [List.getD_eq_getElem?_getD, List.getElem?_eq_getElem hn]; exact List.getElem_mem hn
theorem Z7J (m : GMesh) (ok : OkE m.Places.length m.Triangles) {i : Int} (h0 : 0 ≤ i) (hi : i < ((Z1 m).2.length : Int)) :
    0 ≤ ((Z1 m).2.getD i.toNat default).e0 ∧ ((Z1 m).2.getD i.toNat default).e0 < ((Z1 m).2.getD i.toNat default).e1 ∧ ((Z1 m).2.getD i.toNat default).e1 < (m.Places.length : Int) ∧ (m.Places.length : Int) ≤ 64 ∧ ((Z1 m).2.length : Int) ≤ 4096 := by
  have hl := Zg7 m ok
  have h64 := ok.1
  have hm := Zcf m ok h0 hi
  rw [Za4 m ok] at hm
  have hb := edgL_at hm
  rw [← Za4 m ok] at hb
  exact ⟨hb.1, hb.2.1, hb.2.2, by omega, by omega⟩
theorem Zak (m : GMesh) (ok : OkE m.Places.length m.Triangles) {i : Int} (h0 : 0 ≤ i) (hi : i < ((Z1 m).2.length : Int))
    (h2 : ((((Z1 m).1.getD (midx (Z1 m).1 ((Z1 m).2.getD i.toNat default)) default).2.length : Int)) = 2) :
    0 ≤ ((Z1 m).1.getD (midx (Z1 m).1 ((Z1 m).2.getD i.toNat default)) default).2.getD 0 default ∧ ((Z1 m).1.getD (midx (Z1 m).1 ((Z1 m).2.getD i.toNat default)) default).2.getD 0 default < (m.Triangles.length : Int) ∧
    0 ≤ ((Z1 m).1.getD (midx (Z1 m).1 ((Z1 m).2.getD i.toNat default)) default).2.getD 1 default ∧ ((Z1 m).1.getD (midx (Z1 m).1 ((Z1 m).2.getD i.toNat default)) default).2.getD 1 default < (m.Triangles.length : Int) ∧ (m.Triangles.length : Int) ≤ 128 := by
  obtain ⟨g1, g2⟩ := Zfe m ok (Zcf m ok h0 hi)
  rw [g2] at h2 ⊢
  have a1 := idxP_at (ts := m.Triangles) (a := ((Z1 m).2.getD i.toNat default).e0) (b := ((Z1 m).2.getD i.toNat default).e1) (k := 0) (by omega)
  have a2 := idxP_at (ts := m.Triangles) (a := ((Z1 m).2.getD i.toNat default).e0) (b := ((Z1 m).2.getD i.toNat default).e1) (k := 1) (by omega)
  have := ok.2.1
  exact ⟨a1.1, a1.2.1, a2.1, a2.2.1, by omega⟩
theorem Zau (Y2 : GMesh) (hp0 : Y2.Places.length ≤ 1073741824) (hp1 : Y2.Triangles.length ≤ 1073741824) (hp2 : ∀ t ∈ Y2.Triangles, t.length ≤ 1073741824) (hp3 : OkE Y2.Places.length Y2.Triangles)  : Fn prog 141 [.agg [.sl (Y2.Places.map GVector.cells), .sl (Y2.Triangles.map (cL (cI .i64)))]] (.tup [.mp 0, .own 1]) [.mapN 2 (mapC Gedge.pr (cI .i64) ((Z1 Y2).1)) none, .vec 167 2 (((Z1 Y2).2).map Gedge.cells) false] := by
 have y0 : ((Z13 Y2).2).length ≤ 1073741824 := (by (have q := Zgj Y2 hp3; omega))
 refine fnS E0Ok Z5 (c := bodyOf f141) [] (.tup [.mp 0, .own 1]) [.mapN 2 (mapC Gedge.pr (cI .i64) ((Z13 Y2).1)) none, .vec 167 2 ((Z5d ((Z13 Y2).2)).map Gedge.cells) false] func141 (sZ (cL (cI .i64)) Y2.Triangles <| sL (mR false [0, 2, 1, 3, 4, 1, 1, 4, 41]) 3 (lp_cast (st2 := ⟨.agg [.sl (Y2.Places.map GVector.cells), .sl (Y2.Triangles.map (cL (cI .i64)))] :: .ptr 0 0 0 :: .any :: .nils :: .mp 1 :: .own 2 :: an 4 (.mp 1 :: .any :: .ptr 0 0 1 :: .sl (Y2.Triangles.map (cL (cI .i64))) :: .i .i64 (Y2.Triangles.length : Int) :: .i .i64 0 :: an 41 []), [.box 38 [.sl (Y2.Places.map GVector.cells), .sl (Y2.Triangles.map (cL (cI .i64)))], .mapN 2 [] none, .vec 167 2 ([] : List (List AV)) false]⟩) (lp_val (Z4I Y2) (x := (Z13 Y2)) (Z9I Y2 hp0 hp1 hp2 hp3 (((Y2.Triangles.length : Int) - 0).toNat + 1) 0 ([] : (List (Gedge × List Int))) ([] : List Gedge) (show 0 ≤ 0 from (by omega)) (show (([] : List Gedge).length : Int) ≤ 3 * 0 from (by simp; done)) (show ∀ y ∈ ([] : (List (Gedge × List Int))), (y.2.length : Int) ≤ 3 * 0 from (by simp; done)) (Nat.lt_succ_self _)) rfl) (by simp [Z6q, mapC, Gedge.cells])) <| sS (CallSt.frame (Za3 ((Z13 Y2).2) y0) [2] (R := [.box 38 [.sl (Y2.Places.map GVector.cells), .sl (Y2.Triangles.map (cL (cI .i64)))], .mapN 2 (mapC Gedge.pr (cI .i64) ((Z13 Y2).1)) none, .vec 167 2 (((Z13 Y2).2).map Gedge.cells) false]) (args' := [.own 2, .fn 151 []]) rfl rfl rfl rfl rfl rfl) <| sK [1, 2] sN) rfl (by kernel_rfl) (by kernel_rfl) rfl ?_ ?_
 · rfl
 · simp [Z1]
def Z5h (YC : (List Int)) (e_1 : Gedge) : Int := (IntKind.wrap .i64 ((IntKind.wrap .i64 ((IntKind.wrap .i64 ((IntKind.wrap .i64 ((YC.getD 0 default) + (YC.getD 1 default))) + (YC.getD 2 default))) - e_1.e0)) - e_1.e1))
def Z5n (YC : (List Int)) (e_1 : Gedge) : Int := (Z5h YC e_1)
theorem ZaQ (YC : (List Int)) (e_1 : Gedge) (hp0 : YC.length ≤ 1073741824) (hp1 : YC.length = 3)  : Fn prog 142 [.sl (YC.map (cI .i64)), .agg [.i .i64 e_1.e0, .i .i64 e_1.e1]] (.i .i64 (Z5n YC e_1)) [] := by
 have y0 : (0 : Int) ≤ 0 := (by omega)
 have y1 : 0 < (YC.length : Int) := (by omega)
 have y2 : (0 : Int) ≤ 1 := (by omega)
 have y3 : 1 < (YC.length : Int) := (by omega)
 have y4 : (0 : Int) ≤ 2 := (by omega)
 have y5 : 2 < (YC.length : Int) := (by omega)
 refine fnS E0Ok Z5 (c := bodyOf f142) [] (.i .i64 (Z5h YC e_1)) [] func142 (sK [16, 16] <| sG (cI .i64) YC 0 y0 y1 <| sG (cI .i64) YC 1 y2 y3 <| sW .i64 ((YC.getD 0 default) + (YC.getD 1 default)) <| sG (cI .i64) YC 2 y4 y5 <| sW .i64 ((IntKind.wrap .i64 ((YC.getD 0 default) + (YC.getD 1 default))) + (YC.getD 2 default)) <| sC (show (0 : Int) ≤ 0 ∧ 0 < ((2 : Nat) : Int) from (by decide)) <| sW .i64 ((IntKind.wrap .i64 ((IntKind.wrap .i64 ((YC.getD 0 default) + (YC.getD 1 default))) + (YC.getD 2 default))) - e_1.e0) <| sC (show (0 : Int) ≤ 1 ∧ 1 < ((2 : Nat) : Int) from (by decide)) <| sM (show IntKind.wrap .i64 ((IntKind.wrap .i64 ((IntKind.wrap .i64 ((IntKind.wrap .i64 ((YC.getD 0 default) + (YC.getD 1 default))) + (YC.getD 2 default))) - e_1.e0)) - e_1.e1) = (Z5h YC e_1) from rfl) <| sK [] sN) rfl (by kernel_rfl) (by kernel_rfl) rfl ?_ ?_
 · rfl
 · rfl
def Z3l (Y2 : GMesh) (Y1 : Int) : Int := (Z5n (Y2.Triangles.getD ((((Z1 Y2).1).getD (midx ((Z1 Y2).1) (((Z1 Y2).2).getD Y1.toNat default)) default).2.getD 0 default).toNat default) (((Z1 Y2).2).getD Y1.toNat default))
def Z3m (Y2 : GMesh) (Y1 : Int) : Int := (Z5n (Y2.Triangles.getD ((((Z1 Y2).1).getD (midx ((Z1 Y2).1) (((Z1 Y2).2).getD Y1.toNat default)) default).2.getD 1 default).toNat default) (((Z1 Y2).2).getD Y1.toNat default))
def ZR (Y2 : GMesh) : Nat → Int → (List (List Int)) → (List (List Int))
  | 0, _, _ => default
  | k + 1, Y1, Yh => (cond (decide (Y1 < (((Z1 Y2).2).length : Int)))
    (cond (mhas ((Z1 Y2).1) (((Z1 Y2).2).getD Y1.toNat default))
      (cond (((((Z1 Y2).1).getD (midx ((Z1 Y2).1) (((Z1 Y2).2).getD Y1.toNat default)) default).2.length : Int) == 2)
        (ZR Y2 k (Y1 + 1) (Yh ++ [[(((Z1 Y2).2).getD Y1.toNat default).e0, (((Z1 Y2).2).getD Y1.toNat default).e1, (Z3l Y2 Y1), (Z3m Y2 Y1)]]))
        (ZR Y2 k (Y1 + 1) Yh))
      (ZR Y2 k (Y1 + 1) Yh))
    Yh)
def Z6D (Y2 : GMesh) (r : (List (List Int))) : Ex × St := ((.exit 0), ⟨.agg [.sl (Y2.Places.map GVector.cells), .sl (Y2.Triangles.map (cL (cI .i64)))] :: .ptr 0 0 0 :: .nils :: .own 1 :: .any :: .own 2 :: an 5 (.agg [.sl (Y2.Places.map GVector.cells), .sl (Y2.Triangles.map (cL (cI .i64)))] :: .any :: .mp 3 :: .own 2 :: .own 2 :: an 39 []), [.box 38 [.sl (Y2.Places.map GVector.cells), .sl (Y2.Triangles.map (cL (cI .i64)))], .nest 49 (r.map fun l => l.map (cI .i64)) false, .vec 167 2 (((Z1 Y2).2).map Gedge.cells) false, .mapN 2 (mapC Gedge.pr (cI .i64) ((Z1 Y2).1)) none]⟩)
def Z6E (Y2 : GMesh) (Y1 : Int) (Yh : (List (List Int))) : St := ⟨.agg [.sl (Y2.Places.map GVector.cells), .sl (Y2.Triangles.map (cL (cI .i64)))] :: .ptr 0 0 0 :: .nils :: .own 1 :: .mp 2 :: .own 3 :: an 5 (.agg [.sl (Y2.Places.map GVector.cells), .sl (Y2.Triangles.map (cL (cI .i64)))] :: .any :: .mp 2 :: .own 3 :: .own 3 :: .i .i64 (((Z1 Y2).2).length : Int) :: .i .i64 Y1 :: an 37 []), [.box 38 [.sl (Y2.Places.map GVector.cells), .sl (Y2.Triangles.map (cL (cI .i64)))], .nest 49 (Yh.map fun l => l.map (cI .i64)) false, .mapN 2 (mapC Gedge.pr (cI .i64) ((Z1 Y2).1)) none, .vec 167 2 (((Z1 Y2).2).map Gedge.cells) false]⟩
set_option maxHeartbeats 1000000 in
theorem Zcg (Y2 : GMesh) (hp0 : Y2.Places.length ≤ 1073741824) (hp1 : Y2.Triangles.length ≤ 1073741824) (hp2 : ∀ t ∈ Y2.Triangles, t.length ≤ 1073741824) (hp3 : OkE Y2.Places.length Y2.Triangles) : ∀ (k : Nat) (Y1 : Int) (Yh : (List (List Int))) (Z1l : 0 ≤ Y1) (Z83 : (Yh.length : Int) ≤ Y1) (hk : ((((Z1 Y2).2).length : Int) - Y1).toNat < k), Lp prog 0 (sub (bodyOf f115) [1, 1, 1, 0, 1, 0, 0]) (Z6E Y2 Y1 Yh) (Z6D Y2 (ZR Y2 k Y1 Yh)).1 (Z6D Y2 (ZR Y2 k Y1 Yh)).2 := by
 intro k
 induction k with
 | zero => intro Y1 Yh Z1l Z83 hk; exact absurd hk (Nat.not_lt_zero _)
 | succ k ih =>
  intro Y1 Yh Z1l Z83 hk
  cases Yl : (decide (Y1 < (((Z1 Y2).2).length : Int))) with
  | true =>
   have Yw := of_decide_eq_true Yl
   have YF : (0 : Int) ≤ Y1 := (by assumption)
   have YG : Y1 < (((Z1 Y2).2).length : Int) := (by assumption)
   have YH : Y1.toNat < ((Z1 Y2).2).length := (by omega)
   have p {a C} (s : Scr a C) := sB Yl <| sX Gedge.cells ((Z1 Y2).2) Y1 YF YG <| sV Gedge.cells ((Z1 Y2).2) Y1.toNat YH <| s
   cases Yr : (mhas ((Z1 Y2).1) (((Z1 Y2).2).getD Y1.toNat default)) with
   | true =>
    have m_8 := midx_lt Yr
    have q {a C} (s : Scr a C) := p (sA (.keep [midx ((Z1 Y2).1) (((Z1 Y2).2).getD Y1.toNat default)]) <| sC (mget_ok (ck := Gedge.pr) (cv := (cI .i64)) Yr) <| sM (mget_len (ck := Gedge.pr) (cv := (cI .i64)) (l := (Z1 Y2).1) (j := (midx ((Z1 Y2).1) (((Z1 Y2).2).getD Y1.toNat default)))) <| s)
    clear p
    cases YL : (((((Z1 Y2).1).getD (midx ((Z1 Y2).1) (((Z1 Y2).2).getD Y1.toNat default)) default).2.length : Int) == 2) with
    | true =>
     have Y1e := eq_of_beq YL
     have YI : (0 : Int) ≤ 0 := by clear q; exact (by omega)
     have YP : 0 < ((((Z1 Y2).1).getD (midx ((Z1 Y2).1) (((Z1 Y2).2).getD Y1.toNat default)) default).2.length : Int) := by clear q; exact (by omega)
     have YS : 0 < (((Z1 Y2).1).getD (midx ((Z1 Y2).1) (((Z1 Y2).2).getD Y1.toNat default)) default).2.length := by clear q; exact (by omega)
     have y_6 : (0 : Int) ≤ ((((Z1 Y2).1).getD (midx ((Z1 Y2).1) (((Z1 Y2).2).getD Y1.toNat default)) default).2.getD 0 default) := by clear q; exact (by ((have q := Zak Y2 hp3 Z1l (of_decide_eq_true (by assumption)) (by assumption); omega)))
     have y_7 : ((((Z1 Y2).1).getD (midx ((Z1 Y2).1) (((Z1 Y2).2).getD Y1.toNat default)) default).2.getD 0 default) < (Y2.Triangles.length : Int) := by clear q; exact (by ((have q := Zak Y2 hp3 Z1l (of_decide_eq_true (by assumption)) (by assumption); omega)))
     have y_8 : (Y2.Triangles.getD ((((Z1 Y2).1).getD (midx ((Z1 Y2).1) (((Z1 Y2).2).getD Y1.toNat default)) default).2.getD 0 default).toNat default).length ≤ 1073741824 := by clear q; exact (by (have q := Zak Y2 hp3 Z1l (of_decide_eq_true (by assumption)) (by assumption); have q1 := (hp3.tris.at q.1 q.2.1).1; have q2 := (hp3.tris.at q.2.2.1 q.2.2.2.1).1; omega))
     have y_9 : (Y2.Triangles.getD ((((Z1 Y2).1).getD (midx ((Z1 Y2).1) (((Z1 Y2).2).getD Y1.toNat default)) default).2.getD 0 default).toNat default).length = 3 := by clear q; exact (by (have q := Zak Y2 hp3 Z1l (of_decide_eq_true (by assumption)) (by assumption); have q1 := (hp3.tris.at q.1 q.2.1).1; have q2 := (hp3.tris.at q.2.2.1 q.2.2.2.1).1; exact q1))
     have Y18 : (0 : Int) ≤ 1 := by clear q; exact (by omega)
     have Y1c : 1 < ((((Z1 Y2).1).getD (midx ((Z1 Y2).1) (((Z1 Y2).2).getD Y1.toNat default)) default).2.length : Int) := by clear q; exact (by omega)
     have Y1g : 1 < (((Z1 Y2).1).getD (midx ((Z1 Y2).1) (((Z1 Y2).2).getD Y1.toNat default)) default).2.length := by clear q; exact (by omega)
     have Y1h : (0 : Int) ≤ ((((Z1 Y2).1).getD (midx ((Z1 Y2).1) (((Z1 Y2).2).getD Y1.toNat default)) default).2.getD 1 default) := by clear q; exact (by ((have q := Zak Y2 hp3 Z1l (of_decide_eq_true (by assumption)) (by assumption); omega)))
     have Y1q : ((((Z1 Y2).1).getD (midx ((Z1 Y2).1) (((Z1 Y2).2).getD Y1.toNat default)) default).2.getD 1 default) < (Y2.Triangles.length : Int) := by clear q; exact (by ((have q := Zak Y2 hp3 Z1l (of_decide_eq_true (by assumption)) (by assumption); omega)))
     have Y1r : (Y2.Triangles.getD ((((Z1 Y2).1).getD (midx ((Z1 Y2).1) (((Z1 Y2).2).getD Y1.toNat default)) default).2.getD 1 default).toNat default).length ≤ 1073741824 := by clear q; exact (by (have q := Zak Y2 hp3 Z1l (of_decide_eq_true (by assumption)) (by assumption); have q1 := (hp3.tris.at q.1 q.2.1).1; have q2 := (hp3.tris.at q.2.2.1 q.2.2.2.1).1; omega))
     have Y1s : (Y2.Triangles.getD ((((Z1 Y2).1).getD (midx ((Z1 Y2).1) (((Z1 Y2).2).getD Y1.toNat default)) default).2.getD 1 default).toNat default).length = 3 := by clear q; exact (by (have q := Zak Y2 hp3 Z1l (of_decide_eq_true (by assumption)) (by assumption); have q1 := (hp3.tris.at q.1 q.2.1).1; have q2 := (hp3.tris.at q.2.2.1 q.2.2.2.1).1; exact q2))
     have Y1t : Yh.length + [[(((Z1 Y2).2).getD Y1.toNat default).e0, (((Z1 Y2).2).getD Y1.toNat default).e1, (Z3l Y2 Y1), (Z3m Y2 Y1)]].length ≤ 1073741824 := by clear q; exact (by ((have q := Z7J Y2 hp3 Z1l (of_decide_eq_true (by assumption)); (simp only [List.length_append, List.length_cons, List.length_nil]; omega))))
     have Y1u : (-9223372036854775808 : Int) ≤ (Y1 + 1) := by clear q; exact (by omega)
     have Y1v : (Y1 + 1) ≤ (9223372036854775807 : Int) := by clear q; exact (by ((have q := Z7J Y2 hp3 Z1l (of_decide_eq_true (by assumption)); omega)))
     have e : ZR Y2 (k + 1) Y1 Yh = (ZR Y2 k (Y1 + 1) (Yh ++ [[(((Z1 Y2).2).getD Y1.toNat default).e0, (((Z1 Y2).2).getD Y1.toNat default).e1, (Z3l Y2 Y1), (Z3m Y2 Y1)]])) := by simp only [ZR, Yl, Yr, YL, cond_true]
     rw [e]
     exact nextS E0Ok Z5 [] (mR false [0, 6, 5, 1, 1, 5, 37]) [0, 1, 2, 3] (⟨.agg [.sl (Y2.Places.map GVector.cells), .sl (Y2.Triangles.map (cL (cI .i64)))] :: .ptr 0 0 0 :: .nils :: .own 1 :: .mp 2 :: .own 3 :: an 5 (.agg [.sl (Y2.Places.map GVector.cells), .sl (Y2.Triangles.map (cL (cI .i64)))] :: .any :: .mp 2 :: .own 3 :: .own 3 :: .i .i64 (((Z1 Y2).2).length : Int) :: .i .i64 (Y1 + 1) :: an 37 []), [.box 38 [.sl (Y2.Places.map GVector.cells), .sl (Y2.Triangles.map (cL (cI .i64)))], .nest 49 ((Yh.map fun l => l.map (cI .i64)) ++ [([[.i .i64 ((((Z1 Y2).2).getD Y1.toNat default).e0)], [.i .i64 ((((Z1 Y2).2).getD Y1.toNat default).e1)], [.i .i64 (Z3l Y2 Y1)], [.i .i64 (Z3m Y2 Y1)]] : List (List AV))]) false, .mapN 2 (mapC Gedge.pr (cI .i64) ((Z1 Y2).1)) none, .vec 167 2 (((Z1 Y2).2).map Gedge.cells) false]⟩) (q (sB YL <| sK [25, 25] <| sC (show (0 : Int) ≤ 0 ∧ 0 < ((2 : Nat) : Int) from (by decide)) <| sC (show (0 : Int) ≤ 1 ∧ 1 < ((2 : Nat) : Int) from (by decide)) <| sC (mget_ix (ck := Gedge.pr) (cv := (cI .i64)) (l := (Z1 Y2).1) (j := (midx ((Z1 Y2).1) (((Z1 Y2).2).getD Y1.toNat default))) (i := 0) YI YP) <| sE (mget_el (ck := Gedge.pr) (cv := (cI .i64)) (l := (Z1 Y2).1) (j := (midx ((Z1 Y2).1) (((Z1 Y2).2).getD Y1.toNat default))) (i := 0) YS) <| sG (cL (cI .i64)) Y2.Triangles ((((Z1 Y2).1).getD (midx ((Z1 Y2).1) (((Z1 Y2).2).getD Y1.toNat default)) default).2.getD 0 default) y_6 y_7 <| sF (ZaQ (Y2.Triangles.getD ((((Z1 Y2).1).getD (midx ((Z1 Y2).1) (((Z1 Y2).2).getD Y1.toNat default)) default).2.getD 0 default).toNat default) (((Z1 Y2).2).getD Y1.toNat default) y_8 y_9) <| sC (mget_ix (ck := Gedge.pr) (cv := (cI .i64)) (l := (Z1 Y2).1) (j := (midx ((Z1 Y2).1) (((Z1 Y2).2).getD Y1.toNat default))) (i := 1) Y18 Y1c) <| sE (mget_el (ck := Gedge.pr) (cv := (cI .i64)) (l := (Z1 Y2).1) (j := (midx ((Z1 Y2).1) (((Z1 Y2).2).getD Y1.toNat default))) (i := 1) Y1g) <| sG (cL (cI .i64)) Y2.Triangles ((((Z1 Y2).1).getD (midx ((Z1 Y2).1) (((Z1 Y2).2).getD Y1.toNat default)) default).2.getD 1 default) Y1h Y1q <| sF (ZaQ (Y2.Triangles.getD ((((Z1 Y2).1).getD (midx ((Z1 Y2).1) (((Z1 Y2).2).getD Y1.toNat default)) default).2.getD 1 default).toNat default) (((Z1 Y2).2).getD Y1.toNat default) Y1r Y1s) <| sC (show (Yh.map fun l => l.map (cI .i64)).length + [([[.i .i64 ((((Z1 Y2).2).getD Y1.toNat default).e0)], [.i .i64 ((((Z1 Y2).2).getD Y1.toNat default).e1)], [.i .i64 (Z3l Y2 Y1)], [.i .i64 (Z3m Y2 Y1)]] : List (List AV))].length ≤ 1073741824 from (by simpa using Y1t)) <| sI (Y1 + 1) Y1u Y1v <| sN)) (by kernel_rfl) (by simp [Z6E, cL, cI]) (ih (Y1 + 1) (Yh ++ [[(((Z1 Y2).2).getD Y1.toNat default).e0, (((Z1 Y2).2).getD Y1.toNat default).e1, (Z3l Y2 Y1), (Z3m Y2 Y1)]]) (show 0 ≤ (Y1 + 1) from (by omega)) (show ((Yh ++ [[(((Z1 Y2).2).getD Y1.toNat default).e0, (((Z1 Y2).2).getD Y1.toNat default).e1, (Z3l Y2 Y1), (Z3m Y2 Y1)]]).length : Int) ≤ (Y1 + 1) from (by ((have q := Z7J Y2 hp3 Z1l (of_decide_eq_true (by assumption)); (simp only [List.length_append, List.length_cons, List.length_nil]; omega))))) (by omega))
    | false =>
     have Y1e := ne_of_beq_false YL
     have YI : (-9223372036854775808 : Int) ≤ (Y1 + 1) := by clear q; exact (by omega)
     have YP : (Y1 + 1) ≤ (9223372036854775807 : Int) := by clear q; exact (by ((have q := Z7J Y2 hp3 Z1l (of_decide_eq_true (by assumption)); omega)))
     have e : ZR Y2 (k + 1) Y1 Yh = (ZR Y2 k (Y1 + 1) Yh) := by simp only [ZR, Yl, Yr, YL, cond_true, cond_false]
     rw [e]
     exact nextR E0Ok Z5 [] (mR false [0, 6, 5, 1, 1, 5, 37]) [0, 1, 2, 3] (ih (Y1 + 1) Yh (show 0 ≤ (Y1 + 1) from (by omega)) (show (Yh.length : Int) ≤ (Y1 + 1) from (by omega)) (by omega)) (q (sB YL <| sI (Y1 + 1) YI YP <| sN)) (by kernel_rfl)
   | false =>
    have YI : (-9223372036854775808 : Int) ≤ (Y1 + 1) := by clear p; exact (by omega)
    have YP : (Y1 + 1) ≤ (9223372036854775807 : Int) := by clear p; exact (by ((have q := Z7J Y2 hp3 Z1l (of_decide_eq_true (by assumption)); omega)))
    have e : ZR Y2 (k + 1) Y1 Yh = (ZR Y2 k (Y1 + 1) Yh) := by simp only [ZR, Yl, Yr, cond_true, cond_false]
    rw [e]
    exact nextR E0Ok Z5 [] (mR false [0, 6, 5, 1, 1, 5, 37]) [0, 1, 2, 3] (ih (Y1 + 1) Yh (show 0 ≤ (Y1 + 1) from (by omega)) (show (Yh.length : Int) ≤ (Y1 + 1) from (by omega)) (by omega)) (p (sA (.keep []) <| sC (mnot_ok (ck := Gedge.pr) (cv := (cI .i64)) Gedge.inj Yr) <| sM (show ((0 : Nat) : Int) = 0 from rfl) <| sB (show (0 == 2) = false from rfl) <| sI (Y1 + 1) YI YP <| sN)) (by kernel_rfl)
  | false =>
   have Yw := of_decide_eq_false Yl
   have e : ZR Y2 (k + 1) Y1 Yh = Yh := by simp only [ZR, Yl, cond_false]
   rw [e]
   exact outR (e := (.exit 0)) E0Ok Z5 [] (mR false [0, 4, 1, 1, 5, 1, 1, 3, 39]) [0, 1, 3, 2] (sB Yl <| sN) (by kernel_rfl) (by intro h; cases h)
def Z4J (Y2 : GMesh) : (List (List Int)) := (ZR Y2 (((((Z1 Y2).2).length : Int) - 0).toNat + 1) 0 ([] : List (List Int)))
def Z7 (Y2 : GMesh) : (List (List Int)) := (Z4J Y2)
theorem Z7l (m : GMesh) (ok : OkE m.Places.length m.Triangles) : Z7 m = hgL m.Places.length m.Triangles := by
  unfold Z7 Z4J
  refine (filtm_from (a := (Z1 m).2) (p := fun e => decide ((idxP m.Triangles e.e0 e.e1).length = 2)) (f := fun e => [e.e0, e.e1] ++ (idxP m.Triangles e.e0 e.e1).map fun i => thd (m.Triangles.getD i.toNat default) e.e0 e.e1) (lo := ZR m) (fun k i r h0 hi => ?_) (fun k i r hi => ?_)).trans ?_
  · have q := Z7J m ok h0 hi
    have hm := Zcf m ok h0 hi
    obtain ⟨g1, g2⟩ := Zfe m ok hm
    rw [ZR, decide_eq_true hi, cond_true, g1, cond_true, g2]
    unfold Z3l Z3m
    rw [g2]
    generalize (Z1 m).2.getD i.toNat default = e at *
    by_cases h2 : (idxP m.Triangles e.e0 e.e1).length = 2
    · rw [decide_eq_true h2, show (((idxP m.Triangles e.e0 e.e1).length : Int) == 2) = true from by rw [beq_iff_eq]; omega, cond_true, cond_true]
      have hthd : ∀ k : Nat, k < 2 → Z5n (m.Triangles.getD ((idxP m.Triangles e.e0 e.e1).getD k default).toNat default) e = thd (m.Triangles.getD ((idxP m.Triangles e.e0 e.e1).getD k default).toNat default) e.e0 e.e1 := by
        intro k hk
        obtain ⟨a1, a2, a3⟩ := idxP_at (ts := m.Triangles) (a := e.e0) (b := e.e1) (k := k) (by omega)
        generalize (idxP m.Triangles e.e0 e.e1).getD k default = i' at *
        have q2 := ok.tris.at a1 a2
        generalize m.Triangles.getD i'.toNat default = t at *
        have h64 := ok.1
        unfold Z5n Z5h thd
        rw [wrap_id (n := t.getD 0 default + t.getD 1 default) (by omega) (by omega), wrap_id (n := t.getD 0 default + t.getD 1 default + t.getD 2 default) (by omega) (by omega), wrap_id (n := t.getD 0 default + t.getD 1 default + t.getD 2 default - e.e0) (by omega) (by omega), wrap_id (n := t.getD 0 default + t.getD 1 default + t.getD 2 default - e.e0 - e.e1) (by omega) (by omega)]
      rw [hthd 0 (by omega), hthd 1 (by omega)]
      generalize idxP m.Triangles e.e0 e.e1 = l at *
      match l, h2 with
      | [a, b], _ => rfl
    · rw [decide_eq_false h2, show (((idxP m.Triangles e.e0 e.e1).length : Int) == 2) = false from by rw [beq_eq_false_iff_ne]; omega, cond_false, cond_false]
  · rw [ZR, decide_eq_false (by omega), cond_false]
  · rw [Za4 m ok]; rfl
theorem Zfm (m : GMesh) (ok : OkE m.Places.length m.Triangles) {i : Int} (h0 : 0 ≤ i) (hi : i < ((Z7 m).length : Int)) : ((Z7 m).getD i.toNat default).length = 4 ∧ ∀ x ∈ (Z7 m).getD i.toNat default, 0 ≤ x ∧ x < (m.Places.length : Int) := by
  refine hgL_mem ok ?_
  rw [← Z7l m ok, List.getD_eq_getElem?_getD, List.getElem?_eq_getElem (by omega)]; exact List.getElem_mem _
theorem Z6S {m : GMesh} (ok : OkE m.Places.length m.Triangles) {i : Int} (h0 : 0 ≤ i) (hi : decide (i < ((Z7 m).length : Int)) = true) : ((Z7 m).getD i.toNat default).length = 4 ∧ ∀ x ∈ (Z7 m).getD i.toNat default, 0 ≤ x ∧ x < (m.Places.length : Int) := Zfm m ok h0 (of_decide_eq_true hi)
theorem Zgy {m : GMesh} (ok : OkE m.Places.length m.Triangles) {i : Int} (h0 : 0 ≤ i) (hi : decide (i < ((Z7 m).length : Int)) = true) : ((Z7 m).getD i.toNat default).length ≤ 1073741824 := by have := (Z6S ok h0 hi).1; omega
theorem ZcN (m : GMesh) (ok : OkE m.Places.length m.Triangles) : (Z7 m).length ≤ 4096 := by rw [Z7l m ok]; exact hgL_len ok
theorem ZdO (Y2 : GMesh) (hp0 : Y2.Places.length ≤ 1073741824) (hp1 : Y2.Triangles.length ≤ 1073741824) (hp2 : ∀ t ∈ Y2.Triangles, t.length ≤ 1073741824) (hp3 : OkE Y2.Places.length Y2.Triangles)  : Fn prog 115 [.agg [.sl (Y2.Places.map GVector.cells), .sl (Y2.Triangles.map (cL (cI .i64)))]] (.own 0) [.nest 49 ((Z7 Y2).map fun l => l.map (cI .i64)) false] := by
 refine fnS E0Ok Z5 (c := bodyOf f115) [] (.own 0) [.nest 49 ((Z4J Y2).map fun l => l.map (cI .i64)) false] func115 (sF (Zau Y2 hp0 hp1 hp2 hp3) <| sZ Gedge.cells ((Z1 Y2).2) <| sL (mR false [0, 6, 5, 1, 1, 5, 37]) 4 (lp_cast (st2 := ⟨.agg [.sl (Y2.Places.map GVector.cells), .sl (Y2.Triangles.map (cL (cI .i64)))] :: .ptr 0 0 0 :: .nils :: .own 1 :: .mp 2 :: .own 3 :: an 5 (.agg [.sl (Y2.Places.map GVector.cells), .sl (Y2.Triangles.map (cL (cI .i64)))] :: .any :: .mp 2 :: .own 3 :: .own 3 :: .i .i64 (((Z1 Y2).2).length : Int) :: .i .i64 0 :: an 37 []), [.box 38 [.sl (Y2.Places.map GVector.cells), .sl (Y2.Triangles.map (cL (cI .i64)))], .nest 49 [] false, .mapN 2 (mapC Gedge.pr (cI .i64) ((Z1 Y2).1)) none, .vec 167 2 (((Z1 Y2).2).map Gedge.cells) false]⟩) (lp_val (Z6D Y2) (x := (Z4J Y2)) (Zcg Y2 hp0 hp1 hp2 hp3 (((((Z1 Y2).2).length : Int) - 0).toNat + 1) 0 ([] : List (List Int)) (show 0 ≤ 0 from (by omega)) (show (([] : List (List Int)).length : Int) ≤ 0 from (by simp)) (Nat.lt_succ_self _)) rfl) (by simp [Z6E, cL, cI])) <| sK [1] sN) rfl (by kernel_rfl) (by kernel_rfl) rfl ?_ ?_
 · rfl
 · simp [Z7]
def Z5J (Y2 : GMesh) (Yr : (List Int)) : GVector := (Z1U (ZV (Y2.Places.getD (Yr.getD 2 default).toNat default) (Y2.Places.getD (Yr.getD 3 default).toNat default)) (ZV (Y2.Places.getD (Yr.getD 0 default).toNat default) (Y2.Places.getD (Yr.getD 1 default).toNat default)))
def Zw (Y2 : GMesh) (Yr : (List Int)) : GVector := (Z5J Y2 Yr)
theorem ZeQ (Y2 : GMesh) (Yr : (List Int)) (hp0 : Y2.Places.length ≤ 1073741824) (hp1 : Y2.Triangles.length ≤ 1073741824) (hp2 : ∀ t ∈ Y2.Triangles, t.length ≤ 1073741824) (hp3 : Yr.length ≤ 1073741824) (hp4 : Yr.length = 4 ∧ ∀ x ∈ Yr, 0 ≤ x ∧ x < (Y2.Places.length : Int))  : Fn prog 116 [.agg [.sl (Y2.Places.map GVector.cells), .sl (Y2.Triangles.map (cL (cI .i64)))], .sl (Yr.map (cI .i64))] (.agg [.f .f32 ((Zw Y2 Yr).X), .f .f32 ((Zw Y2 Yr).Y), .f .f32 ((Zw Y2 Yr).Z)]) [] := by
 have y0 : (0 : Int) ≤ 2 := (by omega)
 have y1 : 2 < (Yr.length : Int) := (by omega)
 have y2 : (0 : Int) ≤ (Yr.getD 2 default) := (by have q := Okh.at hp4; omega)
 have y3 : (Yr.getD 2 default) < (Y2.Places.length : Int) := (by have q := Okh.at hp4; omega)
 have y4 : (0 : Int) ≤ 3 := (by omega)
 have y5 : 3 < (Yr.length : Int) := (by omega)
 have y6 : (0 : Int) ≤ (Yr.getD 3 default) := (by have q := Okh.at hp4; omega)
 have y7 : (Yr.getD 3 default) < (Y2.Places.length : Int) := (by have q := Okh.at hp4; omega)
 have y8 : (0 : Int) ≤ 0 := (by omega)
 have y9 : 0 < (Yr.length : Int) := (by omega)
 have y10 : (0 : Int) ≤ (Yr.getD 0 default) := (by have q := Okh.at hp4; omega)
 have y11 : (Yr.getD 0 default) < (Y2.Places.length : Int) := (by have q := Okh.at hp4; omega)
 have y12 : (0 : Int) ≤ 1 := (by omega)
 have y13 : 1 < (Yr.length : Int) := (by omega)
 have y14 : (0 : Int) ≤ (Yr.getD 1 default) := (by have q := Okh.at hp4; omega)
 have y15 : (Yr.getD 1 default) < (Y2.Places.length : Int) := (by have q := Okh.at hp4; omega)
 refine fnS E0Ok Z5 (c := bodyOf f116) [] (.agg [.f .f32 ((Z5J Y2 Yr).X), .f .f32 ((Z5J Y2 Yr).Y), .f .f32 ((Z5J Y2 Yr).Z)]) [] func116 (sK [25, 25] <| sG (cI .i64) Yr 2 y0 y1 <| sG GVector.cells Y2.Places (Yr.getD 2 default) y2 y3 <| sG (cI .i64) Yr 3 y4 y5 <| sG GVector.cells Y2.Places (Yr.getD 3 default) y6 y7 <| sF (Z4y (Y2.Places.getD (Yr.getD 2 default).toNat default) (Y2.Places.getD (Yr.getD 3 default).toNat default)) <| sG (cI .i64) Yr 0 y8 y9 <| sG GVector.cells Y2.Places (Yr.getD 0 default) y10 y11 <| sG (cI .i64) Yr 1 y12 y13 <| sG GVector.cells Y2.Places (Yr.getD 1 default) y14 y15 <| sF (Z4y (Y2.Places.getD (Yr.getD 0 default).toNat default) (Y2.Places.getD (Yr.getD 1 default).toNat default)) <| sF (Z41 (ZV (Y2.Places.getD (Yr.getD 2 default).toNat default) (Y2.Places.getD (Yr.getD 3 default).toNat default)) (ZV (Y2.Places.getD (Yr.getD 0 default).toNat default) (Y2.Places.getD (Yr.getD 1 default).toNat default))) <| sK [] sN) rfl (by kernel_rfl) (by kernel_rfl) rfl ?_ ?_
 · rfl
 · rfl
def Z3n (Y0 : GBody) (Y1 : Int) (Yh : (List GVector)) : (List GVector) := (Zv ((Y0.Springs.getD Y1.toNat default).A) (Zt Y0 (Y0.Springs.getD Y1.toNat default)) (Z3S (Zt Y0 (Y0.Springs.getD Y1.toNat default)) (Y0.Springs.getD Y1.toNat default)) Yh)
@[simp] theorem Z73 (Y0 : GBody) (Y1 : Int) (Yh : (List GVector)) : (Z3n Y0 Y1 Yh).length = Yh.length := by unfold Z3n; simp
def Z3o (Y0 : GBody) (Y1 : Int) (Yh : (List GVector)) : (List GVector) := (Zv ((Y0.Springs.getD Y1.toNat default).B) (Zt Y0 (Y0.Springs.getD Y1.toNat default)) (fneg .f32 (Z3S (Zt Y0 (Y0.Springs.getD Y1.toNat default)) (Y0.Springs.getD Y1.toNat default))) (Z3n Y0 Y1 Yh))
@[simp] theorem Zfn (Y0 : GBody) (Y1 : Int) (Yh : (List GVector)) : (Z3o Y0 Y1 Yh).length = (Z3n Y0 Y1 Yh).length := by unfold Z3o; simp
def Z1s (Y0 : GBody) : Nat → Int → (List GVector) → (List GVector)
  | 0, _, _ => default
  | k + 1, Y1, Yh => (cond (decide (Y1 < (Y0.Springs.length : Int)))
    (Z1s Y0 k (Y1 + 1) (Z3o Y0 Y1 Yh))
    Yh)
def Z6F (Y0 : GBody) (r : (List GVector)) : Ex × St := ((.exit 0), ⟨.agg [.sl (Y0.Mesh.Places.map GVector.cells), .sl (Y0.Mesh.Triangles.map (cL (cI .i64))), .sl (Y0.Springs.map GSpring.cells), .f .f32 Y0.Film, .f .f32 Y0.Bend, .sl (Y0.Weights.map (cF .f32)), .f .f32 Y0.Fall.X, .f .f32 Y0.Fall.Y, .f .f32 Y0.Fall.Z] :: .ptr 0 0 0 :: .nils :: .ptr 1 0 0 :: .fn 106 [.ptr 1 0 0] :: an 18 (.ptr 0 0 0 :: .ptr 0 0 0 :: .sl (Y0.Mesh.Places.map GVector.cells) :: .i .i64 (Y0.Mesh.Places.length : Int) :: .own 2 :: .fn 106 [.ptr 1 0 0] :: .ptr 0 0 2 :: .sl (Y0.Springs.map GSpring.cells) :: an 148 []), [.box 42 [.sl (Y0.Mesh.Places.map GVector.cells), .sl (Y0.Mesh.Triangles.map (cL (cI .i64))), .sl (Y0.Springs.map GSpring.cells), .f .f32 Y0.Film, .f .f32 Y0.Bend, .sl (Y0.Weights.map (cF .f32)), .f .f32 Y0.Fall.X, .f .f32 Y0.Fall.Y, .f .f32 Y0.Fall.Z], .box 34 [.own 2], .vec 40 3 (r.map GVector.cells) false]⟩)
def Z99 (Y0 : GBody) (Y1 : Int) (Yh : (List GVector)) : St := ⟨.agg [.sl (Y0.Mesh.Places.map GVector.cells), .sl (Y0.Mesh.Triangles.map (cL (cI .i64))), .sl (Y0.Springs.map GSpring.cells), .f .f32 Y0.Film, .f .f32 Y0.Bend, .sl (Y0.Weights.map (cF .f32)), .f .f32 Y0.Fall.X, .f .f32 Y0.Fall.Y, .f .f32 Y0.Fall.Z] :: .ptr 0 0 0 :: .nils :: .ptr 2 0 0 :: .fn 106 [.ptr 2 0 0] :: an 18 (.ptr 0 0 0 :: .ptr 0 0 0 :: .sl (Y0.Mesh.Places.map GVector.cells) :: .i .i64 (Y0.Mesh.Places.length : Int) :: .own 1 :: .fn 106 [.ptr 2 0 0] :: .ptr 0 0 2 :: .sl (Y0.Springs.map GSpring.cells) :: .i .i64 (Y0.Springs.length : Int) :: .i .i64 Y1 :: an 146 []), [.box 42 [.sl (Y0.Mesh.Places.map GVector.cells), .sl (Y0.Mesh.Triangles.map (cL (cI .i64))), .sl (Y0.Springs.map GSpring.cells), .f .f32 Y0.Film, .f .f32 Y0.Bend, .sl (Y0.Weights.map (cF .f32)), .f .f32 Y0.Fall.X, .f .f32 Y0.Fall.Y, .f .f32 Y0.Fall.Z], .vec 40 3 (Yh.map GVector.cells) false, .box 34 [.own 1]]⟩
theorem Zch (Y0 : GBody) (hp0 : Y0.Mesh.Places.length ≤ 1073741824) (hp1 : Y0.Mesh.Triangles.length ≤ 1073741824) (hp2 : ∀ t ∈ Y0.Mesh.Triangles, t.length ≤ 1073741824) (hp3 : Y0.Springs.length ≤ 1073741824) (hp4 : Y0.Weights.length ≤ 1073741824) (hp5 : OkBd Y0) : ∀ (k : Nat) (Y1 : Int) (Yh : (List GVector)) (Z84 : 0 ≤ Y1) (Z85 : Yh.length = Y0.Mesh.Places.length) (hk : ((Y0.Springs.length : Int) - Y1).toNat < k), Lp prog 0 (sub (bodyOf f57) [1, 1, 1, 0, 1, 0, 0]) (Z99 Y0 Y1 Yh) (Z6F Y0 (Z1s Y0 k Y1 Yh)).1 (Z6F Y0 (Z1s Y0 k Y1 Yh)).2 := by
 intro k
 induction k with
 | zero => intro Y1 Yh Z84 Z85 hk; exact absurd hk (Nat.not_lt_zero _)
 | succ k ih =>
  intro Y1 Yh Z84 Z85 hk
  cases Yl : (decide (Y1 < (Y0.Springs.length : Int))) with
  | true =>
   have Yw := of_decide_eq_true Yl
   have YF : (0 : Int) ≤ Y1 := (by assumption)
   have YG : Y1 < (Y0.Springs.length : Int) := (by assumption)
   have YH : 0 ≤ (Y0.Springs.getD Y1.toNat default).A := (by have q := Z4u hp5 (by assumption) Yl; omega)
   have YI : (Y0.Springs.getD Y1.toNat default).A < (Y0.Mesh.Places.length : Int) := (by have q := Z4u hp5 (by assumption) Yl; omega)
   have YP : 0 ≤ (Y0.Springs.getD Y1.toNat default).B := (by have q := Z4u hp5 (by assumption) Yl; omega)
   have YS : (Y0.Springs.getD Y1.toNat default).B < (Y0.Mesh.Places.length : Int) := (by have q := Z4u hp5 (by assumption) Yl; omega)
   have y_6 : Yh.length ≤ 1073741824 := (by omega)
   have y_7 : 0 ≤ ((Y0.Springs.getD Y1.toNat default).A) := (by assumption)
   have y_8 : ((Y0.Springs.getD Y1.toNat default).A) < (Yh.length : Int) := (by omega)
   have y_9 : (Z3n Y0 Y1 Yh).length ≤ 1073741824 := (by have q := Z4u hp5 (by assumption) Yl; (simp only [Z73]; omega))
   have Y18 : 0 ≤ ((Y0.Springs.getD Y1.toNat default).B) := (by assumption)
   have Y1c : ((Y0.Springs.getD Y1.toNat default).B) < ((Z3n Y0 Y1 Yh).length : Int) := (by have q := Z4u hp5 (by assumption) Yl; (simp only [Z73]; omega))
   have Y1g : (-9223372036854775808 : Int) ≤ (Y1 + 1) := (by omega)
   have Y1h : (Y1 + 1) ≤ (9223372036854775807 : Int) := (by omega)
   have e : Z1s Y0 (k + 1) Y1 Yh = (Z1s Y0 k (Y1 + 1) (Z3o Y0 Y1 Yh)) := by simp only [Z1s, Yl, cond_true]
   rw [e]
   exact nextR E0Ok Z5 [] (mR false [0, 5, 18, 10, 146]) [0, 1, 2] (ih (Y1 + 1) (Z3o Y0 Y1 Yh) (show 0 ≤ (Y1 + 1) from (by omega)) (show (Z3o Y0 Y1 Yh).length = Y0.Mesh.Places.length from (by simp_all <;> omega)) (by omega)) (sB Yl <| sG GSpring.cells Y0.Springs Y1 YF YG <| sF (Zce Y0 (Y0.Springs.getD Y1.toNat default) hp0 hp1 hp2 hp3 hp4 YH YI YP YS) <| sF (ZeO (Zt Y0 (Y0.Springs.getD Y1.toNat default)) (Y0.Springs.getD Y1.toNat default)) <| sS (CallSt.frame (Z1X ((Y0.Springs.getD Y1.toNat default).A) (Zt Y0 (Y0.Springs.getD Y1.toNat default)) (Z3S (Zt Y0 (Y0.Springs.getD Y1.toNat default)) (Y0.Springs.getD Y1.toNat default)) Yh y_6 y_7 y_8) [2, 1] (R := [.box 42 [.sl (Y0.Mesh.Places.map GVector.cells), .sl (Y0.Mesh.Triangles.map (cL (cI .i64))), .sl (Y0.Springs.map GSpring.cells), .f .f32 Y0.Film, .f .f32 Y0.Bend, .sl (Y0.Weights.map (cF .f32)), .f .f32 Y0.Fall.X, .f .f32 Y0.Fall.Y, .f .f32 Y0.Fall.Z], .vec 40 3 (Yh.map GVector.cells) false, .box 34 [.own 1], .box 133 [.i .i64 ((Y0.Springs.getD Y1.toNat default).A), .i .i64 ((Y0.Springs.getD Y1.toNat default).B), .f .f32 ((Y0.Springs.getD Y1.toNat default).Long), .f .f32 ((Y0.Springs.getD Y1.toNat default).Stiff)], .box 40 [.f .f32 ((Zt Y0 (Y0.Springs.getD Y1.toNat default)).X), .f .f32 ((Zt Y0 (Y0.Springs.getD Y1.toNat default)).Y), .f .f32 ((Zt Y0 (Y0.Springs.getD Y1.toNat default)).Z)]]) (args' := [.i .i64 ((Y0.Springs.getD Y1.toNat default).A), .agg [.f .f32 ((Zt Y0 (Y0.Springs.getD Y1.toNat default)).X), .f .f32 ((Zt Y0 (Y0.Springs.getD Y1.toNat default)).Y), .f .f32 ((Zt Y0 (Y0.Springs.getD Y1.toNat default)).Z)], .f .f32 (Z3S (Zt Y0 (Y0.Springs.getD Y1.toNat default)) (Y0.Springs.getD Y1.toNat default)), .ptr 2 0 0]) rfl rfl rfl rfl rfl rfl) <| sS (CallSt.frame (Z1X ((Y0.Springs.getD Y1.toNat default).B) (Zt Y0 (Y0.Springs.getD Y1.toNat default)) (fneg .f32 (Z3S (Zt Y0 (Y0.Springs.getD Y1.toNat default)) (Y0.Springs.getD Y1.toNat default))) (Z3n Y0 Y1 Yh) y_9 Y18 Y1c) [2, 1] (R := [.box 42 [.sl (Y0.Mesh.Places.map GVector.cells), .sl (Y0.Mesh.Triangles.map (cL (cI .i64))), .sl (Y0.Springs.map GSpring.cells), .f .f32 Y0.Film, .f .f32 Y0.Bend, .sl (Y0.Weights.map (cF .f32)), .f .f32 Y0.Fall.X, .f .f32 Y0.Fall.Y, .f .f32 Y0.Fall.Z], .vec 40 3 ((Z3n Y0 Y1 Yh).map GVector.cells) false, .box 34 [.own 1], .box 133 [.i .i64 ((Y0.Springs.getD Y1.toNat default).A), .i .i64 ((Y0.Springs.getD Y1.toNat default).B), .f .f32 ((Y0.Springs.getD Y1.toNat default).Long), .f .f32 ((Y0.Springs.getD Y1.toNat default).Stiff)], .box 40 [.f .f32 ((Zt Y0 (Y0.Springs.getD Y1.toNat default)).X), .f .f32 ((Zt Y0 (Y0.Springs.getD Y1.toNat default)).Y), .f .f32 ((Zt Y0 (Y0.Springs.getD Y1.toNat default)).Z)]]) (args' := [.i .i64 ((Y0.Springs.getD Y1.toNat default).B), .agg [.f .f32 ((Zt Y0 (Y0.Springs.getD Y1.toNat default)).X), .f .f32 ((Zt Y0 (Y0.Springs.getD Y1.toNat default)).Y), .f .f32 ((Zt Y0 (Y0.Springs.getD Y1.toNat default)).Z)], .f .f32 (fneg .f32 (Z3S (Zt Y0 (Y0.Springs.getD Y1.toNat default)) (Y0.Springs.getD Y1.toNat default))), .ptr 2 0 0]) rfl rfl rfl rfl rfl rfl) <| sI (Y1 + 1) Y1g Y1h <| sN) (by kernel_rfl)
  | false =>
   have Yw := of_decide_eq_false Yl
   have e : Z1s Y0 (k + 1) Y1 Yh = Yh := by simp only [Z1s, Yl, cond_false]
   rw [e]
   exact outR (e := (.exit 0)) E0Ok Z5 [] (mR false [0, 5, 18, 8, 148]) [0, 2, 1] (sB Yl <| sN) (by kernel_rfl) (by intro h; cases h)
theorem Zbc (Y0 : GBody) : ∀ (k : Nat) (Y1 : Int) (Yh : (List GVector)) (hk : ((Y0.Springs.length : Int) - Y1).toNat < k), (Z1s Y0 k Y1 Yh).length = Yh.length := by
  intro k
  induction k with
  | zero => intro Y1 Yh hk; exact absurd hk (Nat.not_lt_zero _)
  | succ k ih =>
    intro Y1 Yh hk
    cases Yl : (decide (Y1 < (Y0.Springs.length : Int))) with
    | true =>
      have e : Z1s Y0 (k + 1) Y1 Yh = (Z1s Y0 k (Y1 + 1) (Z3o Y0 Y1 Yh)) := by simp only [Z1s, Yl, cond_true]
      rw [e, ih (Y1 + 1) (Z3o Y0 Y1 Yh) (by simp_all <;> omega)]; simp
    | false =>
      have e : Z1s Y0 (k + 1) Y1 Yh = Yh := by simp only [Z1s, Yl, cond_false]
      first | (rw [e]; done) | (rw [e]; rfl)
def Z32 (Y0 : GBody) : (List GVector) := (Z1s Y0 (((Y0.Springs.length : Int) - 0).toNat + 1) 0 (List.replicate (Y0.Mesh.Places.length : Int).toNat (⟨0, 0, 0⟩ : GVector)))
@[simp] theorem ZeR (Y0 : GBody) : (Z32 Y0).length = ((List.replicate (Y0.Mesh.Places.length : Int).toNat (⟨0, 0, 0⟩ : GVector)) : (List GVector)).length := Zbc Y0 (((Y0.Springs.length : Int) - 0).toNat + 1) 0 (List.replicate (Y0.Mesh.Places.length : Int).toNat (⟨0, 0, 0⟩ : GVector)) (by exact Nat.lt_succ_self _)
def Z28 (Y0 : GBody) (Y1 : Int) (Y6 : Int) : GVector := (Z1U (Y0.Mesh.Places.getD ((Y0.Mesh.Triangles.getD Y1.toNat default).getD (Int.tmod (Y6 + 2) 3).toNat default).toNat default) (Y0.Mesh.Places.getD ((Y0.Mesh.Triangles.getD Y1.toNat default).getD (Int.tmod (Y6 + 1) 3).toNat default).toNat default))
def Z3p (Y0 : GBody) (Y1 : Int) (Y6 : Int) (Yp : (List GVector)) : (List GVector) := (Zv ((Y0.Mesh.Triangles.getD Y1.toNat default).getD Y6.toNat default) (Z2t (Zb Y0.Mesh (Y0.Mesh.Triangles.getD Y1.toNat default)) (Z28 Y0 Y1 Y6)) (fop .quo .f32 (fneg .f32 (fop .mul .f32 1056964608 Y0.Film)) (Zu (Zb Y0.Mesh (Y0.Mesh.Triangles.getD Y1.toNat default)))) Yp)
@[simp] theorem Zfo (Y0 : GBody) (Y1 : Int) (Y6 : Int) (Yp : (List GVector)) : (Z3p Y0 Y1 Y6 Yp).length = Yp.length := by unfold Z3p; simp
def Z1f (Y0 : GBody) (Y1 : Int) (Yb : (List GVector)) : Nat → Int → (List GVector) → (List GVector)
  | 0, _, _ => default
  | k + 1, Y6, Yp => (cond (decide (Y6 < 3))
    (Z1f Y0 Y1 Yb k (Y6 + 1) (Z3p Y0 Y1 Y6 Yp))
    Yp)
def Z6G (Y0 : GBody) (Y1 : Int) (Yb : (List GVector)) (r : (List GVector)) : Ex × St := ((.exit 4), ⟨.agg [.sl (Y0.Mesh.Places.map GVector.cells), .sl (Y0.Mesh.Triangles.map (cL (cI .i64))), .sl (Y0.Springs.map GSpring.cells), .f .f32 Y0.Film, .f .f32 Y0.Bend, .sl (Y0.Weights.map (cF .f32)), .f .f32 Y0.Fall.X, .f .f32 Y0.Fall.Y, .f .f32 Y0.Fall.Z] :: .ptr 0 0 0 :: .nils :: .ptr 1 0 0 :: .fn 106 [.ptr 1 0 0] :: an 4 (.sl (Y0.Mesh.Places.map GVector.cells) :: .any :: .sl ((Y0.Mesh.Triangles.getD Y1.toNat default).map (cI .i64)) :: .ptr 2 0 0 :: .f .f32 (fop .quo .f32 (fneg .f32 (fop .mul .f32 1056964608 Y0.Film)) (Zu (Zb Y0.Mesh (Y0.Mesh.Triangles.getD Y1.toNat default)))) :: .f .f32 (Zu (Zb Y0.Mesh (Y0.Mesh.Triangles.getD Y1.toNat default))) :: an 8 (.ptr 0 0 0 :: .ptr 0 0 0 :: .sl (Y0.Mesh.Places.map GVector.cells) :: .i .i64 (Y0.Mesh.Places.length : Int) :: .own 3 :: .fn 106 [.ptr 1 0 0] :: .ptr 0 0 2 :: .sl (Y0.Springs.map GSpring.cells) :: an 25 (.ptr 0 0 0 :: .ptr 0 0 0 :: .sl (Y0.Mesh.Places.map GVector.cells) :: .ptr 0 0 0 :: .ptr 0 0 1 :: .sl (Y0.Mesh.Triangles.map (cL (cI .i64))) :: .i .i64 (Y0.Mesh.Triangles.length : Int) :: .i .i64 Y1 :: .b (decide (Y1 < (Y0.Mesh.Triangles.length : Int))) :: .ref [.sl ((Y0.Mesh.Triangles.getD Y1.toNat default).map (cI .i64))] 0 :: .sl ((Y0.Mesh.Triangles.getD Y1.toNat default).map (cI .i64)) :: .ptr 0 0 0 :: .agg [.sl (Y0.Mesh.Places.map GVector.cells), .sl (Y0.Mesh.Triangles.map (cL (cI .i64)))] :: .sl ((Y0.Mesh.Triangles.getD Y1.toNat default).map (cI .i64)) :: .agg [.f .f32 ((Zb Y0.Mesh (Y0.Mesh.Triangles.getD Y1.toNat default)).X), .f .f32 ((Zb Y0.Mesh (Y0.Mesh.Triangles.getD Y1.toNat default)).Y), .f .f32 ((Zb Y0.Mesh (Y0.Mesh.Triangles.getD Y1.toNat default)).Z)] :: .agg [.f .f32 ((Zb Y0.Mesh (Y0.Mesh.Triangles.getD Y1.toNat default)).X), .f .f32 ((Zb Y0.Mesh (Y0.Mesh.Triangles.getD Y1.toNat default)).Y), .f .f32 ((Zb Y0.Mesh (Y0.Mesh.Triangles.getD Y1.toNat default)).Z)] :: .f .f32 (Zu (Zb Y0.Mesh (Y0.Mesh.Triangles.getD Y1.toNat default))) :: .f .f32 (Zu (Zb Y0.Mesh (Y0.Mesh.Triangles.getD Y1.toNat default))) :: .b (fcmp .gtr .f32 (Zu (Zb Y0.Mesh (Y0.Mesh.Triangles.getD Y1.toNat default))) 0) :: .ptr 0 0 3 :: .f .f32 Y0.Film :: .f .f32 (fop .mul .f32 1056964608 Y0.Film) :: .f .f32 (fneg .f32 (fop .mul .f32 1056964608 Y0.Film)) :: .f .f32 (Zu (Zb Y0.Mesh (Y0.Mesh.Triangles.getD Y1.toNat default))) :: .f .f32 (fop .quo .f32 (fneg .f32 (fop .mul .f32 1056964608 Y0.Film)) (Zu (Zb Y0.Mesh (Y0.Mesh.Triangles.getD Y1.toNat default)))) :: an 98 []))), [.box 42 [.sl (Y0.Mesh.Places.map GVector.cells), .sl (Y0.Mesh.Triangles.map (cL (cI .i64))), .sl (Y0.Springs.map GSpring.cells), .f .f32 Y0.Film, .f .f32 Y0.Bend, .sl (Y0.Weights.map (cF .f32)), .f .f32 Y0.Fall.X, .f .f32 Y0.Fall.Y, .f .f32 Y0.Fall.Z], .box 34 [.own 3], .box 40 [.f .f32 ((Zb Y0.Mesh (Y0.Mesh.Triangles.getD Y1.toNat default)).X), .f .f32 ((Zb Y0.Mesh (Y0.Mesh.Triangles.getD Y1.toNat default)).Y), .f .f32 ((Zb Y0.Mesh (Y0.Mesh.Triangles.getD Y1.toNat default)).Z)], .vec 40 3 (r.map GVector.cells) false]⟩)
def Zci (Y0 : GBody) (Y1 : Int) (Yb : (List GVector)) (Y6 : Int) (Yp : (List GVector)) : St := ⟨.agg [.sl (Y0.Mesh.Places.map GVector.cells), .sl (Y0.Mesh.Triangles.map (cL (cI .i64))), .sl (Y0.Springs.map GSpring.cells), .f .f32 Y0.Film, .f .f32 Y0.Bend, .sl (Y0.Weights.map (cF .f32)), .f .f32 Y0.Fall.X, .f .f32 Y0.Fall.Y, .f .f32 Y0.Fall.Z] :: .ptr 0 0 0 :: .nils :: .ptr 1 0 0 :: .fn 106 [.ptr 1 0 0] :: an 4 (.sl (Y0.Mesh.Places.map GVector.cells) :: .any :: .sl ((Y0.Mesh.Triangles.getD Y1.toNat default).map (cI .i64)) :: .ptr 3 0 0 :: .f .f32 (fop .quo .f32 (fneg .f32 (fop .mul .f32 1056964608 Y0.Film)) (Zu (Zb Y0.Mesh (Y0.Mesh.Triangles.getD Y1.toNat default)))) :: .f .f32 (Zu (Zb Y0.Mesh (Y0.Mesh.Triangles.getD Y1.toNat default))) :: an 8 (.ptr 0 0 0 :: .ptr 0 0 0 :: .sl (Y0.Mesh.Places.map GVector.cells) :: .i .i64 (Y0.Mesh.Places.length : Int) :: .own 2 :: .fn 106 [.ptr 1 0 0] :: .ptr 0 0 2 :: .sl (Y0.Springs.map GSpring.cells) :: an 25 (.ptr 0 0 0 :: .ptr 0 0 0 :: .sl (Y0.Mesh.Places.map GVector.cells) :: .ptr 0 0 0 :: .ptr 0 0 1 :: .sl (Y0.Mesh.Triangles.map (cL (cI .i64))) :: .i .i64 (Y0.Mesh.Triangles.length : Int) :: .i .i64 Y1 :: .b (decide (Y1 < (Y0.Mesh.Triangles.length : Int))) :: .ref [.sl ((Y0.Mesh.Triangles.getD Y1.toNat default).map (cI .i64))] 0 :: .sl ((Y0.Mesh.Triangles.getD Y1.toNat default).map (cI .i64)) :: .ptr 0 0 0 :: .agg [.sl (Y0.Mesh.Places.map GVector.cells), .sl (Y0.Mesh.Triangles.map (cL (cI .i64)))] :: .sl ((Y0.Mesh.Triangles.getD Y1.toNat default).map (cI .i64)) :: .agg [.f .f32 ((Zb Y0.Mesh (Y0.Mesh.Triangles.getD Y1.toNat default)).X), .f .f32 ((Zb Y0.Mesh (Y0.Mesh.Triangles.getD Y1.toNat default)).Y), .f .f32 ((Zb Y0.Mesh (Y0.Mesh.Triangles.getD Y1.toNat default)).Z)] :: .agg [.f .f32 ((Zb Y0.Mesh (Y0.Mesh.Triangles.getD Y1.toNat default)).X), .f .f32 ((Zb Y0.Mesh (Y0.Mesh.Triangles.getD Y1.toNat default)).Y), .f .f32 ((Zb Y0.Mesh (Y0.Mesh.Triangles.getD Y1.toNat default)).Z)] :: .f .f32 (Zu (Zb Y0.Mesh (Y0.Mesh.Triangles.getD Y1.toNat default))) :: .f .f32 (Zu (Zb Y0.Mesh (Y0.Mesh.Triangles.getD Y1.toNat default))) :: .b (fcmp .gtr .f32 (Zu (Zb Y0.Mesh (Y0.Mesh.Triangles.getD Y1.toNat default))) 0) :: .ptr 0 0 3 :: .f .f32 Y0.Film :: .f .f32 (fop .mul .f32 1056964608 Y0.Film) :: .f .f32 (fneg .f32 (fop .mul .f32 1056964608 Y0.Film)) :: .f .f32 (Zu (Zb Y0.Mesh (Y0.Mesh.Triangles.getD Y1.toNat default))) :: .f .f32 (fop .quo .f32 (fneg .f32 (fop .mul .f32 1056964608 Y0.Film)) (Zu (Zb Y0.Mesh (Y0.Mesh.Triangles.getD Y1.toNat default)))) :: .i .i64 Y6 :: an 97 []))), [.box 42 [.sl (Y0.Mesh.Places.map GVector.cells), .sl (Y0.Mesh.Triangles.map (cL (cI .i64))), .sl (Y0.Springs.map GSpring.cells), .f .f32 Y0.Film, .f .f32 Y0.Bend, .sl (Y0.Weights.map (cF .f32)), .f .f32 Y0.Fall.X, .f .f32 Y0.Fall.Y, .f .f32 Y0.Fall.Z], .box 34 [.own 2], .vec 40 3 (Yp.map GVector.cells) false, .box 40 [.f .f32 ((Zb Y0.Mesh (Y0.Mesh.Triangles.getD Y1.toNat default)).X), .f .f32 ((Zb Y0.Mesh (Y0.Mesh.Triangles.getD Y1.toNat default)).Y), .f .f32 ((Zb Y0.Mesh (Y0.Mesh.Triangles.getD Y1.toNat default)).Z)]]⟩
def Z86 : List Bool := (mR false [0, 5, 4, 1, 1, 4, 8, 8, 25, 26, 97])
def Zbd : List Bool := (mR false [0, 5, 4, 1, 1, 4, 8, 8, 25, 25, 98])
theorem Zcj (Y0 : GBody) (Y1 : Int) (Yb : (List GVector)) (hp0 : Y0.Mesh.Places.length ≤ 1073741824) (hp1 : Y0.Mesh.Triangles.length ≤ 1073741824) (hp2 : ∀ t ∈ Y0.Mesh.Triangles, t.length ≤ 1073741824) (hp3 : Y0.Springs.length ≤ 1073741824) (hp4 : Y0.Weights.length ≤ 1073741824) (hp5 : OkBd Y0) (Z3I : 0 ≤ Y1) (Z3J : Yb.length = Y0.Mesh.Places.length) (Z25 : (decide (Y1 < (Y0.Mesh.Triangles.length : Int))) = true) : ∀ (k : Nat) (Y6 : Int) (Yp : (List GVector)) (Z87 : 0 ≤ Y6) (Z88 : Yp.length = Yb.length) (hk : ((3 : Int) - Y6).toNat < k), Lp prog 0 (sub (bodyOf f57) [1, 1, 1, 1, 1, 0, 1, 0, 0, 1, 1, 0, 0, 1, 1, 1, 1, 1, 0, 0]) (Zci Y0 Y1 Yb Y6 Yp) (Z6G Y0 Y1 Yb (Z1f Y0 Y1 Yb k Y6 Yp)).1 (Z6G Y0 Y1 Yb (Z1f Y0 Y1 Yb k Y6 Yp)).2 := by
 intro k
 induction k with
 | zero => intro Y6 Yp Z87 Z88 hk; exact absurd hk (Nat.not_lt_zero _)
 | succ k ih =>
  intro Y6 Yp Z87 Z88 hk
  cases YD : (decide (Y6 < 3)) with
  | true =>
   have YB := of_decide_eq_true YD
   have Y13 : (-9223372036854775808 : Int) ≤ (Y6 + 1) := (by omega)
   have Y14 : (Y6 + 1) ≤ (9223372036854775807 : Int) := (by omega)
   have Y11 : (0 : Int) ≤ (Int.tmod (Y6 + 1) 3) := (by have q := Z2r hp5.e (by assumption) (of_decide_eq_true Z25) (by assumption) YB; omega)
   have YZ : (Int.tmod (Y6 + 1) 3) < ((Y0.Mesh.Triangles.getD Y1.toNat default).length : Int) := (by have q := Z2r hp5.e (by assumption) (of_decide_eq_true Z25) (by assumption) YB; omega)
   have Y15 : (-9223372036854775808 : Int) ≤ (Y6 + 2) := (by omega)
   have Y1a : (Y6 + 2) ≤ (9223372036854775807 : Int) := (by omega)
   have Y17 : (0 : Int) ≤ (Int.tmod (Y6 + 2) 3) := (by have q := Z2r hp5.e (by assumption) (of_decide_eq_true Z25) (by assumption) YB; omega)
   have Y1b : (Int.tmod (Y6 + 2) 3) < ((Y0.Mesh.Triangles.getD Y1.toNat default).length : Int) := (by have q := Z2r hp5.e (by assumption) (of_decide_eq_true Z25) (by assumption) YB; omega)
   have Y1n : (0 : Int) ≤ Y6 := (by assumption)
   have Y1y : Y6 < ((Y0.Mesh.Triangles.getD Y1.toNat default).length : Int) := (by have q := Z2r hp5.e (by assumption) (of_decide_eq_true Z25) (by assumption) YB; omega)
   have Y1o : (0 : Int) ≤ ((Y0.Mesh.Triangles.getD Y1.toNat default).getD (Int.tmod (Y6 + 2) 3).toNat default) := (by have q := Z2r hp5.e (by assumption) (of_decide_eq_true Z25) (by assumption) YB; omega)
   have Y1p : ((Y0.Mesh.Triangles.getD Y1.toNat default).getD (Int.tmod (Y6 + 2) 3).toNat default) < (Y0.Mesh.Places.length : Int) := (by have q := Z2r hp5.e (by assumption) (of_decide_eq_true Z25) (by assumption) YB; omega)
   have Y1i : (0 : Int) ≤ ((Y0.Mesh.Triangles.getD Y1.toNat default).getD (Int.tmod (Y6 + 1) 3).toNat default) := (by have q := Z2r hp5.e (by assumption) (of_decide_eq_true Z25) (by assumption) YB; omega)
   have Y1j : ((Y0.Mesh.Triangles.getD Y1.toNat default).getD (Int.tmod (Y6 + 1) 3).toNat default) < (Y0.Mesh.Places.length : Int) := (by have q := Z2r hp5.e (by assumption) (of_decide_eq_true Z25) (by assumption) YB; omega)
   have Y1k : Yp.length ≤ 1073741824 := (by omega)
   have Y1l : 0 ≤ ((Y0.Mesh.Triangles.getD Y1.toNat default).getD Y6.toNat default) := (by have q := Z2r hp5.e (by assumption) (of_decide_eq_true Z25) (by assumption) YB; omega)
   have Y1m : ((Y0.Mesh.Triangles.getD Y1.toNat default).getD Y6.toNat default) < (Yp.length : Int) := (by have q := Z2r hp5.e (by assumption) (of_decide_eq_true Z25) (by assumption) YB; omega)
   have e : Z1f Y0 Y1 Yb (k + 1) Y6 Yp = (Z1f Y0 Y1 Yb k (Y6 + 1) (Z3p Y0 Y1 Y6 Yp)) := by simp only [Z1f, YD, cond_true]
   rw [e]
   exact nextR E0Ok Z5 [] Z86 [0, 1, 2, 3] (ih (Y6 + 1) (Z3p Y0 Y1 Y6 Yp) (show 0 ≤ (Y6 + 1) from (by omega)) (show (Z3p Y0 Y1 Y6 Yp).length = Yb.length from (by simp_all <;> omega)) (by omega)) (sB YD <| sK [13, 13] <| sI (Y6 + 1) Y13 Y14 <| sC (show (3 : Int) ≠ 0 from (by decide)) <| sQ (Int.tmod (Y6 + 1) 3) <| sG (cI .i64) (Y0.Mesh.Triangles.getD Y1.toNat default) (Int.tmod (Y6 + 1) 3) Y11 YZ <| sI (Y6 + 2) Y15 Y1a <| sC (show (3 : Int) ≠ 0 from (by decide)) <| sQ (Int.tmod (Y6 + 2) 3) <| sG (cI .i64) (Y0.Mesh.Triangles.getD Y1.toNat default) (Int.tmod (Y6 + 2) 3) Y17 Y1b <| sK [17, 17] <| sG (cI .i64) (Y0.Mesh.Triangles.getD Y1.toNat default) Y6 Y1n Y1y <| sG GVector.cells Y0.Mesh.Places ((Y0.Mesh.Triangles.getD Y1.toNat default).getD (Int.tmod (Y6 + 2) 3).toNat default) Y1o Y1p <| sG GVector.cells Y0.Mesh.Places ((Y0.Mesh.Triangles.getD Y1.toNat default).getD (Int.tmod (Y6 + 1) 3).toNat default) Y1i Y1j <| sF (Z41 (Y0.Mesh.Places.getD ((Y0.Mesh.Triangles.getD Y1.toNat default).getD (Int.tmod (Y6 + 2) 3).toNat default).toNat default) (Y0.Mesh.Places.getD ((Y0.Mesh.Triangles.getD Y1.toNat default).getD (Int.tmod (Y6 + 1) 3).toNat default).toNat default)) <| sF (Z8U (Zb Y0.Mesh (Y0.Mesh.Triangles.getD Y1.toNat default)) (Z28 Y0 Y1 Y6)) <| sS (CallSt.frame (Z1X ((Y0.Mesh.Triangles.getD Y1.toNat default).getD Y6.toNat default) (Z2t (Zb Y0.Mesh (Y0.Mesh.Triangles.getD Y1.toNat default)) (Z28 Y0 Y1 Y6)) (fop .quo .f32 (fneg .f32 (fop .mul .f32 1056964608 Y0.Film)) (Zu (Zb Y0.Mesh (Y0.Mesh.Triangles.getD Y1.toNat default)))) Yp Y1k Y1l Y1m) [1, 2] (R := [.box 42 [.sl (Y0.Mesh.Places.map GVector.cells), .sl (Y0.Mesh.Triangles.map (cL (cI .i64))), .sl (Y0.Springs.map GSpring.cells), .f .f32 Y0.Film, .f .f32 Y0.Bend, .sl (Y0.Weights.map (cF .f32)), .f .f32 Y0.Fall.X, .f .f32 Y0.Fall.Y, .f .f32 Y0.Fall.Z], .box 34 [.own 2], .vec 40 3 (Yp.map GVector.cells) false, .box 40 [.f .f32 ((Zb Y0.Mesh (Y0.Mesh.Triangles.getD Y1.toNat default)).X), .f .f32 ((Zb Y0.Mesh (Y0.Mesh.Triangles.getD Y1.toNat default)).Y), .f .f32 ((Zb Y0.Mesh (Y0.Mesh.Triangles.getD Y1.toNat default)).Z)]]) (args' := [.i .i64 ((Y0.Mesh.Triangles.getD Y1.toNat default).getD Y6.toNat default), .agg [.f .f32 ((Z2t (Zb Y0.Mesh (Y0.Mesh.Triangles.getD Y1.toNat default)) (Z28 Y0 Y1 Y6)).X), .f .f32 ((Z2t (Zb Y0.Mesh (Y0.Mesh.Triangles.getD Y1.toNat default)) (Z28 Y0 Y1 Y6)).Y), .f .f32 ((Z2t (Zb Y0.Mesh (Y0.Mesh.Triangles.getD Y1.toNat default)) (Z28 Y0 Y1 Y6)).Z)], .f .f32 (fop .quo .f32 (fneg .f32 (fop .mul .f32 1056964608 Y0.Film)) (Zu (Zb Y0.Mesh (Y0.Mesh.Triangles.getD Y1.toNat default)))), .ptr 1 0 0]) rfl rfl rfl rfl rfl rfl) <| sI (Y6 + 1) Y13 Y14 <| sN) (by kernel_rfl)
  | false =>
   have YB := of_decide_eq_false YD
   have e : Z1f Y0 Y1 Yb (k + 1) Y6 Yp = Yp := by simp only [Z1f, YD, cond_false]
   rw [e]
   exact outR (e := (.exit 4)) E0Ok Z5 [] Zbd [0, 1, 3, 2] (sB YD <| sN) (by kernel_rfl) (by intro h; cases h)
theorem Zbe (Y0 : GBody) (Y1 : Int) (Yb : (List GVector)) : ∀ (k : Nat) (Y6 : Int) (Yp : (List GVector)) (hk : ((3 : Int) - Y6).toNat < k), (Z1f Y0 Y1 Yb k Y6 Yp).length = Yp.length := by
  intro k
  induction k with
  | zero => intro Y6 Yp hk; exact absurd hk (Nat.not_lt_zero _)
  | succ k ih =>
    intro Y6 Yp hk
    cases YD : (decide (Y6 < 3)) with
    | true =>
      have e : Z1f Y0 Y1 Yb (k + 1) Y6 Yp = (Z1f Y0 Y1 Yb k (Y6 + 1) (Z3p Y0 Y1 Y6 Yp)) := by simp only [Z1f, YD, cond_true]
      rw [e, ih (Y6 + 1) (Z3p Y0 Y1 Y6 Yp) (by simp_all <;> omega)]; simp
    | false =>
      have e : Z1f Y0 Y1 Yb (k + 1) Y6 Yp = Yp := by simp only [Z1f, YD, cond_false]
      first | (rw [e]; done) | (rw [e]; rfl)
def Z2C (Y0 : GBody) (Y1 : Int) (Yb : (List GVector)) : (List GVector) := (Z1f Y0 Y1 Yb (((3 : Int) - 0).toNat + 1) 0 Yb)
@[simp] theorem ZeS (Y0 : GBody) (Y1 : Int) (Yb : (List GVector)) : (Z2C Y0 Y1 Yb).length = (Yb : (List GVector)).length := Zbe Y0 Y1 Yb (((3 : Int) - 0).toNat + 1) 0 Yb (by exact Nat.lt_succ_self _)
def Z3q (Y0 : GBody) (Y1 : Int) (Y6 : Int) (Yp : (List GVector)) : (List GVector) := (Zv ((Y0.Mesh.Triangles.getD Y1.toNat default).getD Y6.toNat default) (Z2t (Zb Y0.Mesh (Y0.Mesh.Triangles.getD Y1.toNat default)) (Z28 Y0 Y1 Y6)) 0 Yp)
@[simp] theorem Zfp (Y0 : GBody) (Y1 : Int) (Y6 : Int) (Yp : (List GVector)) : (Z3q Y0 Y1 Y6 Yp).length = Yp.length := by unfold Z3q; simp
def Z1g (Y0 : GBody) (Y1 : Int) (Yb : (List GVector)) : Nat → Int → (List GVector) → (List GVector)
  | 0, _, _ => default
  | k + 1, Y6, Yp => (cond (decide (Y6 < 3))
    (Z1g Y0 Y1 Yb k (Y6 + 1) (Z3q Y0 Y1 Y6 Yp))
    Yp)
def Z6H (Y0 : GBody) (Y1 : Int) (Yb : (List GVector)) (r : (List GVector)) : Ex × St := ((.exit 4), ⟨.agg [.sl (Y0.Mesh.Places.map GVector.cells), .sl (Y0.Mesh.Triangles.map (cL (cI .i64))), .sl (Y0.Springs.map GSpring.cells), .f .f32 Y0.Film, .f .f32 Y0.Bend, .sl (Y0.Weights.map (cF .f32)), .f .f32 Y0.Fall.X, .f .f32 Y0.Fall.Y, .f .f32 Y0.Fall.Z] :: .ptr 0 0 0 :: .nils :: .ptr 1 0 0 :: .fn 106 [.ptr 1 0 0] :: an 4 (.sl (Y0.Mesh.Places.map GVector.cells) :: .any :: .sl ((Y0.Mesh.Triangles.getD Y1.toNat default).map (cI .i64)) :: .ptr 2 0 0 :: .f .f32 0 :: .f .f32 (Zu (Zb Y0.Mesh (Y0.Mesh.Triangles.getD Y1.toNat default))) :: an 8 (.ptr 0 0 0 :: .ptr 0 0 0 :: .sl (Y0.Mesh.Places.map GVector.cells) :: .i .i64 (Y0.Mesh.Places.length : Int) :: .own 3 :: .fn 106 [.ptr 1 0 0] :: .ptr 0 0 2 :: .sl (Y0.Springs.map GSpring.cells) :: an 25 (.ptr 0 0 0 :: .ptr 0 0 0 :: .sl (Y0.Mesh.Places.map GVector.cells) :: .ptr 0 0 0 :: .ptr 0 0 1 :: .sl (Y0.Mesh.Triangles.map (cL (cI .i64))) :: .i .i64 (Y0.Mesh.Triangles.length : Int) :: .i .i64 Y1 :: .b (decide (Y1 < (Y0.Mesh.Triangles.length : Int))) :: .ref [.sl ((Y0.Mesh.Triangles.getD Y1.toNat default).map (cI .i64))] 0 :: .sl ((Y0.Mesh.Triangles.getD Y1.toNat default).map (cI .i64)) :: .ptr 0 0 0 :: .agg [.sl (Y0.Mesh.Places.map GVector.cells), .sl (Y0.Mesh.Triangles.map (cL (cI .i64)))] :: .sl ((Y0.Mesh.Triangles.getD Y1.toNat default).map (cI .i64)) :: .agg [.f .f32 ((Zb Y0.Mesh (Y0.Mesh.Triangles.getD Y1.toNat default)).X), .f .f32 ((Zb Y0.Mesh (Y0.Mesh.Triangles.getD Y1.toNat default)).Y), .f .f32 ((Zb Y0.Mesh (Y0.Mesh.Triangles.getD Y1.toNat default)).Z)] :: .agg [.f .f32 ((Zb Y0.Mesh (Y0.Mesh.Triangles.getD Y1.toNat default)).X), .f .f32 ((Zb Y0.Mesh (Y0.Mesh.Triangles.getD Y1.toNat default)).Y), .f .f32 ((Zb Y0.Mesh (Y0.Mesh.Triangles.getD Y1.toNat default)).Z)] :: .f .f32 (Zu (Zb Y0.Mesh (Y0.Mesh.Triangles.getD Y1.toNat default))) :: .f .f32 (Zu (Zb Y0.Mesh (Y0.Mesh.Triangles.getD Y1.toNat default))) :: .b (fcmp .gtr .f32 (Zu (Zb Y0.Mesh (Y0.Mesh.Triangles.getD Y1.toNat default))) 0) :: an 104 []))), [.box 42 [.sl (Y0.Mesh.Places.map GVector.cells), .sl (Y0.Mesh.Triangles.map (cL (cI .i64))), .sl (Y0.Springs.map GSpring.cells), .f .f32 Y0.Film, .f .f32 Y0.Bend, .sl (Y0.Weights.map (cF .f32)), .f .f32 Y0.Fall.X, .f .f32 Y0.Fall.Y, .f .f32 Y0.Fall.Z], .box 34 [.own 3], .box 40 [.f .f32 ((Zb Y0.Mesh (Y0.Mesh.Triangles.getD Y1.toNat default)).X), .f .f32 ((Zb Y0.Mesh (Y0.Mesh.Triangles.getD Y1.toNat default)).Y), .f .f32 ((Zb Y0.Mesh (Y0.Mesh.Triangles.getD Y1.toNat default)).Z)], .vec 40 3 (r.map GVector.cells) false]⟩)
def Zck (Y0 : GBody) (Y1 : Int) (Yb : (List GVector)) (Y6 : Int) (Yp : (List GVector)) : St := ⟨.agg [.sl (Y0.Mesh.Places.map GVector.cells), .sl (Y0.Mesh.Triangles.map (cL (cI .i64))), .sl (Y0.Springs.map GSpring.cells), .f .f32 Y0.Film, .f .f32 Y0.Bend, .sl (Y0.Weights.map (cF .f32)), .f .f32 Y0.Fall.X, .f .f32 Y0.Fall.Y, .f .f32 Y0.Fall.Z] :: .ptr 0 0 0 :: .nils :: .ptr 1 0 0 :: .fn 106 [.ptr 1 0 0] :: an 4 (.sl (Y0.Mesh.Places.map GVector.cells) :: .any :: .sl ((Y0.Mesh.Triangles.getD Y1.toNat default).map (cI .i64)) :: .ptr 3 0 0 :: .f .f32 0 :: .f .f32 (Zu (Zb Y0.Mesh (Y0.Mesh.Triangles.getD Y1.toNat default))) :: an 8 (.ptr 0 0 0 :: .ptr 0 0 0 :: .sl (Y0.Mesh.Places.map GVector.cells) :: .i .i64 (Y0.Mesh.Places.length : Int) :: .own 2 :: .fn 106 [.ptr 1 0 0] :: .ptr 0 0 2 :: .sl (Y0.Springs.map GSpring.cells) :: an 25 (.ptr 0 0 0 :: .ptr 0 0 0 :: .sl (Y0.Mesh.Places.map GVector.cells) :: .ptr 0 0 0 :: .ptr 0 0 1 :: .sl (Y0.Mesh.Triangles.map (cL (cI .i64))) :: .i .i64 (Y0.Mesh.Triangles.length : Int) :: .i .i64 Y1 :: .b (decide (Y1 < (Y0.Mesh.Triangles.length : Int))) :: .ref [.sl ((Y0.Mesh.Triangles.getD Y1.toNat default).map (cI .i64))] 0 :: .sl ((Y0.Mesh.Triangles.getD Y1.toNat default).map (cI .i64)) :: .ptr 0 0 0 :: .agg [.sl (Y0.Mesh.Places.map GVector.cells), .sl (Y0.Mesh.Triangles.map (cL (cI .i64)))] :: .sl ((Y0.Mesh.Triangles.getD Y1.toNat default).map (cI .i64)) :: .agg [.f .f32 ((Zb Y0.Mesh (Y0.Mesh.Triangles.getD Y1.toNat default)).X), .f .f32 ((Zb Y0.Mesh (Y0.Mesh.Triangles.getD Y1.toNat default)).Y), .f .f32 ((Zb Y0.Mesh (Y0.Mesh.Triangles.getD Y1.toNat default)).Z)] :: .agg [.f .f32 ((Zb Y0.Mesh (Y0.Mesh.Triangles.getD Y1.toNat default)).X), .f .f32 ((Zb Y0.Mesh (Y0.Mesh.Triangles.getD Y1.toNat default)).Y), .f .f32 ((Zb Y0.Mesh (Y0.Mesh.Triangles.getD Y1.toNat default)).Z)] :: .f .f32 (Zu (Zb Y0.Mesh (Y0.Mesh.Triangles.getD Y1.toNat default))) :: .f .f32 (Zu (Zb Y0.Mesh (Y0.Mesh.Triangles.getD Y1.toNat default))) :: .b (fcmp .gtr .f32 (Zu (Zb Y0.Mesh (Y0.Mesh.Triangles.getD Y1.toNat default))) 0) :: an 6 (.i .i64 Y6 :: an 97 [])))), [.box 42 [.sl (Y0.Mesh.Places.map GVector.cells), .sl (Y0.Mesh.Triangles.map (cL (cI .i64))), .sl (Y0.Springs.map GSpring.cells), .f .f32 Y0.Film, .f .f32 Y0.Bend, .sl (Y0.Weights.map (cF .f32)), .f .f32 Y0.Fall.X, .f .f32 Y0.Fall.Y, .f .f32 Y0.Fall.Z], .box 34 [.own 2], .vec 40 3 (Yp.map GVector.cells) false, .box 40 [.f .f32 ((Zb Y0.Mesh (Y0.Mesh.Triangles.getD Y1.toNat default)).X), .f .f32 ((Zb Y0.Mesh (Y0.Mesh.Triangles.getD Y1.toNat default)).Y), .f .f32 ((Zb Y0.Mesh (Y0.Mesh.Triangles.getD Y1.toNat default)).Z)]]⟩
def Z89 : List Bool := (mR false [0, 5, 4, 1, 1, 4, 8, 8, 25, 19, 6, 1, 97])
def Zbf : List Bool := (mR false [0, 5, 4, 1, 1, 4, 8, 8, 25, 19, 104])
theorem Zcl (Y0 : GBody) (Y1 : Int) (Yb : (List GVector)) (hp0 : Y0.Mesh.Places.length ≤ 1073741824) (hp1 : Y0.Mesh.Triangles.length ≤ 1073741824) (hp2 : ∀ t ∈ Y0.Mesh.Triangles, t.length ≤ 1073741824) (hp3 : Y0.Springs.length ≤ 1073741824) (hp4 : Y0.Weights.length ≤ 1073741824) (hp5 : OkBd Y0) (Z3I : 0 ≤ Y1) (Z3J : Yb.length = Y0.Mesh.Places.length) (Z26 : (decide (Y1 < (Y0.Mesh.Triangles.length : Int))) = true) : ∀ (k : Nat) (Y6 : Int) (Yp : (List GVector)) (Z8a : 0 ≤ Y6) (Z8b : Yp.length = Yb.length) (hk : ((3 : Int) - Y6).toNat < k), Lp prog 0 (sub (bodyOf f57) [1, 1, 1, 1, 1, 0, 1, 0, 0, 1, 1, 0, 0, 1, 1, 1, 1, 1, 0, 0]) (Zck Y0 Y1 Yb Y6 Yp) (Z6H Y0 Y1 Yb (Z1g Y0 Y1 Yb k Y6 Yp)).1 (Z6H Y0 Y1 Yb (Z1g Y0 Y1 Yb k Y6 Yp)).2 := by
 intro k
 induction k with
 | zero => intro Y6 Yp Z8a Z8b hk; exact absurd hk (Nat.not_lt_zero _)
 | succ k ih =>
  intro Y6 Yp Z8a Z8b hk
  cases YD : (decide (Y6 < 3)) with
  | true =>
   have YB := of_decide_eq_true YD
   have Y13 : (-9223372036854775808 : Int) ≤ (Y6 + 1) := (by omega)
   have Y14 : (Y6 + 1) ≤ (9223372036854775807 : Int) := (by omega)
   have Y11 : (0 : Int) ≤ (Int.tmod (Y6 + 1) 3) := (by have q := Z2r hp5.e (by assumption) (of_decide_eq_true Z26) (by assumption) YB; omega)
   have YZ : (Int.tmod (Y6 + 1) 3) < ((Y0.Mesh.Triangles.getD Y1.toNat default).length : Int) := (by have q := Z2r hp5.e (by assumption) (of_decide_eq_true Z26) (by assumption) YB; omega)
   have Y15 : (-9223372036854775808 : Int) ≤ (Y6 + 2) := (by omega)
   have Y1a : (Y6 + 2) ≤ (9223372036854775807 : Int) := (by omega)
   have Y17 : (0 : Int) ≤ (Int.tmod (Y6 + 2) 3) := (by have q := Z2r hp5.e (by assumption) (of_decide_eq_true Z26) (by assumption) YB; omega)
   have Y1b : (Int.tmod (Y6 + 2) 3) < ((Y0.Mesh.Triangles.getD Y1.toNat default).length : Int) := (by have q := Z2r hp5.e (by assumption) (of_decide_eq_true Z26) (by assumption) YB; omega)
   have Y1n : (0 : Int) ≤ Y6 := (by assumption)
   have Y1y : Y6 < ((Y0.Mesh.Triangles.getD Y1.toNat default).length : Int) := (by have q := Z2r hp5.e (by assumption) (of_decide_eq_true Z26) (by assumption) YB; omega)
   have Y1o : (0 : Int) ≤ ((Y0.Mesh.Triangles.getD Y1.toNat default).getD (Int.tmod (Y6 + 2) 3).toNat default) := (by have q := Z2r hp5.e (by assumption) (of_decide_eq_true Z26) (by assumption) YB; omega)
   have Y1p : ((Y0.Mesh.Triangles.getD Y1.toNat default).getD (Int.tmod (Y6 + 2) 3).toNat default) < (Y0.Mesh.Places.length : Int) := (by have q := Z2r hp5.e (by assumption) (of_decide_eq_true Z26) (by assumption) YB; omega)
   have Y1i : (0 : Int) ≤ ((Y0.Mesh.Triangles.getD Y1.toNat default).getD (Int.tmod (Y6 + 1) 3).toNat default) := (by have q := Z2r hp5.e (by assumption) (of_decide_eq_true Z26) (by assumption) YB; omega)
   have Y1j : ((Y0.Mesh.Triangles.getD Y1.toNat default).getD (Int.tmod (Y6 + 1) 3).toNat default) < (Y0.Mesh.Places.length : Int) := (by have q := Z2r hp5.e (by assumption) (of_decide_eq_true Z26) (by assumption) YB; omega)
   have Y1k : Yp.length ≤ 1073741824 := (by omega)
   have Y1l : 0 ≤ ((Y0.Mesh.Triangles.getD Y1.toNat default).getD Y6.toNat default) := (by have q := Z2r hp5.e (by assumption) (of_decide_eq_true Z26) (by assumption) YB; omega)
   have Y1m : ((Y0.Mesh.Triangles.getD Y1.toNat default).getD Y6.toNat default) < (Yp.length : Int) := (by have q := Z2r hp5.e (by assumption) (of_decide_eq_true Z26) (by assumption) YB; omega)
   have e : Z1g Y0 Y1 Yb (k + 1) Y6 Yp = (Z1g Y0 Y1 Yb k (Y6 + 1) (Z3q Y0 Y1 Y6 Yp)) := by simp only [Z1g, YD, cond_true]
   rw [e]
   exact nextR E0Ok Z5 [] Z89 [0, 1, 2, 3] (ih (Y6 + 1) (Z3q Y0 Y1 Y6 Yp) (show 0 ≤ (Y6 + 1) from (by omega)) (show (Z3q Y0 Y1 Y6 Yp).length = Yb.length from (by simp_all <;> omega)) (by omega)) (sB YD <| sK [13, 13] <| sI (Y6 + 1) Y13 Y14 <| sC (show (3 : Int) ≠ 0 from (by decide)) <| sQ (Int.tmod (Y6 + 1) 3) <| sG (cI .i64) (Y0.Mesh.Triangles.getD Y1.toNat default) (Int.tmod (Y6 + 1) 3) Y11 YZ <| sI (Y6 + 2) Y15 Y1a <| sC (show (3 : Int) ≠ 0 from (by decide)) <| sQ (Int.tmod (Y6 + 2) 3) <| sG (cI .i64) (Y0.Mesh.Triangles.getD Y1.toNat default) (Int.tmod (Y6 + 2) 3) Y17 Y1b <| sK [17, 17] <| sG (cI .i64) (Y0.Mesh.Triangles.getD Y1.toNat default) Y6 Y1n Y1y <| sG GVector.cells Y0.Mesh.Places ((Y0.Mesh.Triangles.getD Y1.toNat default).getD (Int.tmod (Y6 + 2) 3).toNat default) Y1o Y1p <| sG GVector.cells Y0.Mesh.Places ((Y0.Mesh.Triangles.getD Y1.toNat default).getD (Int.tmod (Y6 + 1) 3).toNat default) Y1i Y1j <| sF (Z41 (Y0.Mesh.Places.getD ((Y0.Mesh.Triangles.getD Y1.toNat default).getD (Int.tmod (Y6 + 2) 3).toNat default).toNat default) (Y0.Mesh.Places.getD ((Y0.Mesh.Triangles.getD Y1.toNat default).getD (Int.tmod (Y6 + 1) 3).toNat default).toNat default)) <| sF (Z8U (Zb Y0.Mesh (Y0.Mesh.Triangles.getD Y1.toNat default)) (Z28 Y0 Y1 Y6)) <| sS (CallSt.frame (Z1X ((Y0.Mesh.Triangles.getD Y1.toNat default).getD Y6.toNat default) (Z2t (Zb Y0.Mesh (Y0.Mesh.Triangles.getD Y1.toNat default)) (Z28 Y0 Y1 Y6)) 0 Yp Y1k Y1l Y1m) [1, 2] (R := [.box 42 [.sl (Y0.Mesh.Places.map GVector.cells), .sl (Y0.Mesh.Triangles.map (cL (cI .i64))), .sl (Y0.Springs.map GSpring.cells), .f .f32 Y0.Film, .f .f32 Y0.Bend, .sl (Y0.Weights.map (cF .f32)), .f .f32 Y0.Fall.X, .f .f32 Y0.Fall.Y, .f .f32 Y0.Fall.Z], .box 34 [.own 2], .vec 40 3 (Yp.map GVector.cells) false, .box 40 [.f .f32 ((Zb Y0.Mesh (Y0.Mesh.Triangles.getD Y1.toNat default)).X), .f .f32 ((Zb Y0.Mesh (Y0.Mesh.Triangles.getD Y1.toNat default)).Y), .f .f32 ((Zb Y0.Mesh (Y0.Mesh.Triangles.getD Y1.toNat default)).Z)]]) (args' := [.i .i64 ((Y0.Mesh.Triangles.getD Y1.toNat default).getD Y6.toNat default), .agg [.f .f32 ((Z2t (Zb Y0.Mesh (Y0.Mesh.Triangles.getD Y1.toNat default)) (Z28 Y0 Y1 Y6)).X), .f .f32 ((Z2t (Zb Y0.Mesh (Y0.Mesh.Triangles.getD Y1.toNat default)) (Z28 Y0 Y1 Y6)).Y), .f .f32 ((Z2t (Zb Y0.Mesh (Y0.Mesh.Triangles.getD Y1.toNat default)) (Z28 Y0 Y1 Y6)).Z)], .f .f32 0, .ptr 1 0 0]) rfl rfl rfl rfl rfl rfl) <| sI (Y6 + 1) Y13 Y14 <| sN) (by kernel_rfl)
  | false =>
   have YB := of_decide_eq_false YD
   have e : Z1g Y0 Y1 Yb (k + 1) Y6 Yp = Yp := by simp only [Z1g, YD, cond_false]
   rw [e]
   exact outR (e := (.exit 4)) E0Ok Z5 [] Zbf [0, 1, 3, 2] (sB YD <| sN) (by kernel_rfl) (by intro h; cases h)
end Go.Ab
