/- The functions of this seat as plain Lean, and that the program's are these. Printed by a program of the prover's own. -/
import Derived.Test.YtpndflbllggeiaaGreatB6
set_option linter.unusedVariables false
set_option linter.unusedSimpArgs false
set_option maxRecDepth 100000
namespace Go.Ab
open Go.RowKit Go.Proofs.Tryz
def ZY (Y7 : Gm) (Y1 : Int) (Y8 : (List (Gedge × List Int))) (Yi : (List Gedge)) : (List (Gedge × List Int)) × (List Gedge) := (Zj Y7 Y1 Y8 Yi (((3 : Int) - 0).toNat + 1) 0 Y8 Yi)
theorem ZhT (m : Gm) (i : Int) (b0 : List (Gedge × List Int)) (l0 : List Gedge) (h0 : 0 ≤ i) : ∀ (k : Nat) (x : Int) (b : List (Gedge × List Int)) (l : List Gedge), 0 ≤ x → (3 - x).toNat < k → x ≤ 3 → (l.length : Int) ≤ 3 * i + x → (∀ y ∈ b, (y.2.length : Int) ≤ 3 * i + x) → ((Zj m i b0 l0 k x b l).2.length : Int) ≤ 3 * (i + 1) ∧ ∀ y ∈ (Zj m i b0 l0 k x b l).1, (y.2.length : Int) ≤ 3 * (i + 1) := by
  intro k
  induction k with
  | zero => intro x b l _ hk; exact absurd hk (Nat.not_lt_zero _)
  | succ k ih =>
    intro x b l hx hk h3 hl hb
    rw [Zj]
    cases hc : decide (x < 3) with
    | false => rw [cond_false]; exact ⟨by simp only; omega, fun y hy => by have := hb y hy; omega⟩
    | true =>
      have hc' := odt hc
      rw [cond_true]
      cases mhas b (Z4 m i x) with
      | true =>
        rw [cond_true]
        cases (((b.getD (midx b (Z4 m i x)) default).2.length : Int) == 0) with
        | true => rw [cond_true]; exact ih _ _ _ (by omega) (by omega) (by omega) (by simp only [List.length_append, List.length_cons, List.length_nil]; omega) (mput_inv hb (by omega) (by omega))
        | false => rw [cond_false]; exact ih _ _ _ (by omega) (by omega) (by omega) (by omega) (mput_inv hb (by omega) (by omega))
      | false => rw [cond_false]; exact ih _ _ _ (by omega) (by omega) (by omega) (by simp only [List.length_append, List.length_cons, List.length_nil]; omega) (mnew_inv hb (by omega) (by omega))
theorem Zhd (m : Gm) (i : Int) (b : List (Gedge × List Int)) (l : List Gedge) (h0 : 0 ≤ i) (hl : (l.length : Int) ≤ 3 * i) (hb : ∀ y ∈ b, (y.2.length : Int) ≤ 3 * i) :
    ((ZY m i b l).2.length : Int) ≤ 3 * (i + 1) ∧ ∀ y ∈ (ZY m i b l).1, (y.2.length : Int) ≤ 3 * (i + 1) :=
  ZhT m i b l h0 _ 0 b l (Int.le_refl 0) (by omega) (by omega) (by omega) (fun y hy => by have := hb y hy; omega)
def Z1f (Y7 : Gm) : Nat → Int → (List (Gedge × List Int)) → (List Gedge) → (List (Gedge × List Int)) × (List Gedge)
  | 0, _, _, _ => default
  | k + 1, Y1, Y8, Yi => (cond (decide (Y1 < (Y7.Tr.length : Int)))
    (Z1f Y7 k (Y1 + 1) ((ZY Y7 Y1 Y8 Yi).1) ((ZY Y7 Y1 Y8 Yi).2))
    (Y8, Yi))
def Z57 (Y7 : Gm) (r : (List (Gedge × List Int)) × (List Gedge)) : Ex × St := ((.exit 0), ⟨.agg [.sl (Y7.Pq.map Gv.c), .sl (Y7.Tr.map (cL (cI .i64)))] :: .ptr 0 0 0 :: .any :: .nils :: .mp 1 :: .own 2 :: an 4 (.mp 1 :: .any :: .ptr 0 0 1 :: .sl (Y7.Tr.map (cL (cI .i64))) :: an 43 []), [.box 38 [.sl (Y7.Pq.map Gv.c), .sl (Y7.Tr.map (cL (cI .i64)))], .mapN 2 (mapC Gedge.pr (cI .i64) r.1) none, .vec 167 2 (r.2.map Gedge.cells) false]⟩)
def Z6S (Y7 : Gm) (Y1 : Int) (Y8 : (List (Gedge × List Int))) (Yi : (List Gedge)) : St := ⟨.agg [.sl (Y7.Pq.map Gv.c), .sl (Y7.Tr.map (cL (cI .i64)))] :: .ptr 0 0 0 :: .any :: .nils :: .mp 1 :: .own 2 :: an 4 (.mp 1 :: .any :: .ptr 0 0 1 :: .sl (Y7.Tr.map (cL (cI .i64))) :: .i .i64 (Y7.Tr.length : Int) :: .i .i64 Y1 :: an 41 []), [.box 38 [.sl (Y7.Pq.map Gv.c), .sl (Y7.Tr.map (cL (cI .i64)))], .mapN 2 (mapC Gedge.pr (cI .i64) Y8) none, .vec 167 2 (Yi.map Gedge.cells) false]⟩
theorem ZaS (Y7 : Gm) (hp0 : Y7.Pq.length ≤ 1073741824) (hp1 : Y7.Tr.length ≤ 1073741824) (hp2 : ∀ t ∈ Y7.Tr, t.length ≤ 1073741824) (hp3 : OkE Y7.Pq.length Y7.Tr) : ∀ (k : Nat) (Y1 : Int) (Y8 : (List (Gedge × List Int))) (Yi : (List Gedge)) (ZX : 0 ≤ Y1) (Z4c : (Yi.length : Int) ≤ 3 * Y1) (Z3w : ∀ y ∈ Y8, (y.2.length : Int) ≤ 3 * Y1) (hk : ((Y7.Tr.length : Int) - Y1).toNat < k), Lp prog 0 (sub (bodyOf f141) [1, 1, 0, 1, 0, 0]) (Z6S Y7 Y1 Y8 Yi) (Z57 Y7 (Z1f Y7 k Y1 Y8 Yi)).1 (Z57 Y7 (Z1f Y7 k Y1 Y8 Yi)).2 := by
 intro k
 induction k with
 | zero => intro Y1 Y8 Yi ZX Z4c Z3w hk; exact absurd hk (Nat.not_lt_zero _)
 | succ k ih =>
  intro Y1 Y8 Yi ZX Z4c Z3w hk
  cases Yj : (decide (Y1 < (Y7.Tr.length : Int))) with
  | true =>
   have YM := odt Yj
   have YS : (0 : Int) ≤ Y1 := (by assumption)
   have YT : Y1 < (Y7.Tr.length : Int) := (by assumption)
   have YY : (-9223372036854775808 : Int) ≤ (Y1 + 1) := (by omega)
   have YZ : (Y1 + 1) ≤ (9223372036854775807 : Int) := (by omega)
   have e : Z1f Y7 (k + 1) Y1 Y8 Yi = (Z1f Y7 k (Y1 + 1) ((ZY Y7 Y1 Y8 Yi).1) ((ZY Y7 Y1 Y8 Yi).2)) := by simp only [Z1f, Yj, cond_true]
   rw [e]
   exact nextR E0Ok Z5 [] (mR false [0, 2, 1, 3, 4, 1, 1, 4, 41]) [0, 1, 2] (ih (Y1 + 1) ((ZY Y7 Y1 Y8 Yi).1) ((ZY Y7 Y1 Y8 Yi).2) (show 0 ≤ (Y1 + 1) from (by omega)) (show (((ZY Y7 Y1 Y8 Yi).2).length : Int) ≤ 3 * (Y1 + 1) from (by exact (Zhd _ _ _ _ ZX (by assumption) (by assumption)).1)) (show ∀ y ∈ ((ZY Y7 Y1 Y8 Yi).1), (y.2.length : Int) ≤ 3 * (Y1 + 1) from (by exact (Zhd _ _ _ _ ZX (by assumption) (by assumption)).2)) (by omega)) (sB Yj <| sG (cL (cI .i64)) Y7.Tr Y1 YS YT <| sL (mR false [0, 2, 1, 5, 2, 1, 1, 9, 36]) 3 (lp_val (Z56 Y7 Y1 Y8 Yi) (x := (ZY Y7 Y1 Y8 Yi)) (ZaR Y7 Y1 Y8 Yi hp0 hp1 hp2 hp3 ZX Z4c Z3w Yj (((3 : Int) - 0).toNat + 1) 0 Y8 Yi (show 0 ≤ 0 from (by omega)) (show (Yi.length : Int) ≤ (Yi.length : Int) + 0 from (by omega)) (show ∀ y ∈ Y8, (y.2.length : Int) ≤ 3 * Y1 + 0 from (by intro y hy; have q := Z3w y hy; omega)) (Nat.lt_succ_self _)) rfl) <| sI (Y1 + 1) YY YZ <| sN) (by kernel_rfl)
  | false =>
   have YM := odf Yj
   have e : Z1f Y7 (k + 1) Y1 Y8 Yi = (Y8, Yi) := by simp only [Z1f, Yj, cond_false]
   rw [e]
   exact outR (e := (.exit 0)) E0Ok Z5 [] (mR false [0, 2, 1, 3, 4, 1, 1, 2, 43]) [0, 1, 2] (sB Yj <| sN) (by kernel_rfl) (by intro h; cases h)
def Z19 (Y7 : Gm) : (List (Gedge × List Int)) × (List Gedge) := (Z1f Y7 (((Y7.Tr.length : Int) - 0).toNat + 1) 0 ([] : (List (Gedge × List Int))) ([] : List Gedge))
theorem Zi0 (m : Gm) (k : Nat) (i : Int) (b : List (Gedge × List Int)) (l : List Gedge) (h0 : 0 ≤ i) : Z1f m (k + 1) i b l = cond (decide (i < (m.Tr.length : Int))) (Z1f m k (i + 1) (stT (b, l) (m.Tr.getD i.toNat default) i).1 (stT (b, l) (m.Tr.getD i.toNat default) i).2) (b, l) := by
  have st : ∀ (x : Int) (k : Nat) (b : List (Gedge × List Int)) (l : List Gedge), x < 3 → Zj m i b l (k + 1) x b l = Zj m i b l (k + 1) x b l := fun _ _ _ _ _ => rfl
  have one : ∀ (b0 : List (Gedge × List Int)) (l0 : List Gedge) (k : Nat) (x : Int) (s : List (Gedge × List Int) × List Gedge), x < 3 → Zj m i b0 l0 (k + 1) x s.1 s.2 = Zj m i b0 l0 k (x + 1) (stE s (Z4 m i x) i).1 (stE s (Z4 m i x) i).2 := by
    intro b0 l0 k x s hx
    rw [Zj, decide_eq_true hx, cond_true]
    unfold stE
    cases mhas s.1 (Z4 m i x) with
    | true =>
      rw [cond_true, cond_true]
      cases (((s.1.getD (midx s.1 (Z4 m i x)) default).2.length : Int) == 0) <;> rfl
    | false => rfl
  have tri : ZY m i b l = stT (b, l) (m.Tr.getD i.toNat default) i := by
    unfold ZY
    show Zj m i b l 4 0 (b, l).1 (b, l).2 = _
    rw [one b l 3 0 (b, l) (by omega), one b l 2 (0 + 1) _ (by omega), one b l 1 (0 + 1 + 1) _ (by omega), Zj]
    show cond (decide ((3 : Int) < 3)) _ _ = _
    rw [decide_eq_false (by omega), cond_false]
    unfold Z4 stT
    simp only [ZhD]
    rfl
  rw [Z1f, tri]
theorem ZfG (m : Gm) (ok : OkE m.Pq.length m.Tr) : ETab m.Tr m.Tr.length (Z19 m) := by
  unfold Z19
  exact ETab.loop ok (Zi0 m) _ 0 ([], []) (Nat.zero_le _) (ETab.nil _) (by omega)
theorem ZhU (m : Gm) (ok : OkE m.Pq.length m.Tr) : (Z19 m).2.length ≤ 4096 := by
  have h := congrArg List.length ((ZfG m ok).sorted ok)
  rw [length_sortE] at h
  rw [h]; exact edgL_len ok
end Go.Ab
namespace Go.Proofs
open Go.Shelf
def Tryz.laysF0n6_ren : Go.Shelf.Ren := ⟨fun | 6 => 150 | 15 => 154 | 14 => 153 | 28 => 164 | 29 => 165 | 20 => 156 | 21 => 157 | 22 => 158 | 23 => 159 | 24 => 160 | 25 => 161 | 26 => 162 | 27 => 163 | 46 => 167 | 47 => 168 | 48 => 169 | 49 => 170 | 50 => 171 | 57 => 173 | n => n, fun | 22 => 163 | 24 => 167 | 25 => 175 | 3 => 3 | 39 => 178 | 0 => 0 | 53 => 189 | 55 => 191 | 4 => 4 | 46 => 182 | 45 => 181 | 50 => 186 | 5 => 5 | 9 => 9 | 66 => 193 | 70 => 197 | 76 => 200 | 77 => 201 | n => n, fun | n => n⟩
theorem Tryz.laysF0n6 : Go.Proofs.SlLaysF0.n6 Tryz.prog Tryz.laysF0n6_ren := {
  mixed := by kernel_rfl
  f6 := ⟨Tryz.f150.name, by decide, Tryz.func150.trans (congrArg some (by kernel_rfl))⟩
  f14 := ⟨Tryz.f153.name, by decide, Tryz.func153.trans (congrArg some (by kernel_rfl))⟩
  f15 := Tryz.func154.trans (congrArg some (by kernel_rfl))
  f20 := ⟨Tryz.f156.name, by decide, Tryz.func156.trans (congrArg some (by kernel_rfl))⟩
  f21 := ⟨Tryz.f157.name, by decide, Tryz.func157.trans (congrArg some (by kernel_rfl))⟩
  f22 := ⟨Tryz.f158.name, by decide, Tryz.func158.trans (congrArg some (by kernel_rfl))⟩
  f23 := ⟨Tryz.f159.name, by decide, Tryz.func159.trans (congrArg some (by kernel_rfl))⟩
  f24 := ⟨Tryz.f160.name, by decide, Tryz.func160.trans (congrArg some (by kernel_rfl))⟩
  f25 := ⟨Tryz.f161.name, by decide, Tryz.func161.trans (congrArg some (by kernel_rfl))⟩
  f26 := ⟨Tryz.f162.name, by decide, Tryz.func162.trans (congrArg some (by kernel_rfl))⟩
  f27 := ⟨Tryz.f163.name, by decide, Tryz.func163.trans (congrArg some (by kernel_rfl))⟩
  f28 := Tryz.func164.trans (congrArg some (by kernel_rfl))
  f29 := Tryz.func165.trans (congrArg some (by kernel_rfl))
  f46 := ⟨Tryz.f167.name, by decide, Tryz.func167.trans (congrArg some (by kernel_rfl))⟩
  f47 := Tryz.func168.trans (congrArg some (by kernel_rfl))
  f48 := Tryz.func169.trans (congrArg some (by kernel_rfl))
  f49 := ⟨Tryz.f170.name, by decide, Tryz.func170.trans (congrArg some (by kernel_rfl))⟩
  f50 := ⟨Tryz.f171.name, by decide, Tryz.func171.trans (congrArg some (by kernel_rfl))⟩
  f57 := ⟨Tryz.f173.name, by decide, Tryz.func173.trans (congrArg some (by kernel_rfl))⟩
  t0 := Tryz.underlying0
  a0 := Tryz.isAgg0
  z0 := Tryz.sizeOf0
  v0 := Tryz.zeroValue0
  t3 := Tryz.underlying3
  a3 := Tryz.isAgg3
  z3 := Tryz.sizeOf3
  v3 := Tryz.zeroValue3
  t4 := Tryz.underlying4
  a4 := Tryz.isAgg4
  z4 := Tryz.sizeOf4
  v4 := Tryz.zeroValue4
  t5 := Tryz.underlying5
  a5 := Tryz.isAgg5
  z5 := Tryz.sizeOf5
  v5 := Tryz.zeroValue5
  t9 := Tryz.underlying9
  a9 := Tryz.isAgg9
  z9 := Tryz.sizeOf9
  v9 := Tryz.zeroValue9
  t22 := Tryz.underlying163
  a22 := Tryz.isAgg163
  z22 := Tryz.sizeOf163
  v22 := Tryz.zeroValue163
  t25 := Tryz.underlying175
  a25 := Tryz.isAgg175
  z25 := Tryz.sizeOf175
  v25 := Tryz.zeroValue175
  t39 := Tryz.underlying178
  a39 := Tryz.isAgg178
  z39 := Tryz.sizeOf178
  v39 := Tryz.zeroValue178
  t45 := Tryz.underlying181
  a45 := Tryz.isAgg181
  z45 := Tryz.sizeOf181
  v45 := Tryz.zeroValue181
  t46 := Tryz.underlying182
  a46 := Tryz.isAgg182
  z46 := Tryz.sizeOf182
  v46 := Tryz.zeroValue182
  t50 := Tryz.underlying186
  a50 := Tryz.isAgg186
  z50 := Tryz.sizeOf186
  v50 := Tryz.zeroValue186
  t53 := Tryz.underlying189
  a53 := Tryz.isAgg189
  z53 := Tryz.sizeOf189
  v53 := Tryz.zeroValue189
  t55 := Tryz.underlying191
  a55 := Tryz.isAgg191
  z55 := Tryz.sizeOf191
  v55 := Tryz.zeroValue191
  t66 := Tryz.underlying193
  a66 := Tryz.isAgg193
  z66 := Tryz.sizeOf193
  v66 := Tryz.zeroValue193
  t70 := Tryz.underlying197
  a70 := Tryz.isAgg197
  z70 := Tryz.sizeOf197
  v70 := Tryz.zeroValue197
  t76 := Tryz.underlying200
  a76 := Tryz.isAgg200
  z76 := Tryz.sizeOf200
  v76 := Tryz.zeroValue200
  t77 := Tryz.underlying201
  a77 := Tryz.isAgg201
  z77 := Tryz.sizeOf201
  v77 := Tryz.zeroValue201 }
end Go.Proofs
namespace Go.Ab
open Go.RowKit Go.Proofs.Tryz
theorem Zi8 (x y : Int) : Z1P x y = if x < y then -1 else if x > y then 1 else 0 := by
  unfold Z1P Z3v
  simp only [bne_self_eq_false, cond_false]
  by_cases h1 : x < y
  · simp [h1]
  · by_cases h2 : x > y <;> simp [h1, h2]
theorem Zi9 (a b : Gedge) : Z6K a b = cmpP a.pr b.pr := by
  unfold Z6K Z29 Z2A cmpP Gedge.pr
  show (match Zp [a.e0, a.e1] [b.e0, b.e1] 3 0 with | .inl r1 => r1 | .inr r1 => cond (decide (((2 : Nat) : Int) < ((2 : Nat) : Int))) (-1) 0) = _
  simp only [Zp, Zi8, List.length_cons, List.length_nil]
  by_cases h1 : a.e0 < b.e0
  · simp [h1]
  · by_cases h2 : a.e0 > b.e0
    · simp [h1, h2]
    · by_cases h3 : a.e1 < b.e1
      · simp [h1, h2, h3]
      · by_cases h4 : a.e1 > b.e1 <;> simp [h1, h2, h3, h4]
def Z5D (l : List Gedge) : List Gedge := sortE Gedge.pr l
theorem Zbh (l : List Gedge) (h : l.length ≤ 1073741824) : CallSt prog 150 [.vec 167 2 (l.map Gedge.cells) false] [.own 0, .fn 151 []] (.tup []) [.vec 167 2 ((Z5D l).map Gedge.cells) false] :=
  sort_row laysF0n6 isAgg167 sizeOf167 Gedge.pr Gedge.inj Gedge.cells (fun _ => rfl) 167 151 ⟨_, func150, rfl, by kernel_rfl⟩ (Z9y default default).1
    (fun a b W => ((Z9y a b).2 W #[keyV a.pr, keyV b.pr] ⟨rfl, fun j c e => by match j, e with | 0, e => cases e; exact Rep.agg _ _ rfl (fun i c e => by match i, e with | 0, e => cases e; exact .i _ _ | 1, e => cases e; exact .i _ _) | 1, e => cases e; exact Rep.agg _ _ rfl (fun i c e => by match i, e with | 0, e => cases e; exact .i _ _ | 1, e => cases e; exact .i _ _)⟩).mono fun e w' ⟨v, μ', he, hb, _, hr⟩ => by
      cases hr; rw [Zi9] at he; exact ⟨he, hb⟩) l h
def Z1 (Y7 : Gm) : (List (Gedge × List Int)) × (List Gedge) := ((Z19 Y7).1, (Z5D ((Z19 Y7).2)))
theorem Zbi (m : Gm) (ok : OkE m.Pq.length m.Tr) : (Z1 m).2 = edgL m.Pq.length m.Tr := (ZfG m ok).sorted ok
theorem ZgI (m : Gm) (ok : OkE m.Pq.length m.Tr) {e : Gedge} (he : e ∈ (Z1 m).2) : mhas (Z1 m).1 e = true ∧ ((Z1 m).1.getD (midx (Z1 m).1 e) default).2 = idxP m.Tr e.e0 e.e1 := by
  rw [Zbi m ok] at he
  have h := (ZfG m ok).at ok he
  exact ⟨h.1, h.2.trans (idxE_eq ok (mem_edgL.1 he).1.2.1)⟩
theorem ZhE (m : Gm) (ok : OkE m.Pq.length m.Tr) : (Z1 m).2.length ≤ 4096 := by
  rw [Zbi m ok]; exact edgL_len ok
theorem ZdG (m : Gm) (ok : OkE m.Pq.length m.Tr) {i : Int} (h0 : 0 ≤ i) (hi : i < ((Z1 m).2.length : Int)) : (Z1 m).2.getD i.toNat default ∈ (Z1 m).2 := by
  have hn : i.toNat < (Z1 m).2.length := by omega
  rw [List.getD_eq_getElem?_getD, List.getElem?_eq_getElem hn]; exact List.getElem_mem hn
theorem Z8t (m : Gm) (ok : OkE m.Pq.length m.Tr) {i : Int} (h0 : 0 ≤ i) (hi : i < ((Z1 m).2.length : Int)) :
    0 ≤ ((Z1 m).2.getD i.toNat default).e0 ∧ ((Z1 m).2.getD i.toNat default).e0 < ((Z1 m).2.getD i.toNat default).e1 ∧ ((Z1 m).2.getD i.toNat default).e1 < (m.Pq.length : Int) ∧ (m.Pq.length : Int) ≤ 64 ∧ ((Z1 m).2.length : Int) ≤ 4096 := by
  have hl := ZhE m ok
  have h64 := ok.1
  have hm := ZdG m ok h0 hi
  rw [Zbi m ok] at hm
  have hb := edgL_at hm
  rw [← Zbi m ok] at hb
  exact ⟨hb.1, hb.2.1, hb.2.2, by omega, by omega⟩
theorem ZbI (m : Gm) (ok : OkE m.Pq.length m.Tr) {i : Int} (h0 : 0 ≤ i) (hi : i < ((Z1 m).2.length : Int))
    (h2 : ((((Z1 m).1.getD (midx (Z1 m).1 ((Z1 m).2.getD i.toNat default)) default).2.length : Int)) = 2) :
    0 ≤ ((Z1 m).1.getD (midx (Z1 m).1 ((Z1 m).2.getD i.toNat default)) default).2.getD 0 default ∧ ((Z1 m).1.getD (midx (Z1 m).1 ((Z1 m).2.getD i.toNat default)) default).2.getD 0 default < (m.Tr.length : Int) ∧
    0 ≤ ((Z1 m).1.getD (midx (Z1 m).1 ((Z1 m).2.getD i.toNat default)) default).2.getD 1 default ∧ ((Z1 m).1.getD (midx (Z1 m).1 ((Z1 m).2.getD i.toNat default)) default).2.getD 1 default < (m.Tr.length : Int) ∧ (m.Tr.length : Int) ≤ 128 := by
  obtain ⟨g1, g2⟩ := ZgI m ok (ZdG m ok h0 hi)
  rw [g2] at h2 ⊢
  have a1 := idxP_at (ts := m.Tr) (a := ((Z1 m).2.getD i.toNat default).e0) (b := ((Z1 m).2.getD i.toNat default).e1) (k := 0) (by omega)
  have a2 := idxP_at (ts := m.Tr) (a := ((Z1 m).2.getD i.toNat default).e0) (b := ((Z1 m).2.getD i.toNat default).e1) (k := 1) (by omega)
  have := ok.2.1
  exact ⟨a1.1, a1.2.1, a2.1, a2.2.1, by omega⟩
theorem ZbU (Y7 : Gm) (hp0 : Y7.Pq.length ≤ 1073741824) (hp1 : Y7.Tr.length ≤ 1073741824) (hp2 : ∀ t ∈ Y7.Tr, t.length ≤ 1073741824) (hp3 : OkE Y7.Pq.length Y7.Tr)  : Fn prog 141 [.agg [.sl (Y7.Pq.map Gv.c), .sl (Y7.Tr.map (cL (cI .i64)))]] (.tup [.mp 0, .own 1]) [.mapN 2 (mapC Gedge.pr (cI .i64) ((Z1 Y7).1)) none, .vec 167 2 (((Z1 Y7).2).map Gedge.cells) false] := by
 have y0 : ((Z19 Y7).2).length ≤ 1073741824 := (by (have q := ZhU Y7 hp3; omega))
 refine fnS E0Ok Z5 (c := bodyOf f141) [] (.tup [.mp 0, .own 1]) [.mapN 2 (mapC Gedge.pr (cI .i64) ((Z19 Y7).1)) none, .vec 167 2 ((Z5D ((Z19 Y7).2)).map Gedge.cells) false] func141 (sZ (cL (cI .i64)) Y7.Tr <| sL (mR false [0, 2, 1, 3, 4, 1, 1, 4, 41]) 3 (lp_cast (st2 := ⟨.agg [.sl (Y7.Pq.map Gv.c), .sl (Y7.Tr.map (cL (cI .i64)))] :: .ptr 0 0 0 :: .any :: .nils :: .mp 1 :: .own 2 :: an 4 (.mp 1 :: .any :: .ptr 0 0 1 :: .sl (Y7.Tr.map (cL (cI .i64))) :: .i .i64 (Y7.Tr.length : Int) :: .i .i64 0 :: an 41 []), [.box 38 [.sl (Y7.Pq.map Gv.c), .sl (Y7.Tr.map (cL (cI .i64)))], .mapN 2 [] none, .vec 167 2 ([] : List (List AV)) false]⟩) (lp_val (Z57 Y7) (x := (Z19 Y7)) (ZaS Y7 hp0 hp1 hp2 hp3 (((Y7.Tr.length : Int) - 0).toNat + 1) 0 ([] : (List (Gedge × List Int))) ([] : List Gedge) (show 0 ≤ 0 from (by omega)) (show (([] : List Gedge).length : Int) ≤ 3 * 0 from (by simp; done)) (show ∀ y ∈ ([] : (List (Gedge × List Int))), (y.2.length : Int) ≤ 3 * 0 from (by simp; done)) (Nat.lt_succ_self _)) rfl) (by simp [Z6S, mapC, Gedge.cells])) <| sS (CallSt.frame (Zbh ((Z19 Y7).2) y0) [2] (R := [.box 38 [.sl (Y7.Pq.map Gv.c), .sl (Y7.Tr.map (cL (cI .i64)))], .mapN 2 (mapC Gedge.pr (cI .i64) ((Z19 Y7).1)) none, .vec 167 2 (((Z19 Y7).2).map Gedge.cells) false]) (args' := [.own 2, .fn 151 []]) rfl rfl rfl rfl rfl rfl) <| sK [1, 2] sN) rfl (by kernel_rfl) (by kernel_rfl) rfl ?_ ?_
 · rfl
 · simp [Z1]
def Z5H (YV : (List Int)) (e_1 : Gedge) : Int := (IntKind.wrap .i64 ((IntKind.wrap .i64 ((IntKind.wrap .i64 ((IntKind.wrap .i64 ((YV.getD 0 default) + (YV.getD 1 default))) + (YV.getD 2 default))) - e_1.e0)) - e_1.e1))
def Z5N (YV : (List Int)) (e_1 : Gedge) : Int := (Z5H YV e_1)
theorem Zcg (YV : (List Int)) (e_1 : Gedge) (hp0 : YV.length ≤ 1073741824) (hp1 : YV.length = 3)  : Fn prog 142 [.sl (YV.map (cI .i64)), .agg [.i .i64 e_1.e0, .i .i64 e_1.e1]] (.i .i64 (Z5N YV e_1)) [] := by
 have y0 : (0 : Int) ≤ 0 := (by omega)
 have y1 : 0 < (YV.length : Int) := (by omega)
 have y2 : (0 : Int) ≤ 1 := (by omega)
 have y3 : 1 < (YV.length : Int) := (by omega)
 have y4 : (0 : Int) ≤ 2 := (by omega)
 have y5 : 2 < (YV.length : Int) := (by omega)
 refine fnS E0Ok Z5 (c := bodyOf f142) [] (.i .i64 (Z5H YV e_1)) [] func142 (sK [16, 16] <| sG (cI .i64) YV 0 y0 y1 <| sG (cI .i64) YV 1 y2 y3 <| sW .i64 ((YV.getD 0 default) + (YV.getD 1 default)) <| sG (cI .i64) YV 2 y4 y5 <| sW .i64 ((IntKind.wrap .i64 ((YV.getD 0 default) + (YV.getD 1 default))) + (YV.getD 2 default)) <| sC (show (0 : Int) ≤ 0 ∧ 0 < ((2 : Nat) : Int) from (by decide)) <| sW .i64 ((IntKind.wrap .i64 ((IntKind.wrap .i64 ((YV.getD 0 default) + (YV.getD 1 default))) + (YV.getD 2 default))) - e_1.e0) <| sC (show (0 : Int) ≤ 1 ∧ 1 < ((2 : Nat) : Int) from (by decide)) <| sM (show IntKind.wrap .i64 ((IntKind.wrap .i64 ((IntKind.wrap .i64 ((IntKind.wrap .i64 ((YV.getD 0 default) + (YV.getD 1 default))) + (YV.getD 2 default))) - e_1.e0)) - e_1.e1) = (Z5H YV e_1) from rfl) <| sK [] sN) rfl (by kernel_rfl) (by kernel_rfl) rfl ?_ ?_
 · rfl
 · rfl
def Z3x (Y7 : Gm) (Y1 : Int) : Int := (Z5N (Y7.Tr.getD ((((Z1 Y7).1).getD (midx ((Z1 Y7).1) (((Z1 Y7).2).getD Y1.toNat default)) default).2.getD 0 default).toNat default) (((Z1 Y7).2).getD Y1.toNat default))
def Z3y (Y7 : Gm) (Y1 : Int) : Int := (Z5N (Y7.Tr.getD ((((Z1 Y7).1).getD (midx ((Z1 Y7).1) (((Z1 Y7).2).getD Y1.toNat default)) default).2.getD 1 default).toNat default) (((Z1 Y7).2).getD Y1.toNat default))
def ZZ (Y7 : Gm) : Nat → Int → (List (List Int)) → (List (List Int))
  | 0, _, _ => default
  | k + 1, Y1, Y8 => (cond (decide (Y1 < (((Z1 Y7).2).length : Int)))
    (cond (mhas ((Z1 Y7).1) (((Z1 Y7).2).getD Y1.toNat default))
      (cond (((((Z1 Y7).1).getD (midx ((Z1 Y7).1) (((Z1 Y7).2).getD Y1.toNat default)) default).2.length : Int) == 2)
        (ZZ Y7 k (Y1 + 1) (Y8 ++ [[(((Z1 Y7).2).getD Y1.toNat default).e0, (((Z1 Y7).2).getD Y1.toNat default).e1, (Z3x Y7 Y1), (Z3y Y7 Y1)]]))
        (ZZ Y7 k (Y1 + 1) Y8))
      (ZZ Y7 k (Y1 + 1) Y8))
    Y8)
def Z7f (Y7 : Gm) (r : (List (List Int))) : Ex × St := ((.exit 0), ⟨.agg [.sl (Y7.Pq.map Gv.c), .sl (Y7.Tr.map (cL (cI .i64)))] :: .ptr 0 0 0 :: .nils :: .own 1 :: .any :: .own 2 :: an 5 (.agg [.sl (Y7.Pq.map Gv.c), .sl (Y7.Tr.map (cL (cI .i64)))] :: .any :: .mp 3 :: .own 2 :: .own 2 :: an 39 []), [.box 38 [.sl (Y7.Pq.map Gv.c), .sl (Y7.Tr.map (cL (cI .i64)))], .nest 49 (r.map fun l => l.map (cI .i64)) false, .vec 167 2 (((Z1 Y7).2).map Gedge.cells) false, .mapN 2 (mapC Gedge.pr (cI .i64) ((Z1 Y7).1)) none]⟩)
def Z7g (Y7 : Gm) (Y1 : Int) (Y8 : (List (List Int))) : St := ⟨.agg [.sl (Y7.Pq.map Gv.c), .sl (Y7.Tr.map (cL (cI .i64)))] :: .ptr 0 0 0 :: .nils :: .own 1 :: .mp 2 :: .own 3 :: an 5 (.agg [.sl (Y7.Pq.map Gv.c), .sl (Y7.Tr.map (cL (cI .i64)))] :: .any :: .mp 2 :: .own 3 :: .own 3 :: .i .i64 (((Z1 Y7).2).length : Int) :: .i .i64 Y1 :: an 37 []), [.box 38 [.sl (Y7.Pq.map Gv.c), .sl (Y7.Tr.map (cL (cI .i64)))], .nest 49 (Y8.map fun l => l.map (cI .i64)) false, .mapN 2 (mapC Gedge.pr (cI .i64) ((Z1 Y7).1)) none, .vec 167 2 (((Z1 Y7).2).map Gedge.cells) false]⟩
set_option maxHeartbeats 1000000 in
theorem ZdH (Y7 : Gm) (hp0 : Y7.Pq.length ≤ 1073741824) (hp1 : Y7.Tr.length ≤ 1073741824) (hp2 : ∀ t ∈ Y7.Tr, t.length ≤ 1073741824) (hp3 : OkE Y7.Pq.length Y7.Tr) : ∀ (k : Nat) (Y1 : Int) (Y8 : (List (List Int))) (Z1r : 0 ≤ Y1) (Z93 : (Y8.length : Int) ≤ Y1) (hk : ((((Z1 Y7).2).length : Int) - Y1).toNat < k), Lp prog 0 (sub (bodyOf f115) [1, 1, 1, 0, 1, 0, 0]) (Z7g Y7 Y1 Y8) (Z7f Y7 (ZZ Y7 k Y1 Y8)).1 (Z7f Y7 (ZZ Y7 k Y1 Y8)).2 := by
 intro k
 induction k with
 | zero => intro Y1 Y8 Z1r Z93 hk; exact absurd hk (Nat.not_lt_zero _)
 | succ k ih =>
  intro Y1 Y8 Z1r Z93 hk
  cases Yj : (decide (Y1 < (((Z1 Y7).2).length : Int))) with
  | true =>
   have YM := odt Yj
   have YS : (0 : Int) ≤ Y1 := (by assumption)
   have YT : Y1 < (((Z1 Y7).2).length : Int) := (by assumption)
   have YY : Y1.toNat < ((Z1 Y7).2).length := (by omega)
   have p {a C} (s : Scr a C) := sB Yj <| sX Gedge.cells ((Z1 Y7).2) Y1 YS YT <| sV Gedge.cells ((Z1 Y7).2) Y1.toNat YY <| s
   cases YJ : (mhas ((Z1 Y7).1) (((Z1 Y7).2).getD Y1.toNat default)) with
   | true =>
    have m_8 := midx_lt YJ
    have q {a C} (s : Scr a C) := p (sA (.keep [midx ((Z1 Y7).1) (((Z1 Y7).2).getD Y1.toNat default)]) <| sC (mget_ok (ck := Gedge.pr) (cv := (cI .i64)) YJ) <| sM (mget_len (ck := Gedge.pr) (cv := (cI .i64)) (l := (Z1 Y7).1) (j := (midx ((Z1 Y7).1) (((Z1 Y7).2).getD Y1.toNat default)))) <| s)
    clear p
    cases h_2 : (((((Z1 Y7).1).getD (midx ((Z1 Y7).1) (((Z1 Y7).2).getD Y1.toNat default)) default).2.length : Int) == 2) with
    | true =>
     have Y1r := eq_of_beq h_2
     have YZ : (0 : Int) ≤ 0 := by clear q; exact (by omega)
     have y_4 : 0 < ((((Z1 Y7).1).getD (midx ((Z1 Y7).1) (((Z1 Y7).2).getD Y1.toNat default)) default).2.length : Int) := by clear q; exact (by omega)
     have y_5 : 0 < (((Z1 Y7).1).getD (midx ((Z1 Y7).1) (((Z1 Y7).2).getD Y1.toNat default)) default).2.length := by clear q; exact (by omega)
     have y_6 : (0 : Int) ≤ ((((Z1 Y7).1).getD (midx ((Z1 Y7).1) (((Z1 Y7).2).getD Y1.toNat default)) default).2.getD 0 default) := by clear q; exact (by ((have q := ZbI Y7 hp3 Z1r (odt (by assumption)) (by assumption); omega)))
     have y_7 : ((((Z1 Y7).1).getD (midx ((Z1 Y7).1) (((Z1 Y7).2).getD Y1.toNat default)) default).2.getD 0 default) < (Y7.Tr.length : Int) := by clear q; exact (by ((have q := ZbI Y7 hp3 Z1r (odt (by assumption)) (by assumption); omega)))
     have y_8 : (Y7.Tr.getD ((((Z1 Y7).1).getD (midx ((Z1 Y7).1) (((Z1 Y7).2).getD Y1.toNat default)) default).2.getD 0 default).toNat default).length ≤ 1073741824 := by clear q; exact (by (have q := ZbI Y7 hp3 Z1r (odt (by assumption)) (by assumption); have q1 := (hp3.tris.at q.1 q.2.1).1; have q2 := (hp3.tris.at q.2.2.1 q.2.2.2.1).1; omega))
     have y_9 : (Y7.Tr.getD ((((Z1 Y7).1).getD (midx ((Z1 Y7).1) (((Z1 Y7).2).getD Y1.toNat default)) default).2.getD 0 default).toNat default).length = 3 := by clear q; exact (by (have q := ZbI Y7 hp3 Z1r (odt (by assumption)) (by assumption); have q1 := (hp3.tris.at q.1 q.2.1).1; have q2 := (hp3.tris.at q.2.2.1 q.2.2.2.1).1; exact q1))
     have Y1c : (0 : Int) ≤ 1 := by clear q; exact (by omega)
     have Y1j : 1 < ((((Z1 Y7).1).getD (midx ((Z1 Y7).1) (((Z1 Y7).2).getD Y1.toNat default)) default).2.length : Int) := by clear q; exact (by omega)
     have Y1m : 1 < (((Z1 Y7).1).getD (midx ((Z1 Y7).1) (((Z1 Y7).2).getD Y1.toNat default)) default).2.length := by clear q; exact (by omega)
     have Y1n : (0 : Int) ≤ ((((Z1 Y7).1).getD (midx ((Z1 Y7).1) (((Z1 Y7).2).getD Y1.toNat default)) default).2.getD 1 default) := by clear q; exact (by ((have q := ZbI Y7 hp3 Z1r (odt (by assumption)) (by assumption); omega)))
     have Y1t : ((((Z1 Y7).1).getD (midx ((Z1 Y7).1) (((Z1 Y7).2).getD Y1.toNat default)) default).2.getD 1 default) < (Y7.Tr.length : Int) := by clear q; exact (by ((have q := ZbI Y7 hp3 Z1r (odt (by assumption)) (by assumption); omega)))
     have Y1u : (Y7.Tr.getD ((((Z1 Y7).1).getD (midx ((Z1 Y7).1) (((Z1 Y7).2).getD Y1.toNat default)) default).2.getD 1 default).toNat default).length ≤ 1073741824 := by clear q; exact (by (have q := ZbI Y7 hp3 Z1r (odt (by assumption)) (by assumption); have q1 := (hp3.tris.at q.1 q.2.1).1; have q2 := (hp3.tris.at q.2.2.1 q.2.2.2.1).1; omega))
     have Y1v : (Y7.Tr.getD ((((Z1 Y7).1).getD (midx ((Z1 Y7).1) (((Z1 Y7).2).getD Y1.toNat default)) default).2.getD 1 default).toNat default).length = 3 := by clear q; exact (by (have q := ZbI Y7 hp3 Z1r (odt (by assumption)) (by assumption); have q1 := (hp3.tris.at q.1 q.2.1).1; have q2 := (hp3.tris.at q.2.2.1 q.2.2.2.1).1; exact q2))
     have Y1w : Y8.length + [[(((Z1 Y7).2).getD Y1.toNat default).e0, (((Z1 Y7).2).getD Y1.toNat default).e1, (Z3x Y7 Y1), (Z3y Y7 Y1)]].length ≤ 1073741824 := by clear q; exact (by ((have q := Z8t Y7 hp3 Z1r (odt (by assumption)); (simp only [List.length_append, List.length_cons, List.length_nil]; omega))))
     have Y1F : (-9223372036854775808 : Int) ≤ (Y1 + 1) := by clear q; exact (by omega)
     have Y1G : (Y1 + 1) ≤ (9223372036854775807 : Int) := by clear q; exact (by ((have q := Z8t Y7 hp3 Z1r (odt (by assumption)); omega)))
     have e : ZZ Y7 (k + 1) Y1 Y8 = (ZZ Y7 k (Y1 + 1) (Y8 ++ [[(((Z1 Y7).2).getD Y1.toNat default).e0, (((Z1 Y7).2).getD Y1.toNat default).e1, (Z3x Y7 Y1), (Z3y Y7 Y1)]])) := by simp only [ZZ, Yj, YJ, h_2, cond_true]
     rw [e]
     exact nextS E0Ok Z5 [] (mR false [0, 6, 5, 1, 1, 5, 37]) [0, 1, 2, 3] (⟨.agg [.sl (Y7.Pq.map Gv.c), .sl (Y7.Tr.map (cL (cI .i64)))] :: .ptr 0 0 0 :: .nils :: .own 1 :: .mp 2 :: .own 3 :: an 5 (.agg [.sl (Y7.Pq.map Gv.c), .sl (Y7.Tr.map (cL (cI .i64)))] :: .any :: .mp 2 :: .own 3 :: .own 3 :: .i .i64 (((Z1 Y7).2).length : Int) :: .i .i64 (Y1 + 1) :: an 37 []), [.box 38 [.sl (Y7.Pq.map Gv.c), .sl (Y7.Tr.map (cL (cI .i64)))], .nest 49 ((Y8.map fun l => l.map (cI .i64)) ++ [([[.i .i64 ((((Z1 Y7).2).getD Y1.toNat default).e0)], [.i .i64 ((((Z1 Y7).2).getD Y1.toNat default).e1)], [.i .i64 (Z3x Y7 Y1)], [.i .i64 (Z3y Y7 Y1)]] : List (List AV))]) false, .mapN 2 (mapC Gedge.pr (cI .i64) ((Z1 Y7).1)) none, .vec 167 2 (((Z1 Y7).2).map Gedge.cells) false]⟩) (q (sB h_2 <| sK [25, 25] <| sC (show (0 : Int) ≤ 0 ∧ 0 < ((2 : Nat) : Int) from (by decide)) <| sC (show (0 : Int) ≤ 1 ∧ 1 < ((2 : Nat) : Int) from (by decide)) <| sC (mget_ix (ck := Gedge.pr) (cv := (cI .i64)) (l := (Z1 Y7).1) (j := (midx ((Z1 Y7).1) (((Z1 Y7).2).getD Y1.toNat default))) (i := 0) YZ y_4) <| sE (mget_el (ck := Gedge.pr) (cv := (cI .i64)) (l := (Z1 Y7).1) (j := (midx ((Z1 Y7).1) (((Z1 Y7).2).getD Y1.toNat default))) (i := 0) y_5) <| sG (cL (cI .i64)) Y7.Tr ((((Z1 Y7).1).getD (midx ((Z1 Y7).1) (((Z1 Y7).2).getD Y1.toNat default)) default).2.getD 0 default) y_6 y_7 <| sF (Zcg (Y7.Tr.getD ((((Z1 Y7).1).getD (midx ((Z1 Y7).1) (((Z1 Y7).2).getD Y1.toNat default)) default).2.getD 0 default).toNat default) (((Z1 Y7).2).getD Y1.toNat default) y_8 y_9) <| sC (mget_ix (ck := Gedge.pr) (cv := (cI .i64)) (l := (Z1 Y7).1) (j := (midx ((Z1 Y7).1) (((Z1 Y7).2).getD Y1.toNat default))) (i := 1) Y1c Y1j) <| sE (mget_el (ck := Gedge.pr) (cv := (cI .i64)) (l := (Z1 Y7).1) (j := (midx ((Z1 Y7).1) (((Z1 Y7).2).getD Y1.toNat default))) (i := 1) Y1m) <| sG (cL (cI .i64)) Y7.Tr ((((Z1 Y7).1).getD (midx ((Z1 Y7).1) (((Z1 Y7).2).getD Y1.toNat default)) default).2.getD 1 default) Y1n Y1t <| sF (Zcg (Y7.Tr.getD ((((Z1 Y7).1).getD (midx ((Z1 Y7).1) (((Z1 Y7).2).getD Y1.toNat default)) default).2.getD 1 default).toNat default) (((Z1 Y7).2).getD Y1.toNat default) Y1u Y1v) <| sC (show (Y8.map fun l => l.map (cI .i64)).length + [([[.i .i64 ((((Z1 Y7).2).getD Y1.toNat default).e0)], [.i .i64 ((((Z1 Y7).2).getD Y1.toNat default).e1)], [.i .i64 (Z3x Y7 Y1)], [.i .i64 (Z3y Y7 Y1)]] : List (List AV))].length ≤ 1073741824 from (by simpa using Y1w)) <| sI (Y1 + 1) Y1F Y1G <| sN)) (by kernel_rfl) (by simp [Z7g, cL, cI]) (ih (Y1 + 1) (Y8 ++ [[(((Z1 Y7).2).getD Y1.toNat default).e0, (((Z1 Y7).2).getD Y1.toNat default).e1, (Z3x Y7 Y1), (Z3y Y7 Y1)]]) (show 0 ≤ (Y1 + 1) from (by omega)) (show ((Y8 ++ [[(((Z1 Y7).2).getD Y1.toNat default).e0, (((Z1 Y7).2).getD Y1.toNat default).e1, (Z3x Y7 Y1), (Z3y Y7 Y1)]]).length : Int) ≤ (Y1 + 1) from (by ((have q := Z8t Y7 hp3 Z1r (odt (by assumption)); (simp only [List.length_append, List.length_cons, List.length_nil]; omega))))) (by omega))
    | false =>
     have Y1r := ne_of_beq_false h_2
     have YZ : (-9223372036854775808 : Int) ≤ (Y1 + 1) := by clear q; exact (by omega)
     have y_4 : (Y1 + 1) ≤ (9223372036854775807 : Int) := by clear q; exact (by ((have q := Z8t Y7 hp3 Z1r (odt (by assumption)); omega)))
     have e : ZZ Y7 (k + 1) Y1 Y8 = (ZZ Y7 k (Y1 + 1) Y8) := by simp only [ZZ, Yj, YJ, h_2, cond_true, cond_false]
     rw [e]
     exact nextR E0Ok Z5 [] (mR false [0, 6, 5, 1, 1, 5, 37]) [0, 1, 2, 3] (ih (Y1 + 1) Y8 (show 0 ≤ (Y1 + 1) from (by omega)) (show (Y8.length : Int) ≤ (Y1 + 1) from (by omega)) (by omega)) (q (sB h_2 <| sI (Y1 + 1) YZ y_4 <| sN)) (by kernel_rfl)
   | false =>
    have YZ : (-9223372036854775808 : Int) ≤ (Y1 + 1) := by clear p; exact (by omega)
    have y_4 : (Y1 + 1) ≤ (9223372036854775807 : Int) := by clear p; exact (by ((have q := Z8t Y7 hp3 Z1r (odt (by assumption)); omega)))
    have e : ZZ Y7 (k + 1) Y1 Y8 = (ZZ Y7 k (Y1 + 1) Y8) := by simp only [ZZ, Yj, YJ, cond_true, cond_false]
    rw [e]
    exact nextR E0Ok Z5 [] (mR false [0, 6, 5, 1, 1, 5, 37]) [0, 1, 2, 3] (ih (Y1 + 1) Y8 (show 0 ≤ (Y1 + 1) from (by omega)) (show (Y8.length : Int) ≤ (Y1 + 1) from (by omega)) (by omega)) (p (sA (.keep []) <| sC (mnot_ok (ck := Gedge.pr) (cv := (cI .i64)) Gedge.inj YJ) <| sM (show ((0 : Nat) : Int) = 0 from rfl) <| sB (show (0 == 2) = false from rfl) <| sI (Y1 + 1) YZ y_4 <| sN)) (by kernel_rfl)
  | false =>
   have YM := odf Yj
   have e : ZZ Y7 (k + 1) Y1 Y8 = Y8 := by simp only [ZZ, Yj, cond_false]
   rw [e]
   exact outR (e := (.exit 0)) E0Ok Z5 [] (mR false [0, 4, 1, 1, 5, 1, 1, 3, 39]) [0, 1, 3, 2] (sB Yj <| sN) (by kernel_rfl) (by intro h; cases h)
def Z58 (Y7 : Gm) : (List (List Int)) := (ZZ Y7 (((((Z1 Y7).2).length : Int) - 0).toNat + 1) 0 ([] : List (List Int)))
def Z6 (Y7 : Gm) : (List (List Int)) := (Z58 Y7)
theorem Z6b (m : Gm) (ok : OkE m.Pq.length m.Tr) : Z6 m = hgL m.Pq.length m.Tr := by
  unfold Z6 Z58
  refine (filtm_from (a := (Z1 m).2) (p := fun e => decide ((idxP m.Tr e.e0 e.e1).length = 2)) (f := fun e => [e.e0, e.e1] ++ (idxP m.Tr e.e0 e.e1).map fun i => thd (m.Tr.getD i.toNat default) e.e0 e.e1) (lo := ZZ m) (fun k i r h0 hi => ?_) (fun k i r hi => ?_)).trans ?_
  · have q := Z8t m ok h0 hi
    have hm := ZdG m ok h0 hi
    obtain ⟨g1, g2⟩ := ZgI m ok hm
    rw [ZZ, decide_eq_true hi, cond_true, g1, cond_true, g2]
    unfold Z3x Z3y
    rw [g2]
    generalize (Z1 m).2.getD i.toNat default = e at *
    by_cases h2 : (idxP m.Tr e.e0 e.e1).length = 2
    · rw [decide_eq_true h2, show (((idxP m.Tr e.e0 e.e1).length : Int) == 2) = true from by rw [beq_iff_eq]; omega, cond_true, cond_true]
      have hthd : ∀ k : Nat, k < 2 → Z5N (m.Tr.getD ((idxP m.Tr e.e0 e.e1).getD k default).toNat default) e = thd (m.Tr.getD ((idxP m.Tr e.e0 e.e1).getD k default).toNat default) e.e0 e.e1 := by
        intro k hk
        obtain ⟨a1, a2, a3⟩ := idxP_at (ts := m.Tr) (a := e.e0) (b := e.e1) (k := k) (by omega)
        generalize (idxP m.Tr e.e0 e.e1).getD k default = i' at *
        have q2 := ok.tris.at a1 a2
        generalize m.Tr.getD i'.toNat default = t at *
        have h64 := ok.1
        unfold Z5N Z5H thd
        rw [wrap_id (n := t.getD 0 default + t.getD 1 default) (by omega) (by omega), wrap_id (n := t.getD 0 default + t.getD 1 default + t.getD 2 default) (by omega) (by omega), wrap_id (n := t.getD 0 default + t.getD 1 default + t.getD 2 default - e.e0) (by omega) (by omega), wrap_id (n := t.getD 0 default + t.getD 1 default + t.getD 2 default - e.e0 - e.e1) (by omega) (by omega)]
      rw [hthd 0 (by omega), hthd 1 (by omega)]
      generalize idxP m.Tr e.e0 e.e1 = l at *
      match l, h2 with
      | [a, b], _ => rfl
    · rw [decide_eq_false h2, show (((idxP m.Tr e.e0 e.e1).length : Int) == 2) = false from by rw [beq_eq_false_iff_ne]; omega, cond_false, cond_false]
  · rw [ZZ, decide_eq_false (by omega), cond_false]
  · rw [Zbi m ok]; rfl
theorem ZgT (m : Gm) (ok : OkE m.Pq.length m.Tr) {i : Int} (h0 : 0 ≤ i) (hi : i < ((Z6 m).length : Int)) : ((Z6 m).getD i.toNat default).length = 4 ∧ ∀ x ∈ (Z6 m).getD i.toNat default, 0 ≤ x ∧ x < (m.Pq.length : Int) := by
  refine hgL_mem ok ?_
  rw [← Z6b m ok, List.getD_eq_getElem?_getD, List.getElem?_eq_getElem (by omega)]; exact List.getElem_mem _
theorem Z6T {m : Gm} (ok : OkE m.Pq.length m.Tr) {i : Int} (h0 : 0 ≤ i) (hi : decide (i < ((Z6 m).length : Int)) = true) : ((Z6 m).getD i.toNat default).length = 4 ∧ ∀ x ∈ (Z6 m).getD i.toNat default, 0 ≤ x ∧ x < (m.Pq.length : Int) := ZgT m ok h0 (odt hi)
theorem ZhF {m : Gm} (ok : OkE m.Pq.length m.Tr) {i : Int} (h0 : 0 ≤ i) (hi : decide (i < ((Z6 m).length : Int)) = true) : ((Z6 m).getD i.toNat default).length ≤ 1073741824 := by have := (Z6T ok h0 hi).1; omega
theorem ZaI (m : Gm) (ok : OkE m.Pq.length m.Tr) : (Z6 m).length ≤ 4096 := by rw [Z6b m ok]; exact hgL_len ok
theorem ZbJ (Y7 : Gm) (hp0 : Y7.Pq.length ≤ 1073741824) (hp1 : Y7.Tr.length ≤ 1073741824) (hp2 : ∀ t ∈ Y7.Tr, t.length ≤ 1073741824) (hp3 : OkE Y7.Pq.length Y7.Tr)  : Fn prog 115 [.agg [.sl (Y7.Pq.map Gv.c), .sl (Y7.Tr.map (cL (cI .i64)))]] (.own 0) [.nest 49 ((Z6 Y7).map fun l => l.map (cI .i64)) false] := by
 refine fnS E0Ok Z5 (c := bodyOf f115) [] (.own 0) [.nest 49 ((Z58 Y7).map fun l => l.map (cI .i64)) false] func115 (sF (ZbU Y7 hp0 hp1 hp2 hp3) <| sZ Gedge.cells ((Z1 Y7).2) <| sL (mR false [0, 6, 5, 1, 1, 5, 37]) 4 (lp_cast (st2 := ⟨.agg [.sl (Y7.Pq.map Gv.c), .sl (Y7.Tr.map (cL (cI .i64)))] :: .ptr 0 0 0 :: .nils :: .own 1 :: .mp 2 :: .own 3 :: an 5 (.agg [.sl (Y7.Pq.map Gv.c), .sl (Y7.Tr.map (cL (cI .i64)))] :: .any :: .mp 2 :: .own 3 :: .own 3 :: .i .i64 (((Z1 Y7).2).length : Int) :: .i .i64 0 :: an 37 []), [.box 38 [.sl (Y7.Pq.map Gv.c), .sl (Y7.Tr.map (cL (cI .i64)))], .nest 49 [] false, .mapN 2 (mapC Gedge.pr (cI .i64) ((Z1 Y7).1)) none, .vec 167 2 (((Z1 Y7).2).map Gedge.cells) false]⟩) (lp_val (Z7f Y7) (x := (Z58 Y7)) (ZdH Y7 hp0 hp1 hp2 hp3 (((((Z1 Y7).2).length : Int) - 0).toNat + 1) 0 ([] : List (List Int)) (show 0 ≤ 0 from (by omega)) (show (([] : List (List Int)).length : Int) ≤ 0 from (by simp)) (Nat.lt_succ_self _)) rfl) (by simp [Z7g, cL, cI])) <| sK [1] sN) rfl (by kernel_rfl) (by kernel_rfl) rfl ?_ ?_
 · rfl
 · simp [Z6]
def Z18 (Y5 : Gv) (YA : Gv) : Gv := (⟨(fop .add .f32 Y5.X YA.X), (fop .add .f32 Y5.Y YA.Y), (fop .add .f32 Y5.Z YA.Z)⟩ : Gv)
theorem Z5I (Y5 : Gv) (YA : Gv)   : Fn prog 107 [.agg [.f .f32 Y5.X, .f .f32 Y5.Y, .f .f32 Y5.Z], .agg [.f .f32 YA.X, .f .f32 YA.Y, .f .f32 YA.Z]] (.agg [.f .f32 ((Z18 Y5 YA).X), .f .f32 ((Z18 Y5 YA).Y), .f .f32 ((Z18 Y5 YA).Z)]) [] := by
 refine fnS E0Ok Z5 (c := bodyOf f107) [] (.agg [.f .f32 (fop .add .f32 Y5.X YA.X), .f .f32 (fop .add .f32 Y5.Y YA.Y), .f .f32 (fop .add .f32 Y5.Z YA.Z)]) [] func107 (sK [] sN) rfl (by kernel_rfl) (by kernel_rfl) rfl ?_ ?_
 · rfl
 · rfl
def Z6c (Y7 : Gm) (YJ : (List Int)) : Gv := (Z23 (Z18 (Y7.Pq.getD (YJ.getD 2 default).toNat default) (Y7.Pq.getD (YJ.getD 3 default).toNat default)) (Z18 (Y7.Pq.getD (YJ.getD 0 default).toNat default) (Y7.Pq.getD (YJ.getD 1 default).toNat default)))
def Zs (Y7 : Gm) (YJ : (List Int)) : Gv := (Z6c Y7 YJ)
theorem ZcV (Y7 : Gm) (YJ : (List Int)) (hp0 : Y7.Pq.length ≤ 1073741824) (hp1 : Y7.Tr.length ≤ 1073741824) (hp2 : ∀ t ∈ Y7.Tr, t.length ≤ 1073741824) (hp3 : YJ.length ≤ 1073741824) (hp4 : YJ.length = 4 ∧ ∀ x ∈ YJ, 0 ≤ x ∧ x < (Y7.Pq.length : Int))  : Fn prog 116 [.agg [.sl (Y7.Pq.map Gv.c), .sl (Y7.Tr.map (cL (cI .i64)))], .sl (YJ.map (cI .i64))] (.agg [.f .f32 ((Zs Y7 YJ).X), .f .f32 ((Zs Y7 YJ).Y), .f .f32 ((Zs Y7 YJ).Z)]) [] := by
 have y0 : (0 : Int) ≤ 2 := (by omega)
 have y1 : 2 < (YJ.length : Int) := (by omega)
 have y2 : (0 : Int) ≤ (YJ.getD 2 default) := (by have q := Okh.at hp4; omega)
 have y3 : (YJ.getD 2 default) < (Y7.Pq.length : Int) := (by have q := Okh.at hp4; omega)
 have y4 : (0 : Int) ≤ 3 := (by omega)
 have y5 : 3 < (YJ.length : Int) := (by omega)
 have y6 : (0 : Int) ≤ (YJ.getD 3 default) := (by have q := Okh.at hp4; omega)
 have y7 : (YJ.getD 3 default) < (Y7.Pq.length : Int) := (by have q := Okh.at hp4; omega)
 have y8 : (0 : Int) ≤ 0 := (by omega)
 have y9 : 0 < (YJ.length : Int) := (by omega)
 have y10 : (0 : Int) ≤ (YJ.getD 0 default) := (by have q := Okh.at hp4; omega)
 have y11 : (YJ.getD 0 default) < (Y7.Pq.length : Int) := (by have q := Okh.at hp4; omega)
 have y12 : (0 : Int) ≤ 1 := (by omega)
 have y13 : 1 < (YJ.length : Int) := (by omega)
 have y14 : (0 : Int) ≤ (YJ.getD 1 default) := (by have q := Okh.at hp4; omega)
 have y15 : (YJ.getD 1 default) < (Y7.Pq.length : Int) := (by have q := Okh.at hp4; omega)
 refine fnS E0Ok Z5 (c := bodyOf f116) [] (.agg [.f .f32 ((Z6c Y7 YJ).X), .f .f32 ((Z6c Y7 YJ).Y), .f .f32 ((Z6c Y7 YJ).Z)]) [] func116 (sK [25, 25] <| sG (cI .i64) YJ 2 y0 y1 <| sG Gv.c Y7.Pq (YJ.getD 2 default) y2 y3 <| sG (cI .i64) YJ 3 y4 y5 <| sG Gv.c Y7.Pq (YJ.getD 3 default) y6 y7 <| sF (Z5I (Y7.Pq.getD (YJ.getD 2 default).toNat default) (Y7.Pq.getD (YJ.getD 3 default).toNat default)) <| sG (cI .i64) YJ 0 y8 y9 <| sG Gv.c Y7.Pq (YJ.getD 0 default) y10 y11 <| sG (cI .i64) YJ 1 y12 y13 <| sG Gv.c Y7.Pq (YJ.getD 1 default) y14 y15 <| sF (Z5I (Y7.Pq.getD (YJ.getD 0 default).toNat default) (Y7.Pq.getD (YJ.getD 1 default).toNat default)) <| sF (Z4q (Z18 (Y7.Pq.getD (YJ.getD 2 default).toNat default) (Y7.Pq.getD (YJ.getD 3 default).toNat default)) (Z18 (Y7.Pq.getD (YJ.getD 0 default).toNat default) (Y7.Pq.getD (YJ.getD 1 default).toNat default))) <| sK [] sN) rfl (by kernel_rfl) (by kernel_rfl) rfl ?_ ?_
 · rfl
 · rfl
def Z49 (Y2 : Gb) (Y1 : Int) : Nat := (fop .mul .f32 (fop .sub .f32 (Zv (Zr Y2 (Y2.Sp.getD Y1.toNat default))) ((Y2.Sp.getD Y1.toNat default).Long)) (fop .sub .f32 (Zv (Zr Y2 (Y2.Sp.getD Y1.toNat default))) ((Y2.Sp.getD Y1.toNat default).Long)))
def Z1E (Y2 : Gb) : Nat → Int → (List Nat) → (List Nat)
  | 0, _, _ => default
  | k + 1, Y1, Y8 => (cond (decide (Y1 < (Y2.Sp.length : Int)))
    (Z1E Y2 k (Y1 + 1) (Y8.set 0 (fop .add .f32 (Y8.getD 0 default) (fop .mul .f32 (fop .mul .f32 1056964608 ((Y2.Sp.getD Y1.toNat default).Stiff)) (Z49 Y2 Y1)))))
    Y8)
def Z7F (Y2 : Gb) (r : (List Nat)) : Ex × St := ((.exit 0), ⟨.agg [.sl (Y2.Me.Pq.map Gv.c), .sl (Y2.Me.Tr.map (cL (cI .i64))), .sl (Y2.Sp.map Gs.c), .f .f32 Y2.Film, .f .f32 Y2.Bend, .sl (Y2.We.map (cF .f32)), .f .f32 Y2.Fall.X, .f .f32 Y2.Fall.Y, .f .f32 Y2.Fall.Z] :: .ptr 0 0 0 :: .nils :: .own 1 :: an 10 (.own 1 :: .ptr 0 0 2 :: .sl (Y2.Sp.map Gs.c) :: an 100 []), [.box 42 [.sl (Y2.Me.Pq.map Gv.c), .sl (Y2.Me.Tr.map (cL (cI .i64))), .sl (Y2.Sp.map Gs.c), .f .f32 Y2.Film, .f .f32 Y2.Bend, .sl (Y2.We.map (cF .f32)), .f .f32 Y2.Fall.X, .f .f32 Y2.Fall.Y, .f .f32 Y2.Fall.Z], .vec 27 1 (r.map (cF .f32)) false]⟩)
def Z7G (Y2 : Gb) (Y1 : Int) (Y8 : (List Nat)) : St := ⟨.agg [.sl (Y2.Me.Pq.map Gv.c), .sl (Y2.Me.Tr.map (cL (cI .i64))), .sl (Y2.Sp.map Gs.c), .f .f32 Y2.Film, .f .f32 Y2.Bend, .sl (Y2.We.map (cF .f32)), .f .f32 Y2.Fall.X, .f .f32 Y2.Fall.Y, .f .f32 Y2.Fall.Z] :: .ptr 0 0 0 :: .nils :: .own 1 :: an 10 (.own 1 :: .ptr 0 0 2 :: .sl (Y2.Sp.map Gs.c) :: .i .i64 (Y2.Sp.length : Int) :: .i .i64 Y1 :: an 98 []), [.box 42 [.sl (Y2.Me.Pq.map Gv.c), .sl (Y2.Me.Tr.map (cL (cI .i64))), .sl (Y2.Sp.map Gs.c), .f .f32 Y2.Film, .f .f32 Y2.Bend, .sl (Y2.We.map (cF .f32)), .f .f32 Y2.Fall.X, .f .f32 Y2.Fall.Y, .f .f32 Y2.Fall.Z], .vec 27 1 (Y8.map (cF .f32)) false]⟩
theorem Zei (Y2 : Gb) (hp0 : Y2.Me.Pq.length ≤ 1073741824) (hp1 : Y2.Me.Tr.length ≤ 1073741824) (hp2 : ∀ t ∈ Y2.Me.Tr, t.length ≤ 1073741824) (hp3 : Y2.Sp.length ≤ 1073741824) (hp4 : Y2.We.length ≤ 1073741824) (hp5 : OkBd Y2) : ∀ (k : Nat) (Y1 : Int) (Y8 : (List Nat)) (Z9z : 0 ≤ Y1) (Z9A : Y8.length = 4) (hk : ((Y2.Sp.length : Int) - Y1).toNat < k), Lp prog 0 (sub (bodyOf f129) [1, 1, 0, 1, 0, 0]) (Z7G Y2 Y1 Y8) (Z7F Y2 (Z1E Y2 k Y1 Y8)).1 (Z7F Y2 (Z1E Y2 k Y1 Y8)).2 := by
 intro k
 induction k with
 | zero => intro Y1 Y8 Z9z Z9A hk; exact absurd hk (Nat.not_lt_zero _)
 | succ k ih =>
  intro Y1 Y8 Z9z Z9A hk
  cases Yj : (decide (Y1 < (Y2.Sp.length : Int))) with
  | true =>
   have YM := odt Yj
   have YS : (0 : Int) ≤ Y1 := (by assumption)
   have YT : Y1 < (Y2.Sp.length : Int) := (by assumption)
   have YY : 0 ≤ (Y2.Sp.getD Y1.toNat default).A := (by have q := Z3q hp5 (by assumption) Yj; omega)
   have YZ : (Y2.Sp.getD Y1.toNat default).A < (Y2.Me.Pq.length : Int) := (by have q := Z3q hp5 (by assumption) Yj; omega)
   have y_4 : 0 ≤ (Y2.Sp.getD Y1.toNat default).B := (by have q := Z3q hp5 (by assumption) Yj; omega)
   have y_5 : (Y2.Sp.getD Y1.toNat default).B < (Y2.Me.Pq.length : Int) := (by have q := Z3q hp5 (by assumption) Yj; omega)
   have y_6 : (0 : Int) ≤ 0 := (by omega)
   have y_7 : 0 < (Y8.length : Int) := (by omega)
   have y_8 : 0 < Y8.length := (by omega)
   have y_9 : (-9223372036854775808 : Int) ≤ (Y1 + 1) := (by omega)
   have Y1c : (Y1 + 1) ≤ (9223372036854775807 : Int) := (by omega)
   have e : Z1E Y2 (k + 1) Y1 Y8 = (Z1E Y2 k (Y1 + 1) (Y8.set 0 (fop .add .f32 (Y8.getD 0 default) (fop .mul .f32 (fop .mul .f32 1056964608 ((Y2.Sp.getD Y1.toNat default).Stiff)) (Z49 Y2 Y1))))) := by simp only [Z1E, Yj, cond_true]
   rw [e]
   exact nextS E0Ok Z5 [] (mR false [0, 4, 10, 5, 98]) [0, 1] (⟨.agg [.sl (Y2.Me.Pq.map Gv.c), .sl (Y2.Me.Tr.map (cL (cI .i64))), .sl (Y2.Sp.map Gs.c), .f .f32 Y2.Film, .f .f32 Y2.Bend, .sl (Y2.We.map (cF .f32)), .f .f32 Y2.Fall.X, .f .f32 Y2.Fall.Y, .f .f32 Y2.Fall.Z] :: .ptr 0 0 0 :: .nils :: .own 1 :: an 10 (.own 1 :: .ptr 0 0 2 :: .sl (Y2.Sp.map Gs.c) :: .i .i64 (Y2.Sp.length : Int) :: .i .i64 (Y1 + 1) :: an 98 []), [.box 42 [.sl (Y2.Me.Pq.map Gv.c), .sl (Y2.Me.Tr.map (cL (cI .i64))), .sl (Y2.Sp.map Gs.c), .f .f32 Y2.Film, .f .f32 Y2.Bend, .sl (Y2.We.map (cF .f32)), .f .f32 Y2.Fall.X, .f .f32 Y2.Fall.Y, .f .f32 Y2.Fall.Z], .vec 27 1 ((Y8.map (cF .f32)).set 0 [.f .f32 (fop .add .f32 (Y8.getD 0 default) (fop .mul .f32 (fop .mul .f32 1056964608 ((Y2.Sp.getD Y1.toNat default).Stiff)) (Z49 Y2 Y1)))]) false]⟩) (sB Yj <| sG Gs.c Y2.Sp Y1 YS YT <| sK [6, 6] <| sF (Zah Y2 (Y2.Sp.getD Y1.toNat default) hp0 hp1 hp2 hp3 hp4 YY YZ y_4 y_5) <| sF (Z7W (Zr Y2 (Y2.Sp.getD Y1.toNat default))) <| sK [10, 10] <| sX (cF .f32) Y8 0 y_6 y_7 <| sV (cF .f32) Y8 0 y_8 <| sX (cF .f32) Y8 0 y_6 y_7 <| sC (maplt (c := (cF .f32)) (l := Y8) y_8) <| sI (Y1 + 1) y_9 Y1c <| sN) (by kernel_rfl) (by simp [Z7G, List.map_set, cF]) (ih (Y1 + 1) (Y8.set 0 (fop .add .f32 (Y8.getD 0 default) (fop .mul .f32 (fop .mul .f32 1056964608 ((Y2.Sp.getD Y1.toNat default).Stiff)) (Z49 Y2 Y1)))) (show 0 ≤ (Y1 + 1) from (by omega)) (show (Y8.set 0 (fop .add .f32 (Y8.getD 0 default) (fop .mul .f32 (fop .mul .f32 1056964608 ((Y2.Sp.getD Y1.toNat default).Stiff)) (Z49 Y2 Y1)))).length = 4 from (by simp_all <;> omega)) (by omega))
  | false =>
   have YM := odf Yj
   have e : Z1E Y2 (k + 1) Y1 Y8 = Y8 := by simp only [Z1E, Yj, cond_false]
   rw [e]
   exact outR (e := (.exit 0)) E0Ok Z5 [] (mR false [0, 4, 10, 3, 100]) [0, 1] (sB Yj <| sN) (by kernel_rfl) (by intro h; cases h)
theorem Zde (Y2 : Gb) : ∀ (k : Nat) (Y1 : Int) (Y8 : (List Nat)) (hk : ((Y2.Sp.length : Int) - Y1).toNat < k), (Z1E Y2 k Y1 Y8).length = Y8.length := by
  intro k
  induction k with
  | zero => intro Y1 Y8 hk; exact absurd hk (Nat.not_lt_zero _)
  | succ k ih =>
    intro Y1 Y8 hk
    cases Yj : (decide (Y1 < (Y2.Sp.length : Int))) with
    | true =>
      have e : Z1E Y2 (k + 1) Y1 Y8 = (Z1E Y2 k (Y1 + 1) (Y8.set 0 (fop .add .f32 (Y8.getD 0 default) (fop .mul .f32 (fop .mul .f32 1056964608 ((Y2.Sp.getD Y1.toNat default).Stiff)) (Z49 Y2 Y1))))) := by simp only [Z1E, Yj, cond_true]
      rw [e, ih (Y1 + 1) (Y8.set 0 (fop .add .f32 (Y8.getD 0 default) (fop .mul .f32 (fop .mul .f32 1056964608 ((Y2.Sp.getD Y1.toNat default).Stiff)) (Z49 Y2 Y1)))) (by simp_all <;> omega)]; simp
    | false =>
      have e : Z1E Y2 (k + 1) Y1 Y8 = Y8 := by simp only [Z1E, Yj, cond_false]
      first | (rw [e]; done) | (rw [e]; rfl)
def Z2o (Y2 : Gb) : (List Nat) := (Z1E Y2 (((Y2.Sp.length : Int) - 0).toNat + 1) 0 (List.replicate 4 0))
@[simp] theorem ZaT (Y2 : Gb) : (Z2o Y2).length = ((List.replicate 4 0) : (List Nat)).length := Zde Y2 (((Y2.Sp.length : Int) - 0).toNat + 1) 0 (List.replicate 4 0) (by exact Nat.lt_succ_self _)
def Z4a (Y2 : Gb) (Y1 : Int) (Y8 : (List Nat)) : Nat := (fop .add .f32 (Y8.getD 1 default) (fop .mul .f32 Y2.Film (fop .mul .f32 1056964608 (Zv (Zc Y2.Me (Y2.Me.Tr.getD Y1.toNat default))))))
def Z1F (Y2 : Gb) : Nat → Int → (List Nat) → (List Nat)
  | 0, _, _ => default
  | k + 1, Y1, Y8 => (cond (decide (Y1 < (Y2.Me.Tr.length : Int)))
    (Z1F Y2 k (Y1 + 1) (Y8.set 1 (Z4a Y2 Y1 Y8)))
    Y8)
def Z7H (Y2 : Gb) (r : (List Nat)) : Ex × St := ((.exit 2), ⟨.agg [.sl (Y2.Me.Pq.map Gv.c), .sl (Y2.Me.Tr.map (cL (cI .i64))), .sl (Y2.Sp.map Gs.c), .f .f32 Y2.Film, .f .f32 Y2.Bend, .sl (Y2.We.map (cF .f32)), .f .f32 Y2.Fall.X, .f .f32 Y2.Fall.Y, .f .f32 Y2.Fall.Z] :: .ptr 0 0 0 :: .nils :: .own 1 :: an 10 (.own 1 :: .ptr 0 0 2 :: .sl (Y2.Sp.map Gs.c) :: an 25 (.ptr 0 0 0 :: .ptr 0 0 1 :: .sl (Y2.Me.Tr.map (cL (cI .i64))) :: an 72 [])), [.box 42 [.sl (Y2.Me.Pq.map Gv.c), .sl (Y2.Me.Tr.map (cL (cI .i64))), .sl (Y2.Sp.map Gs.c), .f .f32 Y2.Film, .f .f32 Y2.Bend, .sl (Y2.We.map (cF .f32)), .f .f32 Y2.Fall.X, .f .f32 Y2.Fall.Y, .f .f32 Y2.Fall.Z], .vec 27 1 (r.map (cF .f32)) false]⟩)
def ZaJ (Y2 : Gb) (Y1 : Int) (Y8 : (List Nat)) : St := ⟨.agg [.sl (Y2.Me.Pq.map Gv.c), .sl (Y2.Me.Tr.map (cL (cI .i64))), .sl (Y2.Sp.map Gs.c), .f .f32 Y2.Film, .f .f32 Y2.Bend, .sl (Y2.We.map (cF .f32)), .f .f32 Y2.Fall.X, .f .f32 Y2.Fall.Y, .f .f32 Y2.Fall.Z] :: .ptr 0 0 0 :: .nils :: .own 1 :: an 10 (.own 1 :: .ptr 0 0 2 :: .sl (Y2.Sp.map Gs.c) :: an 25 (.ptr 0 0 0 :: .ptr 0 0 1 :: .sl (Y2.Me.Tr.map (cL (cI .i64))) :: .i .i64 (Y2.Me.Tr.length : Int) :: .i .i64 Y1 :: an 70 [])), [.box 42 [.sl (Y2.Me.Pq.map Gv.c), .sl (Y2.Me.Tr.map (cL (cI .i64))), .sl (Y2.Sp.map Gs.c), .f .f32 Y2.Film, .f .f32 Y2.Bend, .sl (Y2.We.map (cF .f32)), .f .f32 Y2.Fall.X, .f .f32 Y2.Fall.Y, .f .f32 Y2.Fall.Z], .vec 27 1 (Y8.map (cF .f32)) false]⟩
theorem Zej (Y2 : Gb) (hp0 : Y2.Me.Pq.length ≤ 1073741824) (hp1 : Y2.Me.Tr.length ≤ 1073741824) (hp2 : ∀ t ∈ Y2.Me.Tr, t.length ≤ 1073741824) (hp3 : Y2.Sp.length ≤ 1073741824) (hp4 : Y2.We.length ≤ 1073741824) (hp5 : OkBd Y2) : ∀ (k : Nat) (Y1 : Int) (Y8 : (List Nat)) (Z9B : 0 ≤ Y1) (Z9C : Y8.length = (Z2o Y2).length) (hk : ((Y2.Me.Tr.length : Int) - Y1).toNat < k), Lp prog 0 (sub (bodyOf f129) [1, 1, 1, 0, 1, 0, 0]) (ZaJ Y2 Y1 Y8) (Z7H Y2 (Z1F Y2 k Y1 Y8)).1 (Z7H Y2 (Z1F Y2 k Y1 Y8)).2 := by
 intro k
 induction k with
 | zero => intro Y1 Y8 Z9B Z9C hk; exact absurd hk (Nat.not_lt_zero _)
 | succ k ih =>
  intro Y1 Y8 Z9B Z9C hk
  cases Yj : (decide (Y1 < (Y2.Me.Tr.length : Int))) with
  | true =>
   have YM := odt Yj
   have YS : (0 : Int) ≤ Y1 := (by assumption)
   have YT : Y1 < (Y2.Me.Tr.length : Int) := (by assumption)
   have YY : (0 : Int) ≤ 1 := (by omega)
   have YZ : 1 < (Y8.length : Int) := (by simp_all <;> omega)
   have y_4 : 1 < Y8.length := (by omega)
   have y_5 : (Y2.Me.Tr.getD Y1.toNat default).length ≤ 1073741824 := (by exact tri3L hp5.e (by assumption) Yj)
   have y_6 : (Y2.Me.Tr.getD Y1.toNat default).length = 3 ∧ ∀ x ∈ (Y2.Me.Tr.getD Y1.toNat default), 0 ≤ x ∧ x < (Y2.Me.Pq.length : Int) := (by exact tri3 hp5.e (by assumption) Yj)
   have y_7 : (-9223372036854775808 : Int) ≤ (Y1 + 1) := (by omega)
   have y_8 : (Y1 + 1) ≤ (9223372036854775807 : Int) := (by omega)
   have e : Z1F Y2 (k + 1) Y1 Y8 = (Z1F Y2 k (Y1 + 1) (Y8.set 1 (Z4a Y2 Y1 Y8))) := by simp only [Z1F, Yj, cond_true]
   rw [e]
   exact nextS E0Ok Z5 [] (mR false [0, 4, 10, 3, 25, 5, 70]) [0, 1] (⟨.agg [.sl (Y2.Me.Pq.map Gv.c), .sl (Y2.Me.Tr.map (cL (cI .i64))), .sl (Y2.Sp.map Gs.c), .f .f32 Y2.Film, .f .f32 Y2.Bend, .sl (Y2.We.map (cF .f32)), .f .f32 Y2.Fall.X, .f .f32 Y2.Fall.Y, .f .f32 Y2.Fall.Z] :: .ptr 0 0 0 :: .nils :: .own 1 :: an 10 (.own 1 :: .ptr 0 0 2 :: .sl (Y2.Sp.map Gs.c) :: an 25 (.ptr 0 0 0 :: .ptr 0 0 1 :: .sl (Y2.Me.Tr.map (cL (cI .i64))) :: .i .i64 (Y2.Me.Tr.length : Int) :: .i .i64 (Y1 + 1) :: an 70 [])), [.box 42 [.sl (Y2.Me.Pq.map Gv.c), .sl (Y2.Me.Tr.map (cL (cI .i64))), .sl (Y2.Sp.map Gs.c), .f .f32 Y2.Film, .f .f32 Y2.Bend, .sl (Y2.We.map (cF .f32)), .f .f32 Y2.Fall.X, .f .f32 Y2.Fall.Y, .f .f32 Y2.Fall.Z], .vec 27 1 ((Y8.map (cF .f32)).set 1 [.f .f32 (Z4a Y2 Y1 Y8)]) false]⟩) (sB Yj <| sG (cL (cI .i64)) Y2.Me.Tr Y1 YS YT <| sK [12, 12] <| sX (cF .f32) Y8 1 YY YZ <| sV (cF .f32) Y8 1 y_4 <| sF (ZbH Y2.Me (Y2.Me.Tr.getD Y1.toNat default) hp0 hp1 hp2 y_5 y_6) <| sF (Z7W (Zc Y2.Me (Y2.Me.Tr.getD Y1.toNat default))) <| sX (cF .f32) Y8 1 YY YZ <| sC (maplt (c := (cF .f32)) (l := Y8) y_4) <| sI (Y1 + 1) y_7 y_8 <| sN) (by kernel_rfl) (by simp [ZaJ, List.map_set, cF]) (ih (Y1 + 1) (Y8.set 1 (Z4a Y2 Y1 Y8)) (show 0 ≤ (Y1 + 1) from (by omega)) (show (Y8.set 1 (Z4a Y2 Y1 Y8)).length = (Z2o Y2).length from (by simp_all <;> omega)) (by omega))
  | false =>
   have YM := odf Yj
   have e : Z1F Y2 (k + 1) Y1 Y8 = Y8 := by simp only [Z1F, Yj, cond_false]
   rw [e]
   exact outR (e := (.exit 2)) E0Ok Z5 [] (mR false [0, 4, 10, 3, 25, 3, 72]) [0, 1] (sB Yj <| sN) (by kernel_rfl) (by intro h; cases h)
theorem Zdf (Y2 : Gb) : ∀ (k : Nat) (Y1 : Int) (Y8 : (List Nat)) (hk : ((Y2.Me.Tr.length : Int) - Y1).toNat < k), (Z1F Y2 k Y1 Y8).length = Y8.length := by
  intro k
  induction k with
  | zero => intro Y1 Y8 hk; exact absurd hk (Nat.not_lt_zero _)
  | succ k ih =>
    intro Y1 Y8 hk
    cases Yj : (decide (Y1 < (Y2.Me.Tr.length : Int))) with
    | true =>
      have e : Z1F Y2 (k + 1) Y1 Y8 = (Z1F Y2 k (Y1 + 1) (Y8.set 1 (Z4a Y2 Y1 Y8))) := by simp only [Z1F, Yj, cond_true]
      rw [e, ih (Y1 + 1) (Y8.set 1 (Z4a Y2 Y1 Y8)) (by simp_all <;> omega)]; simp
    | false =>
      have e : Z1F Y2 (k + 1) Y1 Y8 = Y8 := by simp only [Z1F, Yj, cond_false]
      first | (rw [e]; done) | (rw [e]; rfl)
def Z2p (Y2 : Gb) : (List Nat) := (Z1F Y2 (((Y2.Me.Tr.length : Int) - 0).toNat + 1) 0 (Z2o Y2))
@[simp] theorem ZaU (Y2 : Gb) : (Z2p Y2).length = ((Z2o Y2) : (List Nat)).length := Zdf Y2 (((Y2.Me.Tr.length : Int) - 0).toNat + 1) 0 (Z2o Y2) (by exact Nat.lt_succ_self _)
def Z3L (Y2 : Gb) (Y1 : Int) : Nat := (Z5h (Zs Y2.Me ((Z6 Y2.Me).getD Y1.toNat default)) (Zs Y2.Me ((Z6 Y2.Me).getD Y1.toNat default)))
def Z1y (Y2 : Gb) : Nat → Int → (List Nat) → (List Nat)
  | 0, _, _ => default
  | k + 1, Y1, Y8 => (cond (decide (Y1 < ((Z6 Y2.Me).length : Int)))
    (Z1y Y2 k (Y1 + 1) (Y8.set 2 (fop .add .f32 (Y8.getD 2 default) (fop .mul .f32 (fop .mul .f32 1056964608 Y2.Bend) (Z3L Y2 Y1)))))
    Y8)
def Z7I (Y2 : Gb) (r : (List Nat)) : Ex × St := ((.exit 4), ⟨.agg [.sl (Y2.Me.Pq.map Gv.c), .sl (Y2.Me.Tr.map (cL (cI .i64))), .sl (Y2.Sp.map Gs.c), .f .f32 Y2.Film, .f .f32 Y2.Bend, .sl (Y2.We.map (cF .f32)), .f .f32 Y2.Fall.X, .f .f32 Y2.Fall.Y, .f .f32 Y2.Fall.Z] :: .ptr 0 0 0 :: .nils :: .own 1 :: an 10 (.own 1 :: .ptr 0 0 2 :: .sl (Y2.Sp.map Gs.c) :: an 25 (.ptr 0 0 0 :: .ptr 0 0 1 :: .sl (Y2.Me.Tr.map (cL (cI .i64))) :: an 20 (.ptr 0 0 0 :: .agg [.sl (Y2.Me.Pq.map Gv.c), .sl (Y2.Me.Tr.map (cL (cI .i64)))] :: .own 2 :: an 49 []))), [.box 42 [.sl (Y2.Me.Pq.map Gv.c), .sl (Y2.Me.Tr.map (cL (cI .i64))), .sl (Y2.Sp.map Gs.c), .f .f32 Y2.Film, .f .f32 Y2.Bend, .sl (Y2.We.map (cF .f32)), .f .f32 Y2.Fall.X, .f .f32 Y2.Fall.Y, .f .f32 Y2.Fall.Z], .vec 27 1 (r.map (cF .f32)) false, .nest 49 ((Z6 Y2.Me).map fun l => l.map (cI .i64)) false]⟩)
def ZaK (Y2 : Gb) (Y1 : Int) (Y8 : (List Nat)) : St := ⟨.agg [.sl (Y2.Me.Pq.map Gv.c), .sl (Y2.Me.Tr.map (cL (cI .i64))), .sl (Y2.Sp.map Gs.c), .f .f32 Y2.Film, .f .f32 Y2.Bend, .sl (Y2.We.map (cF .f32)), .f .f32 Y2.Fall.X, .f .f32 Y2.Fall.Y, .f .f32 Y2.Fall.Z] :: .ptr 0 0 0 :: .nils :: .own 1 :: an 10 (.own 1 :: .ptr 0 0 2 :: .sl (Y2.Sp.map Gs.c) :: an 25 (.ptr 0 0 0 :: .ptr 0 0 1 :: .sl (Y2.Me.Tr.map (cL (cI .i64))) :: an 20 (.ptr 0 0 0 :: .agg [.sl (Y2.Me.Pq.map Gv.c), .sl (Y2.Me.Tr.map (cL (cI .i64)))] :: .own 2 :: .i .i64 ((Z6 Y2.Me).length : Int) :: .i .i64 Y1 :: an 47 []))), [.box 42 [.sl (Y2.Me.Pq.map Gv.c), .sl (Y2.Me.Tr.map (cL (cI .i64))), .sl (Y2.Sp.map Gs.c), .f .f32 Y2.Film, .f .f32 Y2.Bend, .sl (Y2.We.map (cF .f32)), .f .f32 Y2.Fall.X, .f .f32 Y2.Fall.Y, .f .f32 Y2.Fall.Z], .vec 27 1 (Y8.map (cF .f32)) false, .nest 49 ((Z6 Y2.Me).map fun l => l.map (cI .i64)) false]⟩
def Z9D : List Bool := (mR false [0, 4, 10, 3, 25, 3, 20, 5, 47])
def Zdg : List Bool := (mR false [0, 4, 10, 3, 25, 3, 20, 3, 49])
theorem Zek (Y2 : Gb) (hp0 : Y2.Me.Pq.length ≤ 1073741824) (hp1 : Y2.Me.Tr.length ≤ 1073741824) (hp2 : ∀ t ∈ Y2.Me.Tr, t.length ≤ 1073741824) (hp3 : Y2.Sp.length ≤ 1073741824) (hp4 : Y2.We.length ≤ 1073741824) (hp5 : OkBd Y2) : ∀ (k : Nat) (Y1 : Int) (Y8 : (List Nat)) (Z9E : 0 ≤ Y1) (Z9F : Y8.length = (Z2p Y2).length) (hk : (((Z6 Y2.Me).length : Int) - Y1).toNat < k), Lp prog 0 (sub (bodyOf f129) [1, 1, 1, 1, 0, 1, 0, 0]) (ZaK Y2 Y1 Y8) (Z7I Y2 (Z1y Y2 k Y1 Y8)).1 (Z7I Y2 (Z1y Y2 k Y1 Y8)).2 := by
 intro k
 induction k with
 | zero => intro Y1 Y8 Z9E Z9F hk; exact absurd hk (Nat.not_lt_zero _)
 | succ k ih =>
  intro Y1 Y8 Z9E Z9F hk
  cases Yj : (decide (Y1 < ((Z6 Y2.Me).length : Int))) with
  | true =>
   have YM := odt Yj
   have YS : (0 : Int) ≤ Y1 := (by assumption)
   have YT : Int.toNat Y1 < (Z6 Y2.Me).length := (by omega)
   have YY : Y1.toNat < (Z6 Y2.Me).length := (by assumption)
   have YZ : ((Z6 Y2.Me).getD Y1.toNat default).length ≤ 1073741824 := (by exact ZhF hp5.e (by assumption) Yj)
   have y_4 : ((Z6 Y2.Me).getD Y1.toNat default).length = 4 ∧ ∀ x ∈ ((Z6 Y2.Me).getD Y1.toNat default), 0 ≤ x ∧ x < (Y2.Me.Pq.length : Int) := (by exact Z6T hp5.e (by assumption) Yj)
   have y_5 : (0 : Int) ≤ 2 := (by omega)
   have y_6 : 2 < (Y8.length : Int) := (by simp_all <;> omega)
   have y_7 : 2 < Y8.length := (by omega)
   have y_8 : (-9223372036854775808 : Int) ≤ (Y1 + 1) := (by omega)
   have y_9 : (Y1 + 1) ≤ (9223372036854775807 : Int) := (by have q := hp5.w; (have q := ZaI _ hp5.e; omega))
   have e : Z1y Y2 (k + 1) Y1 Y8 = (Z1y Y2 k (Y1 + 1) (Y8.set 2 (fop .add .f32 (Y8.getD 2 default) (fop .mul .f32 (fop .mul .f32 1056964608 Y2.Bend) (Z3L Y2 Y1))))) := by simp only [Z1y, Yj, cond_true]
   rw [e]
   exact nextS E0Ok Z5 [] Z9D [0, 1, 2] (⟨.agg [.sl (Y2.Me.Pq.map Gv.c), .sl (Y2.Me.Tr.map (cL (cI .i64))), .sl (Y2.Sp.map Gs.c), .f .f32 Y2.Film, .f .f32 Y2.Bend, .sl (Y2.We.map (cF .f32)), .f .f32 Y2.Fall.X, .f .f32 Y2.Fall.Y, .f .f32 Y2.Fall.Z] :: .ptr 0 0 0 :: .nils :: .own 1 :: an 10 (.own 1 :: .ptr 0 0 2 :: .sl (Y2.Sp.map Gs.c) :: an 25 (.ptr 0 0 0 :: .ptr 0 0 1 :: .sl (Y2.Me.Tr.map (cL (cI .i64))) :: an 20 (.ptr 0 0 0 :: .agg [.sl (Y2.Me.Pq.map Gv.c), .sl (Y2.Me.Tr.map (cL (cI .i64)))] :: .own 2 :: .i .i64 ((Z6 Y2.Me).length : Int) :: .i .i64 (Y1 + 1) :: an 47 []))), [.box 42 [.sl (Y2.Me.Pq.map Gv.c), .sl (Y2.Me.Tr.map (cL (cI .i64))), .sl (Y2.Sp.map Gs.c), .f .f32 Y2.Film, .f .f32 Y2.Bend, .sl (Y2.We.map (cF .f32)), .f .f32 Y2.Fall.X, .f .f32 Y2.Fall.Y, .f .f32 Y2.Fall.Z], .vec 27 1 ((Y8.map (cF .f32)).set 2 [.f .f32 (fop .add .f32 (Y8.getD 2 default) (fop .mul .f32 (fop .mul .f32 1056964608 Y2.Bend) (Z3L Y2 Y1)))]) false, .nest 49 ((Z6 Y2.Me).map fun l => l.map (cI .i64)) false]⟩) (sB Yj <| sC (nestix (c := (cI .i64)) (l := (Z6 Y2.Me)) (i := Y1) YS YT) <| sC (nestlt (c := (cI .i64)) (l := (Z6 Y2.Me)) YY) <| sF (Fn.castA (args' := [.agg [.sl (Y2.Me.Pq.map Gv.c), .sl (Y2.Me.Tr.map (cL (cI .i64)))], .sl (((Z6 Y2.Me).map fun l => l.map (cI .i64)).getD Y1.toNat [])]) (ZcV Y2.Me ((Z6 Y2.Me).getD Y1.toNat default) hp0 hp1 hp2 YZ y_4) (by simp [cI]; done)) <| sK [10, 10] <| sX (cF .f32) Y8 2 y_5 y_6 <| sV (cF .f32) Y8 2 y_7 <| sF (Z9V (Zs Y2.Me ((Z6 Y2.Me).getD Y1.toNat default)) (Zs Y2.Me ((Z6 Y2.Me).getD Y1.toNat default))) <| sX (cF .f32) Y8 2 y_5 y_6 <| sC (maplt (c := (cF .f32)) (l := Y8) y_7) <| sI (Y1 + 1) y_8 y_9 <| sN) (by kernel_rfl) (by simp [ZaK, List.map_set, cF]) (ih (Y1 + 1) (Y8.set 2 (fop .add .f32 (Y8.getD 2 default) (fop .mul .f32 (fop .mul .f32 1056964608 Y2.Bend) (Z3L Y2 Y1)))) (show 0 ≤ (Y1 + 1) from (by omega)) (show (Y8.set 2 (fop .add .f32 (Y8.getD 2 default) (fop .mul .f32 (fop .mul .f32 1056964608 Y2.Bend) (Z3L Y2 Y1)))).length = (Z2p Y2).length from (by simp_all <;> omega)) (by omega))
  | false =>
   have YM := odf Yj
   have e : Z1y Y2 (k + 1) Y1 Y8 = Y8 := by simp only [Z1y, Yj, cond_false]
   rw [e]
   exact outR (e := (.exit 4)) E0Ok Z5 [] Zdg [0, 1, 2] (sB Yj <| sN) (by kernel_rfl) (by intro h; cases h)
theorem Zdh (Y2 : Gb) : ∀ (k : Nat) (Y1 : Int) (Y8 : (List Nat)) (hk : (((Z6 Y2.Me).length : Int) - Y1).toNat < k), (Z1y Y2 k Y1 Y8).length = Y8.length := by
  intro k
  induction k with
  | zero => intro Y1 Y8 hk; exact absurd hk (Nat.not_lt_zero _)
  | succ k ih =>
    intro Y1 Y8 hk
    cases Yj : (decide (Y1 < ((Z6 Y2.Me).length : Int))) with
    | true =>
      have e : Z1y Y2 (k + 1) Y1 Y8 = (Z1y Y2 k (Y1 + 1) (Y8.set 2 (fop .add .f32 (Y8.getD 2 default) (fop .mul .f32 (fop .mul .f32 1056964608 Y2.Bend) (Z3L Y2 Y1))))) := by simp only [Z1y, Yj, cond_true]
      rw [e, ih (Y1 + 1) (Y8.set 2 (fop .add .f32 (Y8.getD 2 default) (fop .mul .f32 (fop .mul .f32 1056964608 Y2.Bend) (Z3L Y2 Y1)))) (by simp_all <;> omega)]; simp
    | false =>
      have e : Z1y Y2 (k + 1) Y1 Y8 = Y8 := by simp only [Z1y, Yj, cond_false]
      first | (rw [e]; done) | (rw [e]; rfl)
def Z2q (Y2 : Gb) : (List Nat) := (Z1y Y2 ((((Z6 Y2.Me).length : Int) - 0).toNat + 1) 0 (Z2p Y2))
@[simp] theorem ZaV (Y2 : Gb) : (Z2q Y2).length = ((Z2p Y2) : (List Nat)).length := Zdh Y2 ((((Z6 Y2.Me).length : Int) - 0).toNat + 1) 0 (Z2p Y2) (by exact Nat.lt_succ_self _)
def Z4b (Y2 : Gb) (Y1 : Int) (Y8 : (List Nat)) : Nat := (fop .add .f32 (Y8.getD 3 default) (fneg .f32 (fop .mul .f32 (Y2.We.getD Y1.toNat default) (Z5h Y2.Fall (Y2.Me.Pq.getD Y1.toNat default)))))
def Z1G (Y2 : Gb) : Nat → Int → (List Nat) → (List Nat)
  | 0, _, _ => default
  | k + 1, Y1, Y8 => (cond (decide (Y1 < (Y2.Me.Pq.length : Int)))
    (Z1G Y2 k (Y1 + 1) (Y8.set 3 (Z4b Y2 Y1 Y8)))
    Y8)
def Z7J (Y2 : Gb) (r : (List Nat)) : Ex × St := ((.exit 6), ⟨.agg [.sl (Y2.Me.Pq.map Gv.c), .sl (Y2.Me.Tr.map (cL (cI .i64))), .sl (Y2.Sp.map Gs.c), .f .f32 Y2.Film, .f .f32 Y2.Bend, .sl (Y2.We.map (cF .f32)), .f .f32 Y2.Fall.X, .f .f32 Y2.Fall.Y, .f .f32 Y2.Fall.Z] :: .ptr 0 0 0 :: .nils :: .own 1 :: an 10 (.own 1 :: .ptr 0 0 2 :: .sl (Y2.Sp.map Gs.c) :: an 25 (.ptr 0 0 0 :: .ptr 0 0 1 :: .sl (Y2.Me.Tr.map (cL (cI .i64))) :: an 20 (.ptr 0 0 0 :: .agg [.sl (Y2.Me.Pq.map Gv.c), .sl (Y2.Me.Tr.map (cL (cI .i64)))] :: .own 2 :: an 22 (.ptr 0 0 0 :: .ptr 0 0 0 :: .sl (Y2.Me.Pq.map Gv.c) :: an 24 [])))), [.box 42 [.sl (Y2.Me.Pq.map Gv.c), .sl (Y2.Me.Tr.map (cL (cI .i64))), .sl (Y2.Sp.map Gs.c), .f .f32 Y2.Film, .f .f32 Y2.Bend, .sl (Y2.We.map (cF .f32)), .f .f32 Y2.Fall.X, .f .f32 Y2.Fall.Y, .f .f32 Y2.Fall.Z], .vec 27 1 (r.map (cF .f32)) false, .nest 49 ((Z6 Y2.Me).map fun l => l.map (cI .i64)) false]⟩)
def ZaL (Y2 : Gb) (Y1 : Int) (Y8 : (List Nat)) : St := ⟨.agg [.sl (Y2.Me.Pq.map Gv.c), .sl (Y2.Me.Tr.map (cL (cI .i64))), .sl (Y2.Sp.map Gs.c), .f .f32 Y2.Film, .f .f32 Y2.Bend, .sl (Y2.We.map (cF .f32)), .f .f32 Y2.Fall.X, .f .f32 Y2.Fall.Y, .f .f32 Y2.Fall.Z] :: .ptr 0 0 0 :: .nils :: .own 1 :: an 10 (.own 1 :: .ptr 0 0 2 :: .sl (Y2.Sp.map Gs.c) :: an 25 (.ptr 0 0 0 :: .ptr 0 0 1 :: .sl (Y2.Me.Tr.map (cL (cI .i64))) :: an 20 (.ptr 0 0 0 :: .agg [.sl (Y2.Me.Pq.map Gv.c), .sl (Y2.Me.Tr.map (cL (cI .i64)))] :: .own 2 :: an 22 (.ptr 0 0 0 :: .ptr 0 0 0 :: .sl (Y2.Me.Pq.map Gv.c) :: .i .i64 (Y2.Me.Pq.length : Int) :: .i .i64 Y1 :: an 22 [])))), [.box 42 [.sl (Y2.Me.Pq.map Gv.c), .sl (Y2.Me.Tr.map (cL (cI .i64))), .sl (Y2.Sp.map Gs.c), .f .f32 Y2.Film, .f .f32 Y2.Bend, .sl (Y2.We.map (cF .f32)), .f .f32 Y2.Fall.X, .f .f32 Y2.Fall.Y, .f .f32 Y2.Fall.Z], .vec 27 1 (Y8.map (cF .f32)) false, .nest 49 ((Z6 Y2.Me).map fun l => l.map (cI .i64)) false]⟩
def Z9G : List Bool := (mR false [0, 4, 10, 3, 25, 3, 20, 3, 22, 5, 22])
def Zdi : List Bool := (mR false [0, 4, 10, 3, 25, 3, 20, 3, 22, 3, 24])
theorem Zel (Y2 : Gb) (hp0 : Y2.Me.Pq.length ≤ 1073741824) (hp1 : Y2.Me.Tr.length ≤ 1073741824) (hp2 : ∀ t ∈ Y2.Me.Tr, t.length ≤ 1073741824) (hp3 : Y2.Sp.length ≤ 1073741824) (hp4 : Y2.We.length ≤ 1073741824) (hp5 : OkBd Y2) : ∀ (k : Nat) (Y1 : Int) (Y8 : (List Nat)) (Z9H : 0 ≤ Y1) (Z9I : Y8.length = (Z2q Y2).length) (hk : ((Y2.Me.Pq.length : Int) - Y1).toNat < k), Lp prog 0 (sub (bodyOf f129) [1, 1, 1, 1, 1, 0, 1, 0, 0]) (ZaL Y2 Y1 Y8) (Z7J Y2 (Z1G Y2 k Y1 Y8)).1 (Z7J Y2 (Z1G Y2 k Y1 Y8)).2 := by
 intro k
 induction k with
 | zero => intro Y1 Y8 Z9H Z9I hk; exact absurd hk (Nat.not_lt_zero _)
 | succ k ih =>
  intro Y1 Y8 Z9H Z9I hk
  cases Yj : (decide (Y1 < (Y2.Me.Pq.length : Int))) with
  | true =>
   have YM := odt Yj
   have YS : (0 : Int) ≤ Y1 := (by assumption)
   have YT : Y1 < (Y2.Me.Pq.length : Int) := (by assumption)
   have YY : (0 : Int) ≤ 3 := (by omega)
   have YZ : 3 < (Y8.length : Int) := (by simp_all <;> omega)
   have y_4 : 3 < Y8.length := (by omega)
   have y_5 : Y1 < (Y2.We.length : Int) := (by have q := hp5.w; omega)
   have y_6 : (-9223372036854775808 : Int) ≤ (Y1 + 1) := (by omega)
   have y_7 : (Y1 + 1) ≤ (9223372036854775807 : Int) := (by omega)
   have e : Z1G Y2 (k + 1) Y1 Y8 = (Z1G Y2 k (Y1 + 1) (Y8.set 3 (Z4b Y2 Y1 Y8))) := by simp only [Z1G, Yj, cond_true]
   rw [e]
   exact nextS E0Ok Z5 [] Z9G [0, 1, 2] (⟨.agg [.sl (Y2.Me.Pq.map Gv.c), .sl (Y2.Me.Tr.map (cL (cI .i64))), .sl (Y2.Sp.map Gs.c), .f .f32 Y2.Film, .f .f32 Y2.Bend, .sl (Y2.We.map (cF .f32)), .f .f32 Y2.Fall.X, .f .f32 Y2.Fall.Y, .f .f32 Y2.Fall.Z] :: .ptr 0 0 0 :: .nils :: .own 1 :: an 10 (.own 1 :: .ptr 0 0 2 :: .sl (Y2.Sp.map Gs.c) :: an 25 (.ptr 0 0 0 :: .ptr 0 0 1 :: .sl (Y2.Me.Tr.map (cL (cI .i64))) :: an 20 (.ptr 0 0 0 :: .agg [.sl (Y2.Me.Pq.map Gv.c), .sl (Y2.Me.Tr.map (cL (cI .i64)))] :: .own 2 :: an 22 (.ptr 0 0 0 :: .ptr 0 0 0 :: .sl (Y2.Me.Pq.map Gv.c) :: .i .i64 (Y2.Me.Pq.length : Int) :: .i .i64 (Y1 + 1) :: an 22 [])))), [.box 42 [.sl (Y2.Me.Pq.map Gv.c), .sl (Y2.Me.Tr.map (cL (cI .i64))), .sl (Y2.Sp.map Gs.c), .f .f32 Y2.Film, .f .f32 Y2.Bend, .sl (Y2.We.map (cF .f32)), .f .f32 Y2.Fall.X, .f .f32 Y2.Fall.Y, .f .f32 Y2.Fall.Z], .vec 27 1 ((Y8.map (cF .f32)).set 3 [.f .f32 (Z4b Y2 Y1 Y8)]) false, .nest 49 ((Z6 Y2.Me).map fun l => l.map (cI .i64)) false]⟩) (sB Yj <| sG Gv.c Y2.Me.Pq Y1 YS YT <| sK [14, 14] <| sX (cF .f32) Y8 3 YY YZ <| sV (cF .f32) Y8 3 y_4 <| sG (cF .f32) Y2.We Y1 YS y_5 <| sF (Z9V Y2.Fall (Y2.Me.Pq.getD Y1.toNat default)) <| sX (cF .f32) Y8 3 YY YZ <| sC (maplt (c := (cF .f32)) (l := Y8) y_4) <| sI (Y1 + 1) y_6 y_7 <| sN) (by kernel_rfl) (by simp [ZaL, List.map_set, cF]) (ih (Y1 + 1) (Y8.set 3 (Z4b Y2 Y1 Y8)) (show 0 ≤ (Y1 + 1) from (by omega)) (show (Y8.set 3 (Z4b Y2 Y1 Y8)).length = (Z2q Y2).length from (by simp_all <;> omega)) (by omega))
  | false =>
   have YM := odf Yj
   have e : Z1G Y2 (k + 1) Y1 Y8 = Y8 := by simp only [Z1G, Yj, cond_false]
   rw [e]
   exact outR (e := (.exit 6)) E0Ok Z5 [] Zdi [0, 1, 2] (sB Yj <| sN) (by kernel_rfl) (by intro h; cases h)
end Go.Ab
