/- The functions of this seat as plain Lean, and that the program's are these. Printed by a program of the prover's own. -/
import Derived.Test.YtiihcpcabmamiaaB3
set_option linter.unusedVariables false
set_option linter.unusedSimpArgs false
set_option maxRecDepth 100000
namespace Go.Ab
open Go.RowKit Go.Proofs.Try

def lr_impl_trianglesByEdge_2_0 (m_0 : GMesh) (x_l0 : Int) (r1_l1 : (List (Gedge × List Int))) (r2_l2 : (List Gedge)) : (List (Gedge × List Int)) × (List Gedge) := (lo_impl_trianglesByEdge_2 m_0 x_l0 r1_l1 r2_l2 (((3 : Int) - 0).toNat + 1) 0 r1_l1 r2_l2)

theorem loT2_inv (m : GMesh) (i : Int) (b0 : List (Gedge × List Int)) (l0 : List Gedge) (h0 : 0 ≤ i) : ∀ (k : Nat) (x : Int) (b : List (Gedge × List Int)) (l : List Gedge), 0 ≤ x → (3 - x).toNat < k → x ≤ 3 → (l.length : Int) ≤ 3 * i + x → (∀ y ∈ b, (y.2.length : Int) ≤ 3 * i + x) → ((lo_impl_trianglesByEdge_2 m i b0 l0 k x b l).2.length : Int) ≤ 3 * (i + 1) ∧ ∀ y ∈ (lo_impl_trianglesByEdge_2 m i b0 l0 k x b l).1, (y.2.length : Int) ≤ 3 * (i + 1) := by
  intro k
  induction k with
  | zero => intro x b l _ hk; exact absurd hk (Nat.not_lt_zero _)
  | succ k ih =>
    intro x b l hx hk h3 hl hb
    rw [lo_impl_trianglesByEdge_2]
    cases hc : decide (x < 3) with
    | false => rw [cond_false]; exact ⟨by simp only; omega, fun y hy => by have := hb y hy; omega⟩
    | true =>
      have hc' := of_decide_eq_true hc
      rw [cond_true]
      cases mhas b (nd_impl_trianglesByEdge_0 m i x) with
      | true =>
        rw [cond_true]
        cases (((b.getD (midx b (nd_impl_trianglesByEdge_0 m i x)) default).2.length : Int) == 0) with
        | true => rw [cond_true]; exact ih _ _ _ (by omega) (by omega) (by omega) (by simp only [List.length_append, List.length_cons, List.length_nil]; omega) (mput_inv hb (by omega) (by omega))
        | false => rw [cond_false]; exact ih _ _ _ (by omega) (by omega) (by omega) (by omega) (mput_inv hb (by omega) (by omega))
      | false => rw [cond_false]; exact ih _ _ _ (by omega) (by omega) (by omega) (by simp only [List.length_append, List.length_cons, List.length_nil]; omega) (mnew_inv hb (by omega) (by omega))
theorem loT_inv (m : GMesh) (i : Int) (b : List (Gedge × List Int)) (l : List Gedge) (h0 : 0 ≤ i) (hl : (l.length : Int) ≤ 3 * i) (hb : ∀ y ∈ b, (y.2.length : Int) ≤ 3 * i) :
    ((lr_impl_trianglesByEdge_2_0 m i b l).2.length : Int) ≤ 3 * (i + 1) ∧ ∀ y ∈ (lr_impl_trianglesByEdge_2_0 m i b l).1, (y.2.length : Int) ≤ 3 * (i + 1) :=
  loT2_inv m i b l h0 _ 0 b l (Int.le_refl 0) (by omega) (by omega) (by omega) (fun y hy => by have := hb y hy; omega)

def lo_impl_trianglesByEdge_1 (m_0 : GMesh) : Nat → Int → (List (Gedge × List Int)) → (List Gedge) → (List (Gedge × List Int)) × (List Gedge)
  | 0, _, _, _ => default
  | k + 1, x_l0, r1_l1, r2_l2 => (cond (decide (x_l0 < (m_0.Triangles.length : Int)))
    (lo_impl_trianglesByEdge_1 m_0 k (x_l0 + 1) ((lr_impl_trianglesByEdge_2_0 m_0 x_l0 r1_l1 r2_l2).1) ((lr_impl_trianglesByEdge_2_0 m_0 x_l0 r1_l1 r2_l2).2))
    (r1_l1, r2_l2))

def ls_impl_trianglesByEdge_1 (m_0 : GMesh) (r : (List (Gedge × List Int)) × (List Gedge)) : Ex × St := ((.exit 0), ⟨[.agg [.sl (m_0.Places.map GVector.cells), .sl (m_0.Triangles.map (cL (cI .i64)))], .ptr 0 0 0, .any, .nils, .mp 1, .own 2, .any, .any, .any, .any, .mp 1, .any, .ptr 0 0 1, .sl (m_0.Triangles.map (cL (cI .i64))), .any, .any, .any, .any, .any, .any, .any, .any, .any, .any, .any, .any, .any, .any, .any, .any, .any, .any, .any, .any, .any, .any, .any, .any, .any, .any, .any, .any, .any, .any, .any, .any, .any, .any, .any, .any, .any, .any, .any, .any, .any, .any, .any], [.box 31 [.sl (m_0.Places.map GVector.cells), .sl (m_0.Triangles.map (cL (cI .i64)))], .mapN 2 (mapC Gedge.pr (cI .i64) r.1) none, .vec 100 2 (r.2.map Gedge.cells) false]⟩)

def hd_impl_trianglesByEdge_1 (m_0 : GMesh) (x_l0 : Int) (r1_l1 : (List (Gedge × List Int))) (r2_l2 : (List Gedge)) : St := ⟨[.agg [.sl (m_0.Places.map GVector.cells), .sl (m_0.Triangles.map (cL (cI .i64)))], .ptr 0 0 0, .any, .nils, .mp 1, .own 2, .any, .any, .any, .any, .mp 1, .any, .ptr 0 0 1, .sl (m_0.Triangles.map (cL (cI .i64))), .i .i64 (m_0.Triangles.length : Int), .i .i64 x_l0, .any, .any, .any, .any, .any, .any, .any, .any, .any, .any, .any, .any, .any, .any, .any, .any, .any, .any, .any, .any, .any, .any, .any, .any, .any, .any, .any, .any, .any, .any, .any, .any, .any, .any, .any, .any, .any, .any, .any, .any, .any], [.box 31 [.sl (m_0.Places.map GVector.cells), .sl (m_0.Triangles.map (cL (cI .i64)))], .mapN 2 (mapC Gedge.pr (cI .i64) r1_l1) none, .vec 100 2 (r2_l2.map Gedge.cells) false]⟩

def mk_impl_trianglesByEdge_1_0 : List Bool := [true, true, false, true, true, true, false, false, false, false, true, false, true, true, true, true, false, false, false, false, false, false, false, false, false, false, false, false, false, false, false, false, false, false, false, false, false, false, false, false, false, false, false, false, false, false, false, false, false, false, false, false, false, false, false, false, false]

def mk_impl_trianglesByEdge_1_1 : List Bool := [true, true, false, true, true, true, false, false, false, false, true, false, true, true, false, false, false, false, false, false, false, false, false, false, false, false, false, false, false, false, false, false, false, false, false, false, false, false, false, false, false, false, false, false, false, false, false, false, false, false, false, false, false, false, false, false, false]

theorem lp_impl_trianglesByEdge_1 (m_0 : GMesh) (hp0 : m_0.Places.length ≤ 1073741824) (hp1 : m_0.Triangles.length ≤ 1073741824) (hp2 : ∀ t ∈ m_0.Triangles, t.length ≤ 1073741824) (hp3 : OkE m_0.Places.length m_0.Triangles) : ∀ (k : Nat) (x_l0 : Int) (r1_l1 : (List (Gedge × List Int))) (r2_l2 : (List Gedge)) (hv_impl_trianglesByEdge_1_0 : 0 ≤ x_l0) (hv_impl_trianglesByEdge_1_1 : (r2_l2.length : Int) ≤ 3 * x_l0) (hv_impl_trianglesByEdge_1_2 : ∀ y ∈ r1_l1, (y.2.length : Int) ≤ 3 * x_l0) (hk : ((m_0.Triangles.length : Int) - x_l0).toNat < k), Lp prog 0 (sub (bodyOf f66) [1, 1, 0, 1, 0, 0]) (hd_impl_trianglesByEdge_1 m_0 x_l0 r1_l1 r2_l2) (ls_impl_trianglesByEdge_1 m_0 (lo_impl_trianglesByEdge_1 m_0 k x_l0 r1_l1 r2_l2)).1 (ls_impl_trianglesByEdge_1 m_0 (lo_impl_trianglesByEdge_1 m_0 k x_l0 r1_l1 r2_l2)).2 := by
 intro k
 induction k with
 | zero => intro x_l0 r1_l1 r2_l2 hv_impl_trianglesByEdge_1_0 hv_impl_trianglesByEdge_1_1 hv_impl_trianglesByEdge_1_2 hk; exact absurd hk (Nat.not_lt_zero _)
 | succ k ih =>
  intro x_l0 r1_l1 r2_l2 hv_impl_trianglesByEdge_1_0 hv_impl_trianglesByEdge_1_1 hv_impl_trianglesByEdge_1_2 hk
  cases h_0 : (decide (x_l0 < (m_0.Triangles.length : Int))) with
  | true =>
   have gh_0 := of_decide_eq_true h_0
   have y_0 : (0 : Int) ≤ x_l0 := (by first | assumption | omega | (first | (have g5 := of_decide_eq_true hf_impl_trianglesByEdge_2_0; have q := OkE.at hp3 hv_impl_trianglesByEdge_1_0 g5 hv_impl_trianglesByEdge_2_0 (of_decide_eq_true (by assumption)); first | omega | (simp only [List.length_append, List.length_cons, List.length_nil]; omega) | (have q3 := mlen_leI (N := 3 * x_l0 + x_l0_1) (by omega) (by assumption) (midx r1_l1_1 (nd_impl_trianglesByEdge_0 m_0 x_l0 x_l0_1)); simp only [List.length_cons, List.length_nil]; omega)) | (have := hp3.2.1; omega) | (have q := loTE_len m_0 hp3; omega)) | (simp_all <;> omega))
   have y_1 : x_l0 < (m_0.Triangles.length : Int) := (by first | assumption | omega | (first | (have g5 := of_decide_eq_true hf_impl_trianglesByEdge_2_0; have q := OkE.at hp3 hv_impl_trianglesByEdge_1_0 g5 hv_impl_trianglesByEdge_2_0 (of_decide_eq_true (by assumption)); first | omega | (simp only [List.length_append, List.length_cons, List.length_nil]; omega) | (have q3 := mlen_leI (N := 3 * x_l0 + x_l0_1) (by omega) (by assumption) (midx r1_l1_1 (nd_impl_trianglesByEdge_0 m_0 x_l0 x_l0_1)); simp only [List.length_cons, List.length_nil]; omega)) | (have := hp3.2.1; omega) | (have q := loTE_len m_0 hp3; omega)) | (simp_all <;> omega))
   have y_2 : (-9223372036854775808 : Int) ≤ (x_l0 + 1) := (by first | assumption | omega | (first | (have g5 := of_decide_eq_true hf_impl_trianglesByEdge_2_0; have q := OkE.at hp3 hv_impl_trianglesByEdge_1_0 g5 hv_impl_trianglesByEdge_2_0 (of_decide_eq_true (by assumption)); first | omega | (simp only [List.length_append, List.length_cons, List.length_nil]; omega) | (have q3 := mlen_leI (N := 3 * x_l0 + x_l0_1) (by omega) (by assumption) (midx r1_l1_1 (nd_impl_trianglesByEdge_0 m_0 x_l0 x_l0_1)); simp only [List.length_cons, List.length_nil]; omega)) | (have := hp3.2.1; omega) | (have q := loTE_len m_0 hp3; omega)) | (simp_all <;> omega))
   have y_3 : (x_l0 + 1) ≤ (9223372036854775807 : Int) := (by first | assumption | omega | (first | (have g5 := of_decide_eq_true hf_impl_trianglesByEdge_2_0; have q := OkE.at hp3 hv_impl_trianglesByEdge_1_0 g5 hv_impl_trianglesByEdge_2_0 (of_decide_eq_true (by assumption)); first | omega | (simp only [List.length_append, List.length_cons, List.length_nil]; omega) | (have q3 := mlen_leI (N := 3 * x_l0 + x_l0_1) (by omega) (by assumption) (midx r1_l1_1 (nd_impl_trianglesByEdge_0 m_0 x_l0 x_l0_1)); simp only [List.length_cons, List.length_nil]; omega)) | (have := hp3.2.1; omega) | (have q := loTE_len m_0 hp3; omega)) | (simp_all <;> omega))
   have e : lo_impl_trianglesByEdge_1 m_0 (k + 1) x_l0 r1_l1 r2_l2 = (lo_impl_trianglesByEdge_1 m_0 k (x_l0 + 1) ((lr_impl_trianglesByEdge_2_0 m_0 x_l0 r1_l1 r2_l2).1) ((lr_impl_trianglesByEdge_2_0 m_0 x_l0 r1_l1 r2_l2).2)) := by simp only [lo_impl_trianglesByEdge_1, h_0, cond_true]
   rw [e]
   exact nextR E0Ok hMixed [] mk_impl_trianglesByEdge_1_0 [0, 1, 2] (ih (x_l0 + 1) ((lr_impl_trianglesByEdge_2_0 m_0 x_l0 r1_l1 r2_l2).1) ((lr_impl_trianglesByEdge_2_0 m_0 x_l0 r1_l1 r2_l2).2) (show 0 ≤ (x_l0 + 1) from (by first | assumption | omega | exact mput_inv (by assumption) (by omega) (by omega) | exact mnew_inv (by assumption) (by omega) (by omega) | (simp only [List.length_append, List.length_cons, List.length_nil]; omega) | exact (loT_inv _ _ _ _ hv_impl_trianglesByEdge_1_0 (by assumption) (by assumption)).1 | exact (loT_inv _ _ _ _ hv_impl_trianglesByEdge_1_0 (by assumption) (by assumption)).2)) (show (((lr_impl_trianglesByEdge_2_0 m_0 x_l0 r1_l1 r2_l2).2).length : Int) ≤ 3 * (x_l0 + 1) from (by first | assumption | omega | exact mput_inv (by assumption) (by omega) (by omega) | exact mnew_inv (by assumption) (by omega) (by omega) | (simp only [List.length_append, List.length_cons, List.length_nil]; omega) | exact (loT_inv _ _ _ _ hv_impl_trianglesByEdge_1_0 (by assumption) (by assumption)).1 | exact (loT_inv _ _ _ _ hv_impl_trianglesByEdge_1_0 (by assumption) (by assumption)).2)) (show ∀ y ∈ ((lr_impl_trianglesByEdge_2_0 m_0 x_l0 r1_l1 r2_l2).1), (y.2.length : Int) ≤ 3 * (x_l0 + 1) from (by first | assumption | omega | exact mput_inv (by assumption) (by omega) (by omega) | exact mnew_inv (by assumption) (by omega) (by omega) | (simp only [List.length_append, List.length_cons, List.length_nil]; omega) | exact (loT_inv _ _ _ _ hv_impl_trianglesByEdge_1_0 (by assumption) (by assumption)).1 | exact (loT_inv _ _ _ _ hv_impl_trianglesByEdge_1_0 (by assumption) (by assumption)).2)) (by first | assumption | omega | (first | (have g5 := of_decide_eq_true hf_impl_trianglesByEdge_2_0; have q := OkE.at hp3 hv_impl_trianglesByEdge_1_0 g5 hv_impl_trianglesByEdge_2_0 (of_decide_eq_true (by assumption)); first | omega | (simp only [List.length_append, List.length_cons, List.length_nil]; omega) | (have q3 := mlen_leI (N := 3 * x_l0 + x_l0_1) (by omega) (by assumption) (midx r1_l1_1 (nd_impl_trianglesByEdge_0 m_0 x_l0 x_l0_1)); simp only [List.length_cons, List.length_nil]; omega)) | (have := hp3.2.1; omega) | (have q := loTE_len m_0 hp3; omega)) | (simp_all <;> omega))) (sB h_0 <| sG (cL (cI .i64)) m_0.Triangles x_l0 y_0 y_1 <| sL mk_impl_trianglesByEdge_2_0 3 (lp_val (ls_impl_trianglesByEdge_2 m_0 x_l0 r1_l1 r2_l2) (x := (lr_impl_trianglesByEdge_2_0 m_0 x_l0 r1_l1 r2_l2)) (lp_impl_trianglesByEdge_2 m_0 x_l0 r1_l1 r2_l2 hp0 hp1 hp2 hp3 hv_impl_trianglesByEdge_1_0 hv_impl_trianglesByEdge_1_1 hv_impl_trianglesByEdge_1_2 h_0 (((3 : Int) - 0).toNat + 1) 0 r1_l1 r2_l2 (show 0 ≤ 0 from (by first | omega | (simp; done) | (intro y hy; have q := hv_impl_trianglesByEdge_1_2 y hy; omega))) (show (r2_l2.length : Int) ≤ (r2_l2.length : Int) + 0 from (by first | omega | (simp; done) | (intro y hy; have q := hv_impl_trianglesByEdge_1_2 y hy; omega))) (show ∀ y ∈ r1_l1, (y.2.length : Int) ≤ 3 * x_l0 + 0 from (by first | omega | (simp; done) | (intro y hy; have q := hv_impl_trianglesByEdge_1_2 y hy; omega))) (Nat.lt_succ_self _)) rfl) <| sI (x_l0 + 1) y_2 y_3 <| sN) (by kernel_rfl)
  | false =>
   have gh_0 := of_decide_eq_false h_0
   have e : lo_impl_trianglesByEdge_1 m_0 (k + 1) x_l0 r1_l1 r2_l2 = (r1_l1, r2_l2) := by simp only [lo_impl_trianglesByEdge_1, h_0, cond_false]
   rw [e]
   exact outR (e := (.exit 0)) E0Ok hMixed [] mk_impl_trianglesByEdge_1_1 [0, 1, 2] (sB h_0 <| sN) (by kernel_rfl) (by intro h; cases h)

def lr_impl_trianglesByEdge_1_1 (m_0 : GMesh) : (List (Gedge × List Int)) × (List Gedge) := (lo_impl_trianglesByEdge_1 m_0 (((m_0.Triangles.length : Int) - 0).toNat + 1) 0 ([] : (List (Gedge × List Int))) ([] : List Gedge))

theorem loT1_st (m : GMesh) (k : Nat) (i : Int) (b : List (Gedge × List Int)) (l : List Gedge) (h0 : 0 ≤ i) : lo_impl_trianglesByEdge_1 m (k + 1) i b l = cond (decide (i < (m.Triangles.length : Int))) (lo_impl_trianglesByEdge_1 m k (i + 1) (stT (b, l) (m.Triangles.getD i.toNat default) i).1 (stT (b, l) (m.Triangles.getD i.toNat default) i).2) (b, l) := by
  have st : ∀ (x : Int) (k : Nat) (b : List (Gedge × List Int)) (l : List Gedge), x < 3 → lo_impl_trianglesByEdge_2 m i b l (k + 1) x b l = lo_impl_trianglesByEdge_2 m i b l (k + 1) x b l := fun _ _ _ _ _ => rfl
  have one : ∀ (b0 : List (Gedge × List Int)) (l0 : List Gedge) (k : Nat) (x : Int) (s : List (Gedge × List Int) × List Gedge), x < 3 → lo_impl_trianglesByEdge_2 m i b0 l0 (k + 1) x s.1 s.2 = lo_impl_trianglesByEdge_2 m i b0 l0 k (x + 1) (stE s (nd_impl_trianglesByEdge_0 m i x) i).1 (stE s (nd_impl_trianglesByEdge_0 m i x) i).2 := by
    intro b0 l0 k x s hx
    rw [lo_impl_trianglesByEdge_2, decide_eq_true hx, cond_true]
    unfold stE
    cases mhas s.1 (nd_impl_trianglesByEdge_0 m i x) with
    | true =>
      rw [cond_true, cond_true]
      cases (((s.1.getD (midx s.1 (nd_impl_trianglesByEdge_0 m i x)) default).2.length : Int) == 0) <;> rfl
    | false => rfl
  have tri : lr_impl_trianglesByEdge_2_0 m i b l = stT (b, l) (m.Triangles.getD i.toNat default) i := by
    unfold lr_impl_trianglesByEdge_2_0
    show lo_impl_trianglesByEdge_2 m i b l 4 0 (b, l).1 (b, l).2 = _
    rw [one b l 3 0 (b, l) (by omega), one b l 2 (0 + 1) _ (by omega), one b l 1 (0 + 1 + 1) _ (by omega), lo_impl_trianglesByEdge_2]
    show cond (decide ((3 : Int) < 3)) _ _ = _
    rw [decide_eq_false (by omega), cond_false]
    unfold nd_impl_trianglesByEdge_0 stT
    simp only [edgeOf_eq]
    rfl
  rw [lo_impl_trianglesByEdge_1, tri]
theorem etab_is (m : GMesh) (ok : OkE m.Places.length m.Triangles) : ETab m.Triangles m.Triangles.length (lr_impl_trianglesByEdge_1_1 m) := by
  unfold lr_impl_trianglesByEdge_1_1
  exact ETab.loop ok (loT1_st m) _ 0 ([], []) (Nat.zero_le _) (ETab.nil _) (by omega)
theorem loTE_len (m : GMesh) (ok : OkE m.Places.length m.Triangles) : (lr_impl_trianglesByEdge_1_1 m).2.length ≤ 4096 := by
  have h := congrArg List.length ((etab_is m ok).sorted ok)
  rw [length_sortE] at h
  rw [h]; exact edgL_len ok

end Go.Ab
namespace Go.Proofs
open Go.Shelf
def Try.laysF0n6_ren : Go.Shelf.Ren := ⟨fun | 6 => 114 | 15 => 128 | 14 => 140 | 28 => 154 | 29 => 155 | 20 => 158 | 21 => 159 | 22 => 160 | 23 => 161 | 24 => 162 | 25 => 163 | 26 => 164 | 27 => 165 | 46 => 174 | 47 => 169 | 48 => 170 | 49 => 175 | 50 => 176 | 57 => 178 | n => n, fun | 22 => 95 | 24 => 100 | 25 => 144 | 3 => 3 | 39 => 153 | 0 => 0 | 53 => 177 | 55 => 179 | 4 => 4 | 46 => 169 | 45 => 168 | 50 => 174 | 5 => 5 | 9 => 9 | 66 => 186 | 70 => 190 | 76 => 195 | 77 => 196 | n => n, fun | n => n⟩
theorem Try.laysF0n6 : Go.Proofs.SlLaysF0.n6 Try.prog Try.laysF0n6_ren := {
  mixed := by kernel_rfl
  f6 := ⟨Try.f114.name, by decide, Try.func114.trans (congrArg some (by kernel_rfl))⟩
  f14 := ⟨Try.f140.name, by decide, Try.func140.trans (congrArg some (by kernel_rfl))⟩
  f15 := Try.func128.trans (congrArg some (by kernel_rfl))
  f20 := ⟨Try.f158.name, by decide, Try.func158.trans (congrArg some (by kernel_rfl))⟩
  f21 := ⟨Try.f159.name, by decide, Try.func159.trans (congrArg some (by kernel_rfl))⟩
  f22 := ⟨Try.f160.name, by decide, Try.func160.trans (congrArg some (by kernel_rfl))⟩
  f23 := ⟨Try.f161.name, by decide, Try.func161.trans (congrArg some (by kernel_rfl))⟩
  f24 := ⟨Try.f162.name, by decide, Try.func162.trans (congrArg some (by kernel_rfl))⟩
  f25 := ⟨Try.f163.name, by decide, Try.func163.trans (congrArg some (by kernel_rfl))⟩
  f26 := ⟨Try.f164.name, by decide, Try.func164.trans (congrArg some (by kernel_rfl))⟩
  f27 := ⟨Try.f165.name, by decide, Try.func165.trans (congrArg some (by kernel_rfl))⟩
  f28 := Try.func154.trans (congrArg some (by kernel_rfl))
  f29 := Try.func155.trans (congrArg some (by kernel_rfl))
  f46 := ⟨Try.f174.name, by decide, Try.func174.trans (congrArg some (by kernel_rfl))⟩
  f47 := Try.func169.trans (congrArg some (by kernel_rfl))
  f48 := Try.func170.trans (congrArg some (by kernel_rfl))
  f49 := ⟨Try.f175.name, by decide, Try.func175.trans (congrArg some (by kernel_rfl))⟩
  f50 := ⟨Try.f176.name, by decide, Try.func176.trans (congrArg some (by kernel_rfl))⟩
  f57 := ⟨Try.f178.name, by decide, Try.func178.trans (congrArg some (by kernel_rfl))⟩
  t0 := Try.underlying0
  a0 := Try.isAgg0
  z0 := Try.sizeOf0
  v0 := Try.zeroValue0
  t3 := Try.underlying3
  a3 := Try.isAgg3
  z3 := Try.sizeOf3
  v3 := Try.zeroValue3
  t4 := Try.underlying4
  a4 := Try.isAgg4
  z4 := Try.sizeOf4
  v4 := Try.zeroValue4
  t5 := Try.underlying5
  a5 := Try.isAgg5
  z5 := Try.sizeOf5
  v5 := Try.zeroValue5
  t9 := Try.underlying9
  a9 := Try.isAgg9
  z9 := Try.sizeOf9
  v9 := Try.zeroValue9
  t22 := Try.underlying95
  a22 := Try.isAgg95
  z22 := Try.sizeOf95
  v22 := Try.zeroValue95
  t25 := Try.underlying144
  a25 := Try.isAgg144
  z25 := Try.sizeOf144
  v25 := Try.zeroValue144
  t39 := Try.underlying153
  a39 := Try.isAgg153
  z39 := Try.sizeOf153
  v39 := Try.zeroValue153
  t45 := Try.underlying168
  a45 := Try.isAgg168
  z45 := Try.sizeOf168
  v45 := Try.zeroValue168
  t46 := Try.underlying169
  a46 := Try.isAgg169
  z46 := Try.sizeOf169
  v46 := Try.zeroValue169
  t50 := Try.underlying174
  a50 := Try.isAgg174
  z50 := Try.sizeOf174
  v50 := Try.zeroValue174
  t53 := Try.underlying177
  a53 := Try.isAgg177
  z53 := Try.sizeOf177
  v53 := Try.zeroValue177
  t55 := Try.underlying179
  a55 := Try.isAgg179
  z55 := Try.sizeOf179
  v55 := Try.zeroValue179
  t66 := Try.underlying186
  a66 := Try.isAgg186
  z66 := Try.sizeOf186
  v66 := Try.zeroValue186
  t70 := Try.underlying190
  a70 := Try.isAgg190
  z70 := Try.sizeOf190
  v70 := Try.zeroValue190
  t76 := Try.underlying195
  a76 := Try.isAgg195
  z76 := Try.sizeOf195
  v76 := Try.zeroValue195
  t77 := Try.underlying196
  a77 := Try.isAgg196
  z77 := Try.sizeOf196
  v77 := Try.zeroValue196 }
end Go.Proofs
namespace Go.Ab
open Go.RowKit Go.Proofs.Try

theorem v_cmpC (x y : Int) : v_cmp_Compare_int64_ x y = if x < y then -1 else if x > y then 1 else 0 := by
  unfold v_cmp_Compare_int64_ v_cmp_isNaN_int64_
  simp only [bne_self_eq_false, cond_false]
  by_cases h1 : x < y
  · simp [h1]
  · by_cases h2 : x > y <;> simp [h1, h2]

theorem v_cmpE (a b : Gedge) : v_impl_compareEdges a b = cmpP a.pr b.pr := by
  unfold v_impl_compareEdges v_slices_Compare___int64_int64_ lr_slices_Compare___int64_int64__1_0 cmpP Gedge.pr
  show (match lo_slices_Compare___int64_int64__1 [a.e0, a.e1] [b.e0, b.e1] 3 0 with | .inl r1 => r1 | .inr r1 => cond (decide (((2 : Nat) : Int) < ((2 : Nat) : Int))) (-1) 0) = _
  simp only [lo_slices_Compare___int64_int64__1, v_cmpC, List.length_cons, List.length_nil]
  by_cases h1 : a.e0 < b.e0
  · simp [h1]
  · by_cases h2 : a.e0 > b.e0
    · simp [h1, h2]
    · by_cases h3 : a.e1 < b.e1
      · simp [h1, h2, h3]
      · by_cases h4 : a.e1 > b.e1 <;> simp [h1, h2, h3, h4]

def sort_impl_compareEdges (l : List Gedge) : List Gedge := sortE Gedge.pr l

theorem t_sort_impl_compareEdges (l : List Gedge) (h : l.length ≤ 1073741824) : CallSt prog 114 [.vec 100 2 (l.map Gedge.cells) false] [.own 0, .fn 115 []] (.tup []) [.vec 100 2 ((sort_impl_compareEdges l).map Gedge.cells) false] :=
  sort_row laysF0n6 isAgg100 sizeOf100 Gedge.pr Gedge.inj Gedge.cells (fun _ => rfl) 100 115 ⟨_, func114, rfl, by kernel_rfl⟩ (t_impl_compareEdges default default).1
    (fun a b W => ((t_impl_compareEdges a b).2 W #[keyV a.pr, keyV b.pr] ⟨rfl, fun j c e => by match j, e with | 0, e => cases e; exact Rep.agg _ _ rfl (fun i c e => by match i, e with | 0, e => cases e; exact .i _ _ | 1, e => cases e; exact .i _ _) | 1, e => cases e; exact Rep.agg _ _ rfl (fun i c e => by match i, e with | 0, e => cases e; exact .i _ _ | 1, e => cases e; exact .i _ _)⟩).mono fun e w' ⟨v, μ', he, hb, _, hr⟩ => by
      cases hr; rw [v_cmpE] at he; exact ⟨he, hb⟩) l h

def v_impl_trianglesByEdge (m_0 : GMesh) : (List (Gedge × List Int)) × (List Gedge) := ((lr_impl_trianglesByEdge_1_1 m_0).1, (sort_impl_compareEdges ((lr_impl_trianglesByEdge_1_1 m_0).2)))

theorem edges_eq (m : GMesh) (ok : OkE m.Places.length m.Triangles) : (v_impl_trianglesByEdge m).2 = edgL m.Places.length m.Triangles := (etab_is m ok).sorted ok
theorem edges_at (m : GMesh) (ok : OkE m.Places.length m.Triangles) {e : Gedge} (he : e ∈ (v_impl_trianglesByEdge m).2) : mhas (v_impl_trianglesByEdge m).1 e = true ∧ ((v_impl_trianglesByEdge m).1.getD (midx (v_impl_trianglesByEdge m).1 e) default).2 = idxP m.Triangles e.e0 e.e1 := by
  rw [edges_eq m ok] at he
  have h := (etab_is m ok).at ok he
  exact ⟨h.1, h.2.trans (idxE_eq ok (mem_edgL.1 he).1.2.1)⟩
theorem edges_len (m : GMesh) (ok : OkE m.Places.length m.Triangles) : (v_impl_trianglesByEdge m).2.length ≤ 4096 := by
  rw [edges_eq m ok]; exact edgL_len ok
theorem edges_mem (m : GMesh) (ok : OkE m.Places.length m.Triangles) {i : Int} (h0 : 0 ≤ i) (hi : i < ((v_impl_trianglesByEdge m).2.length : Int)) : (v_impl_trianglesByEdge m).2.getD i.toNat default ∈ (v_impl_trianglesByEdge m).2 := by
  have hn : i.toNat < (v_impl_trianglesByEdge m).2.length := by omega
  rw [List.getD_eq_getElem?_getD, List.getElem?_eq_getElem hn]; exact List.getElem_mem hn
theorem edges_nth (m : GMesh) (ok : OkE m.Places.length m.Triangles) {i : Int} (h0 : 0 ≤ i) (hi : i < ((v_impl_trianglesByEdge m).2.length : Int)) :
    0 ≤ ((v_impl_trianglesByEdge m).2.getD i.toNat default).e0 ∧ ((v_impl_trianglesByEdge m).2.getD i.toNat default).e0 < ((v_impl_trianglesByEdge m).2.getD i.toNat default).e1 ∧ ((v_impl_trianglesByEdge m).2.getD i.toNat default).e1 < (m.Places.length : Int) ∧ (m.Places.length : Int) ≤ 64 ∧ ((v_impl_trianglesByEdge m).2.length : Int) ≤ 4096 := by
  have hl := edges_len m ok
  have h64 := ok.1
  have hm := edges_mem m ok h0 hi
  rw [edges_eq m ok] at hm
  have hb := edgL_at hm
  rw [← edges_eq m ok] at hb
  exact ⟨hb.1, hb.2.1, hb.2.2, by omega, by omega⟩
theorem hg_at (m : GMesh) (ok : OkE m.Places.length m.Triangles) {i : Int} (h0 : 0 ≤ i) (hi : i < ((v_impl_trianglesByEdge m).2.length : Int))
    (h2 : ((((v_impl_trianglesByEdge m).1.getD (midx (v_impl_trianglesByEdge m).1 ((v_impl_trianglesByEdge m).2.getD i.toNat default)) default).2.length : Int)) = 2) :
    0 ≤ ((v_impl_trianglesByEdge m).1.getD (midx (v_impl_trianglesByEdge m).1 ((v_impl_trianglesByEdge m).2.getD i.toNat default)) default).2.getD 0 default ∧ ((v_impl_trianglesByEdge m).1.getD (midx (v_impl_trianglesByEdge m).1 ((v_impl_trianglesByEdge m).2.getD i.toNat default)) default).2.getD 0 default < (m.Triangles.length : Int) ∧
    0 ≤ ((v_impl_trianglesByEdge m).1.getD (midx (v_impl_trianglesByEdge m).1 ((v_impl_trianglesByEdge m).2.getD i.toNat default)) default).2.getD 1 default ∧ ((v_impl_trianglesByEdge m).1.getD (midx (v_impl_trianglesByEdge m).1 ((v_impl_trianglesByEdge m).2.getD i.toNat default)) default).2.getD 1 default < (m.Triangles.length : Int) ∧ (m.Triangles.length : Int) ≤ 128 := by
  obtain ⟨g1, g2⟩ := edges_at m ok (edges_mem m ok h0 hi)
  rw [g2] at h2 ⊢
  have a1 := idxP_at (ts := m.Triangles) (a := ((v_impl_trianglesByEdge m).2.getD i.toNat default).e0) (b := ((v_impl_trianglesByEdge m).2.getD i.toNat default).e1) (k := 0) (by omega)
  have a2 := idxP_at (ts := m.Triangles) (a := ((v_impl_trianglesByEdge m).2.getD i.toNat default).e0) (b := ((v_impl_trianglesByEdge m).2.getD i.toNat default).e1) (k := 1) (by omega)
  have := ok.2.1
  exact ⟨a1.1, a1.2.1, a2.1, a2.2.1, by omega⟩

theorem t_impl_trianglesByEdge (m_0 : GMesh) (hp0 : m_0.Places.length ≤ 1073741824) (hp1 : m_0.Triangles.length ≤ 1073741824) (hp2 : ∀ t ∈ m_0.Triangles, t.length ≤ 1073741824) (hp3 : OkE m_0.Places.length m_0.Triangles)  : Fn prog 66 [.agg [.sl (m_0.Places.map GVector.cells), .sl (m_0.Triangles.map (cL (cI .i64)))]] (.tup [.mp 0, .own 1]) [.mapN 2 (mapC Gedge.pr (cI .i64) ((v_impl_trianglesByEdge m_0).1)) none, .vec 100 2 (((v_impl_trianglesByEdge m_0).2).map Gedge.cells) false] := by
 have y0 : ((lr_impl_trianglesByEdge_1_1 m_0).2).length ≤ 1073741824 := (by first | assumption | omega | (first | (have g5 := of_decide_eq_true hf_impl_trianglesByEdge_2_0; have q := OkE.at hp3 hv_impl_trianglesByEdge_1_0 g5 hv_impl_trianglesByEdge_2_0 (of_decide_eq_true (by assumption)); first | omega | (simp only [List.length_append, List.length_cons, List.length_nil]; omega) | (have q3 := mlen_leI (N := 3 * x_l0 + x_l0_1) (by omega) (by assumption) (midx r1_l1_1 (nd_impl_trianglesByEdge_0 m_0 x_l0 x_l0_1)); simp only [List.length_cons, List.length_nil]; omega)) | (have := hp3.2.1; omega) | (have q := loTE_len m_0 hp3; omega)) | (simp_all <;> omega))
 refine fnS E0Ok hMixed (c := bodyOf f66) [] (.tup [.mp 0, .own 1]) [.mapN 2 (mapC Gedge.pr (cI .i64) ((lr_impl_trianglesByEdge_1_1 m_0).1)) none, .vec 100 2 ((sort_impl_compareEdges ((lr_impl_trianglesByEdge_1_1 m_0).2)).map Gedge.cells) false] func66 (sZ (cL (cI .i64)) m_0.Triangles <| sL mk_impl_trianglesByEdge_1_0 3 (lp_cast (st2 := ⟨[.agg [.sl (m_0.Places.map GVector.cells), .sl (m_0.Triangles.map (cL (cI .i64)))], .ptr 0 0 0, .any, .nils, .mp 1, .own 2, .any, .any, .any, .any, .mp 1, .any, .ptr 0 0 1, .sl (m_0.Triangles.map (cL (cI .i64))), .i .i64 (m_0.Triangles.length : Int), .i .i64 0, .any, .any, .any, .any, .any, .any, .any, .any, .any, .any, .any, .any, .any, .any, .any, .any, .any, .any, .any, .any, .any, .any, .any, .any, .any, .any, .any, .any, .any, .any, .any, .any, .any, .any, .any, .any, .any, .any, .any, .any, .any], [.box 31 [.sl (m_0.Places.map GVector.cells), .sl (m_0.Triangles.map (cL (cI .i64)))], .mapN 2 [] none, .vec 100 2 ([] : List (List AV)) false]⟩) (lp_val (ls_impl_trianglesByEdge_1 m_0) (x := (lr_impl_trianglesByEdge_1_1 m_0)) (lp_impl_trianglesByEdge_1 m_0 hp0 hp1 hp2 hp3 (((m_0.Triangles.length : Int) - 0).toNat + 1) 0 ([] : (List (Gedge × List Int))) ([] : List Gedge) (show 0 ≤ 0 from (by first | omega | (simp; done) | (intro y hy; have q := hv_impl_trianglesByEdge_1_2 y hy; omega))) (show (([] : List Gedge).length : Int) ≤ 3 * 0 from (by first | omega | (simp; done) | (intro y hy; have q := hv_impl_trianglesByEdge_1_2 y hy; omega))) (show ∀ y ∈ ([] : (List (Gedge × List Int))), (y.2.length : Int) ≤ 3 * 0 from (by first | omega | (simp; done) | (intro y hy; have q := hv_impl_trianglesByEdge_1_2 y hy; omega))) (Nat.lt_succ_self _)) rfl) (by simp [hd_impl_trianglesByEdge_1, mapC, Gedge.cells])) <| sS (CallSt.frame (t_sort_impl_compareEdges ((lr_impl_trianglesByEdge_1_1 m_0).2) y0) [2] (R := [.box 31 [.sl (m_0.Places.map GVector.cells), .sl (m_0.Triangles.map (cL (cI .i64)))], .mapN 2 (mapC Gedge.pr (cI .i64) ((lr_impl_trianglesByEdge_1_1 m_0).1)) none, .vec 100 2 (((lr_impl_trianglesByEdge_1_1 m_0).2).map Gedge.cells) false]) (args' := [.own 2, .fn 115 []]) rfl rfl rfl rfl rfl rfl) <| sK [1, 2] sN) rfl (by kernel_rfl) (by kernel_rfl) rfl ?_ ?_
 · rfl
 · simp [v_impl_trianglesByEdge]

def v_impl_LessVectors (a_0 : GVector) (b_1 : GVector) : GVector := (⟨(fop .sub .f32 a_0.X b_1.X), (fop .sub .f32 a_0.Y b_1.Y), (fop .sub .f32 a_0.Z b_1.Z)⟩ : GVector)

theorem t_impl_LessVectors (a_0 : GVector) (b_1 : GVector)   : Fn prog 122 [.agg [.f .f32 a_0.X, .f .f32 a_0.Y, .f .f32 a_0.Z], .agg [.f .f32 b_1.X, .f .f32 b_1.Y, .f .f32 b_1.Z]] (.agg [.f .f32 ((v_impl_LessVectors a_0 b_1).X), .f .f32 ((v_impl_LessVectors a_0 b_1).Y), .f .f32 ((v_impl_LessVectors a_0 b_1).Z)]) [] := by
 refine fnS E0Ok hMixed (c := bodyOf f122) [] (.agg [.f .f32 (fop .sub .f32 a_0.X b_1.X), .f .f32 (fop .sub .f32 a_0.Y b_1.Y), .f .f32 (fop .sub .f32 a_0.Z b_1.Z)]) [] func122 (sK [] sN) rfl (by kernel_rfl) (by kernel_rfl) rfl ?_ ?_
 · rfl
 · rfl

def v_impl_InnerOf (a_0 : GVector) (b_1 : GVector) : Nat := (fop .add .f32 (fop .add .f32 (fop .mul .f32 a_0.X b_1.X) (fop .mul .f32 a_0.Y b_1.Y)) (fop .mul .f32 a_0.Z b_1.Z))

theorem t_impl_InnerOf (a_0 : GVector) (b_1 : GVector)   : Fn prog 117 [.agg [.f .f32 a_0.X, .f .f32 a_0.Y, .f .f32 a_0.Z], .agg [.f .f32 b_1.X, .f .f32 b_1.Y, .f .f32 b_1.Z]] (.f .f32 (v_impl_InnerOf a_0 b_1)) [] := by
 refine fnS E0Ok hMixed (c := bodyOf f117) [] (.f .f32 (fop .add .f32 (fop .add .f32 (fop .mul .f32 a_0.X b_1.X) (fop .mul .f32 a_0.Y b_1.Y)) (fop .mul .f32 a_0.Z b_1.Z))) [] func117 (sK [] sN) rfl (by kernel_rfl) (by kernel_rfl) rfl ?_ ?_
 · rfl
 · rfl

def v_impl_RootNumber (x_0 : Nat) : Nat := (fcv .f64 .f32 (v_math_Sqrt (fcv .f32 .f64 x_0)))

theorem t_impl_RootNumber (x_0 : Nat)   : Fn prog 116 [.f .f32 x_0] (.f .f32 (v_impl_RootNumber x_0)) [] := by
 have y0 : fcvOk .f64 .f32 (v_math_Sqrt (fcv .f32 .f64 x_0)) = true := (narrow_sqrt _)
 refine fnS E0Ok hMixed (c := bodyOf f116) [] (.f .f32 (fcv .f64 .f32 (v_math_Sqrt (fcv .f32 .f64 x_0)))) [] func116 (sC (widenOk x_0) <| sF (t_math_Sqrt (fcv .f32 .f64 x_0)) <| sC y0 <| sK [] sN) rfl (by kernel_rfl) (by kernel_rfl) rfl ?_ ?_
 · rfl
 · rfl

def v_impl_LongOf (v_0 : GVector) : Nat := (v_impl_RootNumber (v_impl_InnerOf v_0 v_0))

theorem t_impl_LongOf (v_0 : GVector)   : Fn prog 69 [.agg [.f .f32 v_0.X, .f .f32 v_0.Y, .f .f32 v_0.Z]] (.f .f32 (v_impl_LongOf v_0)) [] := by
 refine fnS E0Ok hMixed (c := bodyOf f69) [] (.f .f32 (v_impl_RootNumber (v_impl_InnerOf v_0 v_0))) [] func69 (sF (t_impl_InnerOf v_0 v_0) <| sF (t_impl_RootNumber (v_impl_InnerOf v_0 v_0)) <| sK [] sN) rfl (by kernel_rfl) (by kernel_rfl) rfl ?_ ?_
 · rfl
 · rfl

def v_impl_longOfEdge (m_0 : GMesh) (e_1 : Gedge) : Nat := (v_impl_LongOf (v_impl_LessVectors (m_0.Places.getD e_1.e0.toNat default) (m_0.Places.getD e_1.e1.toNat default)))

theorem t_impl_longOfEdge (m_0 : GMesh) (e_1 : Gedge) (hp0 : m_0.Places.length ≤ 1073741824) (hp1 : m_0.Triangles.length ≤ 1073741824) (hp2 : ∀ t ∈ m_0.Triangles, t.length ≤ 1073741824) (hp3 : 0 ≤ e_1.e0) (hp4 : e_1.e0 < e_1.e1) (hp5 : e_1.e1 < (m_0.Places.length : Int))  : Fn prog 76 [.agg [.sl (m_0.Places.map GVector.cells), .sl (m_0.Triangles.map (cL (cI .i64)))], .agg [.i .i64 e_1.e0, .i .i64 e_1.e1]] (.f .f32 (v_impl_longOfEdge m_0 e_1)) [] := by
 have y0 : (0 : Int) ≤ e_1.e0 := (by first | assumption | omega | (simp_all <;> omega))
 have y1 : e_1.e0 < (m_0.Places.length : Int) := (by first | assumption | omega | (simp_all <;> omega))
 have y2 : (0 : Int) ≤ e_1.e1 := (by first | assumption | omega | (simp_all <;> omega))
 refine fnS E0Ok hMixed (c := bodyOf f76) [] (.f .f32 (v_impl_LongOf (v_impl_LessVectors (m_0.Places.getD e_1.e0.toNat default) (m_0.Places.getD e_1.e1.toNat default)))) [] func76 (sK [12, 12] <| sC (show (0 : Int) ≤ 0 ∧ 0 < ((2 : Nat) : Int) from (by decide)) <| sG GVector.cells m_0.Places e_1.e0 y0 y1 <| sC (show (0 : Int) ≤ 1 ∧ 1 < ((2 : Nat) : Int) from (by decide)) <| sG GVector.cells m_0.Places e_1.e1 y2 hp5 <| sF (t_impl_LessVectors (m_0.Places.getD e_1.e0.toNat default) (m_0.Places.getD e_1.e1.toNat default)) <| sF (t_impl_LongOf (v_impl_LessVectors (m_0.Places.getD e_1.e0.toNat default) (m_0.Places.getD e_1.e1.toNat default))) <| sK [] sN) rfl (by kernel_rfl) (by kernel_rfl) rfl ?_ ?_
 · rfl
 · rfl

def lo_impl_ValidBody_1 (b_0 : GBody) : Nat → Int → (Unit) ⊕ (Unit)
  | 0, _ => .inl default
  | k + 1, x_l0 => (cond (decide (x_l0 < (b_0.Springs.length : Int)))
    (cond (v_impl_within ((b_0.Springs.getD x_l0.toNat default).A) 0 (IntKind.wrap .i64 ((b_0.Mesh.Places.length : Int) - 1)))
      (cond (v_impl_within ((b_0.Springs.getD x_l0.toNat default).B) 0 (IntKind.wrap .i64 ((b_0.Mesh.Places.length : Int) - 1)))
        (cond ((b_0.Springs.getD x_l0.toNat default).A == (b_0.Springs.getD x_l0.toNat default).B)
          (.inl ())
          (cond (fcmp .geq .f32 ((b_0.Springs.getD x_l0.toNat default).Long) 0)
            (lo_impl_ValidBody_1 b_0 k (x_l0 + 1))
            (.inl ())))
        (.inl ()))
      (.inl ()))
    (.inr ()))

def ls_impl_ValidBody_1 (b_0 : GBody) : (Unit) ⊕ (Unit) → Ex × St
  | .inl r => (.ret, ⟨[.any, .any, .b false, .any, .any, .any, .any, .any, .any, .any, .any, .any, .any, .any, .any, .any, .any, .any, .any, .any, .any, .any, .any, .any, .any, .any, .any, .any, .any, .any, .any, .any, .any, .any, .any, .any, .any, .any, .any, .any, .any, .any, .any, .any, .any, .any, .any, .any, .any, .any, .any, .any, .any, .any, .any, .any, .any, .any, .any, .any, .any, .any], []⟩)
  | .inr r => ((.exit 0), ⟨[.agg [.sl (b_0.Mesh.Places.map GVector.cells), .sl (b_0.Mesh.Triangles.map (cL (cI .i64))), .sl (b_0.Springs.map GSpring.cells), .f .f32 b_0.Film, .f .f32 b_0.Bend, .sl (b_0.Weights.map (cF .f32)), .f .f32 b_0.Fall.X, .f .f32 b_0.Fall.Y, .f .f32 b_0.Fall.Z], .ptr 0 0 0, .any, .i .i64 (b_0.Mesh.Places.length : Int), .any, .any, .ptr 0 0 0, .ptr 0 0 0, .sl (b_0.Mesh.Places.map GVector.cells), .i .i64 (b_0.Mesh.Places.length : Int), .ptr 0 0 0, .agg [.sl (b_0.Mesh.Places.map GVector.cells), .sl (b_0.Mesh.Triangles.map (cL (cI .i64)))], .b (v_impl_ValidMesh b_0.Mesh), .b (!(v_impl_ValidMesh b_0.Mesh)), .b (!(v_impl_ValidMesh b_0.Mesh)), .ptr 0 0 2, .sl (b_0.Springs.map GSpring.cells), .i .i64 (b_0.Springs.length : Int), .b (decide ((b_0.Springs.length : Int) > 200)), .b (decide ((b_0.Springs.length : Int) > 200)), .b (decide ((b_0.Springs.length : Int) > 200)), .ptr 0 0 5, .sl (b_0.Weights.map (cF .f32)), .i .i64 (b_0.Weights.length : Int), .i .i64 (b_0.Mesh.Places.length : Int), .b ((b_0.Weights.length : Int) != (b_0.Mesh.Places.length : Int)), .b ((b_0.Weights.length : Int) != (b_0.Mesh.Places.length : Int)), .ptr 0 0 2, .sl (b_0.Springs.map GSpring.cells), .any, .any, .any, .any, .any, .any, .any, .any, .any, .any, .any, .any, .any, .any, .any, .any, .any, .any, .any, .any, .any, .any, .any, .any, .any, .any, .any, .any, .any, .any, .any, .any, .any], [.box 69 [.sl (b_0.Mesh.Places.map GVector.cells), .sl (b_0.Mesh.Triangles.map (cL (cI .i64))), .sl (b_0.Springs.map GSpring.cells), .f .f32 b_0.Film, .f .f32 b_0.Bend, .sl (b_0.Weights.map (cF .f32)), .f .f32 b_0.Fall.X, .f .f32 b_0.Fall.Y, .f .f32 b_0.Fall.Z]]⟩)

def hd_impl_ValidBody_1 (b_0 : GBody) (x_l0 : Int) : St := ⟨[.agg [.sl (b_0.Mesh.Places.map GVector.cells), .sl (b_0.Mesh.Triangles.map (cL (cI .i64))), .sl (b_0.Springs.map GSpring.cells), .f .f32 b_0.Film, .f .f32 b_0.Bend, .sl (b_0.Weights.map (cF .f32)), .f .f32 b_0.Fall.X, .f .f32 b_0.Fall.Y, .f .f32 b_0.Fall.Z], .ptr 0 0 0, .any, .i .i64 (b_0.Mesh.Places.length : Int), .any, .any, .ptr 0 0 0, .ptr 0 0 0, .sl (b_0.Mesh.Places.map GVector.cells), .i .i64 (b_0.Mesh.Places.length : Int), .ptr 0 0 0, .agg [.sl (b_0.Mesh.Places.map GVector.cells), .sl (b_0.Mesh.Triangles.map (cL (cI .i64)))], .b (v_impl_ValidMesh b_0.Mesh), .b (!(v_impl_ValidMesh b_0.Mesh)), .b (!(v_impl_ValidMesh b_0.Mesh)), .ptr 0 0 2, .sl (b_0.Springs.map GSpring.cells), .i .i64 (b_0.Springs.length : Int), .b (decide ((b_0.Springs.length : Int) > 200)), .b (decide ((b_0.Springs.length : Int) > 200)), .b (decide ((b_0.Springs.length : Int) > 200)), .ptr 0 0 5, .sl (b_0.Weights.map (cF .f32)), .i .i64 (b_0.Weights.length : Int), .i .i64 (b_0.Mesh.Places.length : Int), .b ((b_0.Weights.length : Int) != (b_0.Mesh.Places.length : Int)), .b ((b_0.Weights.length : Int) != (b_0.Mesh.Places.length : Int)), .ptr 0 0 2, .sl (b_0.Springs.map GSpring.cells), .i .i64 (b_0.Springs.length : Int), .i .i64 x_l0, .any, .any, .any, .any, .any, .any, .any, .any, .any, .any, .any, .any, .any, .any, .any, .any, .any, .any, .any, .any, .any, .any, .any, .any, .any, .any, .any, .any, .any, .any, .any], [.box 69 [.sl (b_0.Mesh.Places.map GVector.cells), .sl (b_0.Mesh.Triangles.map (cL (cI .i64))), .sl (b_0.Springs.map GSpring.cells), .f .f32 b_0.Film, .f .f32 b_0.Bend, .sl (b_0.Weights.map (cF .f32)), .f .f32 b_0.Fall.X, .f .f32 b_0.Fall.Y, .f .f32 b_0.Fall.Z]]⟩

def mk_impl_ValidBody_1_0 : List Bool := [true, true, false, true, false, false, true, true, true, true, true, true, true, true, true, true, true, true, true, true, true, true, true, true, true, true, true, true, true, true, true, false, false, false, false, false, false, false, false, false, false, false, false, false, false, false, false, false, false, false, false, false, false, false, false, false, false, false, false, false, false, false]

def mk_impl_ValidBody_1_1 : List Bool := [false, false, true, false, false, false, false, false, false, false, false, false, false, false, false, false, false, false, false, false, false, false, false, false, false, false, false, false, false, false, false, false, false, false, false, false, false, false, false, false, false, false, false, false, false, false, false, false, false, false, false, false, false, false, false, false, false, false, false, false, false, false]

def mk_impl_ValidBody_1_2 : List Bool := [true, true, false, true, false, false, true, true, true, true, true, true, true, true, true, true, true, true, true, true, true, true, true, true, true, true, true, true, true, false, false, false, false, false, false, false, false, false, false, false, false, false, false, false, false, false, false, false, false, false, false, false, false, false, false, false, false, false, false, false, false, false]

theorem lp_impl_ValidBody_1 (b_0 : GBody) (hp0 : b_0.Mesh.Places.length ≤ 1073741824) (hp1 : b_0.Mesh.Triangles.length ≤ 1073741824) (hp2 : ∀ t ∈ b_0.Mesh.Triangles, t.length ≤ 1073741824) (hp3 : b_0.Springs.length ≤ 1073741824) (hp4 : b_0.Weights.length ≤ 1073741824) (hf_impl_ValidBody_1_0 : ((b_0.Weights.length : Int) != (b_0.Mesh.Places.length : Int)) = false) (hf_impl_ValidBody_1_1 : (decide ((b_0.Springs.length : Int) > 200)) = false) (hf_impl_ValidBody_1_2 : (v_impl_ValidMesh b_0.Mesh) = true) : ∀ (k : Nat) (x_l0 : Int) (hv_impl_ValidBody_1_0 : 0 ≤ x_l0) (hk : ((b_0.Springs.length : Int) - x_l0).toNat < k), Lp prog 0 (sub (bodyOf f93) [1, 1, 1, 0, 1, 0, 0]) (hd_impl_ValidBody_1 b_0 x_l0) (ls_impl_ValidBody_1 b_0 (lo_impl_ValidBody_1 b_0 k x_l0)).1 (ls_impl_ValidBody_1 b_0 (lo_impl_ValidBody_1 b_0 k x_l0)).2 := by
 intro k
 induction k with
 | zero => intro x_l0 hv_impl_ValidBody_1_0 hk; exact absurd hk (Nat.not_lt_zero _)
 | succ k ih =>
  intro x_l0 hv_impl_ValidBody_1_0 hk
  cases h_0 : (decide (x_l0 < (b_0.Springs.length : Int))) with
  | true =>
   have gh_0 := of_decide_eq_true h_0
   have y_0 : (0 : Int) ≤ x_l0 := (by first | assumption | omega | (simp_all <;> omega))
   have y_1 : x_l0 < (b_0.Springs.length : Int) := (by first | assumption | omega | (simp_all <;> omega))
   have p {a C} (s : Scr a C) := sB h_0 <| sG GSpring.cells b_0.Springs x_l0 y_0 y_1 <| sW .i64 ((b_0.Mesh.Places.length : Int) - 1) <| sF (t_impl_within ((b_0.Springs.getD x_l0.toNat default).A) 0 (IntKind.wrap .i64 ((b_0.Mesh.Places.length : Int) - 1))) <| s
   cases h_1 : (v_impl_within ((b_0.Springs.getD x_l0.toNat default).A) 0 (IntKind.wrap .i64 ((b_0.Mesh.Places.length : Int) - 1))) with
   | true =>
    have q {a C} (s : Scr a C) := p (sB' h_1 <| sB' h_1 <| sB' h_1 <| sB' h_1 <| sW .i64 ((b_0.Mesh.Places.length : Int) - 1) <| sB' h_1 <| sF (t_impl_within ((b_0.Springs.getD x_l0.toNat default).B) 0 (IntKind.wrap .i64 ((b_0.Mesh.Places.length : Int) - 1))) <| sB' h_1 <| sB' h_1 <| s)
    clear p
    cases h_2 : (v_impl_within ((b_0.Springs.getD x_l0.toNat default).B) 0 (IntKind.wrap .i64 ((b_0.Mesh.Places.length : Int) - 1))) with
    | true =>
     have p {a C} (s : Scr a C) := q (sB' h_2 <| sB' h_2 <| sB' h_2 <| sB' h_2 <| sB' h_2 <| sB' h_2 <| s)
     clear q
     cases h_3 : ((b_0.Springs.getD x_l0.toNat default).A == (b_0.Springs.getD x_l0.toNat default).B) with
     | true =>
      have gh_3 := eq_of_beq h_3
      have e : lo_impl_ValidBody_1 b_0 (k + 1) x_l0 = (.inl ()) := by simp only [lo_impl_ValidBody_1, h_0, h_1, h_2, h_3, cond_true]
      rw [e]
      exact outR (e := .ret) E0Ok hMixed [] mk_impl_ValidBody_1_1 [] (p (sB h_3 <| sB h_3 <| sB h_3 <| sB h_3 <| sB h_3 <| sB (show true = true from rfl) <| sN)) (by kernel_rfl) (by intro h; cases h)
     | false =>
      have gh_3 := ne_of_beq_false h_3
      have q {a C} (s : Scr a C) := p (sB h_3 <| sB h_3 <| sB h_3 <| sB h_3 <| sB h_3 <| s)
      clear p
      cases h_4 : (fcmp .geq .f32 ((b_0.Springs.getD x_l0.toNat default).Long) 0) with
      | true =>
       have y_2 : (-9223372036854775808 : Int) ≤ (x_l0 + 1) := by clear q; exact (by first | assumption | omega | (simp_all <;> omega))
       have y_3 : (x_l0 + 1) ≤ (9223372036854775807 : Int) := by clear q; exact (by first | assumption | omega | (simp_all <;> omega))
       have e : lo_impl_ValidBody_1 b_0 (k + 1) x_l0 = (lo_impl_ValidBody_1 b_0 k (x_l0 + 1)) := by simp only [lo_impl_ValidBody_1, h_0, h_1, h_2, h_3, h_4, cond_true, cond_false]
       rw [e]
       exact nextR E0Ok hMixed [] mk_impl_ValidBody_1_0 [0] (ih (x_l0 + 1) (show 0 ≤ (x_l0 + 1) from (by first | assumption | omega | (simp_all <;> omega))) (by first | assumption | omega | (simp_all <;> omega))) (q (sB' h_4 <| sI (x_l0 + 1) y_2 y_3 <| sN)) (by kernel_rfl)
      | false =>
       have e : lo_impl_ValidBody_1 b_0 (k + 1) x_l0 = (.inl ()) := by simp only [lo_impl_ValidBody_1, h_0, h_1, h_2, h_3, h_4, cond_true, cond_false]
       rw [e]
       exact outR (e := .ret) E0Ok hMixed [] mk_impl_ValidBody_1_1 [] (q (sB' h_4 <| sN)) (by kernel_rfl) (by intro h; cases h)
    | false =>
     have e : lo_impl_ValidBody_1 b_0 (k + 1) x_l0 = (.inl ()) := by simp only [lo_impl_ValidBody_1, h_0, h_1, h_2, cond_true, cond_false]
     rw [e]
     exact outR (e := .ret) E0Ok hMixed [] mk_impl_ValidBody_1_1 [] (q (sB' h_2 <| sB' h_2 <| sB' h_2 <| sB' h_2 <| sB' h_2 <| sB' h_2 <| sB (show true = true from rfl) <| sB (show true = true from rfl) <| sB (show true = true from rfl) <| sB (show true = true from rfl) <| sB (show true = true from rfl) <| sB (show true = true from rfl) <| sN)) (by kernel_rfl) (by intro h; cases h)
   | false =>
    have e : lo_impl_ValidBody_1 b_0 (k + 1) x_l0 = (.inl ()) := by simp only [lo_impl_ValidBody_1, h_0, h_1, cond_true, cond_false]
    rw [e]
    exact outR (e := .ret) E0Ok hMixed [] mk_impl_ValidBody_1_1 [] (p (sB' h_1 <| sB' h_1 <| sB' h_1 <| sB' h_1 <| sB' h_1 <| sB' h_1 <| sB' h_1 <| sB (show true = true from rfl) <| sB (show true = true from rfl) <| sB (show true = true from rfl) <| sB (show true = true from rfl) <| sB (show true = true from rfl) <| sB (show true = true from rfl) <| sB (show true = true from rfl) <| sB (show true = true from rfl) <| sB (show true = true from rfl) <| sB (show true = true from rfl) <| sB (show true = true from rfl) <| sB (show true = true from rfl) <| sN)) (by kernel_rfl) (by intro h; cases h)
  | false =>
   have gh_0 := of_decide_eq_false h_0
   have e : lo_impl_ValidBody_1 b_0 (k + 1) x_l0 = (.inr ()) := by simp only [lo_impl_ValidBody_1, h_0, cond_false]
   rw [e]
   exact outR (e := (.exit 0)) E0Ok hMixed [] mk_impl_ValidBody_1_2 [0] (sB h_0 <| sN) (by kernel_rfl) (by intro h; cases h)

def lr_impl_ValidBody_1_0 (b_0 : GBody) : (Unit) ⊕ (Unit) := (lo_impl_ValidBody_1 b_0 (((b_0.Springs.length : Int) - 0).toNat + 1) 0)

def v_impl_ValidBody (b_0 : GBody) : Bool := (cond (v_impl_ValidMesh b_0.Mesh)
  (cond (decide ((b_0.Springs.length : Int) > 200))
    false
    (cond ((b_0.Weights.length : Int) != (b_0.Mesh.Places.length : Int))
      false
      (match (lr_impl_ValidBody_1_0 b_0) with
        | .inl r4 => false
        | .inr r4 => true)))
  false)

theorem t_impl_ValidBody (b_0 : GBody) (hp0 : b_0.Mesh.Places.length ≤ 1073741824) (hp1 : b_0.Mesh.Triangles.length ≤ 1073741824) (hp2 : ∀ t ∈ b_0.Mesh.Triangles, t.length ≤ 1073741824) (hp3 : b_0.Springs.length ≤ 1073741824) (hp4 : b_0.Weights.length ≤ 1073741824)  : Fn prog 93 [.agg [.sl (b_0.Mesh.Places.map GVector.cells), .sl (b_0.Mesh.Triangles.map (cL (cI .i64))), .sl (b_0.Springs.map GSpring.cells), .f .f32 b_0.Film, .f .f32 b_0.Bend, .sl (b_0.Weights.map (cF .f32)), .f .f32 b_0.Fall.X, .f .f32 b_0.Fall.Y, .f .f32 b_0.Fall.Z]] (.b (v_impl_ValidBody b_0)) [] := by
 have p {a C} (s : Scr a C) := sZ GVector.cells b_0.Mesh.Places <| sF (t_impl_ValidMesh b_0.Mesh hp0 hp1 hp2) <| s
 cases h0 : (v_impl_ValidMesh b_0.Mesh) with
 | true =>
  have q {a C} (s : Scr a C) := p (sB' h0 <| sB' h0 <| sB' h0 <| sZ GSpring.cells b_0.Springs <| sB' h0 <| sB' h0 <| s)
  clear p
  cases h1 : (decide ((b_0.Springs.length : Int) > 200)) with
  | true =>
   have gh1 := of_decide_eq_true h1
   refine fnS E0Ok hMixed (c := bodyOf f93) [] (.b false) [] func93 (q (sB h1 <| sB h1 <| sB h1 <| sB h1 <| sB h1 <| sB h1 <| sB (show true = true from rfl) <| sK [] sN)) rfl (by kernel_rfl) (by kernel_rfl) rfl ?_ ?_
   · simp only [v_impl_ValidBody, h0, h1, cond_true]
   · rfl
  | false =>
   have gh1 := of_decide_eq_false h1
   have p {a C} (s : Scr a C) := q (sB h1 <| sB h1 <| sB h1 <| sZ (cF .f32) b_0.Weights <| sB h1 <| sB h1 <| sB h1 <| s)
   clear q
   cases h2 : ((b_0.Weights.length : Int) != (b_0.Mesh.Places.length : Int)) with
   | true =>
    have gh2 := bne_iff_ne.1 h2
    refine fnS E0Ok hMixed (c := bodyOf f93) [] (.b false) [] func93 (p (sB h2 <| sK [] sN)) rfl (by kernel_rfl) (by kernel_rfl) rfl ?_ ?_
    · simp only [v_impl_ValidBody, h0, h1, h2, cond_true, cond_false]
    · rfl
   | false =>
    have gh2 := bne_eq_false_iff_eq.1 h2
    have q {a C} (s : Scr a C) := p (sB h2 <| sZ GSpring.cells b_0.Springs <| s)
    clear p
    cases h3 : (lr_impl_ValidBody_1_0 b_0) with
    | inl r4 =>
     refine fnS E0Ok hMixed (c := bodyOf f93) [] (.b false) [] func93 (q (sL mk_impl_ValidBody_1_0 1 (lp_val (ls_impl_ValidBody_1 b_0) (x := (lr_impl_ValidBody_1_0 b_0)) (lp_impl_ValidBody_1 b_0 hp0 hp1 hp2 hp3 hp4 h2 h1 h0 (((b_0.Springs.length : Int) - 0).toNat + 1) 0 (show 0 ≤ 0 from (by first | assumption | omega | (simp_all <;> omega))) (Nat.lt_succ_self _)) h3) <| sK [] sN)) rfl (by kernel_rfl) (by kernel_rfl) rfl ?_ ?_
     · simp only [v_impl_ValidBody, h0, h1, h2, h3, cond_true, cond_false]
     · rfl
    | inr r4 =>
     refine fnS E0Ok hMixed (c := bodyOf f93) [] (.b true) [] func93 (q (sL mk_impl_ValidBody_1_0 1 (lp_val (ls_impl_ValidBody_1 b_0) (x := (lr_impl_ValidBody_1_0 b_0)) (lp_impl_ValidBody_1 b_0 hp0 hp1 hp2 hp3 hp4 h2 h1 h0 (((b_0.Springs.length : Int) - 0).toNat + 1) 0 (show 0 ≤ 0 from (by first | assumption | omega | (simp_all <;> omega))) (Nat.lt_succ_self _)) h3) <| sK [] sN)) rfl (by kernel_rfl) (by kernel_rfl) rfl ?_ ?_
     · simp only [v_impl_ValidBody, h0, h1, h2, h3, cond_true, cond_false]
     · rfl
 | false =>
  refine fnS E0Ok hMixed (c := bodyOf f93) [] (.b false) [] func93 (p (sB' h0 <| sB' h0 <| sB' h0 <| sB' h0 <| sB' h0 <| sB (show true = true from rfl) <| sB (show true = true from rfl) <| sB (show true = true from rfl) <| sB (show true = true from rfl) <| sB (show true = true from rfl) <| sB (show true = true from rfl) <| sB (show true = true from rfl) <| sK [] sN)) rfl (by kernel_rfl) (by kernel_rfl) rfl ?_ ?_
  · simp only [v_impl_ValidBody, h0, cond_false]
  · rfl

theorem springB (s : GSpring) (n : Int) : cond (v_impl_within s.A 0 (IntKind.wrap .i64 (n - 1))) (cond (v_impl_within s.B 0 (IntKind.wrap .i64 (n - 1))) (cond (s.A == s.B) false (fcmp .geq .f32 s.Long 0)) false) false = v_spec_l03Spring s n := by
  unfold v_spec_l03Spring
  rw [show v_impl_within = v_spec_l00In from rfl, show (s.A != s.B) = !(s.A == s.B) from rfl]
  cases (s.A == s.B) <;> rfl
theorem lo_ValidBody (b : GBody) (k : Nat) (i : Int) : lo_impl_ValidBody_1 b (k + 1) i = cond (decide (i < (b.Springs.length : Int))) (cond (v_spec_l03Spring (b.Springs.getD i.toNat default) (b.Mesh.Places.length : Int)) (lo_impl_ValidBody_1 b k (i + 1)) (.inl ())) (.inr ()) := by
  rw [lo_impl_ValidBody_1, ← springB]
  generalize b.Springs.getD i.toNat default = s
  cases v_impl_within s.A 0 (IntKind.wrap .i64 ((b.Mesh.Places.length : Int) - 1)) <;> cases v_impl_within s.B 0 (IntKind.wrap .i64 ((b.Mesh.Places.length : Int) - 1)) <;> cases (s.A == s.B) <;> cases fcmp .geq .f32 s.Long 0 <;> rfl
theorem eq_ValidBody (b : GBody) : v_impl_ValidBody b = v_spec_l03Is b := by
  unfold v_impl_ValidBody v_spec_l03Is lr_impl_ValidBody_1_0 lr_spec_l03Is_1_0
  rw [eq_ValidMesh, all_from (a := b.Springs) (p := fun s => v_spec_l03Spring s (b.Mesh.Places.length : Int)) (lo := lo_impl_ValidBody_1 b) (x := ()) (y := ()) (lo_ValidBody b),
    all_from (a := b.Springs) (p := fun s => v_spec_l03Spring s (b.Mesh.Places.length : Int)) (lo := lo_spec_l03Is_1 b) (x := ()) (y := ()) (fun k i => rfl)]
  rfl
theorem okMesh_is (b : GBody) (h : v_spec_l03Is b = true) : v_spec_l02Is b.Mesh = true := by
  cases hm : v_spec_l02Is b.Mesh with
  | true => rfl
  | false => simp [v_spec_l03Is, hm] at h
theorem places_le (m : GMesh) (h : v_spec_l02Is m = true) : m.Places.length ≤ 64 ∧ m.Triangles.length ≤ 128 := by
  rw [l02Is_eq] at h
  cases h1 : decide ((m.Places.length : Int) > 64) <;> rw [h1] at h <;> (try (cases h; done))
  cases h2 : decide ((m.Triangles.length : Int) > 128) <;> rw [h2] at h <;> (try (cases h; done))
  simp only [decide_eq_false_iff_not] at h1 h2
  omega

def lo_impl_SpringEdges_1 (m_0 : GMesh) (stiff_1 : Nat) : Nat → Int → (List GSpring) → (List GSpring)
  | 0, _, _ => default
  | k + 1, x_l0, r4_l1 => (cond (decide (x_l0 < (((v_impl_trianglesByEdge m_0).2).length : Int)))
    (lo_impl_SpringEdges_1 m_0 stiff_1 k (x_l0 + 1) (r4_l1 ++ [(⟨(((v_impl_trianglesByEdge m_0).2).getD x_l0.toNat default).e0, (((v_impl_trianglesByEdge m_0).2).getD x_l0.toNat default).e1, (v_impl_longOfEdge m_0 (((v_impl_trianglesByEdge m_0).2).getD x_l0.toNat default)), stiff_1⟩ : GSpring)]))
    r4_l1)

def ls_impl_SpringEdges_1 (m_0 : GMesh) (stiff_1 : Nat) (r : (List GSpring)) : Ex × St := ((.exit 0), ⟨[.agg [.sl (m_0.Places.map GVector.cells), .sl (m_0.Triangles.map (cL (cI .i64)))], .any, .ptr 0 0 0, .any, .ptr 1 0 0, .b false, .ptr 2 0 0, .b ((v_impl_BareBody m_0).2), .any, .own 3, .any, .any, .any, .agg [.sl (m_0.Places.map GVector.cells), .sl (m_0.Triangles.map (cL (cI .i64)))], .any, .any, .b ((v_impl_BareBody m_0).2), .b ((v_impl_BareBody m_0).2), .b (!(v_impl_BareBody m_0).2), .any, .any, .agg [.sl (m_0.Places.map GVector.cells), .sl (m_0.Triangles.map (cL (cI .i64)))], .any, .mp 4, .own 3, .own 3, .any, .any, .any, .any, .any, .any, .any, .any, .any, .any, .any, .any, .any, .any, .any, .any, .any, .any, .any, .any, .any, .any, .any, .any, .any], [.box 31 [.sl (m_0.Places.map GVector.cells), .sl (m_0.Triangles.map (cL (cI .i64)))], .box 69 [.nils, .nils, .nils, .f .f32 0, .f .f32 0, .nils, .f .f32 0, .f .f32 0, .f .f32 0], .box 69 [.own 5, .own 6, .own 7, .f .f32 ((v_impl_BareBody m_0).1.Film), .f .f32 ((v_impl_BareBody m_0).1.Bend), .own 8, .f .f32 ((v_impl_BareBody m_0).1.Fall.X), .f .f32 ((v_impl_BareBody m_0).1.Fall.Y), .f .f32 ((v_impl_BareBody m_0).1.Fall.Z)], .vec 100 2 (((v_impl_trianglesByEdge m_0).2).map Gedge.cells) false, .mapN 2 (mapC Gedge.pr (cI .i64) ((v_impl_trianglesByEdge m_0).1)) none, .vec 67 3 (((v_impl_BareBody m_0).1.Mesh.Places).map GVector.cells) false, .nest 52 (((v_impl_BareBody m_0).1.Mesh.Triangles).map fun l => l.map (cI .i64)) false, .vec 132 4 (r.map GSpring.cells) false, .vec 38 1 (((v_impl_BareBody m_0).1.Weights).map (cF .f32)) false]⟩)

def hd_impl_SpringEdges_1 (m_0 : GMesh) (stiff_1 : Nat) (x_l0 : Int) (r4_l1 : (List GSpring)) : St := ⟨[.agg [.sl (m_0.Places.map GVector.cells), .sl (m_0.Triangles.map (cL (cI .i64)))], .f .f32 stiff_1, .ptr 0 0 0, .any, .ptr 1 0 0, .b false, .ptr 6 0 0, .b ((v_impl_BareBody m_0).2), .any, .own 8, .any, .any, .any, .agg [.sl (m_0.Places.map GVector.cells), .sl (m_0.Triangles.map (cL (cI .i64)))], .any, .any, .b ((v_impl_BareBody m_0).2), .b ((v_impl_BareBody m_0).2), .b (!(v_impl_BareBody m_0).2), .any, .any, .agg [.sl (m_0.Places.map GVector.cells), .sl (m_0.Triangles.map (cL (cI .i64)))], .any, .mp 7, .own 8, .own 8, .i .i64 (((v_impl_trianglesByEdge m_0).2).length : Int), .i .i64 x_l0, .any, .any, .any, .any, .any, .any, .any, .any, .any, .any, .any, .any, .any, .any, .any, .any, .any, .any, .any, .any, .any, .any, .any], [.box 31 [.sl (m_0.Places.map GVector.cells), .sl (m_0.Triangles.map (cL (cI .i64)))], .box 69 [.nils, .nils, .nils, .f .f32 0, .f .f32 0, .nils, .f .f32 0, .f .f32 0, .f .f32 0], .vec 67 3 (((v_impl_BareBody m_0).1.Mesh.Places).map GVector.cells) false, .nest 52 (((v_impl_BareBody m_0).1.Mesh.Triangles).map fun l => l.map (cI .i64)) false, .vec 132 4 (r4_l1.map GSpring.cells) false, .vec 38 1 (((v_impl_BareBody m_0).1.Weights).map (cF .f32)) false, .box 69 [.own 2, .own 3, .own 4, .f .f32 ((v_impl_BareBody m_0).1.Film), .f .f32 ((v_impl_BareBody m_0).1.Bend), .own 5, .f .f32 ((v_impl_BareBody m_0).1.Fall.X), .f .f32 ((v_impl_BareBody m_0).1.Fall.Y), .f .f32 ((v_impl_BareBody m_0).1.Fall.Z)], .mapN 2 (mapC Gedge.pr (cI .i64) ((v_impl_trianglesByEdge m_0).1)) none, .vec 100 2 (((v_impl_trianglesByEdge m_0).2).map Gedge.cells) false]⟩

def mk_impl_SpringEdges_1_0 : List Bool := [true, true, true, false, true, true, true, true, false, true, false, false, false, true, false, false, true, true, true, false, false, true, false, true, true, true, true, true, false, false, false, false, false, false, false, false, false, false, false, false, false, false, false, false, false, false, false, false, false, false, false]

def mk_impl_SpringEdges_1_1 : List Bool := [true, false, true, false, true, true, true, true, false, true, false, false, false, true, false, false, true, true, true, false, false, true, false, true, true, true, false, false, false, false, false, false, false, false, false, false, false, false, false, false, false, false, false, false, false, false, false, false, false, false, false]

theorem lp_impl_SpringEdges_1 (m_0 : GMesh) (stiff_1 : Nat) (hp0 : m_0.Places.length ≤ 1073741824) (hp1 : m_0.Triangles.length ≤ 1073741824) (hp2 : ∀ t ∈ m_0.Triangles, t.length ≤ 1073741824) (hf_impl_SpringEdges_1_0 : (v_impl_BareBody m_0).2 = true) : ∀ (k : Nat) (x_l0 : Int) (r4_l1 : (List GSpring)) (hv_impl_SpringEdges_1_0 : 0 ≤ x_l0) (hv_impl_SpringEdges_1_1 : (r4_l1.length : Int) ≤ x_l0) (hk : ((((v_impl_trianglesByEdge m_0).2).length : Int) - x_l0).toNat < k), Lp prog 0 (sub (bodyOf f45) [1, 1, 1, 1, 0, 1, 0, 0]) (hd_impl_SpringEdges_1 m_0 stiff_1 x_l0 r4_l1) (ls_impl_SpringEdges_1 m_0 stiff_1 (lo_impl_SpringEdges_1 m_0 stiff_1 k x_l0 r4_l1)).1 (ls_impl_SpringEdges_1 m_0 stiff_1 (lo_impl_SpringEdges_1 m_0 stiff_1 k x_l0 r4_l1)).2 := by
 intro k
 induction k with
 | zero => intro x_l0 r4_l1 hv_impl_SpringEdges_1_0 hv_impl_SpringEdges_1_1 hk; exact absurd hk (Nat.not_lt_zero _)
 | succ k ih =>
  intro x_l0 r4_l1 hv_impl_SpringEdges_1_0 hv_impl_SpringEdges_1_1 hk
  cases h_0 : (decide (x_l0 < (((v_impl_trianglesByEdge m_0).2).length : Int))) with
  | true =>
   have gh_0 := of_decide_eq_true h_0
   have y_0 : (0 : Int) ≤ x_l0 := (by first | assumption | omega | (first | (have q := edges_nth m_0 (okE_is _ (bare_ok _ (by assumption))) hv_impl_SpringEdges_1_0 (of_decide_eq_true (by assumption)); first | omega | (simp only [List.length_cons, List.length_nil]; omega)) | (have q := edges_len m_0 (okE_is _ (bare_ok _ (by assumption))); omega) | (have q := implSE_len m_0 stiff_1 (bare_ok _ (by assumption)); omega)) | (simp_all <;> omega))
   have y_1 : x_l0 < (((v_impl_trianglesByEdge m_0).2).length : Int) := (by first | assumption | omega | (first | (have q := edges_nth m_0 (okE_is _ (bare_ok _ (by assumption))) hv_impl_SpringEdges_1_0 (of_decide_eq_true (by assumption)); first | omega | (simp only [List.length_cons, List.length_nil]; omega)) | (have q := edges_len m_0 (okE_is _ (bare_ok _ (by assumption))); omega) | (have q := implSE_len m_0 stiff_1 (bare_ok _ (by assumption)); omega)) | (simp_all <;> omega))
   have y_2 : x_l0.toNat < ((v_impl_trianglesByEdge m_0).2).length := (by first | assumption | omega | (first | (have q := edges_nth m_0 (okE_is _ (bare_ok _ (by assumption))) hv_impl_SpringEdges_1_0 (of_decide_eq_true (by assumption)); first | omega | (simp only [List.length_cons, List.length_nil]; omega)) | (have q := edges_len m_0 (okE_is _ (bare_ok _ (by assumption))); omega) | (have q := implSE_len m_0 stiff_1 (bare_ok _ (by assumption)); omega)) | (simp_all <;> omega))
   have y_3 : 0 ≤ (((v_impl_trianglesByEdge m_0).2).getD x_l0.toNat default).e0 := (by first | assumption | omega | exact okE_is _ (bare_ok _ (by assumption)) | exact Nat.le_trans (edges_len _ (okE_is _ (bare_ok _ (by assumption)))) (by decide) | (have q := edges_nth m_0 (okE_is _ (bare_ok _ (by assumption))) hv_impl_SpringEdges_1_0 (of_decide_eq_true (by assumption)); omega) | exact Nat.le_trans (implSE_len m_0 stiff_1 (bare_ok _ (by assumption))) (by decide) | exact Nat.le_trans (leW_impl_BareBody m_0) (by omega) | exact Nat.le_trans (leP_impl_BareBody m_0) (by omega) | exact Nat.le_trans (leT_impl_BareBody m_0) (by omega) | exact fun t ht => hp2 t (mem_impl_BareBody m_0 t ht))
   have y_4 : (((v_impl_trianglesByEdge m_0).2).getD x_l0.toNat default).e0 < (((v_impl_trianglesByEdge m_0).2).getD x_l0.toNat default).e1 := (by first | assumption | omega | exact okE_is _ (bare_ok _ (by assumption)) | exact Nat.le_trans (edges_len _ (okE_is _ (bare_ok _ (by assumption)))) (by decide) | (have q := edges_nth m_0 (okE_is _ (bare_ok _ (by assumption))) hv_impl_SpringEdges_1_0 (of_decide_eq_true (by assumption)); omega) | exact Nat.le_trans (implSE_len m_0 stiff_1 (bare_ok _ (by assumption))) (by decide) | exact Nat.le_trans (leW_impl_BareBody m_0) (by omega) | exact Nat.le_trans (leP_impl_BareBody m_0) (by omega) | exact Nat.le_trans (leT_impl_BareBody m_0) (by omega) | exact fun t ht => hp2 t (mem_impl_BareBody m_0 t ht))
   have y_5 : (((v_impl_trianglesByEdge m_0).2).getD x_l0.toNat default).e1 < (m_0.Places.length : Int) := (by first | assumption | omega | exact okE_is _ (bare_ok _ (by assumption)) | exact Nat.le_trans (edges_len _ (okE_is _ (bare_ok _ (by assumption)))) (by decide) | (have q := edges_nth m_0 (okE_is _ (bare_ok _ (by assumption))) hv_impl_SpringEdges_1_0 (of_decide_eq_true (by assumption)); omega) | exact Nat.le_trans (implSE_len m_0 stiff_1 (bare_ok _ (by assumption))) (by decide) | exact Nat.le_trans (leW_impl_BareBody m_0) (by omega) | exact Nat.le_trans (leP_impl_BareBody m_0) (by omega) | exact Nat.le_trans (leT_impl_BareBody m_0) (by omega) | exact fun t ht => hp2 t (mem_impl_BareBody m_0 t ht))
   have y_6 : r4_l1.length + ([(⟨(((v_impl_trianglesByEdge m_0).2).getD x_l0.toNat default).e0, (((v_impl_trianglesByEdge m_0).2).getD x_l0.toNat default).e1, (v_impl_longOfEdge m_0 (((v_impl_trianglesByEdge m_0).2).getD x_l0.toNat default)), stiff_1⟩ : GSpring)]).length ≤ 1073741824 := (by first | assumption | omega | (first | (have q := edges_nth m_0 (okE_is _ (bare_ok _ (by assumption))) hv_impl_SpringEdges_1_0 (of_decide_eq_true (by assumption)); first | omega | (simp only [List.length_cons, List.length_nil]; omega)) | (have q := edges_len m_0 (okE_is _ (bare_ok _ (by assumption))); omega) | (have q := implSE_len m_0 stiff_1 (bare_ok _ (by assumption)); omega)) | (simp_all <;> omega))
   have y_7 : (-9223372036854775808 : Int) ≤ (x_l0 + 1) := (by first | assumption | omega | (first | (have q := edges_nth m_0 (okE_is _ (bare_ok _ (by assumption))) hv_impl_SpringEdges_1_0 (of_decide_eq_true (by assumption)); first | omega | (simp only [List.length_cons, List.length_nil]; omega)) | (have q := edges_len m_0 (okE_is _ (bare_ok _ (by assumption))); omega) | (have q := implSE_len m_0 stiff_1 (bare_ok _ (by assumption)); omega)) | (simp_all <;> omega))
   have y_8 : (x_l0 + 1) ≤ (9223372036854775807 : Int) := (by first | assumption | omega | (first | (have q := edges_nth m_0 (okE_is _ (bare_ok _ (by assumption))) hv_impl_SpringEdges_1_0 (of_decide_eq_true (by assumption)); first | omega | (simp only [List.length_cons, List.length_nil]; omega)) | (have q := edges_len m_0 (okE_is _ (bare_ok _ (by assumption))); omega) | (have q := implSE_len m_0 stiff_1 (bare_ok _ (by assumption)); omega)) | (simp_all <;> omega))
   have e : lo_impl_SpringEdges_1 m_0 stiff_1 (k + 1) x_l0 r4_l1 = (lo_impl_SpringEdges_1 m_0 stiff_1 k (x_l0 + 1) (r4_l1 ++ [(⟨(((v_impl_trianglesByEdge m_0).2).getD x_l0.toNat default).e0, (((v_impl_trianglesByEdge m_0).2).getD x_l0.toNat default).e1, (v_impl_longOfEdge m_0 (((v_impl_trianglesByEdge m_0).2).getD x_l0.toNat default)), stiff_1⟩ : GSpring)])) := by simp only [lo_impl_SpringEdges_1, h_0, cond_true]
   rw [e]
   exact nextS E0Ok hMixed [] mk_impl_SpringEdges_1_0 [0, 1, 2, 3, 4, 5, 6, 7, 8] (⟨[.agg [.sl (m_0.Places.map GVector.cells), .sl (m_0.Triangles.map (cL (cI .i64)))], .f .f32 stiff_1, .ptr 0 0 0, .any, .ptr 1 0 0, .b false, .ptr 6 0 0, .b ((v_impl_BareBody m_0).2), .any, .own 8, .any, .any, .any, .agg [.sl (m_0.Places.map GVector.cells), .sl (m_0.Triangles.map (cL (cI .i64)))], .any, .any, .b ((v_impl_BareBody m_0).2), .b ((v_impl_BareBody m_0).2), .b (!(v_impl_BareBody m_0).2), .any, .any, .agg [.sl (m_0.Places.map GVector.cells), .sl (m_0.Triangles.map (cL (cI .i64)))], .any, .mp 7, .own 8, .own 8, .i .i64 (((v_impl_trianglesByEdge m_0).2).length : Int), .i .i64 (x_l0 + 1), .any, .any, .any, .any, .any, .any, .any, .any, .any, .any, .any, .any, .any, .any, .any, .any, .any, .any, .any, .any, .any, .any, .any], [.box 31 [.sl (m_0.Places.map GVector.cells), .sl (m_0.Triangles.map (cL (cI .i64)))], .box 69 [.nils, .nils, .nils, .f .f32 0, .f .f32 0, .nils, .f .f32 0, .f .f32 0, .f .f32 0], .vec 67 3 (((v_impl_BareBody m_0).1.Mesh.Places).map GVector.cells) false, .nest 52 (((v_impl_BareBody m_0).1.Mesh.Triangles).map fun l => l.map (cI .i64)) false, .vec 132 4 ((r4_l1.map GSpring.cells) ++ ([[.i .i64 ((((v_impl_trianglesByEdge m_0).2).getD x_l0.toNat default).e0), .i .i64 ((((v_impl_trianglesByEdge m_0).2).getD x_l0.toNat default).e1), .f .f32 (v_impl_longOfEdge m_0 (((v_impl_trianglesByEdge m_0).2).getD x_l0.toNat default)), .f .f32 stiff_1]] : List (List AV))) false, .vec 38 1 (((v_impl_BareBody m_0).1.Weights).map (cF .f32)) false, .box 69 [.own 2, .own 3, .own 4, .f .f32 ((v_impl_BareBody m_0).1.Film), .f .f32 ((v_impl_BareBody m_0).1.Bend), .own 5, .f .f32 ((v_impl_BareBody m_0).1.Fall.X), .f .f32 ((v_impl_BareBody m_0).1.Fall.Y), .f .f32 ((v_impl_BareBody m_0).1.Fall.Z)], .mapN 2 (mapC Gedge.pr (cI .i64) ((v_impl_trianglesByEdge m_0).1)) none, .vec 100 2 (((v_impl_trianglesByEdge m_0).2).map Gedge.cells) false]⟩) (sB h_0 <| sX Gedge.cells ((v_impl_trianglesByEdge m_0).2) x_l0 y_0 y_1 <| sV Gedge.cells ((v_impl_trianglesByEdge m_0).2) x_l0.toNat y_2 <| sK [12, 12] <| sC (show (0 : Int) ≤ 0 ∧ 0 < ((2 : Nat) : Int) from (by decide)) <| sC (show (0 : Int) ≤ 1 ∧ 1 < ((2 : Nat) : Int) from (by decide)) <| sF (t_impl_longOfEdge m_0 (((v_impl_trianglesByEdge m_0).2).getD x_l0.toNat default) hp0 hp1 hp2 y_3 y_4 y_5) <| sC (show (r4_l1.map GSpring.cells).length + ([[.i .i64 ((((v_impl_trianglesByEdge m_0).2).getD x_l0.toNat default).e0), .i .i64 ((((v_impl_trianglesByEdge m_0).2).getD x_l0.toNat default).e1), .f .f32 (v_impl_longOfEdge m_0 (((v_impl_trianglesByEdge m_0).2).getD x_l0.toNat default)), .f .f32 stiff_1]] : List (List AV)).length ≤ 1073741824 from (by simpa using y_6)) <| sI (x_l0 + 1) y_7 y_8 <| sN) (by kernel_rfl) (show _ = ⟨[.agg [.sl (m_0.Places.map GVector.cells), .sl (m_0.Triangles.map (cL (cI .i64)))], .f .f32 stiff_1, .ptr 0 0 0, .any, .ptr 1 0 0, .b false, .ptr 6 0 0, .b ((v_impl_BareBody m_0).2), .any, .own 8, .any, .any, .any, .agg [.sl (m_0.Places.map GVector.cells), .sl (m_0.Triangles.map (cL (cI .i64)))], .any, .any, .b ((v_impl_BareBody m_0).2), .b ((v_impl_BareBody m_0).2), .b (!(v_impl_BareBody m_0).2), .any, .any, .agg [.sl (m_0.Places.map GVector.cells), .sl (m_0.Triangles.map (cL (cI .i64)))], .any, .mp 7, .own 8, .own 8, .i .i64 (((v_impl_trianglesByEdge m_0).2).length : Int), .i .i64 (x_l0 + 1), .any, .any, .any, .any, .any, .any, .any, .any, .any, .any, .any, .any, .any, .any, .any, .any, .any, .any, .any, .any, .any, .any, .any], [.box 31 [.sl (m_0.Places.map GVector.cells), .sl (m_0.Triangles.map (cL (cI .i64)))], .box 69 [.nils, .nils, .nils, .f .f32 0, .f .f32 0, .nils, .f .f32 0, .f .f32 0, .f .f32 0], .vec 67 3 (((v_impl_BareBody m_0).1.Mesh.Places).map GVector.cells) false, .nest 52 (((v_impl_BareBody m_0).1.Mesh.Triangles).map fun l => l.map (cI .i64)) false, .vec 132 4 ((r4_l1 ++ [(⟨(((v_impl_trianglesByEdge m_0).2).getD x_l0.toNat default).e0, (((v_impl_trianglesByEdge m_0).2).getD x_l0.toNat default).e1, (v_impl_longOfEdge m_0 (((v_impl_trianglesByEdge m_0).2).getD x_l0.toNat default)), stiff_1⟩ : GSpring)]).map GSpring.cells) false, .vec 38 1 (((v_impl_BareBody m_0).1.Weights).map (cF .f32)) false, .box 69 [.own 2, .own 3, .own 4, .f .f32 ((v_impl_BareBody m_0).1.Film), .f .f32 ((v_impl_BareBody m_0).1.Bend), .own 5, .f .f32 ((v_impl_BareBody m_0).1.Fall.X), .f .f32 ((v_impl_BareBody m_0).1.Fall.Y), .f .f32 ((v_impl_BareBody m_0).1.Fall.Z)], .mapN 2 (mapC Gedge.pr (cI .i64) ((v_impl_trianglesByEdge m_0).1)) none, .vec 100 2 (((v_impl_trianglesByEdge m_0).2).map Gedge.cells) false]⟩ from (by simp [GSpring.cells])) (ih (x_l0 + 1) (r4_l1 ++ [(⟨(((v_impl_trianglesByEdge m_0).2).getD x_l0.toNat default).e0, (((v_impl_trianglesByEdge m_0).2).getD x_l0.toNat default).e1, (v_impl_longOfEdge m_0 (((v_impl_trianglesByEdge m_0).2).getD x_l0.toNat default)), stiff_1⟩ : GSpring)]) (show 0 ≤ (x_l0 + 1) from (by first | assumption | omega | (first | (have q := edges_nth m_0 (okE_is _ (bare_ok _ (by assumption))) hv_impl_SpringEdges_1_0 (of_decide_eq_true (by assumption)); first | omega | (simp only [List.length_cons, List.length_nil]; omega)) | (have q := edges_len m_0 (okE_is _ (bare_ok _ (by assumption))); omega) | (have q := implSE_len m_0 stiff_1 (bare_ok _ (by assumption)); omega)) | (simp_all <;> omega))) (show ((r4_l1 ++ [(⟨(((v_impl_trianglesByEdge m_0).2).getD x_l0.toNat default).e0, (((v_impl_trianglesByEdge m_0).2).getD x_l0.toNat default).e1, (v_impl_longOfEdge m_0 (((v_impl_trianglesByEdge m_0).2).getD x_l0.toNat default)), stiff_1⟩ : GSpring)]).length : Int) ≤ (x_l0 + 1) from (by first | assumption | omega | (first | (have q := edges_nth m_0 (okE_is _ (bare_ok _ (by assumption))) hv_impl_SpringEdges_1_0 (of_decide_eq_true (by assumption)); first | omega | (simp only [List.length_cons, List.length_nil]; omega)) | (have q := edges_len m_0 (okE_is _ (bare_ok _ (by assumption))); omega) | (have q := implSE_len m_0 stiff_1 (bare_ok _ (by assumption)); omega)) | (simp_all <;> omega))) (by first | assumption | omega | (first | (have q := edges_nth m_0 (okE_is _ (bare_ok _ (by assumption))) hv_impl_SpringEdges_1_0 (of_decide_eq_true (by assumption)); first | omega | (simp only [List.length_cons, List.length_nil]; omega)) | (have q := edges_len m_0 (okE_is _ (bare_ok _ (by assumption))); omega) | (have q := implSE_len m_0 stiff_1 (bare_ok _ (by assumption)); omega)) | (simp_all <;> omega)))
  | false =>
   have gh_0 := of_decide_eq_false h_0
   have e : lo_impl_SpringEdges_1 m_0 stiff_1 (k + 1) x_l0 r4_l1 = r4_l1 := by simp only [lo_impl_SpringEdges_1, h_0, cond_false]
   rw [e]
   exact outR (e := (.exit 0)) E0Ok hMixed [] mk_impl_SpringEdges_1_1 [0, 1, 6, 8, 7, 2, 3, 4, 5] (sB h_0 <| sN) (by kernel_rfl) (by intro h; cases h)

def lr_impl_SpringEdges_1_0 (m_0 : GMesh) (stiff_1 : Nat) : (List GSpring) := (lo_impl_SpringEdges_1 m_0 stiff_1 (((((v_impl_trianglesByEdge m_0).2).length : Int) - 0).toNat + 1) 0 ((v_impl_BareBody m_0).1.Springs))

theorem implSE_eq (m : GMesh) (s : Nat) : lr_impl_SpringEdges_1_0 m s = (v_impl_trianglesByEdge m).2.map fun e => (⟨e.e0, e.e1, v_impl_longOfEdge m e, s⟩ : GSpring) := by
  unfold lr_impl_SpringEdges_1_0
  rw [bare_spr]
  exact appm_loop (fun k i r => rfl)
theorem implSE_len (m : GMesh) (s : Nat) (h : v_spec_l02Is m = true) : (lr_impl_SpringEdges_1_0 m s).length ≤ 4096 := by
  rw [implSE_eq, List.length_map]; exact edges_len m (okE_is m h)

def nd_impl_SpringEdges_1 (m_0 : GMesh) (stiff_1 : Nat) : Bool := (v_impl_ValidBody (⟨(v_impl_BareBody m_0).1.Mesh, (lr_impl_SpringEdges_1_0 m_0 stiff_1), (v_impl_BareBody m_0).1.Film, (v_impl_BareBody m_0).1.Bend, (v_impl_BareBody m_0).1.Weights, (v_impl_BareBody m_0).1.Fall⟩ : GBody))

def v_impl_SpringEdges (m_0 : GMesh) (stiff_1 : Nat) : GBody × Bool := (cond (v_impl_BareBody m_0).2
  (cond (nd_impl_SpringEdges_1 m_0 stiff_1)
    ((⟨(v_impl_BareBody m_0).1.Mesh, (lr_impl_SpringEdges_1_0 m_0 stiff_1), (v_impl_BareBody m_0).1.Film, (v_impl_BareBody m_0).1.Bend, (v_impl_BareBody m_0).1.Weights, (v_impl_BareBody m_0).1.Fall⟩ : GBody), true)
    ((⟨(⟨([] : List GVector), ([] : List (List Int))⟩ : GMesh), ([] : List GSpring), 0, 0, ([] : List Nat), (⟨0, 0, 0⟩ : GVector)⟩ : GBody), false))
  ((⟨(⟨([] : List GVector), ([] : List (List Int))⟩ : GMesh), ([] : List GSpring), 0, 0, ([] : List Nat), (⟨0, 0, 0⟩ : GVector)⟩ : GBody), false))

theorem long_sub (a b : GVector) : v_spec_l01Long (v_spec_l01Less a b) = v_spec_l01Long (v_spec_l01Less b a) := by
  unfold v_spec_l01Long v_spec_l01Inner v_spec_l01Less
  simp only
  rw [sq_sub a.X b.X, sq_sub a.Y b.Y, sq_sub a.Z b.Z]
theorem eq_SpringEdges (m : GMesh) (s : Nat) : v_impl_SpringEdges m s = v_spec_SpringEdges m s := by
  unfold v_impl_SpringEdges v_spec_SpringEdges nd_impl_SpringEdges_1 nd_spec_SpringEdges_2
  rw [bare_two]
  cases h : v_spec_l02Is m with
  | false => rfl
  | true =>
    have hl : lr_impl_SpringEdges_1_0 m s = lr_spec_SpringEdges_1_0 m s := by
      rw [implSE_eq, specSE_eq, edges_eq m (okE_is m h), l02Edges_eq m (okE_is m h), List.map_map]
      refine List.map_congr_left fun e _ => ?_
      show (⟨e.e0, e.e1, v_spec_l01Long (v_spec_l01Less (m.Places.getD e.e0.toNat default) (m.Places.getD e.e1.toNat default)), s⟩ : GSpring) = ⟨e.e0, e.e1, v_spec_l01Long (v_spec_l01Less (m.Places.getD e.e1.toNat default) (m.Places.getD e.e0.toNat default)), s⟩
      rw [long_sub]
    rw [bare_one m h, hl, eq_ValidBody]
    rfl
theorem leP_impl_SpringEdges (m : GMesh) (s : Nat) : (v_impl_SpringEdges m s).1.Mesh.Places.length ≤ m.Places.length := by rw [eq_SpringEdges]; exact leP_spec_SpringEdges m s
theorem leT_impl_SpringEdges (m : GMesh) (s : Nat) : (v_impl_SpringEdges m s).1.Mesh.Triangles.length ≤ m.Triangles.length := by rw [eq_SpringEdges]; exact leT_spec_SpringEdges m s
theorem leW_impl_SpringEdges (m : GMesh) (s : Nat) : (v_impl_SpringEdges m s).1.Weights.length ≤ m.Places.length := by rw [eq_SpringEdges]; exact leW_spec_SpringEdges m s
theorem leS_impl_SpringEdges (m : GMesh) (s : Nat) : (v_impl_SpringEdges m s).1.Springs.length ≤ 4096 := by rw [eq_SpringEdges]; exact leS_spec_SpringEdges m s
theorem mem_impl_SpringEdges (m : GMesh) (s : Nat) : ∀ t ∈ (v_impl_SpringEdges m s).1.Mesh.Triangles, t ∈ m.Triangles := by rw [eq_SpringEdges]; exact mem_spec_SpringEdges m s

theorem t_impl_SpringEdges (m_0 : GMesh) (stiff_1 : Nat) (hp0 : m_0.Places.length ≤ 1073741824) (hp1 : m_0.Triangles.length ≤ 1073741824) (hp2 : ∀ t ∈ m_0.Triangles, t.length ≤ 1073741824)  : Fn prog 45 [.agg [.sl (m_0.Places.map GVector.cells), .sl (m_0.Triangles.map (cL (cI .i64)))], .f .f32 stiff_1] (.tup [.agg [.own 0, .own 1, .own 2, .f .f32 ((v_impl_SpringEdges m_0 stiff_1).1.Film), .f .f32 ((v_impl_SpringEdges m_0 stiff_1).1.Bend), .own 3, .f .f32 ((v_impl_SpringEdges m_0 stiff_1).1.Fall.X), .f .f32 ((v_impl_SpringEdges m_0 stiff_1).1.Fall.Y), .f .f32 ((v_impl_SpringEdges m_0 stiff_1).1.Fall.Z)], .b ((v_impl_SpringEdges m_0 stiff_1).2)]) [.vec 67 3 (((v_impl_SpringEdges m_0 stiff_1).1.Mesh.Places).map GVector.cells) false, .nest 52 (((v_impl_SpringEdges m_0 stiff_1).1.Mesh.Triangles).map fun l => l.map (cI .i64)) false, .vec 132 4 (((v_impl_SpringEdges m_0 stiff_1).1.Springs).map GSpring.cells) false, .vec 38 1 (((v_impl_SpringEdges m_0 stiff_1).1.Weights).map (cF .f32)) false] := by
 have l1 := (leP_impl_BareBody m_0)
 have l2 := (leT_impl_BareBody m_0)
 have l3 := (leW_impl_BareBody m_0)
 have l4 := (leS_impl_BareBody m_0)
 have p {a C} (s : Scr a C) := sF (t_impl_BareBody m_0 hp0 hp1 hp2) <| s
 cases h0 : (v_impl_BareBody m_0).2 with
 | true =>
  have y0 : OkE m_0.Places.length m_0.Triangles := by clear p; exact (by first | assumption | omega | exact okE_is _ (bare_ok _ (by assumption)) | exact Nat.le_trans (edges_len _ (okE_is _ (bare_ok _ (by assumption)))) (by decide) | (have q := edges_nth m_0 (okE_is _ (bare_ok _ (by assumption))) hv_impl_SpringEdges_1_0 (of_decide_eq_true (by assumption)); omega) | exact Nat.le_trans (implSE_len m_0 stiff_1 (bare_ok _ (by assumption))) (by decide) | exact Nat.le_trans (leW_impl_BareBody m_0) (by omega) | exact Nat.le_trans (leP_impl_BareBody m_0) (by omega) | exact Nat.le_trans (leT_impl_BareBody m_0) (by omega) | exact fun t ht => hp2 t (mem_impl_BareBody m_0 t ht))
  have y1 : (⟨(v_impl_BareBody m_0).1.Mesh, (lr_impl_SpringEdges_1_0 m_0 stiff_1), (v_impl_BareBody m_0).1.Film, (v_impl_BareBody m_0).1.Bend, (v_impl_BareBody m_0).1.Weights, (v_impl_BareBody m_0).1.Fall⟩ : GBody).Mesh.Places.length ≤ 1073741824 := by clear p; exact (by first | assumption | omega | exact okE_is _ (bare_ok _ (by assumption)) | exact Nat.le_trans (edges_len _ (okE_is _ (bare_ok _ (by assumption)))) (by decide) | (have q := edges_nth m_0 (okE_is _ (bare_ok _ (by assumption))) hv_impl_SpringEdges_1_0 (of_decide_eq_true (by assumption)); omega) | exact Nat.le_trans (implSE_len m_0 stiff_1 (bare_ok _ (by assumption))) (by decide) | exact Nat.le_trans (leW_impl_BareBody m_0) (by omega) | exact Nat.le_trans (leP_impl_BareBody m_0) (by omega) | exact Nat.le_trans (leT_impl_BareBody m_0) (by omega) | exact fun t ht => hp2 t (mem_impl_BareBody m_0 t ht))
  have y2 : (⟨(v_impl_BareBody m_0).1.Mesh, (lr_impl_SpringEdges_1_0 m_0 stiff_1), (v_impl_BareBody m_0).1.Film, (v_impl_BareBody m_0).1.Bend, (v_impl_BareBody m_0).1.Weights, (v_impl_BareBody m_0).1.Fall⟩ : GBody).Mesh.Triangles.length ≤ 1073741824 := by clear p; exact (by first | assumption | omega | exact okE_is _ (bare_ok _ (by assumption)) | exact Nat.le_trans (edges_len _ (okE_is _ (bare_ok _ (by assumption)))) (by decide) | (have q := edges_nth m_0 (okE_is _ (bare_ok _ (by assumption))) hv_impl_SpringEdges_1_0 (of_decide_eq_true (by assumption)); omega) | exact Nat.le_trans (implSE_len m_0 stiff_1 (bare_ok _ (by assumption))) (by decide) | exact Nat.le_trans (leW_impl_BareBody m_0) (by omega) | exact Nat.le_trans (leP_impl_BareBody m_0) (by omega) | exact Nat.le_trans (leT_impl_BareBody m_0) (by omega) | exact fun t ht => hp2 t (mem_impl_BareBody m_0 t ht))
  have y3 : ∀ t ∈ (⟨(v_impl_BareBody m_0).1.Mesh, (lr_impl_SpringEdges_1_0 m_0 stiff_1), (v_impl_BareBody m_0).1.Film, (v_impl_BareBody m_0).1.Bend, (v_impl_BareBody m_0).1.Weights, (v_impl_BareBody m_0).1.Fall⟩ : GBody).Mesh.Triangles, t.length ≤ 1073741824 := by clear p; exact (by first | assumption | omega | exact okE_is _ (bare_ok _ (by assumption)) | exact Nat.le_trans (edges_len _ (okE_is _ (bare_ok _ (by assumption)))) (by decide) | (have q := edges_nth m_0 (okE_is _ (bare_ok _ (by assumption))) hv_impl_SpringEdges_1_0 (of_decide_eq_true (by assumption)); omega) | exact Nat.le_trans (implSE_len m_0 stiff_1 (bare_ok _ (by assumption))) (by decide) | exact Nat.le_trans (leW_impl_BareBody m_0) (by omega) | exact Nat.le_trans (leP_impl_BareBody m_0) (by omega) | exact Nat.le_trans (leT_impl_BareBody m_0) (by omega) | exact fun t ht => hp2 t (mem_impl_BareBody m_0 t ht))
  have y4 : (⟨(v_impl_BareBody m_0).1.Mesh, (lr_impl_SpringEdges_1_0 m_0 stiff_1), (v_impl_BareBody m_0).1.Film, (v_impl_BareBody m_0).1.Bend, (v_impl_BareBody m_0).1.Weights, (v_impl_BareBody m_0).1.Fall⟩ : GBody).Springs.length ≤ 1073741824 := by clear p; exact (by first | assumption | omega | exact okE_is _ (bare_ok _ (by assumption)) | exact Nat.le_trans (edges_len _ (okE_is _ (bare_ok _ (by assumption)))) (by decide) | (have q := edges_nth m_0 (okE_is _ (bare_ok _ (by assumption))) hv_impl_SpringEdges_1_0 (of_decide_eq_true (by assumption)); omega) | exact Nat.le_trans (implSE_len m_0 stiff_1 (bare_ok _ (by assumption))) (by decide) | exact Nat.le_trans (leW_impl_BareBody m_0) (by omega) | exact Nat.le_trans (leP_impl_BareBody m_0) (by omega) | exact Nat.le_trans (leT_impl_BareBody m_0) (by omega) | exact fun t ht => hp2 t (mem_impl_BareBody m_0 t ht))
  have y5 : (⟨(v_impl_BareBody m_0).1.Mesh, (lr_impl_SpringEdges_1_0 m_0 stiff_1), (v_impl_BareBody m_0).1.Film, (v_impl_BareBody m_0).1.Bend, (v_impl_BareBody m_0).1.Weights, (v_impl_BareBody m_0).1.Fall⟩ : GBody).Weights.length ≤ 1073741824 := by clear p; exact (by first | assumption | omega | exact okE_is _ (bare_ok _ (by assumption)) | exact Nat.le_trans (edges_len _ (okE_is _ (bare_ok _ (by assumption)))) (by decide) | (have q := edges_nth m_0 (okE_is _ (bare_ok _ (by assumption))) hv_impl_SpringEdges_1_0 (of_decide_eq_true (by assumption)); omega) | exact Nat.le_trans (implSE_len m_0 stiff_1 (bare_ok _ (by assumption))) (by decide) | exact Nat.le_trans (leW_impl_BareBody m_0) (by omega) | exact Nat.le_trans (leP_impl_BareBody m_0) (by omega) | exact Nat.le_trans (leT_impl_BareBody m_0) (by omega) | exact fun t ht => hp2 t (mem_impl_BareBody m_0 t ht))
  have q {a C} (s : Scr a C) := p (sB' h0 <| sF (t_impl_trianglesByEdge m_0 hp0 hp1 hp2 y0) <| sZ Gedge.cells ((v_impl_trianglesByEdge m_0).2) <| sL mk_impl_SpringEdges_1_0 9 (lp_val (ls_impl_SpringEdges_1 m_0 stiff_1) (x := (lr_impl_SpringEdges_1_0 m_0 stiff_1)) (lp_impl_SpringEdges_1 m_0 stiff_1 hp0 hp1 hp2 h0 (((((v_impl_trianglesByEdge m_0).2).length : Int) - 0).toNat + 1) 0 ((v_impl_BareBody m_0).1.Springs) (show 0 ≤ 0 from (by first | omega | (rw [bare_spr]; simp))) (show (((v_impl_BareBody m_0).1.Springs).length : Int) ≤ 0 from (by first | omega | (rw [bare_spr]; simp))) (Nat.lt_succ_self _)) rfl) <| sF (Fn.castA (args' := [.agg [.sl (((v_impl_BareBody m_0).1.Mesh.Places).map GVector.cells), .sl ((((v_impl_BareBody m_0).1.Mesh.Triangles).map fun l => l.map (cI .i64)).map fun l => [.sl l]), .sl ((lr_impl_SpringEdges_1_0 m_0 stiff_1).map GSpring.cells), .f .f32 ((v_impl_BareBody m_0).1.Film), .f .f32 ((v_impl_BareBody m_0).1.Bend), .sl (((v_impl_BareBody m_0).1.Weights).map (cF .f32)), .f .f32 ((v_impl_BareBody m_0).1.Fall.X), .f .f32 ((v_impl_BareBody m_0).1.Fall.Y), .f .f32 ((v_impl_BareBody m_0).1.Fall.Z)]]) (t_impl_ValidBody (⟨(v_impl_BareBody m_0).1.Mesh, (lr_impl_SpringEdges_1_0 m_0 stiff_1), (v_impl_BareBody m_0).1.Film, (v_impl_BareBody m_0).1.Bend, (v_impl_BareBody m_0).1.Weights, (v_impl_BareBody m_0).1.Fall⟩ : GBody) y1 y2 y3 y4 y5) (by first | (simp [cL, Function.comp_def]; done) | (simp [cL, Function.comp_def]; rfl))) <| s)
  clear p
  cases h1 : (nd_impl_SpringEdges_1 m_0 stiff_1) with
  | true =>
   refine fnS E0Ok hMixed (c := bodyOf f45) [] (.tup [.agg [.own 0, .own 1, .own 2, .f .f32 ((v_impl_BareBody m_0).1.Film), .f .f32 ((v_impl_BareBody m_0).1.Bend), .own 3, .f .f32 ((v_impl_BareBody m_0).1.Fall.X), .f .f32 ((v_impl_BareBody m_0).1.Fall.Y), .f .f32 ((v_impl_BareBody m_0).1.Fall.Z)], .b true]) [.vec 67 3 (((v_impl_BareBody m_0).1.Mesh.Places).map GVector.cells) false, .nest 52 (((v_impl_BareBody m_0).1.Mesh.Triangles).map fun l => l.map (cI .i64)) false, .vec 132 4 ((lr_impl_SpringEdges_1_0 m_0 stiff_1).map GSpring.cells) false, .vec 38 1 (((v_impl_BareBody m_0).1.Weights).map (cF .f32)) false] func45 (q (sB' h1 <| sK [5, 6, 7, 8] sN)) rfl (by kernel_rfl) (by kernel_rfl) rfl ?_ ?_
   · simp only [v_impl_SpringEdges, h0, h1, cond_true]
   · simp [v_impl_SpringEdges, h0, h1]
  | false =>
   refine fnS E0Ok hMixed (c := bodyOf f45) [(.row 1 0, .vec 67 3 [] false), (.row 1 1, .nest 52 [] false), (.row 1 2, .vec 132 4 [] false), (.row 1 5, .vec 38 1 [] false)] (.tup [.agg [.own 0, .own 1, .own 2, .f .f32 0, .f .f32 0, .own 3, .f .f32 0, .f .f32 0, .f .f32 0], .b false]) [.vec 67 3 [] false, .nest 52 [] false, .vec 132 4 [] false, .vec 38 1 [] false] func45 (q (sB' h1 <| sK [9, 10, 11, 12] sN)) rfl (by kernel_rfl) (by kernel_rfl) rfl ?_ ?_
   · simp only [v_impl_SpringEdges, h0, h1, cond_true, cond_false]
   · simp [v_impl_SpringEdges, h0, h1, GVector.cells, cL, cI, GSpring.cells, cF]
 | false =>
  refine fnS E0Ok hMixed (c := bodyOf f45) [(.row 1 0, .vec 67 3 [] false), (.row 1 1, .nest 52 [] false), (.row 1 2, .vec 132 4 [] false), (.row 1 5, .vec 38 1 [] false)] (.tup [.agg [.own 0, .own 1, .own 2, .f .f32 0, .f .f32 0, .own 3, .f .f32 0, .f .f32 0, .f .f32 0], .b false]) [.vec 67 3 [] false, .nest 52 [] false, .vec 132 4 [] false, .vec 38 1 [] false] func45 (p (sB' h0 <| sK [7, 8, 9, 10] sN)) rfl (by kernel_rfl) (by kernel_rfl) rfl ?_ ?_
  · simp only [v_impl_SpringEdges, h0, cond_false]
  · simp [v_impl_SpringEdges, h0, GVector.cells, cL, cI, GSpring.cells, cF]

def v_laws_sameFloat (a_0 : Nat) (b_1 : Nat) : Bool := (cond (fcmp .neq .f64 a_0 a_0)
  (fcmp .neq .f64 b_1 b_1)
  (cond (fcmp .neq .f64 b_1 b_1)
    false
    (cond (fcmp .eql .f64 a_0 0)
      (cond (fcmp .eql .f64 b_1 0)
        ((fcmp .gtr .f64 (fop .quo .f64 4607182418800017408 a_0) 0) == (fcmp .gtr .f64 (fop .quo .f64 4607182418800017408 b_1) 0))
        (fcmp .eql .f64 a_0 b_1))
      (fcmp .eql .f64 a_0 b_1))))

theorem t_laws_sameFloat (a_0 : Nat) (b_1 : Nat)   : Fn prog 42 [.f .f64 a_0, .f .f64 b_1] (.b (v_laws_sameFloat a_0 b_1)) [] := by
 cases h0 : (fcmp .neq .f64 a_0 a_0) with
 | true =>
  refine fnS E0Ok hMixed (c := bodyOf f42) [] (.b (fcmp .neq .f64 b_1 b_1)) [] func42 (sB h0 <| sB h0 <| sB h0 <| sB h0 <| sB (show true = true from rfl) <| sB h0 <| sB h0 <| sB h0 <| sB h0 <| sK [] sN) rfl (by kernel_rfl) (by kernel_rfl) rfl ?_ ?_
  · simp only [v_laws_sameFloat, h0, cond_true]
  · rfl
 | false =>
  have p {a C} (s : Scr a C) := sB h0 <| sB h0 <| sB h0 <| sB h0 <| s
  cases h1 : (fcmp .neq .f64 b_1 b_1) with
  | true =>
   refine fnS E0Ok hMixed (c := bodyOf f42) [] (.b false) [] func42 (p (sB h1 <| sB h0 <| sB h0 <| sB h0 <| sB h0 <| sK [] sN)) rfl (by kernel_rfl) (by kernel_rfl) rfl ?_ ?_
   · simp only [v_laws_sameFloat, h0, h1, cond_true, cond_false]
   · rfl
  | false =>
   have q {a C} (s : Scr a C) := p (sB h1 <| s)
   clear p
   cases h2 : (fcmp .eql .f64 a_0 0) with
   | true =>
    have p {a C} (s : Scr a C) := q (sB h2 <| sB h2 <| sB h2 <| s)
    clear q
    cases h3 : (fcmp .eql .f64 b_1 0) with
    | true =>
     refine fnS E0Ok hMixed (c := bodyOf f42) [] (.b ((fcmp .gtr .f64 (fop .quo .f64 4607182418800017408 a_0) 0) == (fcmp .gtr .f64 (fop .quo .f64 4607182418800017408 b_1) 0))) [] func42 (p (sB h3 <| sK [] sN)) rfl (by kernel_rfl) (by kernel_rfl) rfl ?_ ?_
     · simp only [v_laws_sameFloat, h0, h1, h2, h3, cond_true, cond_false]
     · rfl
    | false =>
     refine fnS E0Ok hMixed (c := bodyOf f42) [] (.b (fcmp .eql .f64 a_0 b_1)) [] func42 (p (sB h3 <| sK [] sN)) rfl (by kernel_rfl) (by kernel_rfl) rfl ?_ ?_
     · simp only [v_laws_sameFloat, h0, h1, h2, h3, cond_true, cond_false]
     · rfl
   | false =>
    refine fnS E0Ok hMixed (c := bodyOf f42) [] (.b (fcmp .eql .f64 a_0 b_1)) [] func42 (q (sB h2 <| sB h2 <| sB h2 <| sB (show false = false from rfl) <| sK [] sN)) rfl (by kernel_rfl) (by kernel_rfl) rfl ?_ ?_
    · simp only [v_laws_sameFloat, h0, h1, h2, cond_false]
    · rfl

theorem same_self (x : Nat) : v_laws_sameFloat x x = true := by
  unfold v_laws_sameFloat
  cases h : fcmp .neq .f64 x x
  · simp only [cond_false]
    have h2 : fcmp .eql .f64 x x = true := by
      unfold fcmp at h ⊢
      simpa using h
    cases fcmp .eql .f64 x 0 <;> simp [h2]
  · rfl

def v_laws_eqVector (a_0 : GVector) (b_1 : GVector) : Bool := (cond (v_laws_sameFloat (fcv .f32 .f64 a_0.X) (fcv .f32 .f64 b_1.X))
  (cond (v_laws_sameFloat (fcv .f32 .f64 a_0.Y) (fcv .f32 .f64 b_1.Y))
    (cond (v_laws_sameFloat (fcv .f32 .f64 a_0.Z) (fcv .f32 .f64 b_1.Z))
      true
      false)
    false)
  false)

theorem t_laws_eqVector (a_0 : GVector) (b_1 : GVector)   : Fn prog 96 [.agg [.f .f32 a_0.X, .f .f32 a_0.Y, .f .f32 a_0.Z], .agg [.f .f32 b_1.X, .f .f32 b_1.Y, .f .f32 b_1.Z]] (.b (v_laws_eqVector a_0 b_1)) [] := by
 have p {a C} (s : Scr a C) := sC (widenOk a_0.X) <| sC (widenOk b_1.X) <| sF (t_laws_sameFloat (fcv .f32 .f64 a_0.X) (fcv .f32 .f64 b_1.X)) <| s
 cases h0 : (v_laws_sameFloat (fcv .f32 .f64 a_0.X) (fcv .f32 .f64 b_1.X)) with
 | true =>
  have q {a C} (s : Scr a C) := p (sB' h0 <| sC (widenOk a_0.Y) <| sC (widenOk b_1.Y) <| sF (t_laws_sameFloat (fcv .f32 .f64 a_0.Y) (fcv .f32 .f64 b_1.Y)) <| s)
  clear p
  cases h1 : (v_laws_sameFloat (fcv .f32 .f64 a_0.Y) (fcv .f32 .f64 b_1.Y)) with
  | true =>
   have p {a C} (s : Scr a C) := q (sB' h1 <| sC (widenOk a_0.Z) <| sC (widenOk b_1.Z) <| sF (t_laws_sameFloat (fcv .f32 .f64 a_0.Z) (fcv .f32 .f64 b_1.Z)) <| s)
   clear q
   cases h2 : (v_laws_sameFloat (fcv .f32 .f64 a_0.Z) (fcv .f32 .f64 b_1.Z)) with
   | true =>
    refine fnS E0Ok hMixed (c := bodyOf f96) [] (.b true) [] func96 (p (sB' h2 <| sK [] sN)) rfl (by kernel_rfl) (by kernel_rfl) rfl ?_ ?_
    · simp only [v_laws_eqVector, h0, h1, h2, cond_true]
    · rfl
   | false =>
    refine fnS E0Ok hMixed (c := bodyOf f96) [] (.b false) [] func96 (p (sB' h2 <| sK [] sN)) rfl (by kernel_rfl) (by kernel_rfl) rfl ?_ ?_
    · simp only [v_laws_eqVector, h0, h1, h2, cond_true, cond_false]
    · rfl
  | false =>
   refine fnS E0Ok hMixed (c := bodyOf f96) [] (.b false) [] func96 (q (sB' h1 <| sK [] sN)) rfl (by kernel_rfl) (by kernel_rfl) rfl ?_ ?_
   · simp only [v_laws_eqVector, h0, h1, cond_true, cond_false]
   · rfl
 | false =>
  refine fnS E0Ok hMixed (c := bodyOf f96) [] (.b false) [] func96 (p (sB' h0 <| sK [] sN)) rfl (by kernel_rfl) (by kernel_rfl) rfl ?_ ?_
  · simp only [v_laws_eqVector, h0, cond_false]
  · rfl

theorem eqVector_self (a : GVector) : v_laws_eqVector a a = true := by
  simp [v_laws_eqVector, same_self]

def lo_laws_eqVectorS_1 (a_0 : (List GVector)) (b_1 : (List GVector)) : Nat → Int → (Unit) ⊕ (Unit)
  | 0, _ => .inl default
  | k + 1, i_l0 => (cond (decide (i_l0 < (a_0.length : Int)))
    (cond (v_laws_eqVector (a_0.getD i_l0.toNat default) (b_1.getD i_l0.toNat default))
      (lo_laws_eqVectorS_1 a_0 b_1 k (i_l0 + 1))
      (.inl ()))
    (.inr ()))

def ls_laws_eqVectorS_1 (a_0 : (List GVector)) (b_1 : (List GVector)) : (Unit) ⊕ (Unit) → Ex × St
  | .inl r => (.ret, ⟨[.any, .any, .any, .any, .b false, .any, .any, .any, .any, .any, .any, .any, .any, .any, .any, .any, .any, .any, .any, .any, .any, .any, .any, .any, .any, .any, .any], []⟩)
  | .inr r => ((.exit 0), ⟨[.sl (a_0.map GVector.cells), .sl (b_1.map GVector.cells), .any, .any, .any, .any, .sl (a_0.map GVector.cells), .i .i64 (a_0.length : Int), .sl (b_1.map GVector.cells), .i .i64 (b_1.length : Int), .b ((a_0.length : Int) != (b_1.length : Int)), .any, .any, .any, .any, .any, .any, .any, .any, .any, .any, .any, .any, .any, .any, .any, .any], []⟩)

def hd_laws_eqVectorS_1 (a_0 : (List GVector)) (b_1 : (List GVector)) (i_l0 : Int) : St := ⟨[.sl (a_0.map GVector.cells), .sl (b_1.map GVector.cells), .any, .any, .any, .i .i64 i_l0, .sl (a_0.map GVector.cells), .i .i64 (a_0.length : Int), .sl (b_1.map GVector.cells), .i .i64 (b_1.length : Int), .b ((a_0.length : Int) != (b_1.length : Int)), .any, .any, .any, .any, .any, .any, .any, .any, .any, .any, .any, .any, .any, .any, .any, .any], []⟩

def mk_laws_eqVectorS_1_0 : List Bool := [true, true, false, false, false, true, true, true, true, true, true, false, false, false, false, false, false, false, false, false, false, false, false, false, false, false, false]

def mk_laws_eqVectorS_1_1 : List Bool := [false, false, false, false, true, false, false, false, false, false, false, false, false, false, false, false, false, false, false, false, false, false, false, false, false, false, false]

def mk_laws_eqVectorS_1_2 : List Bool := [true, true, false, false, false, false, true, true, true, true, true, false, false, false, false, false, false, false, false, false, false, false, false, false, false, false, false]

theorem lp_laws_eqVectorS_1 (a_0 : (List GVector)) (b_1 : (List GVector)) (hp0 : a_0.length ≤ 1073741824) (hp1 : b_1.length ≤ 1073741824) (hf_laws_eqVectorS_1_0 : ((a_0.length : Int) != (b_1.length : Int)) = false) : ∀ (k : Nat) (i_l0 : Int) (hv_laws_eqVectorS_1_0 : 0 ≤ i_l0) (hk : ((a_0.length : Int) - i_l0).toNat < k), Lp prog 0 (sub (bodyOf f58) [1, 1, 0, 1, 0, 0]) (hd_laws_eqVectorS_1 a_0 b_1 i_l0) (ls_laws_eqVectorS_1 a_0 b_1 (lo_laws_eqVectorS_1 a_0 b_1 k i_l0)).1 (ls_laws_eqVectorS_1 a_0 b_1 (lo_laws_eqVectorS_1 a_0 b_1 k i_l0)).2 := by
 intro k
 induction k with
 | zero => intro i_l0 hv_laws_eqVectorS_1_0 hk; exact absurd hk (Nat.not_lt_zero _)
 | succ k ih =>
  intro i_l0 hv_laws_eqVectorS_1_0 hk
  have p {a C} (s : Scr a C) := sZ GVector.cells a_0 <| s
  cases h_0 : (decide (i_l0 < (a_0.length : Int))) with
  | true =>
   have gh_0 := of_decide_eq_true h_0
   have y_0 : (0 : Int) ≤ i_l0 := by clear p; exact (by first | assumption | omega | (simp_all <;> omega))
   have y_1 : i_l0 < (a_0.length : Int) := by clear p; exact (by first | assumption | omega | (simp_all <;> omega))
   have y_2 : i_l0 < (b_1.length : Int) := by clear p; exact (by first | assumption | omega | (simp_all <;> omega))
   have q {a C} (s : Scr a C) := p (sB h_0 <| sK [8, 8] <| sG GVector.cells a_0 i_l0 y_0 y_1 <| sG GVector.cells b_1 i_l0 y_0 y_2 <| sF (t_laws_eqVector (a_0.getD i_l0.toNat default) (b_1.getD i_l0.toNat default)) <| s)
   clear p
   cases h_1 : (v_laws_eqVector (a_0.getD i_l0.toNat default) (b_1.getD i_l0.toNat default)) with
   | true =>
    have y_3 : (-9223372036854775808 : Int) ≤ (i_l0 + 1) := by clear q; exact (by first | assumption | omega | (simp_all <;> omega))
    have y_4 : (i_l0 + 1) ≤ (9223372036854775807 : Int) := by clear q; exact (by first | assumption | omega | (simp_all <;> omega))
    have e : lo_laws_eqVectorS_1 a_0 b_1 (k + 1) i_l0 = (lo_laws_eqVectorS_1 a_0 b_1 k (i_l0 + 1)) := by simp only [lo_laws_eqVectorS_1, h_0, h_1, cond_true]
    rw [e]
    exact nextR E0Ok hMixed [] mk_laws_eqVectorS_1_0 [] (ih (i_l0 + 1) (show 0 ≤ (i_l0 + 1) from (by first | assumption | omega | (simp_all <;> omega))) (by first | assumption | omega | (simp_all <;> omega))) (q (sB' h_1 <| sI (i_l0 + 1) y_3 y_4 <| sN)) (by kernel_rfl)
   | false =>
    have e : lo_laws_eqVectorS_1 a_0 b_1 (k + 1) i_l0 = (.inl ()) := by simp only [lo_laws_eqVectorS_1, h_0, h_1, cond_true, cond_false]
    rw [e]
    exact outR (e := .ret) E0Ok hMixed [] mk_laws_eqVectorS_1_1 [] (q (sB' h_1 <| sN)) (by kernel_rfl) (by intro h; cases h)
  | false =>
   have gh_0 := of_decide_eq_false h_0
   have e : lo_laws_eqVectorS_1 a_0 b_1 (k + 1) i_l0 = (.inr ()) := by simp only [lo_laws_eqVectorS_1, h_0, cond_false]
   rw [e]
   exact outR (e := (.exit 0)) E0Ok hMixed [] mk_laws_eqVectorS_1_2 [] (p (sB h_0 <| sN)) (by kernel_rfl) (by intro h; cases h)

def lr_laws_eqVectorS_1_0 (a_0 : (List GVector)) (b_1 : (List GVector)) : (Unit) ⊕ (Unit) := (lo_laws_eqVectorS_1 a_0 b_1 (((a_0.length : Int) - 0).toNat + 1) 0)

def v_laws_eqVectorS (a_0 : (List GVector)) (b_1 : (List GVector)) : Bool := (cond ((a_0.length : Int) != (b_1.length : Int))
  false
  (match (lr_laws_eqVectorS_1_0 a_0 b_1) with
    | .inl r2 => false
    | .inr r2 => true))

theorem t_laws_eqVectorS (a_0 : (List GVector)) (b_1 : (List GVector)) (hp0 : a_0.length ≤ 1073741824) (hp1 : b_1.length ≤ 1073741824)  : Fn prog 58 [.sl (a_0.map GVector.cells), .sl (b_1.map GVector.cells)] (.b (v_laws_eqVectorS a_0 b_1)) [] := by
 have p {a C} (s : Scr a C) := sZ GVector.cells a_0 <| sZ GVector.cells b_1 <| s
 cases h0 : ((a_0.length : Int) != (b_1.length : Int)) with
 | true =>
  have gh0 := bne_iff_ne.1 h0
  refine fnS E0Ok hMixed (c := bodyOf f58) [] (.b false) [] func58 (p (sB h0 <| sK [] sN)) rfl (by kernel_rfl) (by kernel_rfl) rfl ?_ ?_
  · simp only [v_laws_eqVectorS, h0, cond_true]
  · rfl
 | false =>
  have gh0 := bne_eq_false_iff_eq.1 h0
  have q {a C} (s : Scr a C) := p (sB h0 <| s)
  clear p
  cases h1 : (lr_laws_eqVectorS_1_0 a_0 b_1) with
  | inl r2 =>
   refine fnS E0Ok hMixed (c := bodyOf f58) [] (.b false) [] func58 (q (sL mk_laws_eqVectorS_1_0 0 (lp_val (ls_laws_eqVectorS_1 a_0 b_1) (x := (lr_laws_eqVectorS_1_0 a_0 b_1)) (lp_laws_eqVectorS_1 a_0 b_1 hp0 hp1 h0 (((a_0.length : Int) - 0).toNat + 1) 0 (show 0 ≤ 0 from (by first | assumption | omega | (simp_all <;> omega))) (Nat.lt_succ_self _)) h1) <| sK [] sN)) rfl (by kernel_rfl) (by kernel_rfl) rfl ?_ ?_
   · simp only [v_laws_eqVectorS, h0, h1, cond_false]
   · rfl
  | inr r2 =>
   refine fnS E0Ok hMixed (c := bodyOf f58) [] (.b true) [] func58 (q (sL mk_laws_eqVectorS_1_0 0 (lp_val (ls_laws_eqVectorS_1 a_0 b_1) (x := (lr_laws_eqVectorS_1_0 a_0 b_1)) (lp_laws_eqVectorS_1 a_0 b_1 hp0 hp1 h0 (((a_0.length : Int) - 0).toNat + 1) 0 (show 0 ≤ 0 from (by first | assumption | omega | (simp_all <;> omega))) (Nat.lt_succ_self _)) h1) <| sK [] sN)) rfl (by kernel_rfl) (by kernel_rfl) rfl ?_ ?_
   · simp only [v_laws_eqVectorS, h0, h1, cond_false]
   · rfl

theorem eqVectorS_self (a : List GVector) : v_laws_eqVectorS a a = true := by
  unfold v_laws_eqVectorS lr_laws_eqVectorS_1_0
  rw [all_loop (a := a) (p := fun v => v_laws_eqVector v v) (lo := lo_laws_eqVectorS_1 a a) (x := ()) (y := ()) (fun k i => rfl) (fun v _ => eqVector_self v) _ _ (Int.le_refl 0) (Nat.lt_succ_self _)]
  simp

def lo_laws_eqInt64S_1 (a_0 : (List Int)) (b_1 : (List Int)) : Nat → Int → (Unit) ⊕ (Unit)
  | 0, _ => .inl default
  | k + 1, i_l0 => (cond (decide (i_l0 < (a_0.length : Int)))
    (cond ((a_0.getD i_l0.toNat default) != (b_1.getD i_l0.toNat default))
      (.inl ())
      (lo_laws_eqInt64S_1 a_0 b_1 k (i_l0 + 1)))
    (.inr ()))

def ls_laws_eqInt64S_1 (a_0 : (List Int)) (b_1 : (List Int)) : (Unit) ⊕ (Unit) → Ex × St
  | .inl r => (.ret, ⟨[.any, .any, .any, .any, .b false, .any, .any, .any, .any, .any, .any, .any, .any, .any, .any, .any, .any, .any, .any, .any, .any, .any, .any, .any, .any, .any], []⟩)
  | .inr r => ((.exit 0), ⟨[.sl (a_0.map (cI .i64)), .sl (b_1.map (cI .i64)), .any, .any, .any, .any, .sl (a_0.map (cI .i64)), .i .i64 (a_0.length : Int), .sl (b_1.map (cI .i64)), .i .i64 (b_1.length : Int), .b ((a_0.length : Int) != (b_1.length : Int)), .any, .any, .any, .any, .any, .any, .any, .any, .any, .any, .any, .any, .any, .any, .any], []⟩)

def hd_laws_eqInt64S_1 (a_0 : (List Int)) (b_1 : (List Int)) (i_l0 : Int) : St := ⟨[.sl (a_0.map (cI .i64)), .sl (b_1.map (cI .i64)), .any, .any, .any, .i .i64 i_l0, .sl (a_0.map (cI .i64)), .i .i64 (a_0.length : Int), .sl (b_1.map (cI .i64)), .i .i64 (b_1.length : Int), .b ((a_0.length : Int) != (b_1.length : Int)), .any, .any, .any, .any, .any, .any, .any, .any, .any, .any, .any, .any, .any, .any, .any], []⟩

def mk_laws_eqInt64S_1_0 : List Bool := [true, true, false, false, false, true, true, true, true, true, true, false, false, false, false, false, false, false, false, false, false, false, false, false, false, false]

def mk_laws_eqInt64S_1_1 : List Bool := [false, false, false, false, true, false, false, false, false, false, false, false, false, false, false, false, false, false, false, false, false, false, false, false, false, false]

def mk_laws_eqInt64S_1_2 : List Bool := [true, true, false, false, false, false, true, true, true, true, true, false, false, false, false, false, false, false, false, false, false, false, false, false, false, false]

theorem lp_laws_eqInt64S_1 (a_0 : (List Int)) (b_1 : (List Int)) (hp0 : a_0.length ≤ 1073741824) (hp1 : b_1.length ≤ 1073741824) (hf_laws_eqInt64S_1_0 : ((a_0.length : Int) != (b_1.length : Int)) = false) : ∀ (k : Nat) (i_l0 : Int) (hv_laws_eqInt64S_1_0 : 0 ≤ i_l0) (hk : ((a_0.length : Int) - i_l0).toNat < k), Lp prog 0 (sub (bodyOf f35) [1, 1, 0, 1, 0, 0]) (hd_laws_eqInt64S_1 a_0 b_1 i_l0) (ls_laws_eqInt64S_1 a_0 b_1 (lo_laws_eqInt64S_1 a_0 b_1 k i_l0)).1 (ls_laws_eqInt64S_1 a_0 b_1 (lo_laws_eqInt64S_1 a_0 b_1 k i_l0)).2 := by
 intro k
 induction k with
 | zero => intro i_l0 hv_laws_eqInt64S_1_0 hk; exact absurd hk (Nat.not_lt_zero _)
 | succ k ih =>
  intro i_l0 hv_laws_eqInt64S_1_0 hk
  have p {a C} (s : Scr a C) := sZ (cI .i64) a_0 <| s
  cases h_0 : (decide (i_l0 < (a_0.length : Int))) with
  | true =>
   have gh_0 := of_decide_eq_true h_0
   have y_0 : (0 : Int) ≤ i_l0 := by clear p; exact (by first | assumption | omega | (simp_all <;> omega))
   have y_1 : i_l0 < (a_0.length : Int) := by clear p; exact (by first | assumption | omega | (simp_all <;> omega))
   have y_2 : i_l0 < (b_1.length : Int) := by clear p; exact (by first | assumption | omega | (simp_all <;> omega))
   have q {a C} (s : Scr a C) := p (sB h_0 <| sK [8, 8] <| sG (cI .i64) a_0 i_l0 y_0 y_1 <| sG (cI .i64) b_1 i_l0 y_0 y_2 <| s)
   clear p
   cases h_1 : ((a_0.getD i_l0.toNat default) != (b_1.getD i_l0.toNat default)) with
   | true =>
    have gh_1 := bne_iff_ne.1 h_1
    have e : lo_laws_eqInt64S_1 a_0 b_1 (k + 1) i_l0 = (.inl ()) := by simp only [lo_laws_eqInt64S_1, h_0, h_1, cond_true]
    rw [e]
    exact outR (e := .ret) E0Ok hMixed [] mk_laws_eqInt64S_1_1 [] (q (sB h_1 <| sN)) (by kernel_rfl) (by intro h; cases h)
   | false =>
    have gh_1 := bne_eq_false_iff_eq.1 h_1
    have y_3 : (-9223372036854775808 : Int) ≤ (i_l0 + 1) := by clear q; exact (by first | assumption | omega | (simp_all <;> omega))
    have y_4 : (i_l0 + 1) ≤ (9223372036854775807 : Int) := by clear q; exact (by first | assumption | omega | (simp_all <;> omega))
    have e : lo_laws_eqInt64S_1 a_0 b_1 (k + 1) i_l0 = (lo_laws_eqInt64S_1 a_0 b_1 k (i_l0 + 1)) := by simp only [lo_laws_eqInt64S_1, h_0, h_1, cond_true, cond_false]
    rw [e]
    exact nextR E0Ok hMixed [] mk_laws_eqInt64S_1_0 [] (ih (i_l0 + 1) (show 0 ≤ (i_l0 + 1) from (by first | assumption | omega | (simp_all <;> omega))) (by first | assumption | omega | (simp_all <;> omega))) (q (sB h_1 <| sI (i_l0 + 1) y_3 y_4 <| sN)) (by kernel_rfl)
  | false =>
   have gh_0 := of_decide_eq_false h_0
   have e : lo_laws_eqInt64S_1 a_0 b_1 (k + 1) i_l0 = (.inr ()) := by simp only [lo_laws_eqInt64S_1, h_0, cond_false]
   rw [e]
   exact outR (e := (.exit 0)) E0Ok hMixed [] mk_laws_eqInt64S_1_2 [] (p (sB h_0 <| sN)) (by kernel_rfl) (by intro h; cases h)

def lr_laws_eqInt64S_1_0 (a_0 : (List Int)) (b_1 : (List Int)) : (Unit) ⊕ (Unit) := (lo_laws_eqInt64S_1 a_0 b_1 (((a_0.length : Int) - 0).toNat + 1) 0)

def v_laws_eqInt64S (a_0 : (List Int)) (b_1 : (List Int)) : Bool := (cond ((a_0.length : Int) != (b_1.length : Int))
  false
  (match (lr_laws_eqInt64S_1_0 a_0 b_1) with
    | .inl r2 => false
    | .inr r2 => true))

theorem t_laws_eqInt64S (a_0 : (List Int)) (b_1 : (List Int)) (hp0 : a_0.length ≤ 1073741824) (hp1 : b_1.length ≤ 1073741824)  : Fn prog 35 [.sl (a_0.map (cI .i64)), .sl (b_1.map (cI .i64))] (.b (v_laws_eqInt64S a_0 b_1)) [] := by
 have p {a C} (s : Scr a C) := sZ (cI .i64) a_0 <| sZ (cI .i64) b_1 <| s
 cases h0 : ((a_0.length : Int) != (b_1.length : Int)) with
 | true =>
  have gh0 := bne_iff_ne.1 h0
  refine fnS E0Ok hMixed (c := bodyOf f35) [] (.b false) [] func35 (p (sB h0 <| sK [] sN)) rfl (by kernel_rfl) (by kernel_rfl) rfl ?_ ?_
  · simp only [v_laws_eqInt64S, h0, cond_true]
  · rfl
 | false =>
  have gh0 := bne_eq_false_iff_eq.1 h0
  have q {a C} (s : Scr a C) := p (sB h0 <| s)
  clear p
  cases h1 : (lr_laws_eqInt64S_1_0 a_0 b_1) with
  | inl r2 =>
   refine fnS E0Ok hMixed (c := bodyOf f35) [] (.b false) [] func35 (q (sL mk_laws_eqInt64S_1_0 0 (lp_val (ls_laws_eqInt64S_1 a_0 b_1) (x := (lr_laws_eqInt64S_1_0 a_0 b_1)) (lp_laws_eqInt64S_1 a_0 b_1 hp0 hp1 h0 (((a_0.length : Int) - 0).toNat + 1) 0 (show 0 ≤ 0 from (by first | assumption | omega | (simp_all <;> omega))) (Nat.lt_succ_self _)) h1) <| sK [] sN)) rfl (by kernel_rfl) (by kernel_rfl) rfl ?_ ?_
   · simp only [v_laws_eqInt64S, h0, h1, cond_false]
   · rfl
  | inr r2 =>
   refine fnS E0Ok hMixed (c := bodyOf f35) [] (.b true) [] func35 (q (sL mk_laws_eqInt64S_1_0 0 (lp_val (ls_laws_eqInt64S_1 a_0 b_1) (x := (lr_laws_eqInt64S_1_0 a_0 b_1)) (lp_laws_eqInt64S_1 a_0 b_1 hp0 hp1 h0 (((a_0.length : Int) - 0).toNat + 1) 0 (show 0 ≤ 0 from (by first | assumption | omega | (simp_all <;> omega))) (Nat.lt_succ_self _)) h1) <| sK [] sN)) rfl (by kernel_rfl) (by kernel_rfl) rfl ?_ ?_
   · simp only [v_laws_eqInt64S, h0, h1, cond_false]
   · rfl

theorem eqInt64S_self (a : List Int) : v_laws_eqInt64S a a = true := by
  unfold v_laws_eqInt64S lr_laws_eqInt64S_1_0
  rw [all_from (a := a) (p := fun v => !(v != v)) (lo := lo_laws_eqInt64S_1 a a) (x := ()) (y := ()) (fun k i => by rw [lo_laws_eqInt64S_1]; cases (a.getD i.toNat default != a.getD i.toNat default) <;> rfl)]
  rw [show (a.all fun v => !(v != v)) = true from by rw [List.all_eq_true]; intro v _; simp]
  simp

def lo_laws_eqInt64SS_1 (a_0 : (List (List Int))) (b_1 : (List (List Int))) : Nat → Int → (Unit) ⊕ (Unit)
  | 0, _ => .inl default
  | k + 1, i_l0 => (cond (decide (i_l0 < (a_0.length : Int)))
    (cond (v_laws_eqInt64S (a_0.getD i_l0.toNat default) (b_1.getD i_l0.toNat default))
      (lo_laws_eqInt64SS_1 a_0 b_1 k (i_l0 + 1))
      (.inl ()))
    (.inr ()))

def ls_laws_eqInt64SS_1 (a_0 : (List (List Int))) (b_1 : (List (List Int))) : (Unit) ⊕ (Unit) → Ex × St
  | .inl r => (.ret, ⟨[.any, .any, .any, .any, .b false, .any, .any, .any, .any, .any, .any, .any, .any, .any, .any, .any, .any, .any, .any, .any, .any, .any, .any, .any, .any, .any, .any], []⟩)
  | .inr r => ((.exit 0), ⟨[.sl (a_0.map (cL (cI .i64))), .sl (b_1.map (cL (cI .i64))), .any, .any, .any, .any, .sl (a_0.map (cL (cI .i64))), .i .i64 (a_0.length : Int), .sl (b_1.map (cL (cI .i64))), .i .i64 (b_1.length : Int), .b ((a_0.length : Int) != (b_1.length : Int)), .any, .any, .any, .any, .any, .any, .any, .any, .any, .any, .any, .any, .any, .any, .any, .any], []⟩)

def hd_laws_eqInt64SS_1 (a_0 : (List (List Int))) (b_1 : (List (List Int))) (i_l0 : Int) : St := ⟨[.sl (a_0.map (cL (cI .i64))), .sl (b_1.map (cL (cI .i64))), .any, .any, .any, .i .i64 i_l0, .sl (a_0.map (cL (cI .i64))), .i .i64 (a_0.length : Int), .sl (b_1.map (cL (cI .i64))), .i .i64 (b_1.length : Int), .b ((a_0.length : Int) != (b_1.length : Int)), .any, .any, .any, .any, .any, .any, .any, .any, .any, .any, .any, .any, .any, .any, .any, .any], []⟩

def mk_laws_eqInt64SS_1_0 : List Bool := [true, true, false, false, false, true, true, true, true, true, true, false, false, false, false, false, false, false, false, false, false, false, false, false, false, false, false]

def mk_laws_eqInt64SS_1_1 : List Bool := [false, false, false, false, true, false, false, false, false, false, false, false, false, false, false, false, false, false, false, false, false, false, false, false, false, false, false]

def mk_laws_eqInt64SS_1_2 : List Bool := [true, true, false, false, false, false, true, true, true, true, true, false, false, false, false, false, false, false, false, false, false, false, false, false, false, false, false]

theorem lp_laws_eqInt64SS_1 (a_0 : (List (List Int))) (b_1 : (List (List Int))) (hp0 : a_0.length ≤ 1073741824) (hp1 : ∀ t ∈ a_0, t.length ≤ 1073741824) (hp2 : b_1.length ≤ 1073741824) (hp3 : ∀ t ∈ b_1, t.length ≤ 1073741824) (hf_laws_eqInt64SS_1_0 : ((a_0.length : Int) != (b_1.length : Int)) = false) : ∀ (k : Nat) (i_l0 : Int) (hv_laws_eqInt64SS_1_0 : 0 ≤ i_l0) (hk : ((a_0.length : Int) - i_l0).toNat < k), Lp prog 0 (sub (bodyOf f15) [1, 1, 0, 1, 0, 0]) (hd_laws_eqInt64SS_1 a_0 b_1 i_l0) (ls_laws_eqInt64SS_1 a_0 b_1 (lo_laws_eqInt64SS_1 a_0 b_1 k i_l0)).1 (ls_laws_eqInt64SS_1 a_0 b_1 (lo_laws_eqInt64SS_1 a_0 b_1 k i_l0)).2 := by
 intro k
 induction k with
 | zero => intro i_l0 hv_laws_eqInt64SS_1_0 hk; exact absurd hk (Nat.not_lt_zero _)
 | succ k ih =>
  intro i_l0 hv_laws_eqInt64SS_1_0 hk
  have p {a C} (s : Scr a C) := sZ (cL (cI .i64)) a_0 <| s
  cases h_0 : (decide (i_l0 < (a_0.length : Int))) with
  | true =>
   have gh_0 := of_decide_eq_true h_0
   have y_0 : (0 : Int) ≤ i_l0 := by clear p; exact (by first | assumption | omega | (simp_all <;> omega))
   have y_1 : i_l0 < (a_0.length : Int) := by clear p; exact (by first | assumption | omega | (simp_all <;> omega))
   have y_2 : i_l0 < (b_1.length : Int) := by clear p; exact (by first | assumption | omega | (simp_all <;> omega))
   have y_3 : (a_0.getD i_l0.toNat default).length ≤ 1073741824 := by clear p; exact (by first | assumption | omega | (simp_all <;> omega))
   have y_4 : (b_1.getD i_l0.toNat default).length ≤ 1073741824 := by clear p; exact (by first | assumption | omega | (simp_all <;> omega))
   have q {a C} (s : Scr a C) := p (sB h_0 <| sK [8, 8] <| sG (cL (cI .i64)) a_0 i_l0 y_0 y_1 <| sG (cL (cI .i64)) b_1 i_l0 y_0 y_2 <| sF (t_laws_eqInt64S (a_0.getD i_l0.toNat default) (b_1.getD i_l0.toNat default) y_3 y_4) <| s)
   clear p
   cases h_1 : (v_laws_eqInt64S (a_0.getD i_l0.toNat default) (b_1.getD i_l0.toNat default)) with
   | true =>
    have y_5 : (-9223372036854775808 : Int) ≤ (i_l0 + 1) := by clear q; exact (by first | assumption | omega | (simp_all <;> omega))
    have y_6 : (i_l0 + 1) ≤ (9223372036854775807 : Int) := by clear q; exact (by first | assumption | omega | (simp_all <;> omega))
    have e : lo_laws_eqInt64SS_1 a_0 b_1 (k + 1) i_l0 = (lo_laws_eqInt64SS_1 a_0 b_1 k (i_l0 + 1)) := by simp only [lo_laws_eqInt64SS_1, h_0, h_1, cond_true]
    rw [e]
    exact nextR E0Ok hMixed [] mk_laws_eqInt64SS_1_0 [] (ih (i_l0 + 1) (show 0 ≤ (i_l0 + 1) from (by first | assumption | omega | (simp_all <;> omega))) (by first | assumption | omega | (simp_all <;> omega))) (q (sB' h_1 <| sI (i_l0 + 1) y_5 y_6 <| sN)) (by kernel_rfl)
   | false =>
    have e : lo_laws_eqInt64SS_1 a_0 b_1 (k + 1) i_l0 = (.inl ()) := by simp only [lo_laws_eqInt64SS_1, h_0, h_1, cond_true, cond_false]
    rw [e]
    exact outR (e := .ret) E0Ok hMixed [] mk_laws_eqInt64SS_1_1 [] (q (sB' h_1 <| sN)) (by kernel_rfl) (by intro h; cases h)
  | false =>
   have gh_0 := of_decide_eq_false h_0
   have e : lo_laws_eqInt64SS_1 a_0 b_1 (k + 1) i_l0 = (.inr ()) := by simp only [lo_laws_eqInt64SS_1, h_0, cond_false]
   rw [e]
   exact outR (e := (.exit 0)) E0Ok hMixed [] mk_laws_eqInt64SS_1_2 [] (p (sB h_0 <| sN)) (by kernel_rfl) (by intro h; cases h)

def lr_laws_eqInt64SS_1_0 (a_0 : (List (List Int))) (b_1 : (List (List Int))) : (Unit) ⊕ (Unit) := (lo_laws_eqInt64SS_1 a_0 b_1 (((a_0.length : Int) - 0).toNat + 1) 0)

def v_laws_eqInt64SS (a_0 : (List (List Int))) (b_1 : (List (List Int))) : Bool := (cond ((a_0.length : Int) != (b_1.length : Int))
  false
  (match (lr_laws_eqInt64SS_1_0 a_0 b_1) with
    | .inl r2 => false
    | .inr r2 => true))

theorem t_laws_eqInt64SS (a_0 : (List (List Int))) (b_1 : (List (List Int))) (hp0 : a_0.length ≤ 1073741824) (hp1 : ∀ t ∈ a_0, t.length ≤ 1073741824) (hp2 : b_1.length ≤ 1073741824) (hp3 : ∀ t ∈ b_1, t.length ≤ 1073741824)  : Fn prog 15 [.sl (a_0.map (cL (cI .i64))), .sl (b_1.map (cL (cI .i64)))] (.b (v_laws_eqInt64SS a_0 b_1)) [] := by
 have p {a C} (s : Scr a C) := sZ (cL (cI .i64)) a_0 <| sZ (cL (cI .i64)) b_1 <| s
 cases h0 : ((a_0.length : Int) != (b_1.length : Int)) with
 | true =>
  have gh0 := bne_iff_ne.1 h0
  refine fnS E0Ok hMixed (c := bodyOf f15) [] (.b false) [] func15 (p (sB h0 <| sK [] sN)) rfl (by kernel_rfl) (by kernel_rfl) rfl ?_ ?_
  · simp only [v_laws_eqInt64SS, h0, cond_true]
  · rfl
 | false =>
  have gh0 := bne_eq_false_iff_eq.1 h0
  have q {a C} (s : Scr a C) := p (sB h0 <| s)
  clear p
  cases h1 : (lr_laws_eqInt64SS_1_0 a_0 b_1) with
  | inl r2 =>
   refine fnS E0Ok hMixed (c := bodyOf f15) [] (.b false) [] func15 (q (sL mk_laws_eqInt64SS_1_0 0 (lp_val (ls_laws_eqInt64SS_1 a_0 b_1) (x := (lr_laws_eqInt64SS_1_0 a_0 b_1)) (lp_laws_eqInt64SS_1 a_0 b_1 hp0 hp1 hp2 hp3 h0 (((a_0.length : Int) - 0).toNat + 1) 0 (show 0 ≤ 0 from (by first | assumption | omega | (simp_all <;> omega))) (Nat.lt_succ_self _)) h1) <| sK [] sN)) rfl (by kernel_rfl) (by kernel_rfl) rfl ?_ ?_
   · simp only [v_laws_eqInt64SS, h0, h1, cond_false]
   · rfl
  | inr r2 =>
   refine fnS E0Ok hMixed (c := bodyOf f15) [] (.b true) [] func15 (q (sL mk_laws_eqInt64SS_1_0 0 (lp_val (ls_laws_eqInt64SS_1 a_0 b_1) (x := (lr_laws_eqInt64SS_1_0 a_0 b_1)) (lp_laws_eqInt64SS_1 a_0 b_1 hp0 hp1 hp2 hp3 h0 (((a_0.length : Int) - 0).toNat + 1) 0 (show 0 ≤ 0 from (by first | assumption | omega | (simp_all <;> omega))) (Nat.lt_succ_self _)) h1) <| sK [] sN)) rfl (by kernel_rfl) (by kernel_rfl) rfl ?_ ?_
   · simp only [v_laws_eqInt64SS, h0, h1, cond_false]
   · rfl

theorem eqInt64SS_self (a : List (List Int)) : v_laws_eqInt64SS a a = true := by
  unfold v_laws_eqInt64SS lr_laws_eqInt64SS_1_0
  rw [all_from (a := a) (p := fun v => v_laws_eqInt64S v v) (lo := lo_laws_eqInt64SS_1 a a) (x := ()) (y := ()) (fun k i => rfl)]
  rw [show (a.all fun v => v_laws_eqInt64S v v) = true from by rw [List.all_eq_true]; intro v _; exact eqInt64S_self v]
  simp

end Go.Ab
