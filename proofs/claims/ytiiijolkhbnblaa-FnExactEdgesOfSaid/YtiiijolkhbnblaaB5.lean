/- The functions of this seat as plain Lean, and that the program's are these. Printed by a program of the prover's own. -/
import Derived.Test.YtiiijolkhbnblaaB4
set_option linter.unusedVariables false
set_option linter.unusedSimpArgs false
set_option maxRecDepth 100000
namespace Go.Ab
open Go.RowKit Go.Proofs.Try

def lr_impl_trianglesByEdge_2_0 (m_0 : GMesh) (x_l0 : Int) (r1_l1 : (List (Gedge × List Int))) (r2_l2 : (List Gedge)) : (List (Gedge × List Int)) × (List Gedge) := (lo_impl_trianglesByEdge_2 m_0 x_l0 r1_l1 r2_l2 (((3 : Int) - 0).toNat + 1) 0 r1_l1 r2_l2)

theorem loT2_inv (m : GMesh) (i : Int) (b0 : List (Gedge × List Int)) (l0 : List Gedge) (h0 : 0 ≤ i) : ∀ (k : Nat) (x : Int) (b : List (Gedge × List Int)) (l : List Gedge), 0 ≤ x → (3 - x).toNat < k → x ≤ 3 → (l.length : Int) ≤ 3 * i + x → (∀ y ∈ b, (y.2.length : Int) ≤ 3 * i + x) → ((lo_impl_trianglesByEdge_2 m i b0 l0 k x b l).2.length : Int) ≤ 3 * (i + 1) ∧ ∀ y ∈ (lo_impl_trianglesByEdge_2 m i b0 l0 k x b l).1, (y.2.length : Int) ≤ 3 * (i + 1) := by
  intro k
  induction k with
  | zero => intro x b l _ hk; exact absurd hk (Nat.not_lt_zero _)
  | succ k ih =>
    intro x b l hx hk h3 hl hb
    rw [lo_impl_trianglesByEdge_2]
    cases hc : decide (x < 3) with
    | false => rw [cond_false]; exact ⟨by simp only; omega, fun y hy => by have := hb y hy; omega⟩
    | true =>
      have hc' := of_decide_eq_true hc
      rw [cond_true]
      cases mhas b (nd_impl_trianglesByEdge_0 m i x) with
      | true =>
        rw [cond_true]
        cases (((b.getD (midx b (nd_impl_trianglesByEdge_0 m i x)) default).2.length : Int) == 0) with
        | true => rw [cond_true]; exact ih _ _ _ (by omega) (by omega) (by omega) (by simp only [List.length_append, List.length_cons, List.length_nil]; omega) (mput_inv hb (by omega) (by omega))
        | false => rw [cond_false]; exact ih _ _ _ (by omega) (by omega) (by omega) (by omega) (mput_inv hb (by omega) (by omega))
      | false => rw [cond_false]; exact ih _ _ _ (by omega) (by omega) (by omega) (by simp only [List.length_append, List.length_cons, List.length_nil]; omega) (mnew_inv hb (by omega) (by omega))
theorem loT_inv (m : GMesh) (i : Int) (b : List (Gedge × List Int)) (l : List Gedge) (h0 : 0 ≤ i) (hl : (l.length : Int) ≤ 3 * i) (hb : ∀ y ∈ b, (y.2.length : Int) ≤ 3 * i) :
    ((lr_impl_trianglesByEdge_2_0 m i b l).2.length : Int) ≤ 3 * (i + 1) ∧ ∀ y ∈ (lr_impl_trianglesByEdge_2_0 m i b l).1, (y.2.length : Int) ≤ 3 * (i + 1) :=
  loT2_inv m i b l h0 _ 0 b l (Int.le_refl 0) (by omega) (by omega) (by omega) (fun y hy => by have := hb y hy; omega)

def lo_impl_trianglesByEdge_1 (m_0 : GMesh) : Nat → Int → (List (Gedge × List Int)) → (List Gedge) → (List (Gedge × List Int)) × (List Gedge)
  | 0, _, _, _ => default
  | k + 1, x_l0, r1_l1, r2_l2 => (cond (decide (x_l0 < (m_0.Triangles.length : Int)))
    (lo_impl_trianglesByEdge_1 m_0 k (x_l0 + 1) ((lr_impl_trianglesByEdge_2_0 m_0 x_l0 r1_l1 r2_l2).1) ((lr_impl_trianglesByEdge_2_0 m_0 x_l0 r1_l1 r2_l2).2))
    (r1_l1, r2_l2))

def ls_impl_trianglesByEdge_1 (m_0 : GMesh) (r : (List (Gedge × List Int)) × (List Gedge)) : Ex × St := ((.exit 0), ⟨[.agg [.sl (m_0.Places.map GVector.cells), .sl (m_0.Triangles.map (cL (cI .i64)))], .ptr 0 0 0, .any, .nils, .mp 1, .own 2, .any, .any, .any, .any, .mp 1, .any, .ptr 0 0 1, .sl (m_0.Triangles.map (cL (cI .i64))), .any, .any, .any, .any, .any, .any, .any, .any, .any, .any, .any, .any, .any, .any, .any, .any, .any, .any, .any, .any, .any, .any, .any, .any, .any, .any, .any, .any, .any, .any, .any, .any, .any, .any, .any, .any, .any, .any, .any, .any, .any, .any, .any], [.box 42 [.sl (m_0.Places.map GVector.cells), .sl (m_0.Triangles.map (cL (cI .i64)))], .mapN 2 (mapC Gedge.pr (cI .i64) r.1) none, .vec 176 2 (r.2.map Gedge.cells) false]⟩)

def hd_impl_trianglesByEdge_1 (m_0 : GMesh) (x_l0 : Int) (r1_l1 : (List (Gedge × List Int))) (r2_l2 : (List Gedge)) : St := ⟨[.agg [.sl (m_0.Places.map GVector.cells), .sl (m_0.Triangles.map (cL (cI .i64)))], .ptr 0 0 0, .any, .nils, .mp 1, .own 2, .any, .any, .any, .any, .mp 1, .any, .ptr 0 0 1, .sl (m_0.Triangles.map (cL (cI .i64))), .i .i64 (m_0.Triangles.length : Int), .i .i64 x_l0, .any, .any, .any, .any, .any, .any, .any, .any, .any, .any, .any, .any, .any, .any, .any, .any, .any, .any, .any, .any, .any, .any, .any, .any, .any, .any, .any, .any, .any, .any, .any, .any, .any, .any, .any, .any, .any, .any, .any, .any, .any], [.box 42 [.sl (m_0.Places.map GVector.cells), .sl (m_0.Triangles.map (cL (cI .i64)))], .mapN 2 (mapC Gedge.pr (cI .i64) r1_l1) none, .vec 176 2 (r2_l2.map Gedge.cells) false]⟩

def mk_impl_trianglesByEdge_1_0 : List Bool := [true, true, false, true, true, true, false, false, false, false, true, false, true, true, true, true, false, false, false, false, false, false, false, false, false, false, false, false, false, false, false, false, false, false, false, false, false, false, false, false, false, false, false, false, false, false, false, false, false, false, false, false, false, false, false, false, false]

def mk_impl_trianglesByEdge_1_1 : List Bool := [true, true, false, true, true, true, false, false, false, false, true, false, true, true, false, false, false, false, false, false, false, false, false, false, false, false, false, false, false, false, false, false, false, false, false, false, false, false, false, false, false, false, false, false, false, false, false, false, false, false, false, false, false, false, false, false, false]

theorem lp_impl_trianglesByEdge_1 (m_0 : GMesh) (hp0 : m_0.Places.length ≤ 1073741824) (hp1 : m_0.Triangles.length ≤ 1073741824) (hp2 : ∀ t ∈ m_0.Triangles, t.length ≤ 1073741824) (hp3 : OkE m_0.Places.length m_0.Triangles) : ∀ (k : Nat) (x_l0 : Int) (r1_l1 : (List (Gedge × List Int))) (r2_l2 : (List Gedge)) (hv_impl_trianglesByEdge_1_0 : 0 ≤ x_l0) (hv_impl_trianglesByEdge_1_1 : (r2_l2.length : Int) ≤ 3 * x_l0) (hv_impl_trianglesByEdge_1_2 : ∀ y ∈ r1_l1, (y.2.length : Int) ≤ 3 * x_l0) (hk : ((m_0.Triangles.length : Int) - x_l0).toNat < k), Lp prog 0 (sub (bodyOf f131) [1, 1, 0, 1, 0, 0]) (hd_impl_trianglesByEdge_1 m_0 x_l0 r1_l1 r2_l2) (ls_impl_trianglesByEdge_1 m_0 (lo_impl_trianglesByEdge_1 m_0 k x_l0 r1_l1 r2_l2)).1 (ls_impl_trianglesByEdge_1 m_0 (lo_impl_trianglesByEdge_1 m_0 k x_l0 r1_l1 r2_l2)).2 := by
 intro k
 induction k with
 | zero => intro x_l0 r1_l1 r2_l2 hv_impl_trianglesByEdge_1_0 hv_impl_trianglesByEdge_1_1 hv_impl_trianglesByEdge_1_2 hk; exact absurd hk (Nat.not_lt_zero _)
 | succ k ih =>
  intro x_l0 r1_l1 r2_l2 hv_impl_trianglesByEdge_1_0 hv_impl_trianglesByEdge_1_1 hv_impl_trianglesByEdge_1_2 hk
  cases h_0 : (decide (x_l0 < (m_0.Triangles.length : Int))) with
  | true =>
   have gh_0 := of_decide_eq_true h_0
   have y_0 : (0 : Int) ≤ x_l0 := (by first | assumption | omega | (first | (have g5 := of_decide_eq_true hf_impl_trianglesByEdge_2_0; have q := OkE.at hp3 hv_impl_trianglesByEdge_1_0 g5 hv_impl_trianglesByEdge_2_0 (of_decide_eq_true (by assumption)); first | omega | (simp only [List.length_append, List.length_cons, List.length_nil]; omega) | (have q3 := mlen_leI (N := 3 * x_l0 + x_l0_1) (by omega) (by assumption) (midx r1_l1_1 (nd_impl_trianglesByEdge_0 m_0 x_l0 x_l0_1)); simp only [List.length_cons, List.length_nil]; omega)) | (have := hp3.2.1; omega) | (have q := loTE_len m_0 hp3; omega)) | (simp_all <;> omega))
   have y_1 : x_l0 < (m_0.Triangles.length : Int) := (by first | assumption | omega | (first | (have g5 := of_decide_eq_true hf_impl_trianglesByEdge_2_0; have q := OkE.at hp3 hv_impl_trianglesByEdge_1_0 g5 hv_impl_trianglesByEdge_2_0 (of_decide_eq_true (by assumption)); first | omega | (simp only [List.length_append, List.length_cons, List.length_nil]; omega) | (have q3 := mlen_leI (N := 3 * x_l0 + x_l0_1) (by omega) (by assumption) (midx r1_l1_1 (nd_impl_trianglesByEdge_0 m_0 x_l0 x_l0_1)); simp only [List.length_cons, List.length_nil]; omega)) | (have := hp3.2.1; omega) | (have q := loTE_len m_0 hp3; omega)) | (simp_all <;> omega))
   have y_2 : (-9223372036854775808 : Int) ≤ (x_l0 + 1) := (by first | assumption | omega | (first | (have g5 := of_decide_eq_true hf_impl_trianglesByEdge_2_0; have q := OkE.at hp3 hv_impl_trianglesByEdge_1_0 g5 hv_impl_trianglesByEdge_2_0 (of_decide_eq_true (by assumption)); first | omega | (simp only [List.length_append, List.length_cons, List.length_nil]; omega) | (have q3 := mlen_leI (N := 3 * x_l0 + x_l0_1) (by omega) (by assumption) (midx r1_l1_1 (nd_impl_trianglesByEdge_0 m_0 x_l0 x_l0_1)); simp only [List.length_cons, List.length_nil]; omega)) | (have := hp3.2.1; omega) | (have q := loTE_len m_0 hp3; omega)) | (simp_all <;> omega))
   have y_3 : (x_l0 + 1) ≤ (9223372036854775807 : Int) := (by first | assumption | omega | (first | (have g5 := of_decide_eq_true hf_impl_trianglesByEdge_2_0; have q := OkE.at hp3 hv_impl_trianglesByEdge_1_0 g5 hv_impl_trianglesByEdge_2_0 (of_decide_eq_true (by assumption)); first | omega | (simp only [List.length_append, List.length_cons, List.length_nil]; omega) | (have q3 := mlen_leI (N := 3 * x_l0 + x_l0_1) (by omega) (by assumption) (midx r1_l1_1 (nd_impl_trianglesByEdge_0 m_0 x_l0 x_l0_1)); simp only [List.length_cons, List.length_nil]; omega)) | (have := hp3.2.1; omega) | (have q := loTE_len m_0 hp3; omega)) | (simp_all <;> omega))
   have e : lo_impl_trianglesByEdge_1 m_0 (k + 1) x_l0 r1_l1 r2_l2 = (lo_impl_trianglesByEdge_1 m_0 k (x_l0 + 1) ((lr_impl_trianglesByEdge_2_0 m_0 x_l0 r1_l1 r2_l2).1) ((lr_impl_trianglesByEdge_2_0 m_0 x_l0 r1_l1 r2_l2).2)) := by simp only [lo_impl_trianglesByEdge_1, h_0, cond_true]
   rw [e]
   exact nextR E0Ok hMixed [] mk_impl_trianglesByEdge_1_0 [0, 1, 2] (ih (x_l0 + 1) ((lr_impl_trianglesByEdge_2_0 m_0 x_l0 r1_l1 r2_l2).1) ((lr_impl_trianglesByEdge_2_0 m_0 x_l0 r1_l1 r2_l2).2) (show 0 ≤ (x_l0 + 1) from (by first | assumption | omega | exact mput_inv (by assumption) (by omega) (by omega) | exact mnew_inv (by assumption) (by omega) (by omega) | (simp only [List.length_append, List.length_cons, List.length_nil]; omega) | exact (loT_inv _ _ _ _ hv_impl_trianglesByEdge_1_0 (by assumption) (by assumption)).1 | exact (loT_inv _ _ _ _ hv_impl_trianglesByEdge_1_0 (by assumption) (by assumption)).2)) (show (((lr_impl_trianglesByEdge_2_0 m_0 x_l0 r1_l1 r2_l2).2).length : Int) ≤ 3 * (x_l0 + 1) from (by first | assumption | omega | exact mput_inv (by assumption) (by omega) (by omega) | exact mnew_inv (by assumption) (by omega) (by omega) | (simp only [List.length_append, List.length_cons, List.length_nil]; omega) | exact (loT_inv _ _ _ _ hv_impl_trianglesByEdge_1_0 (by assumption) (by assumption)).1 | exact (loT_inv _ _ _ _ hv_impl_trianglesByEdge_1_0 (by assumption) (by assumption)).2)) (show ∀ y ∈ ((lr_impl_trianglesByEdge_2_0 m_0 x_l0 r1_l1 r2_l2).1), (y.2.length : Int) ≤ 3 * (x_l0 + 1) from (by first | assumption | omega | exact mput_inv (by assumption) (by omega) (by omega) | exact mnew_inv (by assumption) (by omega) (by omega) | (simp only [List.length_append, List.length_cons, List.length_nil]; omega) | exact (loT_inv _ _ _ _ hv_impl_trianglesByEdge_1_0 (by assumption) (by assumption)).1 | exact (loT_inv _ _ _ _ hv_impl_trianglesByEdge_1_0 (by assumption) (by assumption)).2)) (by first | assumption | omega | (first | (have g5 := of_decide_eq_true hf_impl_trianglesByEdge_2_0; have q := OkE.at hp3 hv_impl_trianglesByEdge_1_0 g5 hv_impl_trianglesByEdge_2_0 (of_decide_eq_true (by assumption)); first | omega | (simp only [List.length_append, List.length_cons, List.length_nil]; omega) | (have q3 := mlen_leI (N := 3 * x_l0 + x_l0_1) (by omega) (by assumption) (midx r1_l1_1 (nd_impl_trianglesByEdge_0 m_0 x_l0 x_l0_1)); simp only [List.length_cons, List.length_nil]; omega)) | (have := hp3.2.1; omega) | (have q := loTE_len m_0 hp3; omega)) | (simp_all <;> omega))) (sB h_0 <| sG (cL (cI .i64)) m_0.Triangles x_l0 y_0 y_1 <| sL mk_impl_trianglesByEdge_2_0 3 (lp_val (ls_impl_trianglesByEdge_2 m_0 x_l0 r1_l1 r2_l2) (x := (lr_impl_trianglesByEdge_2_0 m_0 x_l0 r1_l1 r2_l2)) (lp_impl_trianglesByEdge_2 m_0 x_l0 r1_l1 r2_l2 hp0 hp1 hp2 hp3 hv_impl_trianglesByEdge_1_0 hv_impl_trianglesByEdge_1_1 hv_impl_trianglesByEdge_1_2 h_0 (((3 : Int) - 0).toNat + 1) 0 r1_l1 r2_l2 (show 0 ≤ 0 from (by first | omega | (simp; done) | (intro y hy; have q := hv_impl_trianglesByEdge_1_2 y hy; omega))) (show (r2_l2.length : Int) ≤ (r2_l2.length : Int) + 0 from (by first | omega | (simp; done) | (intro y hy; have q := hv_impl_trianglesByEdge_1_2 y hy; omega))) (show ∀ y ∈ r1_l1, (y.2.length : Int) ≤ 3 * x_l0 + 0 from (by first | omega | (simp; done) | (intro y hy; have q := hv_impl_trianglesByEdge_1_2 y hy; omega))) (Nat.lt_succ_self _)) rfl) <| sI (x_l0 + 1) y_2 y_3 <| sN) (by kernel_rfl)
  | false =>
   have gh_0 := of_decide_eq_false h_0
   have e : lo_impl_trianglesByEdge_1 m_0 (k + 1) x_l0 r1_l1 r2_l2 = (r1_l1, r2_l2) := by simp only [lo_impl_trianglesByEdge_1, h_0, cond_false]
   rw [e]
   exact outR (e := (.exit 0)) E0Ok hMixed [] mk_impl_trianglesByEdge_1_1 [0, 1, 2] (sB h_0 <| sN) (by kernel_rfl) (by intro h; cases h)

def lr_impl_trianglesByEdge_1_1 (m_0 : GMesh) : (List (Gedge × List Int)) × (List Gedge) := (lo_impl_trianglesByEdge_1 m_0 (((m_0.Triangles.length : Int) - 0).toNat + 1) 0 ([] : (List (Gedge × List Int))) ([] : List Gedge))

theorem loT1_st (m : GMesh) (k : Nat) (i : Int) (b : List (Gedge × List Int)) (l : List Gedge) (h0 : 0 ≤ i) : lo_impl_trianglesByEdge_1 m (k + 1) i b l = cond (decide (i < (m.Triangles.length : Int))) (lo_impl_trianglesByEdge_1 m k (i + 1) (stT (b, l) (m.Triangles.getD i.toNat default) i).1 (stT (b, l) (m.Triangles.getD i.toNat default) i).2) (b, l) := by
  have st : ∀ (x : Int) (k : Nat) (b : List (Gedge × List Int)) (l : List Gedge), x < 3 → lo_impl_trianglesByEdge_2 m i b l (k + 1) x b l = lo_impl_trianglesByEdge_2 m i b l (k + 1) x b l := fun _ _ _ _ _ => rfl
  have one : ∀ (b0 : List (Gedge × List Int)) (l0 : List Gedge) (k : Nat) (x : Int) (s : List (Gedge × List Int) × List Gedge), x < 3 → lo_impl_trianglesByEdge_2 m i b0 l0 (k + 1) x s.1 s.2 = lo_impl_trianglesByEdge_2 m i b0 l0 k (x + 1) (stE s (nd_impl_trianglesByEdge_0 m i x) i).1 (stE s (nd_impl_trianglesByEdge_0 m i x) i).2 := by
    intro b0 l0 k x s hx
    rw [lo_impl_trianglesByEdge_2, decide_eq_true hx, cond_true]
    unfold stE
    cases mhas s.1 (nd_impl_trianglesByEdge_0 m i x) with
    | true =>
      rw [cond_true, cond_true]
      cases (((s.1.getD (midx s.1 (nd_impl_trianglesByEdge_0 m i x)) default).2.length : Int) == 0) <;> rfl
    | false => rfl
  have tri : lr_impl_trianglesByEdge_2_0 m i b l = stT (b, l) (m.Triangles.getD i.toNat default) i := by
    unfold lr_impl_trianglesByEdge_2_0
    show lo_impl_trianglesByEdge_2 m i b l 4 0 (b, l).1 (b, l).2 = _
    rw [one b l 3 0 (b, l) (by omega), one b l 2 (0 + 1) _ (by omega), one b l 1 (0 + 1 + 1) _ (by omega), lo_impl_trianglesByEdge_2]
    show cond (decide ((3 : Int) < 3)) _ _ = _
    rw [decide_eq_false (by omega), cond_false]
    unfold nd_impl_trianglesByEdge_0 stT
    simp only [edgeOf_eq]
    rfl
  rw [lo_impl_trianglesByEdge_1, tri]
theorem etab_is (m : GMesh) (ok : OkE m.Places.length m.Triangles) : ETab m.Triangles m.Triangles.length (lr_impl_trianglesByEdge_1_1 m) := by
  unfold lr_impl_trianglesByEdge_1_1
  exact ETab.loop ok (loT1_st m) _ 0 ([], []) (Nat.zero_le _) (ETab.nil _) (by omega)
theorem loTE_len (m : GMesh) (ok : OkE m.Places.length m.Triangles) : (lr_impl_trianglesByEdge_1_1 m).2.length ≤ 4096 := by
  have h := congrArg List.length ((etab_is m ok).sorted ok)
  rw [length_sortE] at h
  rw [h]; exact edgL_len ok

end Go.Ab
namespace Go.Proofs
open Go.Shelf
def Try.laysF0n6_ren : Go.Shelf.Ren := ⟨fun | 6 => 174 | 15 => 193 | 14 => 192 | 28 => 207 | 29 => 208 | 20 => 199 | 21 => 200 | 22 => 201 | 23 => 202 | 24 => 203 | 25 => 204 | 26 => 205 | 27 => 206 | 46 => 210 | 47 => 211 | 48 => 212 | 49 => 213 | 50 => 214 | 57 => 216 | n => n, fun | 22 => 148 | 24 => 176 | 25 => 179 | 3 => 3 | 39 => 192 | 0 => 0 | 53 => 196 | 55 => 184 | 4 => 4 | 46 => 200 | 45 => 199 | 50 => 204 | 5 => 5 | 9 => 9 | 66 => 209 | 70 => 213 | 76 => 216 | 77 => 217 | n => n, fun | n => n⟩
theorem Try.laysF0n6 : Go.Proofs.SlLaysF0.n6 Try.prog Try.laysF0n6_ren := {
  mixed := by kernel_rfl
  f6 := ⟨Try.f174.name, by decide, Try.func174.trans (congrArg some (by kernel_rfl))⟩
  f14 := ⟨Try.f192.name, by decide, Try.func192.trans (congrArg some (by kernel_rfl))⟩
  f15 := Try.func193.trans (congrArg some (by kernel_rfl))
  f20 := ⟨Try.f199.name, by decide, Try.func199.trans (congrArg some (by kernel_rfl))⟩
  f21 := ⟨Try.f200.name, by decide, Try.func200.trans (congrArg some (by kernel_rfl))⟩
  f22 := ⟨Try.f201.name, by decide, Try.func201.trans (congrArg some (by kernel_rfl))⟩
  f23 := ⟨Try.f202.name, by decide, Try.func202.trans (congrArg some (by kernel_rfl))⟩
  f24 := ⟨Try.f203.name, by decide, Try.func203.trans (congrArg some (by kernel_rfl))⟩
  f25 := ⟨Try.f204.name, by decide, Try.func204.trans (congrArg some (by kernel_rfl))⟩
  f26 := ⟨Try.f205.name, by decide, Try.func205.trans (congrArg some (by kernel_rfl))⟩
  f27 := ⟨Try.f206.name, by decide, Try.func206.trans (congrArg some (by kernel_rfl))⟩
  f28 := Try.func207.trans (congrArg some (by kernel_rfl))
  f29 := Try.func208.trans (congrArg some (by kernel_rfl))
  f46 := ⟨Try.f210.name, by decide, Try.func210.trans (congrArg some (by kernel_rfl))⟩
  f47 := Try.func211.trans (congrArg some (by kernel_rfl))
  f48 := Try.func212.trans (congrArg some (by kernel_rfl))
  f49 := ⟨Try.f213.name, by decide, Try.func213.trans (congrArg some (by kernel_rfl))⟩
  f50 := ⟨Try.f214.name, by decide, Try.func214.trans (congrArg some (by kernel_rfl))⟩
  f57 := ⟨Try.f216.name, by decide, Try.func216.trans (congrArg some (by kernel_rfl))⟩
  t0 := Try.underlying0
  a0 := Try.isAgg0
  z0 := Try.sizeOf0
  v0 := Try.zeroValue0
  t3 := Try.underlying3
  a3 := Try.isAgg3
  z3 := Try.sizeOf3
  v3 := Try.zeroValue3
  t4 := Try.underlying4
  a4 := Try.isAgg4
  z4 := Try.sizeOf4
  v4 := Try.zeroValue4
  t5 := Try.underlying5
  a5 := Try.isAgg5
  z5 := Try.sizeOf5
  v5 := Try.zeroValue5
  t9 := Try.underlying9
  a9 := Try.isAgg9
  z9 := Try.sizeOf9
  v9 := Try.zeroValue9
  t22 := Try.underlying148
  a22 := Try.isAgg148
  z22 := Try.sizeOf148
  v22 := Try.zeroValue148
  t25 := Try.underlying179
  a25 := Try.isAgg179
  z25 := Try.sizeOf179
  v25 := Try.zeroValue179
  t39 := Try.underlying192
  a39 := Try.isAgg192
  z39 := Try.sizeOf192
  v39 := Try.zeroValue192
  t45 := Try.underlying199
  a45 := Try.isAgg199
  z45 := Try.sizeOf199
  v45 := Try.zeroValue199
  t46 := Try.underlying200
  a46 := Try.isAgg200
  z46 := Try.sizeOf200
  v46 := Try.zeroValue200
  t50 := Try.underlying204
  a50 := Try.isAgg204
  z50 := Try.sizeOf204
  v50 := Try.zeroValue204
  t53 := Try.underlying196
  a53 := Try.isAgg196
  z53 := Try.sizeOf196
  v53 := Try.zeroValue196
  t55 := Try.underlying184
  a55 := Try.isAgg184
  z55 := Try.sizeOf184
  v55 := Try.zeroValue184
  t66 := Try.underlying209
  a66 := Try.isAgg209
  z66 := Try.sizeOf209
  v66 := Try.zeroValue209
  t70 := Try.underlying213
  a70 := Try.isAgg213
  z70 := Try.sizeOf213
  v70 := Try.zeroValue213
  t76 := Try.underlying216
  a76 := Try.isAgg216
  z76 := Try.sizeOf216
  v76 := Try.zeroValue216
  t77 := Try.underlying217
  a77 := Try.isAgg217
  z77 := Try.sizeOf217
  v77 := Try.zeroValue217 }
end Go.Proofs
namespace Go.Ab
open Go.RowKit Go.Proofs.Try

theorem v_cmpC (x y : Int) : v_cmp_Compare_int64_ x y = if x < y then -1 else if x > y then 1 else 0 := by
  unfold v_cmp_Compare_int64_ v_cmp_isNaN_int64_
  simp only [bne_self_eq_false, cond_false]
  by_cases h1 : x < y
  · simp [h1]
  · by_cases h2 : x > y <;> simp [h1, h2]

theorem v_cmpE (a b : Gedge) : v_impl_compareEdges a b = cmpP a.pr b.pr := by
  unfold v_impl_compareEdges v_slices_Compare___int64_int64_ lr_slices_Compare___int64_int64__1_0 cmpP Gedge.pr
  show (match lo_slices_Compare___int64_int64__1 [a.e0, a.e1] [b.e0, b.e1] 3 0 with | .inl r1 => r1 | .inr r1 => cond (decide (((2 : Nat) : Int) < ((2 : Nat) : Int))) (-1) 0) = _
  simp only [lo_slices_Compare___int64_int64__1, v_cmpC, List.length_cons, List.length_nil]
  by_cases h1 : a.e0 < b.e0
  · simp [h1]
  · by_cases h2 : a.e0 > b.e0
    · simp [h1, h2]
    · by_cases h3 : a.e1 < b.e1
      · simp [h1, h2, h3]
      · by_cases h4 : a.e1 > b.e1 <;> simp [h1, h2, h3, h4]

def sort_impl_compareEdges (l : List Gedge) : List Gedge := sortE Gedge.pr l

theorem t_sort_impl_compareEdges (l : List Gedge) (h : l.length ≤ 1073741824) : CallSt prog 174 [.vec 176 2 (l.map Gedge.cells) false] [.own 0, .fn 175 []] (.tup []) [.vec 176 2 ((sort_impl_compareEdges l).map Gedge.cells) false] :=
  sort_row laysF0n6 isAgg176 sizeOf176 Gedge.pr Gedge.inj Gedge.cells (fun _ => rfl) 176 175 ⟨_, func174, rfl, by kernel_rfl⟩ (t_impl_compareEdges default default).1
    (fun a b W => ((t_impl_compareEdges a b).2 W #[keyV a.pr, keyV b.pr] ⟨rfl, fun j c e => by match j, e with | 0, e => cases e; exact Rep.agg _ _ rfl (fun i c e => by match i, e with | 0, e => cases e; exact .i _ _ | 1, e => cases e; exact .i _ _) | 1, e => cases e; exact Rep.agg _ _ rfl (fun i c e => by match i, e with | 0, e => cases e; exact .i _ _ | 1, e => cases e; exact .i _ _)⟩).mono fun e w' ⟨v, μ', he, hb, _, hr⟩ => by
      cases hr; rw [v_cmpE] at he; exact ⟨he, hb⟩) l h

def v_impl_trianglesByEdge (m_0 : GMesh) : (List (Gedge × List Int)) × (List Gedge) := ((lr_impl_trianglesByEdge_1_1 m_0).1, (sort_impl_compareEdges ((lr_impl_trianglesByEdge_1_1 m_0).2)))

theorem edges_eq (m : GMesh) (ok : OkE m.Places.length m.Triangles) : (v_impl_trianglesByEdge m).2 = edgL m.Places.length m.Triangles := (etab_is m ok).sorted ok
theorem edges_at (m : GMesh) (ok : OkE m.Places.length m.Triangles) {e : Gedge} (he : e ∈ (v_impl_trianglesByEdge m).2) : mhas (v_impl_trianglesByEdge m).1 e = true ∧ ((v_impl_trianglesByEdge m).1.getD (midx (v_impl_trianglesByEdge m).1 e) default).2 = idxP m.Triangles e.e0 e.e1 := by
  rw [edges_eq m ok] at he
  have h := (etab_is m ok).at ok he
  exact ⟨h.1, h.2.trans (idxE_eq ok (mem_edgL.1 he).1.2.1)⟩
theorem edges_len (m : GMesh) (ok : OkE m.Places.length m.Triangles) : (v_impl_trianglesByEdge m).2.length ≤ 4096 := by
  rw [edges_eq m ok]; exact edgL_len ok

theorem t_impl_trianglesByEdge (m_0 : GMesh) (hp0 : m_0.Places.length ≤ 1073741824) (hp1 : m_0.Triangles.length ≤ 1073741824) (hp2 : ∀ t ∈ m_0.Triangles, t.length ≤ 1073741824) (hp3 : OkE m_0.Places.length m_0.Triangles)  : Fn prog 131 [.agg [.sl (m_0.Places.map GVector.cells), .sl (m_0.Triangles.map (cL (cI .i64)))]] (.tup [.mp 0, .own 1]) [.mapN 2 (mapC Gedge.pr (cI .i64) ((v_impl_trianglesByEdge m_0).1)) none, .vec 176 2 (((v_impl_trianglesByEdge m_0).2).map Gedge.cells) false] := by
 have y0 : ((lr_impl_trianglesByEdge_1_1 m_0).2).length ≤ 1073741824 := (by first | assumption | omega | (first | (have g5 := of_decide_eq_true hf_impl_trianglesByEdge_2_0; have q := OkE.at hp3 hv_impl_trianglesByEdge_1_0 g5 hv_impl_trianglesByEdge_2_0 (of_decide_eq_true (by assumption)); first | omega | (simp only [List.length_append, List.length_cons, List.length_nil]; omega) | (have q3 := mlen_leI (N := 3 * x_l0 + x_l0_1) (by omega) (by assumption) (midx r1_l1_1 (nd_impl_trianglesByEdge_0 m_0 x_l0 x_l0_1)); simp only [List.length_cons, List.length_nil]; omega)) | (have := hp3.2.1; omega) | (have q := loTE_len m_0 hp3; omega)) | (simp_all <;> omega))
 refine fnS E0Ok hMixed (c := bodyOf f131) [] (.tup [.mp 0, .own 1]) [.mapN 2 (mapC Gedge.pr (cI .i64) ((lr_impl_trianglesByEdge_1_1 m_0).1)) none, .vec 176 2 ((sort_impl_compareEdges ((lr_impl_trianglesByEdge_1_1 m_0).2)).map Gedge.cells) false] func131 (sZ (cL (cI .i64)) m_0.Triangles <| sL mk_impl_trianglesByEdge_1_0 3 (lp_cast (st2 := ⟨[.agg [.sl (m_0.Places.map GVector.cells), .sl (m_0.Triangles.map (cL (cI .i64)))], .ptr 0 0 0, .any, .nils, .mp 1, .own 2, .any, .any, .any, .any, .mp 1, .any, .ptr 0 0 1, .sl (m_0.Triangles.map (cL (cI .i64))), .i .i64 (m_0.Triangles.length : Int), .i .i64 0, .any, .any, .any, .any, .any, .any, .any, .any, .any, .any, .any, .any, .any, .any, .any, .any, .any, .any, .any, .any, .any, .any, .any, .any, .any, .any, .any, .any, .any, .any, .any, .any, .any, .any, .any, .any, .any, .any, .any, .any, .any], [.box 42 [.sl (m_0.Places.map GVector.cells), .sl (m_0.Triangles.map (cL (cI .i64)))], .mapN 2 [] none, .vec 176 2 ([] : List (List AV)) false]⟩) (lp_val (ls_impl_trianglesByEdge_1 m_0) (x := (lr_impl_trianglesByEdge_1_1 m_0)) (lp_impl_trianglesByEdge_1 m_0 hp0 hp1 hp2 hp3 (((m_0.Triangles.length : Int) - 0).toNat + 1) 0 ([] : (List (Gedge × List Int))) ([] : List Gedge) (show 0 ≤ 0 from (by first | omega | (simp; done) | (intro y hy; have q := hv_impl_trianglesByEdge_1_2 y hy; omega))) (show (([] : List Gedge).length : Int) ≤ 3 * 0 from (by first | omega | (simp; done) | (intro y hy; have q := hv_impl_trianglesByEdge_1_2 y hy; omega))) (show ∀ y ∈ ([] : (List (Gedge × List Int))), (y.2.length : Int) ≤ 3 * 0 from (by first | omega | (simp; done) | (intro y hy; have q := hv_impl_trianglesByEdge_1_2 y hy; omega))) (Nat.lt_succ_self _)) rfl) (by simp [hd_impl_trianglesByEdge_1, mapC, Gedge.cells])) <| sS (CallSt.frame (t_sort_impl_compareEdges ((lr_impl_trianglesByEdge_1_1 m_0).2) y0) [2] (R := [.box 42 [.sl (m_0.Places.map GVector.cells), .sl (m_0.Triangles.map (cL (cI .i64)))], .mapN 2 (mapC Gedge.pr (cI .i64) ((lr_impl_trianglesByEdge_1_1 m_0).1)) none, .vec 176 2 (((lr_impl_trianglesByEdge_1_1 m_0).2).map Gedge.cells) false]) (args' := [.own 2, .fn 175 []]) rfl rfl rfl rfl rfl rfl) <| sK [1, 2] sN) rfl (by kernel_rfl) (by kernel_rfl) rfl ?_ ?_
 · rfl
 · simp [v_impl_trianglesByEdge]

def lo_impl_listsOf_1 (list_0 : (List Gedge)) : Nat → Int → (List (List Int)) → (List (List Int))
  | 0, _, _ => default
  | k + 1, x_l0, r0_l1 => (cond (decide (x_l0 < (list_0.length : Int)))
    (lo_impl_listsOf_1 list_0 k (x_l0 + 1) (r0_l1 ++ [[(list_0.getD x_l0.toNat default).e0, (list_0.getD x_l0.toNat default).e1]]))
    r0_l1)

def ls_impl_listsOf_1 (list_0 : (List Gedge)) (r : (List (List Int))) : Ex × St := ((.exit 0), ⟨[.sl (list_0.map Gedge.cells), .any, .nils, .own 0, .any, .any, .any, .sl (list_0.map Gedge.cells), .any, .any, .any, .any, .any, .any, .any, .any, .any, .any, .any, .any, .any, .any, .any], [.nest 52 (r.map fun l => l.map (cI .i64)) false]⟩)

def hd_impl_listsOf_1 (list_0 : (List Gedge)) (x_l0 : Int) (r0_l1 : (List (List Int))) : St := ⟨[.sl (list_0.map Gedge.cells), .any, .nils, .own 0, .any, .any, .any, .sl (list_0.map Gedge.cells), .i .i64 (list_0.length : Int), .i .i64 x_l0, .any, .any, .any, .any, .any, .any, .any, .any, .any, .any, .any, .any, .any], [.nest 52 (r0_l1.map fun l => l.map (cI .i64)) false]⟩

def mk_impl_listsOf_1_0 : List Bool := [true, false, true, true, false, false, false, true, true, true, false, false, false, false, false, false, false, false, false, false, false, false, false]

def mk_impl_listsOf_1_1 : List Bool := [true, false, true, true, false, false, false, true, false, false, false, false, false, false, false, false, false, false, false, false, false, false, false]

theorem lp_impl_listsOf_1 (list_0 : (List Gedge)) (hp0 : list_0.length ≤ 1073741824) : ∀ (k : Nat) (x_l0 : Int) (r0_l1 : (List (List Int))) (hv_impl_listsOf_1_0 : 0 ≤ x_l0) (hv_impl_listsOf_1_1 : (r0_l1.length : Int) = x_l0) (hk : ((list_0.length : Int) - x_l0).toNat < k), Lp prog 0 (sub (bodyOf f132) [1, 1, 0, 1, 0, 0]) (hd_impl_listsOf_1 list_0 x_l0 r0_l1) (ls_impl_listsOf_1 list_0 (lo_impl_listsOf_1 list_0 k x_l0 r0_l1)).1 (ls_impl_listsOf_1 list_0 (lo_impl_listsOf_1 list_0 k x_l0 r0_l1)).2 := by
 intro k
 induction k with
 | zero => intro x_l0 r0_l1 hv_impl_listsOf_1_0 hv_impl_listsOf_1_1 hk; exact absurd hk (Nat.not_lt_zero _)
 | succ k ih =>
  intro x_l0 r0_l1 hv_impl_listsOf_1_0 hv_impl_listsOf_1_1 hk
  cases h_0 : (decide (x_l0 < (list_0.length : Int))) with
  | true =>
   have gh_0 := of_decide_eq_true h_0
   have y_0 : (0 : Int) ≤ x_l0 := (by first | assumption | omega | (simp_all <;> omega))
   have y_1 : x_l0 < (list_0.length : Int) := (by first | assumption | omega | (simp_all <;> omega))
   have y_2 : r0_l1.length + [[(list_0.getD x_l0.toNat default).e0, (list_0.getD x_l0.toNat default).e1]].length ≤ 1073741824 := (by first | assumption | omega | (simp_all <;> omega))
   have y_3 : (-9223372036854775808 : Int) ≤ (x_l0 + 1) := (by first | assumption | omega | (simp_all <;> omega))
   have y_4 : (x_l0 + 1) ≤ (9223372036854775807 : Int) := (by first | assumption | omega | (simp_all <;> omega))
   have e : lo_impl_listsOf_1 list_0 (k + 1) x_l0 r0_l1 = (lo_impl_listsOf_1 list_0 k (x_l0 + 1) (r0_l1 ++ [[(list_0.getD x_l0.toNat default).e0, (list_0.getD x_l0.toNat default).e1]])) := by simp only [lo_impl_listsOf_1, h_0, cond_true]
   rw [e]
   exact nextS E0Ok hMixed [] mk_impl_listsOf_1_0 [0] (⟨[.sl (list_0.map Gedge.cells), .any, .nils, .own 0, .any, .any, .any, .sl (list_0.map Gedge.cells), .i .i64 (list_0.length : Int), .i .i64 (x_l0 + 1), .any, .any, .any, .any, .any, .any, .any, .any, .any, .any, .any, .any, .any], [.nest 52 ((r0_l1.map fun l => l.map (cI .i64)) ++ [([[.i .i64 ((list_0.getD x_l0.toNat default).e0)], [.i .i64 ((list_0.getD x_l0.toNat default).e1)]] : List (List AV))]) false]⟩) (sB h_0 <| sG Gedge.cells list_0 x_l0 y_0 y_1 <| sC (show (0 : Int) ≤ 0 ∧ 0 < ((2 : Nat) : Int) from (by decide)) <| sC (show (0 : Int) ≤ 1 ∧ 1 < ((2 : Nat) : Int) from (by decide)) <| sC (show (r0_l1.map fun l => l.map (cI .i64)).length + [([[.i .i64 ((list_0.getD x_l0.toNat default).e0)], [.i .i64 ((list_0.getD x_l0.toNat default).e1)]] : List (List AV))].length ≤ 1073741824 from (by simpa using y_2)) <| sI (x_l0 + 1) y_3 y_4 <| sN) (by kernel_rfl) (show _ = ⟨[.sl (list_0.map Gedge.cells), .any, .nils, .own 0, .any, .any, .any, .sl (list_0.map Gedge.cells), .i .i64 (list_0.length : Int), .i .i64 (x_l0 + 1), .any, .any, .any, .any, .any, .any, .any, .any, .any, .any, .any, .any, .any], [.nest 52 ((r0_l1 ++ [[(list_0.getD x_l0.toNat default).e0, (list_0.getD x_l0.toNat default).e1]]).map fun l => l.map (cI .i64)) false]⟩ from (by simp [cL, cI])) (ih (x_l0 + 1) (r0_l1 ++ [[(list_0.getD x_l0.toNat default).e0, (list_0.getD x_l0.toNat default).e1]]) (show 0 ≤ (x_l0 + 1) from (by first | assumption | omega | (simp_all <;> omega))) (show ((r0_l1 ++ [[(list_0.getD x_l0.toNat default).e0, (list_0.getD x_l0.toNat default).e1]]).length : Int) = (x_l0 + 1) from (by first | assumption | omega | (simp_all <;> omega))) (by first | assumption | omega | (simp_all <;> omega)))
  | false =>
   have gh_0 := of_decide_eq_false h_0
   have e : lo_impl_listsOf_1 list_0 (k + 1) x_l0 r0_l1 = r0_l1 := by simp only [lo_impl_listsOf_1, h_0, cond_false]
   rw [e]
   exact outR (e := (.exit 0)) E0Ok hMixed [] mk_impl_listsOf_1_1 [0] (sB h_0 <| sN) (by kernel_rfl) (by intro h; cases h)

def lr_impl_listsOf_1_0 (list_0 : (List Gedge)) : (List (List Int)) := (lo_impl_listsOf_1 list_0 (((list_0.length : Int) - 0).toNat + 1) 0 ([] : List (List Int)))

def v_impl_listsOf (list_0 : (List Gedge)) : (List (List Int)) := (lr_impl_listsOf_1_0 list_0)

theorem listsOf_eq (l : List Gedge) : v_impl_listsOf l = l.map e2 := by
  unfold v_impl_listsOf lr_impl_listsOf_1_0
  rw [app_loop (f := fun i => e2 (l.getD i.toNat default)) (n := (l.length : Int)) (lo := lo_impl_listsOf_1 l) (fun k i r => rfl) _ _ _ (Nat.lt_succ_self _), List.nil_append]
  apply List.ext_getElem (by simp)
  intro i h1 h2
  simp only [List.length_map, List.length_range] at h1
  rw [List.getElem_map, List.getElem_map, List.getElem_range, show ((0 : Int) + (i : Int)).toNat = i from by omega, List.getD_eq_getElem?_getD, List.getElem?_eq_getElem (by omega)]
  rfl

theorem t_impl_listsOf (list_0 : (List Gedge)) (hp0 : list_0.length ≤ 1073741824)  : Fn prog 132 [.sl (list_0.map Gedge.cells)] (.own 0) [.nest 52 ((v_impl_listsOf list_0).map fun l => l.map (cI .i64)) false] := by
 refine fnS E0Ok hMixed (c := bodyOf f132) [] (.own 0) [.nest 52 ((lr_impl_listsOf_1_0 list_0).map fun l => l.map (cI .i64)) false] func132 (sZ Gedge.cells list_0 <| sL mk_impl_listsOf_1_0 1 (lp_cast (st2 := ⟨[.sl (list_0.map Gedge.cells), .any, .nils, .own 0, .any, .any, .any, .sl (list_0.map Gedge.cells), .i .i64 (list_0.length : Int), .i .i64 0, .any, .any, .any, .any, .any, .any, .any, .any, .any, .any, .any, .any, .any], [.nest 52 [] false]⟩) (lp_val (ls_impl_listsOf_1 list_0) (x := (lr_impl_listsOf_1_0 list_0)) (lp_impl_listsOf_1 list_0 hp0 (((list_0.length : Int) - 0).toNat + 1) 0 ([] : List (List Int)) (show 0 ≤ 0 from (by first | assumption | omega | (simp_all <;> omega))) (show (([] : List (List Int)).length : Int) = 0 from (by simp)) (Nat.lt_succ_self _)) rfl) (by simp [hd_impl_listsOf_1, cL, cI])) <| sK [0] sN) rfl (by kernel_rfl) (by kernel_rfl) rfl ?_ ?_
 · rfl
 · simp [v_impl_listsOf]

def v_impl_EdgesOf (m_0 : GMesh) : (List (List Int)) × Bool := (cond (v_impl_ValidMesh m_0)
  ((v_impl_listsOf ((v_impl_trianglesByEdge m_0).2)), true)
  (([] : List (List Int)), false))

theorem eq_EdgesOf (m : GMesh) : v_impl_EdgesOf m = v_spec_EdgesOf m := by
  unfold v_impl_EdgesOf v_spec_EdgesOf
  rw [eq_ValidMesh]
  cases h : v_spec_l02Is m with
  | false => rfl
  | true => rw [cond_true, cond_true, listsOf_eq, edges_eq m (okE_is m h), l02Edges_eq m (okE_is m h)]
theorem le_impl_EdgesOf (m : GMesh) : (v_impl_EdgesOf m).1.length ≤ 4096 := by rw [eq_EdgesOf]; exact le_spec_EdgesOf m
theorem len2_impl_EdgesOf (m : GMesh) : ∀ t ∈ (v_impl_EdgesOf m).1, t.length ≤ 2 := by rw [eq_EdgesOf]; exact len2_spec_EdgesOf m

theorem t_impl_EdgesOf (m_0 : GMesh) (hp0 : m_0.Places.length ≤ 1073741824) (hp1 : m_0.Triangles.length ≤ 1073741824) (hp2 : ∀ t ∈ m_0.Triangles, t.length ≤ 1073741824)  : Fn prog 60 [.agg [.sl (m_0.Places.map GVector.cells), .sl (m_0.Triangles.map (cL (cI .i64)))]] (.tup [.own 0, .b ((v_impl_EdgesOf m_0).2)]) [.nest 52 (((v_impl_EdgesOf m_0).1).map fun l => l.map (cI .i64)) false] := by
 have p {a C} (s : Scr a C) := sF (t_impl_ValidMesh m_0 hp0 hp1 hp2) <| s
 cases h0 : (v_impl_ValidMesh m_0) with
 | true =>
  have y0 : OkE m_0.Places.length m_0.Triangles := by clear p; exact (by first | assumption | exact okE_is _ (by rw [← eq_ValidMesh]; assumption) | exact Nat.le_trans (edges_len _ (by first | assumption | exact okE_is _ (by rw [← eq_ValidMesh]; assumption))) (by decide) | omega)
  have y1 : ((v_impl_trianglesByEdge m_0).2).length ≤ 1073741824 := by clear p; exact (by first | assumption | exact okE_is _ (by rw [← eq_ValidMesh]; assumption) | exact Nat.le_trans (edges_len _ (by first | assumption | exact okE_is _ (by rw [← eq_ValidMesh]; assumption))) (by decide) | omega)
  refine fnS E0Ok hMixed (c := bodyOf f60) [] (.tup [.own 0, .b true]) [.nest 52 ((v_impl_listsOf ((v_impl_trianglesByEdge m_0).2)).map fun l => l.map (cI .i64)) false] func60 (p (sB' h0 <| sF (t_impl_trianglesByEdge m_0 hp0 hp1 hp2 y0) <| sF (t_impl_listsOf ((v_impl_trianglesByEdge m_0).2) y1) <| sK [3] sN)) rfl (by kernel_rfl) (by kernel_rfl) rfl ?_ ?_
  · simp only [v_impl_EdgesOf, h0, cond_true]
  · simp [v_impl_EdgesOf, h0]
 | false =>
  refine fnS E0Ok hMixed (c := bodyOf f60) [(.tm 2, .nest 52 [] false)] (.tup [.own 0, .b false]) [.nest 52 [] false] func60 (p (sB' h0 <| sK [1] sN)) rfl (by kernel_rfl) (by kernel_rfl) rfl ?_ ?_
  · simp only [v_impl_EdgesOf, h0, cond_false]
  · simp [v_impl_EdgesOf, h0, cL, cI]

def lo_laws_eqInt64S_1 (a_0 : (List Int)) (b_1 : (List Int)) : Nat → Int → (Unit) ⊕ (Unit)
  | 0, _ => .inl default
  | k + 1, i_l0 => (cond (decide (i_l0 < (a_0.length : Int)))
    (cond ((a_0.getD i_l0.toNat default) != (b_1.getD i_l0.toNat default))
      (.inl ())
      (lo_laws_eqInt64S_1 a_0 b_1 k (i_l0 + 1)))
    (.inr ()))

def ls_laws_eqInt64S_1 (a_0 : (List Int)) (b_1 : (List Int)) : (Unit) ⊕ (Unit) → Ex × St
  | .inl r => (.ret, ⟨[.any, .any, .any, .any, .b false, .any, .any, .any, .any, .any, .any, .any, .any, .any, .any, .any, .any, .any, .any, .any, .any, .any, .any, .any, .any, .any], []⟩)
  | .inr r => ((.exit 0), ⟨[.sl (a_0.map (cI .i64)), .sl (b_1.map (cI .i64)), .any, .any, .any, .any, .sl (a_0.map (cI .i64)), .i .i64 (a_0.length : Int), .sl (b_1.map (cI .i64)), .i .i64 (b_1.length : Int), .b ((a_0.length : Int) != (b_1.length : Int)), .any, .any, .any, .any, .any, .any, .any, .any, .any, .any, .any, .any, .any, .any, .any], []⟩)

def hd_laws_eqInt64S_1 (a_0 : (List Int)) (b_1 : (List Int)) (i_l0 : Int) : St := ⟨[.sl (a_0.map (cI .i64)), .sl (b_1.map (cI .i64)), .any, .any, .any, .i .i64 i_l0, .sl (a_0.map (cI .i64)), .i .i64 (a_0.length : Int), .sl (b_1.map (cI .i64)), .i .i64 (b_1.length : Int), .b ((a_0.length : Int) != (b_1.length : Int)), .any, .any, .any, .any, .any, .any, .any, .any, .any, .any, .any, .any, .any, .any, .any], []⟩

def mk_laws_eqInt64S_1_0 : List Bool := [true, true, false, false, false, true, true, true, true, true, true, false, false, false, false, false, false, false, false, false, false, false, false, false, false, false]

def mk_laws_eqInt64S_1_1 : List Bool := [false, false, false, false, true, false, false, false, false, false, false, false, false, false, false, false, false, false, false, false, false, false, false, false, false, false]

def mk_laws_eqInt64S_1_2 : List Bool := [true, true, false, false, false, false, true, true, true, true, true, false, false, false, false, false, false, false, false, false, false, false, false, false, false, false]

theorem lp_laws_eqInt64S_1 (a_0 : (List Int)) (b_1 : (List Int)) (hp0 : a_0.length ≤ 1073741824) (hp1 : b_1.length ≤ 1073741824) (hf_laws_eqInt64S_1_0 : ((a_0.length : Int) != (b_1.length : Int)) = false) : ∀ (k : Nat) (i_l0 : Int) (hv_laws_eqInt64S_1_0 : 0 ≤ i_l0) (hk : ((a_0.length : Int) - i_l0).toNat < k), Lp prog 0 (sub (bodyOf f29) [1, 1, 0, 1, 0, 0]) (hd_laws_eqInt64S_1 a_0 b_1 i_l0) (ls_laws_eqInt64S_1 a_0 b_1 (lo_laws_eqInt64S_1 a_0 b_1 k i_l0)).1 (ls_laws_eqInt64S_1 a_0 b_1 (lo_laws_eqInt64S_1 a_0 b_1 k i_l0)).2 := by
 intro k
 induction k with
 | zero => intro i_l0 hv_laws_eqInt64S_1_0 hk; exact absurd hk (Nat.not_lt_zero _)
 | succ k ih =>
  intro i_l0 hv_laws_eqInt64S_1_0 hk
  have p {a C} (s : Scr a C) := sZ (cI .i64) a_0 <| s
  cases h_0 : (decide (i_l0 < (a_0.length : Int))) with
  | true =>
   have gh_0 := of_decide_eq_true h_0
   have y_0 : (0 : Int) ≤ i_l0 := by clear p; exact (by first | assumption | omega | (simp_all <;> omega))
   have y_1 : i_l0 < (a_0.length : Int) := by clear p; exact (by first | assumption | omega | (simp_all <;> omega))
   have y_2 : i_l0 < (b_1.length : Int) := by clear p; exact (by first | assumption | omega | (simp_all <;> omega))
   have q {a C} (s : Scr a C) := p (sB h_0 <| sK [8, 8] <| sG (cI .i64) a_0 i_l0 y_0 y_1 <| sG (cI .i64) b_1 i_l0 y_0 y_2 <| s)
   clear p
   cases h_1 : ((a_0.getD i_l0.toNat default) != (b_1.getD i_l0.toNat default)) with
   | true =>
    have gh_1 := bne_iff_ne.1 h_1
    have e : lo_laws_eqInt64S_1 a_0 b_1 (k + 1) i_l0 = (.inl ()) := by simp only [lo_laws_eqInt64S_1, h_0, h_1, cond_true]
    rw [e]
    exact outR (e := .ret) E0Ok hMixed [] mk_laws_eqInt64S_1_1 [] (q (sB h_1 <| sN)) (by kernel_rfl) (by intro h; cases h)
   | false =>
    have gh_1 := bne_eq_false_iff_eq.1 h_1
    have y_3 : (-9223372036854775808 : Int) ≤ (i_l0 + 1) := by clear q; exact (by first | assumption | omega | (simp_all <;> omega))
    have y_4 : (i_l0 + 1) ≤ (9223372036854775807 : Int) := by clear q; exact (by first | assumption | omega | (simp_all <;> omega))
    have e : lo_laws_eqInt64S_1 a_0 b_1 (k + 1) i_l0 = (lo_laws_eqInt64S_1 a_0 b_1 k (i_l0 + 1)) := by simp only [lo_laws_eqInt64S_1, h_0, h_1, cond_true, cond_false]
    rw [e]
    exact nextR E0Ok hMixed [] mk_laws_eqInt64S_1_0 [] (ih (i_l0 + 1) (show 0 ≤ (i_l0 + 1) from (by first | assumption | omega | (simp_all <;> omega))) (by first | assumption | omega | (simp_all <;> omega))) (q (sB h_1 <| sI (i_l0 + 1) y_3 y_4 <| sN)) (by kernel_rfl)
  | false =>
   have gh_0 := of_decide_eq_false h_0
   have e : lo_laws_eqInt64S_1 a_0 b_1 (k + 1) i_l0 = (.inr ()) := by simp only [lo_laws_eqInt64S_1, h_0, cond_false]
   rw [e]
   exact outR (e := (.exit 0)) E0Ok hMixed [] mk_laws_eqInt64S_1_2 [] (p (sB h_0 <| sN)) (by kernel_rfl) (by intro h; cases h)

def lr_laws_eqInt64S_1_0 (a_0 : (List Int)) (b_1 : (List Int)) : (Unit) ⊕ (Unit) := (lo_laws_eqInt64S_1 a_0 b_1 (((a_0.length : Int) - 0).toNat + 1) 0)

def v_laws_eqInt64S (a_0 : (List Int)) (b_1 : (List Int)) : Bool := (cond ((a_0.length : Int) != (b_1.length : Int))
  false
  (match (lr_laws_eqInt64S_1_0 a_0 b_1) with
    | .inl r2 => false
    | .inr r2 => true))

theorem t_laws_eqInt64S (a_0 : (List Int)) (b_1 : (List Int)) (hp0 : a_0.length ≤ 1073741824) (hp1 : b_1.length ≤ 1073741824)  : Fn prog 29 [.sl (a_0.map (cI .i64)), .sl (b_1.map (cI .i64))] (.b (v_laws_eqInt64S a_0 b_1)) [] := by
 have p {a C} (s : Scr a C) := sZ (cI .i64) a_0 <| sZ (cI .i64) b_1 <| s
 cases h0 : ((a_0.length : Int) != (b_1.length : Int)) with
 | true =>
  have gh0 := bne_iff_ne.1 h0
  refine fnS E0Ok hMixed (c := bodyOf f29) [] (.b false) [] func29 (p (sB h0 <| sK [] sN)) rfl (by kernel_rfl) (by kernel_rfl) rfl ?_ ?_
  · simp only [v_laws_eqInt64S, h0, cond_true]
  · rfl
 | false =>
  have gh0 := bne_eq_false_iff_eq.1 h0
  have q {a C} (s : Scr a C) := p (sB h0 <| s)
  clear p
  cases h1 : (lr_laws_eqInt64S_1_0 a_0 b_1) with
  | inl r2 =>
   refine fnS E0Ok hMixed (c := bodyOf f29) [] (.b false) [] func29 (q (sL mk_laws_eqInt64S_1_0 0 (lp_val (ls_laws_eqInt64S_1 a_0 b_1) (x := (lr_laws_eqInt64S_1_0 a_0 b_1)) (lp_laws_eqInt64S_1 a_0 b_1 hp0 hp1 h0 (((a_0.length : Int) - 0).toNat + 1) 0 (show 0 ≤ 0 from (by first | assumption | omega | (simp_all <;> omega))) (Nat.lt_succ_self _)) h1) <| sK [] sN)) rfl (by kernel_rfl) (by kernel_rfl) rfl ?_ ?_
   · simp only [v_laws_eqInt64S, h0, h1, cond_false]
   · rfl
  | inr r2 =>
   refine fnS E0Ok hMixed (c := bodyOf f29) [] (.b true) [] func29 (q (sL mk_laws_eqInt64S_1_0 0 (lp_val (ls_laws_eqInt64S_1 a_0 b_1) (x := (lr_laws_eqInt64S_1_0 a_0 b_1)) (lp_laws_eqInt64S_1 a_0 b_1 hp0 hp1 h0 (((a_0.length : Int) - 0).toNat + 1) 0 (show 0 ≤ 0 from (by first | assumption | omega | (simp_all <;> omega))) (Nat.lt_succ_self _)) h1) <| sK [] sN)) rfl (by kernel_rfl) (by kernel_rfl) rfl ?_ ?_
   · simp only [v_laws_eqInt64S, h0, h1, cond_false]
   · rfl

theorem eqInt64S_self (a : List Int) : v_laws_eqInt64S a a = true := by
  unfold v_laws_eqInt64S lr_laws_eqInt64S_1_0
  rw [all_from (a := a) (p := fun v => !(v != v)) (lo := lo_laws_eqInt64S_1 a a) (x := ()) (y := ()) (fun k i => by rw [lo_laws_eqInt64S_1]; cases (a.getD i.toNat default != a.getD i.toNat default) <;> rfl)]
  rw [show (a.all fun v => !(v != v)) = true from by rw [List.all_eq_true]; intro v _; simp]
  simp

def lo_laws_eqInt64SS_1 (a_0 : (List (List Int))) (b_1 : (List (List Int))) : Nat → Int → (Unit) ⊕ (Unit)
  | 0, _ => .inl default
  | k + 1, i_l0 => (cond (decide (i_l0 < (a_0.length : Int)))
    (cond (v_laws_eqInt64S (a_0.getD i_l0.toNat default) (b_1.getD i_l0.toNat default))
      (lo_laws_eqInt64SS_1 a_0 b_1 k (i_l0 + 1))
      (.inl ()))
    (.inr ()))

def ls_laws_eqInt64SS_1 (a_0 : (List (List Int))) (b_1 : (List (List Int))) : (Unit) ⊕ (Unit) → Ex × St
  | .inl r => (.ret, ⟨[.any, .any, .any, .any, .b false, .any, .any, .any, .any, .any, .any, .any, .any, .any, .any, .any, .any, .any, .any, .any, .any, .any, .any, .any, .any, .any, .any], []⟩)
  | .inr r => ((.exit 0), ⟨[.sl (a_0.map (cL (cI .i64))), .sl (b_1.map (cL (cI .i64))), .any, .any, .any, .any, .sl (a_0.map (cL (cI .i64))), .i .i64 (a_0.length : Int), .sl (b_1.map (cL (cI .i64))), .i .i64 (b_1.length : Int), .b ((a_0.length : Int) != (b_1.length : Int)), .any, .any, .any, .any, .any, .any, .any, .any, .any, .any, .any, .any, .any, .any, .any, .any], []⟩)

def hd_laws_eqInt64SS_1 (a_0 : (List (List Int))) (b_1 : (List (List Int))) (i_l0 : Int) : St := ⟨[.sl (a_0.map (cL (cI .i64))), .sl (b_1.map (cL (cI .i64))), .any, .any, .any, .i .i64 i_l0, .sl (a_0.map (cL (cI .i64))), .i .i64 (a_0.length : Int), .sl (b_1.map (cL (cI .i64))), .i .i64 (b_1.length : Int), .b ((a_0.length : Int) != (b_1.length : Int)), .any, .any, .any, .any, .any, .any, .any, .any, .any, .any, .any, .any, .any, .any, .any, .any], []⟩

def mk_laws_eqInt64SS_1_0 : List Bool := [true, true, false, false, false, true, true, true, true, true, true, false, false, false, false, false, false, false, false, false, false, false, false, false, false, false, false]

def mk_laws_eqInt64SS_1_1 : List Bool := [false, false, false, false, true, false, false, false, false, false, false, false, false, false, false, false, false, false, false, false, false, false, false, false, false, false, false]

def mk_laws_eqInt64SS_1_2 : List Bool := [true, true, false, false, false, false, true, true, true, true, true, false, false, false, false, false, false, false, false, false, false, false, false, false, false, false, false]

theorem lp_laws_eqInt64SS_1 (a_0 : (List (List Int))) (b_1 : (List (List Int))) (hp0 : a_0.length ≤ 1073741824) (hp1 : ∀ t ∈ a_0, t.length ≤ 1073741824) (hp2 : b_1.length ≤ 1073741824) (hp3 : ∀ t ∈ b_1, t.length ≤ 1073741824) (hf_laws_eqInt64SS_1_0 : ((a_0.length : Int) != (b_1.length : Int)) = false) : ∀ (k : Nat) (i_l0 : Int) (hv_laws_eqInt64SS_1_0 : 0 ≤ i_l0) (hk : ((a_0.length : Int) - i_l0).toNat < k), Lp prog 0 (sub (bodyOf f61) [1, 1, 0, 1, 0, 0]) (hd_laws_eqInt64SS_1 a_0 b_1 i_l0) (ls_laws_eqInt64SS_1 a_0 b_1 (lo_laws_eqInt64SS_1 a_0 b_1 k i_l0)).1 (ls_laws_eqInt64SS_1 a_0 b_1 (lo_laws_eqInt64SS_1 a_0 b_1 k i_l0)).2 := by
 intro k
 induction k with
 | zero => intro i_l0 hv_laws_eqInt64SS_1_0 hk; exact absurd hk (Nat.not_lt_zero _)
 | succ k ih =>
  intro i_l0 hv_laws_eqInt64SS_1_0 hk
  have p {a C} (s : Scr a C) := sZ (cL (cI .i64)) a_0 <| s
  cases h_0 : (decide (i_l0 < (a_0.length : Int))) with
  | true =>
   have gh_0 := of_decide_eq_true h_0
   have y_0 : (0 : Int) ≤ i_l0 := by clear p; exact (by first | assumption | omega | (simp_all <;> omega))
   have y_1 : i_l0 < (a_0.length : Int) := by clear p; exact (by first | assumption | omega | (simp_all <;> omega))
   have y_2 : i_l0 < (b_1.length : Int) := by clear p; exact (by first | assumption | omega | (simp_all <;> omega))
   have y_3 : (a_0.getD i_l0.toNat default).length ≤ 1073741824 := by clear p; exact (by first | assumption | omega | (simp_all <;> omega))
   have y_4 : (b_1.getD i_l0.toNat default).length ≤ 1073741824 := by clear p; exact (by first | assumption | omega | (simp_all <;> omega))
   have q {a C} (s : Scr a C) := p (sB h_0 <| sK [8, 8] <| sG (cL (cI .i64)) a_0 i_l0 y_0 y_1 <| sG (cL (cI .i64)) b_1 i_l0 y_0 y_2 <| sF (t_laws_eqInt64S (a_0.getD i_l0.toNat default) (b_1.getD i_l0.toNat default) y_3 y_4) <| s)
   clear p
   cases h_1 : (v_laws_eqInt64S (a_0.getD i_l0.toNat default) (b_1.getD i_l0.toNat default)) with
   | true =>
    have y_5 : (-9223372036854775808 : Int) ≤ (i_l0 + 1) := by clear q; exact (by first | assumption | omega | (simp_all <;> omega))
    have y_6 : (i_l0 + 1) ≤ (9223372036854775807 : Int) := by clear q; exact (by first | assumption | omega | (simp_all <;> omega))
    have e : lo_laws_eqInt64SS_1 a_0 b_1 (k + 1) i_l0 = (lo_laws_eqInt64SS_1 a_0 b_1 k (i_l0 + 1)) := by simp only [lo_laws_eqInt64SS_1, h_0, h_1, cond_true]
    rw [e]
    exact nextR E0Ok hMixed [] mk_laws_eqInt64SS_1_0 [] (ih (i_l0 + 1) (show 0 ≤ (i_l0 + 1) from (by first | assumption | omega | (simp_all <;> omega))) (by first | assumption | omega | (simp_all <;> omega))) (q (sB' h_1 <| sI (i_l0 + 1) y_5 y_6 <| sN)) (by kernel_rfl)
   | false =>
    have e : lo_laws_eqInt64SS_1 a_0 b_1 (k + 1) i_l0 = (.inl ()) := by simp only [lo_laws_eqInt64SS_1, h_0, h_1, cond_true, cond_false]
    rw [e]
    exact outR (e := .ret) E0Ok hMixed [] mk_laws_eqInt64SS_1_1 [] (q (sB' h_1 <| sN)) (by kernel_rfl) (by intro h; cases h)
  | false =>
   have gh_0 := of_decide_eq_false h_0
   have e : lo_laws_eqInt64SS_1 a_0 b_1 (k + 1) i_l0 = (.inr ()) := by simp only [lo_laws_eqInt64SS_1, h_0, cond_false]
   rw [e]
   exact outR (e := (.exit 0)) E0Ok hMixed [] mk_laws_eqInt64SS_1_2 [] (p (sB h_0 <| sN)) (by kernel_rfl) (by intro h; cases h)

def lr_laws_eqInt64SS_1_0 (a_0 : (List (List Int))) (b_1 : (List (List Int))) : (Unit) ⊕ (Unit) := (lo_laws_eqInt64SS_1 a_0 b_1 (((a_0.length : Int) - 0).toNat + 1) 0)

def v_laws_eqInt64SS (a_0 : (List (List Int))) (b_1 : (List (List Int))) : Bool := (cond ((a_0.length : Int) != (b_1.length : Int))
  false
  (match (lr_laws_eqInt64SS_1_0 a_0 b_1) with
    | .inl r2 => false
    | .inr r2 => true))

theorem t_laws_eqInt64SS (a_0 : (List (List Int))) (b_1 : (List (List Int))) (hp0 : a_0.length ≤ 1073741824) (hp1 : ∀ t ∈ a_0, t.length ≤ 1073741824) (hp2 : b_1.length ≤ 1073741824) (hp3 : ∀ t ∈ b_1, t.length ≤ 1073741824)  : Fn prog 61 [.sl (a_0.map (cL (cI .i64))), .sl (b_1.map (cL (cI .i64)))] (.b (v_laws_eqInt64SS a_0 b_1)) [] := by
 have p {a C} (s : Scr a C) := sZ (cL (cI .i64)) a_0 <| sZ (cL (cI .i64)) b_1 <| s
 cases h0 : ((a_0.length : Int) != (b_1.length : Int)) with
 | true =>
  have gh0 := bne_iff_ne.1 h0
  refine fnS E0Ok hMixed (c := bodyOf f61) [] (.b false) [] func61 (p (sB h0 <| sK [] sN)) rfl (by kernel_rfl) (by kernel_rfl) rfl ?_ ?_
  · simp only [v_laws_eqInt64SS, h0, cond_true]
  · rfl
 | false =>
  have gh0 := bne_eq_false_iff_eq.1 h0
  have q {a C} (s : Scr a C) := p (sB h0 <| s)
  clear p
  cases h1 : (lr_laws_eqInt64SS_1_0 a_0 b_1) with
  | inl r2 =>
   refine fnS E0Ok hMixed (c := bodyOf f61) [] (.b false) [] func61 (q (sL mk_laws_eqInt64SS_1_0 0 (lp_val (ls_laws_eqInt64SS_1 a_0 b_1) (x := (lr_laws_eqInt64SS_1_0 a_0 b_1)) (lp_laws_eqInt64SS_1 a_0 b_1 hp0 hp1 hp2 hp3 h0 (((a_0.length : Int) - 0).toNat + 1) 0 (show 0 ≤ 0 from (by first | assumption | omega | (simp_all <;> omega))) (Nat.lt_succ_self _)) h1) <| sK [] sN)) rfl (by kernel_rfl) (by kernel_rfl) rfl ?_ ?_
   · simp only [v_laws_eqInt64SS, h0, h1, cond_false]
   · rfl
  | inr r2 =>
   refine fnS E0Ok hMixed (c := bodyOf f61) [] (.b true) [] func61 (q (sL mk_laws_eqInt64SS_1_0 0 (lp_val (ls_laws_eqInt64SS_1 a_0 b_1) (x := (lr_laws_eqInt64SS_1_0 a_0 b_1)) (lp_laws_eqInt64SS_1 a_0 b_1 hp0 hp1 hp2 hp3 h0 (((a_0.length : Int) - 0).toNat + 1) 0 (show 0 ≤ 0 from (by first | assumption | omega | (simp_all <;> omega))) (Nat.lt_succ_self _)) h1) <| sK [] sN)) rfl (by kernel_rfl) (by kernel_rfl) rfl ?_ ?_
   · simp only [v_laws_eqInt64SS, h0, h1, cond_false]
   · rfl

theorem eqInt64SS_self (a : List (List Int)) : v_laws_eqInt64SS a a = true := by
  unfold v_laws_eqInt64SS lr_laws_eqInt64SS_1_0
  rw [all_from (a := a) (p := fun v => v_laws_eqInt64S v v) (lo := lo_laws_eqInt64SS_1 a a) (x := ()) (y := ()) (fun k i => rfl)]
  rw [show (a.all fun v => v_laws_eqInt64S v v) = true from by rw [List.all_eq_true]; intro v _; exact eqInt64S_self v]
  simp

def v_laws_sameFloat (a_0 : Nat) (b_1 : Nat) : Bool := (cond (fcmp .neq .f64 a_0 a_0)
  (fcmp .neq .f64 b_1 b_1)
  (cond (fcmp .neq .f64 b_1 b_1)
    false
    (cond (fcmp .eql .f64 a_0 0)
      (cond (fcmp .eql .f64 b_1 0)
        ((fcmp .gtr .f64 (fop .quo .f64 4607182418800017408 a_0) 0) == (fcmp .gtr .f64 (fop .quo .f64 4607182418800017408 b_1) 0))
        (fcmp .eql .f64 a_0 b_1))
      (fcmp .eql .f64 a_0 b_1))))

theorem t_laws_sameFloat (a_0 : Nat) (b_1 : Nat)   : Fn prog 17 [.f .f64 a_0, .f .f64 b_1] (.b (v_laws_sameFloat a_0 b_1)) [] := by
 cases h0 : (fcmp .neq .f64 a_0 a_0) with
 | true =>
  refine fnS E0Ok hMixed (c := bodyOf f17) [] (.b (fcmp .neq .f64 b_1 b_1)) [] func17 (sB h0 <| sB h0 <| sB h0 <| sB h0 <| sB (show true = true from rfl) <| sB h0 <| sB h0 <| sB h0 <| sB h0 <| sK [] sN) rfl (by kernel_rfl) (by kernel_rfl) rfl ?_ ?_
  · simp only [v_laws_sameFloat, h0, cond_true]
  · rfl
 | false =>
  have p {a C} (s : Scr a C) := sB h0 <| sB h0 <| sB h0 <| sB h0 <| s
  cases h1 : (fcmp .neq .f64 b_1 b_1) with
  | true =>
   refine fnS E0Ok hMixed (c := bodyOf f17) [] (.b false) [] func17 (p (sB h1 <| sB h0 <| sB h0 <| sB h0 <| sB h0 <| sK [] sN)) rfl (by kernel_rfl) (by kernel_rfl) rfl ?_ ?_
   · simp only [v_laws_sameFloat, h0, h1, cond_true, cond_false]
   · rfl
  | false =>
   have q {a C} (s : Scr a C) := p (sB h1 <| s)
   clear p
   cases h2 : (fcmp .eql .f64 a_0 0) with
   | true =>
    have p {a C} (s : Scr a C) := q (sB h2 <| sB h2 <| sB h2 <| s)
    clear q
    cases h3 : (fcmp .eql .f64 b_1 0) with
    | true =>
     refine fnS E0Ok hMixed (c := bodyOf f17) [] (.b ((fcmp .gtr .f64 (fop .quo .f64 4607182418800017408 a_0) 0) == (fcmp .gtr .f64 (fop .quo .f64 4607182418800017408 b_1) 0))) [] func17 (p (sB h3 <| sK [] sN)) rfl (by kernel_rfl) (by kernel_rfl) rfl ?_ ?_
     · simp only [v_laws_sameFloat, h0, h1, h2, h3, cond_true, cond_false]
     · rfl
    | false =>
     refine fnS E0Ok hMixed (c := bodyOf f17) [] (.b (fcmp .eql .f64 a_0 b_1)) [] func17 (p (sB h3 <| sK [] sN)) rfl (by kernel_rfl) (by kernel_rfl) rfl ?_ ?_
     · simp only [v_laws_sameFloat, h0, h1, h2, h3, cond_true, cond_false]
     · rfl
   | false =>
    refine fnS E0Ok hMixed (c := bodyOf f17) [] (.b (fcmp .eql .f64 a_0 b_1)) [] func17 (q (sB h2 <| sB h2 <| sB h2 <| sB (show false = false from rfl) <| sK [] sN)) rfl (by kernel_rfl) (by kernel_rfl) rfl ?_ ?_
    · simp only [v_laws_sameFloat, h0, h1, h2, cond_false]
    · rfl

theorem same_self (x : Nat) : v_laws_sameFloat x x = true := by
  unfold v_laws_sameFloat
  cases h : fcmp .neq .f64 x x
  · simp only [cond_false]
    have h2 : fcmp .eql .f64 x x = true := by
      unfold fcmp at h ⊢
      simpa using h
    cases fcmp .eql .f64 x 0 <;> simp [h2]
  · rfl

def v_laws_eqVector (a_0 : GVector) (b_1 : GVector) : Bool := (cond (v_laws_sameFloat (fcv .f32 .f64 a_0.X) (fcv .f32 .f64 b_1.X))
  (cond (v_laws_sameFloat (fcv .f32 .f64 a_0.Y) (fcv .f32 .f64 b_1.Y))
    (cond (v_laws_sameFloat (fcv .f32 .f64 a_0.Z) (fcv .f32 .f64 b_1.Z))
      true
      false)
    false)
  false)

theorem t_laws_eqVector (a_0 : GVector) (b_1 : GVector)   : Fn prog 87 [.agg [.f .f32 a_0.X, .f .f32 a_0.Y, .f .f32 a_0.Z], .agg [.f .f32 b_1.X, .f .f32 b_1.Y, .f .f32 b_1.Z]] (.b (v_laws_eqVector a_0 b_1)) [] := by
 have p {a C} (s : Scr a C) := sC (widenOk a_0.X) <| sC (widenOk b_1.X) <| sF (t_laws_sameFloat (fcv .f32 .f64 a_0.X) (fcv .f32 .f64 b_1.X)) <| s
 cases h0 : (v_laws_sameFloat (fcv .f32 .f64 a_0.X) (fcv .f32 .f64 b_1.X)) with
 | true =>
  have q {a C} (s : Scr a C) := p (sB' h0 <| sC (widenOk a_0.Y) <| sC (widenOk b_1.Y) <| sF (t_laws_sameFloat (fcv .f32 .f64 a_0.Y) (fcv .f32 .f64 b_1.Y)) <| s)
  clear p
  cases h1 : (v_laws_sameFloat (fcv .f32 .f64 a_0.Y) (fcv .f32 .f64 b_1.Y)) with
  | true =>
   have p {a C} (s : Scr a C) := q (sB' h1 <| sC (widenOk a_0.Z) <| sC (widenOk b_1.Z) <| sF (t_laws_sameFloat (fcv .f32 .f64 a_0.Z) (fcv .f32 .f64 b_1.Z)) <| s)
   clear q
   cases h2 : (v_laws_sameFloat (fcv .f32 .f64 a_0.Z) (fcv .f32 .f64 b_1.Z)) with
   | true =>
    refine fnS E0Ok hMixed (c := bodyOf f87) [] (.b true) [] func87 (p (sB' h2 <| sK [] sN)) rfl (by kernel_rfl) (by kernel_rfl) rfl ?_ ?_
    · simp only [v_laws_eqVector, h0, h1, h2, cond_true]
    · rfl
   | false =>
    refine fnS E0Ok hMixed (c := bodyOf f87) [] (.b false) [] func87 (p (sB' h2 <| sK [] sN)) rfl (by kernel_rfl) (by kernel_rfl) rfl ?_ ?_
    · simp only [v_laws_eqVector, h0, h1, h2, cond_true, cond_false]
    · rfl
  | false =>
   refine fnS E0Ok hMixed (c := bodyOf f87) [] (.b false) [] func87 (q (sB' h1 <| sK [] sN)) rfl (by kernel_rfl) (by kernel_rfl) rfl ?_ ?_
   · simp only [v_laws_eqVector, h0, h1, cond_true, cond_false]
   · rfl
 | false =>
  refine fnS E0Ok hMixed (c := bodyOf f87) [] (.b false) [] func87 (p (sB' h0 <| sK [] sN)) rfl (by kernel_rfl) (by kernel_rfl) rfl ?_ ?_
  · simp only [v_laws_eqVector, h0, cond_false]
  · rfl

theorem eqVector_self (a : GVector) : v_laws_eqVector a a = true := by
  simp [v_laws_eqVector, same_self]

def lo_laws_eqVectorS_1 (a_0 : (List GVector)) (b_1 : (List GVector)) : Nat → Int → (Unit) ⊕ (Unit)
  | 0, _ => .inl default
  | k + 1, i_l0 => (cond (decide (i_l0 < (a_0.length : Int)))
    (cond (v_laws_eqVector (a_0.getD i_l0.toNat default) (b_1.getD i_l0.toNat default))
      (lo_laws_eqVectorS_1 a_0 b_1 k (i_l0 + 1))
      (.inl ()))
    (.inr ()))

def ls_laws_eqVectorS_1 (a_0 : (List GVector)) (b_1 : (List GVector)) : (Unit) ⊕ (Unit) → Ex × St
  | .inl r => (.ret, ⟨[.any, .any, .any, .any, .b false, .any, .any, .any, .any, .any, .any, .any, .any, .any, .any, .any, .any, .any, .any, .any, .any, .any, .any, .any, .any, .any, .any], []⟩)
  | .inr r => ((.exit 0), ⟨[.sl (a_0.map GVector.cells), .sl (b_1.map GVector.cells), .any, .any, .any, .any, .sl (a_0.map GVector.cells), .i .i64 (a_0.length : Int), .sl (b_1.map GVector.cells), .i .i64 (b_1.length : Int), .b ((a_0.length : Int) != (b_1.length : Int)), .any, .any, .any, .any, .any, .any, .any, .any, .any, .any, .any, .any, .any, .any, .any, .any], []⟩)

def hd_laws_eqVectorS_1 (a_0 : (List GVector)) (b_1 : (List GVector)) (i_l0 : Int) : St := ⟨[.sl (a_0.map GVector.cells), .sl (b_1.map GVector.cells), .any, .any, .any, .i .i64 i_l0, .sl (a_0.map GVector.cells), .i .i64 (a_0.length : Int), .sl (b_1.map GVector.cells), .i .i64 (b_1.length : Int), .b ((a_0.length : Int) != (b_1.length : Int)), .any, .any, .any, .any, .any, .any, .any, .any, .any, .any, .any, .any, .any, .any, .any, .any], []⟩

def mk_laws_eqVectorS_1_0 : List Bool := [true, true, false, false, false, true, true, true, true, true, true, false, false, false, false, false, false, false, false, false, false, false, false, false, false, false, false]

def mk_laws_eqVectorS_1_1 : List Bool := [false, false, false, false, true, false, false, false, false, false, false, false, false, false, false, false, false, false, false, false, false, false, false, false, false, false, false]

def mk_laws_eqVectorS_1_2 : List Bool := [true, true, false, false, false, false, true, true, true, true, true, false, false, false, false, false, false, false, false, false, false, false, false, false, false, false, false]

theorem lp_laws_eqVectorS_1 (a_0 : (List GVector)) (b_1 : (List GVector)) (hp0 : a_0.length ≤ 1073741824) (hp1 : b_1.length ≤ 1073741824) (hf_laws_eqVectorS_1_0 : ((a_0.length : Int) != (b_1.length : Int)) = false) : ∀ (k : Nat) (i_l0 : Int) (hv_laws_eqVectorS_1_0 : 0 ≤ i_l0) (hk : ((a_0.length : Int) - i_l0).toNat < k), Lp prog 0 (sub (bodyOf f40) [1, 1, 0, 1, 0, 0]) (hd_laws_eqVectorS_1 a_0 b_1 i_l0) (ls_laws_eqVectorS_1 a_0 b_1 (lo_laws_eqVectorS_1 a_0 b_1 k i_l0)).1 (ls_laws_eqVectorS_1 a_0 b_1 (lo_laws_eqVectorS_1 a_0 b_1 k i_l0)).2 := by
 intro k
 induction k with
 | zero => intro i_l0 hv_laws_eqVectorS_1_0 hk; exact absurd hk (Nat.not_lt_zero _)
 | succ k ih =>
  intro i_l0 hv_laws_eqVectorS_1_0 hk
  have p {a C} (s : Scr a C) := sZ GVector.cells a_0 <| s
  cases h_0 : (decide (i_l0 < (a_0.length : Int))) with
  | true =>
   have gh_0 := of_decide_eq_true h_0
   have y_0 : (0 : Int) ≤ i_l0 := by clear p; exact (by first | assumption | omega | (simp_all <;> omega))
   have y_1 : i_l0 < (a_0.length : Int) := by clear p; exact (by first | assumption | omega | (simp_all <;> omega))
   have y_2 : i_l0 < (b_1.length : Int) := by clear p; exact (by first | assumption | omega | (simp_all <;> omega))
   have q {a C} (s : Scr a C) := p (sB h_0 <| sK [8, 8] <| sG GVector.cells a_0 i_l0 y_0 y_1 <| sG GVector.cells b_1 i_l0 y_0 y_2 <| sF (t_laws_eqVector (a_0.getD i_l0.toNat default) (b_1.getD i_l0.toNat default)) <| s)
   clear p
   cases h_1 : (v_laws_eqVector (a_0.getD i_l0.toNat default) (b_1.getD i_l0.toNat default)) with
   | true =>
    have y_3 : (-9223372036854775808 : Int) ≤ (i_l0 + 1) := by clear q; exact (by first | assumption | omega | (simp_all <;> omega))
    have y_4 : (i_l0 + 1) ≤ (9223372036854775807 : Int) := by clear q; exact (by first | assumption | omega | (simp_all <;> omega))
    have e : lo_laws_eqVectorS_1 a_0 b_1 (k + 1) i_l0 = (lo_laws_eqVectorS_1 a_0 b_1 k (i_l0 + 1)) := by simp only [lo_laws_eqVectorS_1, h_0, h_1, cond_true]
    rw [e]
    exact nextR E0Ok hMixed [] mk_laws_eqVectorS_1_0 [] (ih (i_l0 + 1) (show 0 ≤ (i_l0 + 1) from (by first | assumption | omega | (simp_all <;> omega))) (by first | assumption | omega | (simp_all <;> omega))) (q (sB' h_1 <| sI (i_l0 + 1) y_3 y_4 <| sN)) (by kernel_rfl)
   | false =>
    have e : lo_laws_eqVectorS_1 a_0 b_1 (k + 1) i_l0 = (.inl ()) := by simp only [lo_laws_eqVectorS_1, h_0, h_1, cond_true, cond_false]
    rw [e]
    exact outR (e := .ret) E0Ok hMixed [] mk_laws_eqVectorS_1_1 [] (q (sB' h_1 <| sN)) (by kernel_rfl) (by intro h; cases h)
  | false =>
   have gh_0 := of_decide_eq_false h_0
   have e : lo_laws_eqVectorS_1 a_0 b_1 (k + 1) i_l0 = (.inr ()) := by simp only [lo_laws_eqVectorS_1, h_0, cond_false]
   rw [e]
   exact outR (e := (.exit 0)) E0Ok hMixed [] mk_laws_eqVectorS_1_2 [] (p (sB h_0 <| sN)) (by kernel_rfl) (by intro h; cases h)

end Go.Ab
