/- The functions of this seat as plain Lean, and that the program's are these. Printed by a program of the prover's own. -/
import Derived.Test.YtiihcpcabmamiaaB2
set_option linter.unusedVariables false
set_option linter.unusedSimpArgs false
set_option maxRecDepth 100000
namespace Go.Ab
open Go.RowKit Go.Proofs.Try

def mk_impl_trianglesByEdge_1_1 : List Bool := [true, true, false, true, true, true, false, false, false, false, true, false, true, true, false, false, false, false, false, false, false, false, false, false, false, false, false, false, false, false, false, false, false, false, false, false, false, false, false, false, false, false, false, false, false, false, false, false, false, false, false, false, false, false, false, false, false]

theorem lp_impl_trianglesByEdge_1 (m_0 : GMesh) (hp0 : m_0.Places.length ≤ 1073741824) (hp1 : m_0.Triangles.length ≤ 1073741824) (hp2 : ∀ t ∈ m_0.Triangles, t.length ≤ 1073741824) (hp3 : OkE m_0.Places.length m_0.Triangles) : ∀ (k : Nat) (x_l0 : Int) (r1_l1 : (List (Gedge × List Int))) (r2_l2 : (List Gedge)) (hv_impl_trianglesByEdge_1_0 : 0 ≤ x_l0) (hv_impl_trianglesByEdge_1_1 : (r2_l2.length : Int) ≤ 3 * x_l0) (hv_impl_trianglesByEdge_1_2 : ∀ y ∈ r1_l1, (y.2.length : Int) ≤ 3 * x_l0) (hk : ((m_0.Triangles.length : Int) - x_l0).toNat < k), Lp prog 0 (sub (bodyOf f66) [1, 1, 0, 1, 0, 0]) (hd_impl_trianglesByEdge_1 m_0 x_l0 r1_l1 r2_l2) (ls_impl_trianglesByEdge_1 m_0 (lo_impl_trianglesByEdge_1 m_0 k x_l0 r1_l1 r2_l2)).1 (ls_impl_trianglesByEdge_1 m_0 (lo_impl_trianglesByEdge_1 m_0 k x_l0 r1_l1 r2_l2)).2 := by
 intro k
 induction k with
 | zero => intro x_l0 r1_l1 r2_l2 hv_impl_trianglesByEdge_1_0 hv_impl_trianglesByEdge_1_1 hv_impl_trianglesByEdge_1_2 hk; exact absurd hk (Nat.not_lt_zero _)
 | succ k ih =>
  intro x_l0 r1_l1 r2_l2 hv_impl_trianglesByEdge_1_0 hv_impl_trianglesByEdge_1_1 hv_impl_trianglesByEdge_1_2 hk
  cases h_0 : (decide (x_l0 < (m_0.Triangles.length : Int))) with
  | true =>
   have gh_0 := of_decide_eq_true h_0
   have y_0 : (0 : Int) ≤ x_l0 := (by first | assumption | omega | (first | (have g5 := of_decide_eq_true hf_impl_trianglesByEdge_2_0; have q := OkE.at hp3 hv_impl_trianglesByEdge_1_0 g5 hv_impl_trianglesByEdge_2_0 (of_decide_eq_true (by assumption)); first | omega | (simp only [List.length_append, List.length_cons, List.length_nil]; omega) | (have q3 := mlen_leI (N := 3 * x_l0 + x_l0_1) (by omega) (by assumption) (midx r1_l1_1 (nd_impl_trianglesByEdge_0 m_0 x_l0 x_l0_1)); simp only [List.length_cons, List.length_nil]; omega)) | (have := hp3.2.1; omega) | (have q := loTE_len m_0 hp3; omega)) | (simp_all <;> omega))
   have y_1 : x_l0 < (m_0.Triangles.length : Int) := (by first | assumption | omega | (first | (have g5 := of_decide_eq_true hf_impl_trianglesByEdge_2_0; have q := OkE.at hp3 hv_impl_trianglesByEdge_1_0 g5 hv_impl_trianglesByEdge_2_0 (of_decide_eq_true (by assumption)); first | omega | (simp only [List.length_append, List.length_cons, List.length_nil]; omega) | (have q3 := mlen_leI (N := 3 * x_l0 + x_l0_1) (by omega) (by assumption) (midx r1_l1_1 (nd_impl_trianglesByEdge_0 m_0 x_l0 x_l0_1)); simp only [List.length_cons, List.length_nil]; omega)) | (have := hp3.2.1; omega) | (have q := loTE_len m_0 hp3; omega)) | (simp_all <;> omega))
   have y_2 : (-9223372036854775808 : Int) ≤ (x_l0 + 1) := (by first | assumption | omega | (first | (have g5 := of_decide_eq_true hf_impl_trianglesByEdge_2_0; have q := OkE.at hp3 hv_impl_trianglesByEdge_1_0 g5 hv_impl_trianglesByEdge_2_0 (of_decide_eq_true (by assumption)); first | omega | (simp only [List.length_append, List.length_cons, List.length_nil]; omega) | (have q3 := mlen_leI (N := 3 * x_l0 + x_l0_1) (by omega) (by assumption) (midx r1_l1_1 (nd_impl_trianglesByEdge_0 m_0 x_l0 x_l0_1)); simp only [List.length_cons, List.length_nil]; omega)) | (have := hp3.2.1; omega) | (have q := loTE_len m_0 hp3; omega)) | (simp_all <;> omega))
   have y_3 : (x_l0 + 1) ≤ (9223372036854775807 : Int) := (by first | assumption | omega | (first | (have g5 := of_decide_eq_true hf_impl_trianglesByEdge_2_0; have q := OkE.at hp3 hv_impl_trianglesByEdge_1_0 g5 hv_impl_trianglesByEdge_2_0 (of_decide_eq_true (by assumption)); first | omega | (simp only [List.length_append, List.length_cons, List.length_nil]; omega) | (have q3 := mlen_leI (N := 3 * x_l0 + x_l0_1) (by omega) (by assumption) (midx r1_l1_1 (nd_impl_trianglesByEdge_0 m_0 x_l0 x_l0_1)); simp only [List.length_cons, List.length_nil]; omega)) | (have := hp3.2.1; omega) | (have q := loTE_len m_0 hp3; omega)) | (simp_all <;> omega))
   have e : lo_impl_trianglesByEdge_1 m_0 (k + 1) x_l0 r1_l1 r2_l2 = (lo_impl_trianglesByEdge_1 m_0 k (x_l0 + 1) ((lr_impl_trianglesByEdge_2_0 m_0 x_l0 r1_l1 r2_l2).1) ((lr_impl_trianglesByEdge_2_0 m_0 x_l0 r1_l1 r2_l2).2)) := by simp only [lo_impl_trianglesByEdge_1, h_0, cond_true]
   rw [e]
   exact nextR E0Ok hMixed [] mk_impl_trianglesByEdge_1_0 [0, 1, 2] (ih (x_l0 + 1) ((lr_impl_trianglesByEdge_2_0 m_0 x_l0 r1_l1 r2_l2).1) ((lr_impl_trianglesByEdge_2_0 m_0 x_l0 r1_l1 r2_l2).2) (show 0 ≤ (x_l0 + 1) from (by first | assumption | omega | exact mput_inv (by assumption) (by omega) (by omega) | exact mnew_inv (by assumption) (by omega) (by omega) | (simp only [List.length_append, List.length_cons, List.length_nil]; omega) | exact (loT_inv _ _ _ _ hv_impl_trianglesByEdge_1_0 (by assumption) (by assumption)).1 | exact (loT_inv _ _ _ _ hv_impl_trianglesByEdge_1_0 (by assumption) (by assumption)).2)) (show (((lr_impl_trianglesByEdge_2_0 m_0 x_l0 r1_l1 r2_l2).2).length : Int) ≤ 3 * (x_l0 + 1) from (by first | assumption | omega | exact mput_inv (by assumption) (by omega) (by omega) | exact mnew_inv (by assumption) (by omega) (by omega) | (simp only [List.length_append, List.length_cons, List.length_nil]; omega) | exact (loT_inv _ _ _ _ hv_impl_trianglesByEdge_1_0 (by assumption) (by assumption)).1 | exact (loT_inv _ _ _ _ hv_impl_trianglesByEdge_1_0 (by assumption) (by assumption)).2)) (show ∀ y ∈ ((lr_impl_trianglesByEdge_2_0 m_0 x_l0 r1_l1 r2_l2).1), (y.2.length : Int) ≤ 3 * (x_l0 + 1) from (by first | assumption | omega | exact mput_inv (by assumption) (by omega) (by omega) | exact mnew_inv (by assumption) (by omega) (by omega) | (simp only [List.length_append, List.length_cons, List.length_nil]; omega) | exact (loT_inv _ _ _ _ hv_impl_trianglesByEdge_1_0 (by assumption) (by assumption)).1 | exact (loT_inv _ _ _ _ hv_impl_trianglesByEdge_1_0 (by assumption) (by assumption)).2)) (by first | assumption | omega | (first | (have g5 := of_decide_eq_true hf_impl_trianglesByEdge_2_0; have q := OkE.at hp3 hv_impl_trianglesByEdge_1_0 g5 hv_impl_trianglesByEdge_2_0 (of_decide_eq_true (by assumption)); first | omega | (simp only [List.length_append, List.length_cons, List.length_nil]; omega) | (have q3 := mlen_leI (N := 3 * x_l0 + x_l0_1) (by omega) (by assumption) (midx r1_l1_1 (nd_impl_trianglesByEdge_0 m_0 x_l0 x_l0_1)); simp only [List.length_cons, List.length_nil]; omega)) | (have := hp3.2.1; omega) | (have q := loTE_len m_0 hp3; omega)) | (simp_all <;> omega))) (sB h_0 <| sG (cL (cI .i64)) m_0.Triangles x_l0 y_0 y_1 <| sL mk_impl_trianglesByEdge_2_0 3 (lp_val (ls_impl_trianglesByEdge_2 m_0 x_l0 r1_l1 r2_l2) (x := (lr_impl_trianglesByEdge_2_0 m_0 x_l0 r1_l1 r2_l2)) (lp_impl_trianglesByEdge_2 m_0 x_l0 r1_l1 r2_l2 hp0 hp1 hp2 hp3 hv_impl_trianglesByEdge_1_0 hv_impl_trianglesByEdge_1_1 hv_impl_trianglesByEdge_1_2 h_0 (((3 : Int) - 0).toNat + 1) 0 r1_l1 r2_l2 (show 0 ≤ 0 from (by first | omega | (simp; done) | (intro y hy; have q := hv_impl_trianglesByEdge_1_2 y hy; omega))) (show (r2_l2.length : Int) ≤ (r2_l2.length : Int) + 0 from (by first | omega | (simp; done) | (intro y hy; have q := hv_impl_trianglesByEdge_1_2 y hy; omega))) (show ∀ y ∈ r1_l1, (y.2.length : Int) ≤ 3 * x_l0 + 0 from (by first | omega | (simp; done) | (intro y hy; have q := hv_impl_trianglesByEdge_1_2 y hy; omega))) (Nat.lt_succ_self _)) rfl) <| sI (x_l0 + 1) y_2 y_3 <| sN) (by kernel_rfl)
  | false =>
   have gh_0 := of_decide_eq_false h_0
   have e : lo_impl_trianglesByEdge_1 m_0 (k + 1) x_l0 r1_l1 r2_l2 = (r1_l1, r2_l2) := by simp only [lo_impl_trianglesByEdge_1, h_0, cond_false]
   rw [e]
   exact outR (e := (.exit 0)) E0Ok hMixed [] mk_impl_trianglesByEdge_1_1 [0, 1, 2] (sB h_0 <| sN) (by kernel_rfl) (by intro h; cases h)

def lr_impl_trianglesByEdge_1_1 (m_0 : GMesh) : (List (Gedge × List Int)) × (List Gedge) := (lo_impl_trianglesByEdge_1 m_0 (((m_0.Triangles.length : Int) - 0).toNat + 1) 0 ([] : (List (Gedge × List Int))) ([] : List Gedge))

theorem loT1_st (m : GMesh) (k : Nat) (i : Int) (b : List (Gedge × List Int)) (l : List Gedge) (h0 : 0 ≤ i) : lo_impl_trianglesByEdge_1 m (k + 1) i b l = cond (decide (i < (m.Triangles.length : Int))) (lo_impl_trianglesByEdge_1 m k (i + 1) (stT (b, l) (m.Triangles.getD i.toNat default) i).1 (stT (b, l) (m.Triangles.getD i.toNat default) i).2) (b, l) := by
  have st : ∀ (x : Int) (k : Nat) (b : List (Gedge × List Int)) (l : List Gedge), x < 3 → lo_impl_trianglesByEdge_2 m i b l (k + 1) x b l = lo_impl_trianglesByEdge_2 m i b l (k + 1) x b l := fun _ _ _ _ _ => rfl
  have one : ∀ (b0 : List (Gedge × List Int)) (l0 : List Gedge) (k : Nat) (x : Int) (s : List (Gedge × List Int) × List Gedge), x < 3 → lo_impl_trianglesByEdge_2 m i b0 l0 (k + 1) x s.1 s.2 = lo_impl_trianglesByEdge_2 m i b0 l0 k (x + 1) (stE s (nd_impl_trianglesByEdge_0 m i x) i).1 (stE s (nd_impl_trianglesByEdge_0 m i x) i).2 := by
    intro b0 l0 k x s hx
    rw [lo_impl_trianglesByEdge_2, decide_eq_true hx, cond_true]
    unfold stE
    cases mhas s.1 (nd_impl_trianglesByEdge_0 m i x) with
    | true =>
      rw [cond_true, cond_true]
      cases (((s.1.getD (midx s.1 (nd_impl_trianglesByEdge_0 m i x)) default).2.length : Int) == 0) <;> rfl
    | false => rfl
  have tri : lr_impl_trianglesByEdge_2_0 m i b l = stT (b, l) (m.Triangles.getD i.toNat default) i := by
    unfold lr_impl_trianglesByEdge_2_0
    show lo_impl_trianglesByEdge_2 m i b l 4 0 (b, l).1 (b, l).2 = _
    rw [one b l 3 0 (b, l) (by omega), one b l 2 (0 + 1) _ (by omega), one b l 1 (0 + 1 + 1) _ (by omega), lo_impl_trianglesByEdge_2]
    show cond (decide ((3 : Int) < 3)) _ _ = _
    rw [decide_eq_false (by omega), cond_false]
    unfold nd_impl_trianglesByEdge_0 stT
    simp only [edgeOf_eq]
    rfl
  rw [lo_impl_trianglesByEdge_1, tri]
theorem etab_is (m : GMesh) (ok : OkE m.Places.length m.Triangles) : ETab m.Triangles m.Triangles.length (lr_impl_trianglesByEdge_1_1 m) := by
  unfold lr_impl_trianglesByEdge_1_1
  exact ETab.loop ok (loT1_st m) _ 0 ([], []) (Nat.zero_le _) (ETab.nil _) (by omega)
theorem loTE_len (m : GMesh) (ok : OkE m.Places.length m.Triangles) : (lr_impl_trianglesByEdge_1_1 m).2.length ≤ 4096 := by
  have h := congrArg List.length ((etab_is m ok).sorted ok)
  rw [length_sortE] at h
  rw [h]; exact edgL_len ok

end Go.Ab
namespace Go.Proofs
open Go.Shelf
def Try.laysF0n6_ren : Go.Shelf.Ren := ⟨fun | 6 => 114 | 15 => 128 | 14 => 140 | 28 => 154 | 29 => 155 | 20 => 158 | 21 => 159 | 22 => 160 | 23 => 161 | 24 => 162 | 25 => 163 | 26 => 164 | 27 => 165 | 46 => 174 | 47 => 169 | 48 => 170 | 49 => 175 | 50 => 176 | 57 => 178 | n => n, fun | 22 => 95 | 24 => 100 | 25 => 144 | 3 => 3 | 39 => 153 | 0 => 0 | 53 => 177 | 55 => 179 | 4 => 4 | 46 => 169 | 45 => 168 | 50 => 174 | 5 => 5 | 9 => 9 | 66 => 186 | 70 => 190 | 76 => 195 | 77 => 196 | n => n, fun | n => n⟩
theorem Try.laysF0n6 : Go.Proofs.SlLaysF0.n6 Try.prog Try.laysF0n6_ren := {
  mixed := by kernel_rfl
  f6 := ⟨Try.f114.name, by decide, Try.func114.trans (congrArg some (by kernel_rfl))⟩
  f14 := ⟨Try.f140.name, by decide, Try.func140.trans (congrArg some (by kernel_rfl))⟩
  f15 := Try.func128.trans (congrArg some (by kernel_rfl))
  f20 := ⟨Try.f158.name, by decide, Try.func158.trans (congrArg some (by kernel_rfl))⟩
  f21 := ⟨Try.f159.name, by decide, Try.func159.trans (congrArg some (by kernel_rfl))⟩
  f22 := ⟨Try.f160.name, by decide, Try.func160.trans (congrArg some (by kernel_rfl))⟩
  f23 := ⟨Try.f161.name, by decide, Try.func161.trans (congrArg some (by kernel_rfl))⟩
  f24 := ⟨Try.f162.name, by decide, Try.func162.trans (congrArg some (by kernel_rfl))⟩
  f25 := ⟨Try.f163.name, by decide, Try.func163.trans (congrArg some (by kernel_rfl))⟩
  f26 := ⟨Try.f164.name, by decide, Try.func164.trans (congrArg some (by kernel_rfl))⟩
  f27 := ⟨Try.f165.name, by decide, Try.func165.trans (congrArg some (by kernel_rfl))⟩
  f28 := Try.func154.trans (congrArg some (by kernel_rfl))
  f29 := Try.func155.trans (congrArg some (by kernel_rfl))
  f46 := ⟨Try.f174.name, by decide, Try.func174.trans (congrArg some (by kernel_rfl))⟩
  f47 := Try.func169.trans (congrArg some (by kernel_rfl))
  f48 := Try.func170.trans (congrArg some (by kernel_rfl))
  f49 := ⟨Try.f175.name, by decide, Try.func175.trans (congrArg some (by kernel_rfl))⟩
  f50 := ⟨Try.f176.name, by decide, Try.func176.trans (congrArg some (by kernel_rfl))⟩
  f57 := ⟨Try.f178.name, by decide, Try.func178.trans (congrArg some (by kernel_rfl))⟩
  t0 := Try.underlying0
  a0 := Try.isAgg0
  z0 := Try.sizeOf0
  v0 := Try.zeroValue0
  t3 := Try.underlying3
  a3 := Try.isAgg3
  z3 := Try.sizeOf3
  v3 := Try.zeroValue3
  t4 := Try.underlying4
  a4 := Try.isAgg4
  z4 := Try.sizeOf4
  v4 := Try.zeroValue4
  t5 := Try.underlying5
  a5 := Try.isAgg5
  z5 := Try.sizeOf5
  v5 := Try.zeroValue5
  t9 := Try.underlying9
  a9 := Try.isAgg9
  z9 := Try.sizeOf9
  v9 := Try.zeroValue9
  t22 := Try.underlying95
  a22 := Try.isAgg95
  z22 := Try.sizeOf95
  v22 := Try.zeroValue95
  t25 := Try.underlying144
  a25 := Try.isAgg144
  z25 := Try.sizeOf144
  v25 := Try.zeroValue144
  t39 := Try.underlying153
  a39 := Try.isAgg153
  z39 := Try.sizeOf153
  v39 := Try.zeroValue153
  t45 := Try.underlying168
  a45 := Try.isAgg168
  z45 := Try.sizeOf168
  v45 := Try.zeroValue168
  t46 := Try.underlying169
  a46 := Try.isAgg169
  z46 := Try.sizeOf169
  v46 := Try.zeroValue169
  t50 := Try.underlying174
  a50 := Try.isAgg174
  z50 := Try.sizeOf174
  v50 := Try.zeroValue174
  t53 := Try.underlying177
  a53 := Try.isAgg177
  z53 := Try.sizeOf177
  v53 := Try.zeroValue177
  t55 := Try.underlying179
  a55 := Try.isAgg179
  z55 := Try.sizeOf179
  v55 := Try.zeroValue179
  t66 := Try.underlying186
  a66 := Try.isAgg186
  z66 := Try.sizeOf186
  v66 := Try.zeroValue186
  t70 := Try.underlying190
  a70 := Try.isAgg190
  z70 := Try.sizeOf190
  v70 := Try.zeroValue190
  t76 := Try.underlying195
  a76 := Try.isAgg195
  z76 := Try.sizeOf195
  v76 := Try.zeroValue195
  t77 := Try.underlying196
  a77 := Try.isAgg196
  z77 := Try.sizeOf196
  v77 := Try.zeroValue196 }
end Go.Proofs
namespace Go.Ab
open Go.RowKit Go.Proofs.Try

theorem v_cmpC (x y : Int) : v_cmp_Compare_int64_ x y = if x < y then -1 else if x > y then 1 else 0 := by
  unfold v_cmp_Compare_int64_ v_cmp_isNaN_int64_
  simp only [bne_self_eq_false, cond_false]
  by_cases h1 : x < y
  · simp [h1]
  · by_cases h2 : x > y <;> simp [h1, h2]

theorem v_cmpE (a b : Gedge) : v_impl_compareEdges a b = cmpP a.pr b.pr := by
  unfold v_impl_compareEdges v_slices_Compare___int64_int64_ lr_slices_Compare___int64_int64__1_0 cmpP Gedge.pr
  show (match lo_slices_Compare___int64_int64__1 [a.e0, a.e1] [b.e0, b.e1] 3 0 with | .inl r1 => r1 | .inr r1 => cond (decide (((2 : Nat) : Int) < ((2 : Nat) : Int))) (-1) 0) = _
  simp only [lo_slices_Compare___int64_int64__1, v_cmpC, List.length_cons, List.length_nil]
  by_cases h1 : a.e0 < b.e0
  · simp [h1]
  · by_cases h2 : a.e0 > b.e0
    · simp [h1, h2]
    · by_cases h3 : a.e1 < b.e1
      · simp [h1, h2, h3]
      · by_cases h4 : a.e1 > b.e1 <;> simp [h1, h2, h3, h4]

def sort_impl_compareEdges (l : List Gedge) : List Gedge := sortE Gedge.pr l

theorem t_sort_impl_compareEdges (l : List Gedge) (h : l.length ≤ 1073741824) : CallSt prog 114 [.vec 100 2 (l.map Gedge.cells) false] [.own 0, .fn 115 []] (.tup []) [.vec 100 2 ((sort_impl_compareEdges l).map Gedge.cells) false] :=
  sort_row laysF0n6 isAgg100 sizeOf100 Gedge.pr Gedge.inj Gedge.cells (fun _ => rfl) 100 115 ⟨_, func114, rfl, by kernel_rfl⟩ (t_impl_compareEdges default default).1
    (fun a b W => ((t_impl_compareEdges a b).2 W #[keyV a.pr, keyV b.pr] ⟨rfl, fun j c e => by match j, e with | 0, e => cases e; exact Rep.agg _ _ rfl (fun i c e => by match i, e with | 0, e => cases e; exact .i _ _ | 1, e => cases e; exact .i _ _) | 1, e => cases e; exact Rep.agg _ _ rfl (fun i c e => by match i, e with | 0, e => cases e; exact .i _ _ | 1, e => cases e; exact .i _ _)⟩).mono fun e w' ⟨v, μ', he, hb, _, hr⟩ => by
      cases hr; rw [v_cmpE] at he; exact ⟨he, hb⟩) l h

def v_impl_trianglesByEdge (m_0 : GMesh) : (List (Gedge × List Int)) × (List Gedge) := ((lr_impl_trianglesByEdge_1_1 m_0).1, (sort_impl_compareEdges ((lr_impl_trianglesByEdge_1_1 m_0).2)))

theorem edges_eq (m : GMesh) (ok : OkE m.Places.length m.Triangles) : (v_impl_trianglesByEdge m).2 = edgL m.Places.length m.Triangles := (etab_is m ok).sorted ok
theorem edges_at (m : GMesh) (ok : OkE m.Places.length m.Triangles) {e : Gedge} (he : e ∈ (v_impl_trianglesByEdge m).2) : mhas (v_impl_trianglesByEdge m).1 e = true ∧ ((v_impl_trianglesByEdge m).1.getD (midx (v_impl_trianglesByEdge m).1 e) default).2 = idxP m.Triangles e.e0 e.e1 := by
  rw [edges_eq m ok] at he
  have h := (etab_is m ok).at ok he
  exact ⟨h.1, h.2.trans (idxE_eq ok (mem_edgL.1 he).1.2.1)⟩
theorem edges_len (m : GMesh) (ok : OkE m.Places.length m.Triangles) : (v_impl_trianglesByEdge m).2.length ≤ 4096 := by
  rw [edges_eq m ok]; exact edgL_len ok
theorem edges_mem (m : GMesh) (ok : OkE m.Places.length m.Triangles) {i : Int} (h0 : 0 ≤ i) (hi : i < ((v_impl_trianglesByEdge m).2.length : Int)) : (v_impl_trianglesByEdge m).2.getD i.toNat default ∈ (v_impl_trianglesByEdge m).2 := by
  have hn : i.toNat < (v_impl_trianglesByEdge m).2.length := by omega
  rw [List.getD_eq_getElem?_getD, List.getElem?_eq_getElem hn]; exact List.getElem_mem hn
theorem edges_nth (m : GMesh) (ok : OkE m.Places.length m.Triangles) {i : Int} (h0 : 0 ≤ i) (hi : i < ((v_impl_trianglesByEdge m).2.length : Int)) :
    0 ≤ ((v_impl_trianglesByEdge m).2.getD i.toNat default).e0 ∧ ((v_impl_trianglesByEdge m).2.getD i.toNat default).e0 < ((v_impl_trianglesByEdge m).2.getD i.toNat default).e1 ∧ ((v_impl_trianglesByEdge m).2.getD i.toNat default).e1 < (m.Places.length : Int) ∧ (m.Places.length : Int) ≤ 64 ∧ ((v_impl_trianglesByEdge m).2.length : Int) ≤ 4096 := by
  have hl := edges_len m ok
  have h64 := ok.1
  have hm := edges_mem m ok h0 hi
  rw [edges_eq m ok] at hm
  have hb := edgL_at hm
  rw [← edges_eq m ok] at hb
  exact ⟨hb.1, hb.2.1, hb.2.2, by omega, by omega⟩
theorem hg_at (m : GMesh) (ok : OkE m.Places.length m.Triangles) {i : Int} (h0 : 0 ≤ i) (hi : i < ((v_impl_trianglesByEdge m).2.length : Int))
    (h2 : ((((v_impl_trianglesByEdge m).1.getD (midx (v_impl_trianglesByEdge m).1 ((v_impl_trianglesByEdge m).2.getD i.toNat default)) default).2.length : Int)) = 2) :
    0 ≤ ((v_impl_trianglesByEdge m).1.getD (midx (v_impl_trianglesByEdge m).1 ((v_impl_trianglesByEdge m).2.getD i.toNat default)) default).2.getD 0 default ∧ ((v_impl_trianglesByEdge m).1.getD (midx (v_impl_trianglesByEdge m).1 ((v_impl_trianglesByEdge m).2.getD i.toNat default)) default).2.getD 0 default < (m.Triangles.length : Int) ∧
    0 ≤ ((v_impl_trianglesByEdge m).1.getD (midx (v_impl_trianglesByEdge m).1 ((v_impl_trianglesByEdge m).2.getD i.toNat default)) default).2.getD 1 default ∧ ((v_impl_trianglesByEdge m).1.getD (midx (v_impl_trianglesByEdge m).1 ((v_impl_trianglesByEdge m).2.getD i.toNat default)) default).2.getD 1 default < (m.Triangles.length : Int) ∧ (m.Triangles.length : Int) ≤ 128 := by
  obtain ⟨g1, g2⟩ := edges_at m ok (edges_mem m ok h0 hi)
  rw [g2] at h2 ⊢
  have a1 := idxP_at (ts := m.Triangles) (a := ((v_impl_trianglesByEdge m).2.getD i.toNat default).e0) (b := ((v_impl_trianglesByEdge m).2.getD i.toNat default).e1) (k := 0) (by omega)
  have a2 := idxP_at (ts := m.Triangles) (a := ((v_impl_trianglesByEdge m).2.getD i.toNat default).e0) (b := ((v_impl_trianglesByEdge m).2.getD i.toNat default).e1) (k := 1) (by omega)
  have := ok.2.1
  exact ⟨a1.1, a1.2.1, a2.1, a2.2.1, by omega⟩

theorem t_impl_trianglesByEdge (m_0 : GMesh) (hp0 : m_0.Places.length ≤ 1073741824) (hp1 : m_0.Triangles.length ≤ 1073741824) (hp2 : ∀ t ∈ m_0.Triangles, t.length ≤ 1073741824) (hp3 : OkE m_0.Places.length m_0.Triangles)  : Fn prog 66 [.agg [.sl (m_0.Places.map GVector.cells), .sl (m_0.Triangles.map (cL (cI .i64)))]] (.tup [.mp 0, .own 1]) [.mapN 2 (mapC Gedge.pr (cI .i64) ((v_impl_trianglesByEdge m_0).1)) none, .vec 100 2 (((v_impl_trianglesByEdge m_0).2).map Gedge.cells) false] := by
 have y0 : ((lr_impl_trianglesByEdge_1_1 m_0).2).length ≤ 1073741824 := (by first | assumption | omega | (first | (have g5 := of_decide_eq_true hf_impl_trianglesByEdge_2_0; have q := OkE.at hp3 hv_impl_trianglesByEdge_1_0 g5 hv_impl_trianglesByEdge_2_0 (of_decide_eq_true (by assumption)); first | omega | (simp only [List.length_append, List.length_cons, List.length_nil]; omega) | (have q3 := mlen_leI (N := 3 * x_l0 + x_l0_1) (by omega) (by assumption) (midx r1_l1_1 (nd_impl_trianglesByEdge_0 m_0 x_l0 x_l0_1)); simp only [List.length_cons, List.length_nil]; omega)) | (have := hp3.2.1; omega) | (have q := loTE_len m_0 hp3; omega)) | (simp_all <;> omega))
 refine fnS E0Ok hMixed (c := bodyOf f66) [] (.tup [.mp 0, .own 1]) [.mapN 2 (mapC Gedge.pr (cI .i64) ((lr_impl_trianglesByEdge_1_1 m_0).1)) none, .vec 100 2 ((sort_impl_compareEdges ((lr_impl_trianglesByEdge_1_1 m_0).2)).map Gedge.cells) false] func66 (sZ (cL (cI .i64)) m_0.Triangles <| sL mk_impl_trianglesByEdge_1_0 3 (lp_cast (st2 := ⟨[.agg [.sl (m_0.Places.map GVector.cells), .sl (m_0.Triangles.map (cL (cI .i64)))], .ptr 0 0 0, .any, .nils, .mp 1, .own 2, .any, .any, .any, .any, .mp 1, .any, .ptr 0 0 1, .sl (m_0.Triangles.map (cL (cI .i64))), .i .i64 (m_0.Triangles.length : Int), .i .i64 0, .any, .any, .any, .any, .any, .any, .any, .any, .any, .any, .any, .any, .any, .any, .any, .any, .any, .any, .any, .any, .any, .any, .any, .any, .any, .any, .any, .any, .any, .any, .any, .any, .any, .any, .any, .any, .any, .any, .any, .any, .any], [.box 31 [.sl (m_0.Places.map GVector.cells), .sl (m_0.Triangles.map (cL (cI .i64)))], .mapN 2 [] none, .vec 100 2 ([] : List (List AV)) false]⟩) (lp_val (ls_impl_trianglesByEdge_1 m_0) (x := (lr_impl_trianglesByEdge_1_1 m_0)) (lp_impl_trianglesByEdge_1 m_0 hp0 hp1 hp2 hp3 (((m_0.Triangles.length : Int) - 0).toNat + 1) 0 ([] : (List (Gedge × List Int))) ([] : List Gedge) (show 0 ≤ 0 from (by first | omega | (simp; done) | (intro y hy; have q := hv_impl_trianglesByEdge_1_2 y hy; omega))) (show (([] : List Gedge).length : Int) ≤ 3 * 0 from (by first | omega | (simp; done) | (intro y hy; have q := hv_impl_trianglesByEdge_1_2 y hy; omega))) (show ∀ y ∈ ([] : (List (Gedge × List Int))), (y.2.length : Int) ≤ 3 * 0 from (by first | omega | (simp; done) | (intro y hy; have q := hv_impl_trianglesByEdge_1_2 y hy; omega))) (Nat.lt_succ_self _)) rfl) (by simp [hd_impl_trianglesByEdge_1, mapC, Gedge.cells])) <| sS (CallSt.frame (t_sort_impl_compareEdges ((lr_impl_trianglesByEdge_1_1 m_0).2) y0) [2] (R := [.box 31 [.sl (m_0.Places.map GVector.cells), .sl (m_0.Triangles.map (cL (cI .i64)))], .mapN 2 (mapC Gedge.pr (cI .i64) ((lr_impl_trianglesByEdge_1_1 m_0).1)) none, .vec 100 2 (((lr_impl_trianglesByEdge_1_1 m_0).2).map Gedge.cells) false]) (args' := [.own 2, .fn 115 []]) rfl rfl rfl rfl rfl rfl) <| sK [1, 2] sN) rfl (by kernel_rfl) (by kernel_rfl) rfl ?_ ?_
 · rfl
 · simp [v_impl_trianglesByEdge]

def lo_impl_NeighboursOf_1 (m_0 : GMesh) (place_1 : Int) : Nat → Int → (List Int) → (List Int)
  | 0, _, _ => default
  | k + 1, x_l0, r1_l1 => (cond (decide (x_l0 < (((v_impl_trianglesByEdge m_0).2).length : Int)))
    (cond ((((v_impl_trianglesByEdge m_0).2).getD x_l0.toNat default).e0 == place_1)
      (cond ((((v_impl_trianglesByEdge m_0).2).getD x_l0.toNat default).e1 == place_1)
        (lo_impl_NeighboursOf_1 m_0 place_1 k (x_l0 + 1) ((r1_l1 ++ [(((v_impl_trianglesByEdge m_0).2).getD x_l0.toNat default).e1]) ++ [(((v_impl_trianglesByEdge m_0).2).getD x_l0.toNat default).e0]))
        (lo_impl_NeighboursOf_1 m_0 place_1 k (x_l0 + 1) (r1_l1 ++ [(((v_impl_trianglesByEdge m_0).2).getD x_l0.toNat default).e1])))
      (cond ((((v_impl_trianglesByEdge m_0).2).getD x_l0.toNat default).e1 == place_1)
        (lo_impl_NeighboursOf_1 m_0 place_1 k (x_l0 + 1) (r1_l1 ++ [(((v_impl_trianglesByEdge m_0).2).getD x_l0.toNat default).e0]))
        (lo_impl_NeighboursOf_1 m_0 place_1 k (x_l0 + 1) r1_l1)))
    r1_l1)

def ls_impl_NeighboursOf_1 (m_0 : GMesh) (place_1 : Int) (r : (List Int)) : Ex × St := ((.exit 0), ⟨[.agg [.sl (m_0.Places.map GVector.cells), .sl (m_0.Triangles.map (cL (cI .i64)))], .i .i64 place_1, .ptr 0 0 0, .any, .nils, .b false, .own 1, .any, .own 2, .any, .any, .agg [.sl (m_0.Places.map GVector.cells), .sl (m_0.Triangles.map (cL (cI .i64)))], .i .i64 place_1, .b (v_impl_isPlaceOf m_0 place_1), .b (!(v_impl_isPlaceOf m_0 place_1)), .any, .any, .agg [.sl (m_0.Places.map GVector.cells), .sl (m_0.Triangles.map (cL (cI .i64)))], .any, .mp 3, .own 2, .own 2, .any, .any, .any, .any, .any, .any, .any, .any, .any, .any, .any, .any, .any, .any, .any, .any, .any, .any, .any, .any, .any, .any, .any, .any, .any, .any, .any], [.box 31 [.sl (m_0.Places.map GVector.cells), .sl (m_0.Triangles.map (cL (cI .i64)))], .vec 2 1 (r.map (cI .i64)) false, .vec 100 2 (((v_impl_trianglesByEdge m_0).2).map Gedge.cells) false, .mapN 2 (mapC Gedge.pr (cI .i64) ((v_impl_trianglesByEdge m_0).1)) none]⟩)

def hd_impl_NeighboursOf_1 (m_0 : GMesh) (place_1 : Int) (x_l0 : Int) (r1_l1 : (List Int)) : St := ⟨[.agg [.sl (m_0.Places.map GVector.cells), .sl (m_0.Triangles.map (cL (cI .i64)))], .i .i64 place_1, .ptr 0 0 0, .any, .nils, .b false, .own 1, .any, .own 3, .any, .any, .agg [.sl (m_0.Places.map GVector.cells), .sl (m_0.Triangles.map (cL (cI .i64)))], .i .i64 place_1, .b (v_impl_isPlaceOf m_0 place_1), .b (!(v_impl_isPlaceOf m_0 place_1)), .any, .any, .agg [.sl (m_0.Places.map GVector.cells), .sl (m_0.Triangles.map (cL (cI .i64)))], .any, .mp 2, .own 3, .own 3, .i .i64 (((v_impl_trianglesByEdge m_0).2).length : Int), .i .i64 x_l0, .any, .any, .any, .any, .any, .any, .any, .any, .any, .any, .any, .any, .any, .any, .any, .any, .any, .any, .any, .any, .any, .any, .any, .any, .any], [.box 31 [.sl (m_0.Places.map GVector.cells), .sl (m_0.Triangles.map (cL (cI .i64)))], .vec 2 1 (r1_l1.map (cI .i64)) false, .mapN 2 (mapC Gedge.pr (cI .i64) ((v_impl_trianglesByEdge m_0).1)) none, .vec 100 2 (((v_impl_trianglesByEdge m_0).2).map Gedge.cells) false]⟩

def mk_impl_NeighboursOf_1_0 : List Bool := [true, true, true, false, true, true, true, false, true, false, false, true, true, true, true, false, false, true, false, true, true, true, true, true, false, false, false, false, false, false, false, false, false, false, false, false, false, false, false, false, false, false, false, false, false, false, false, false, false]

def mk_impl_NeighboursOf_1_1 : List Bool := [true, true, true, false, true, true, true, false, true, false, false, true, true, true, true, false, false, true, false, true, true, true, false, false, false, false, false, false, false, false, false, false, false, false, false, false, false, false, false, false, false, false, false, false, false, false, false, false, false]

theorem lp_impl_NeighboursOf_1 (m_0 : GMesh) (place_1 : Int) (hp0 : m_0.Places.length ≤ 1073741824) (hp1 : m_0.Triangles.length ≤ 1073741824) (hp2 : ∀ t ∈ m_0.Triangles, t.length ≤ 1073741824) (hf_impl_NeighboursOf_1_0 : (v_impl_isPlaceOf m_0 place_1) = true) : ∀ (k : Nat) (x_l0 : Int) (r1_l1 : (List Int)) (hv_impl_NeighboursOf_1_0 : 0 ≤ x_l0) (hv_impl_NeighboursOf_1_1 : (r1_l1.length : Int) ≤ 2 * x_l0) (hk : ((((v_impl_trianglesByEdge m_0).2).length : Int) - x_l0).toNat < k), Lp prog 0 (sub (bodyOf f34) [1, 1, 1, 1, 0, 1, 0, 0]) (hd_impl_NeighboursOf_1 m_0 place_1 x_l0 r1_l1) (ls_impl_NeighboursOf_1 m_0 place_1 (lo_impl_NeighboursOf_1 m_0 place_1 k x_l0 r1_l1)).1 (ls_impl_NeighboursOf_1 m_0 place_1 (lo_impl_NeighboursOf_1 m_0 place_1 k x_l0 r1_l1)).2 := by
 intro k
 induction k with
 | zero => intro x_l0 r1_l1 hv_impl_NeighboursOf_1_0 hv_impl_NeighboursOf_1_1 hk; exact absurd hk (Nat.not_lt_zero _)
 | succ k ih =>
  intro x_l0 r1_l1 hv_impl_NeighboursOf_1_0 hv_impl_NeighboursOf_1_1 hk
  cases h_0 : (decide (x_l0 < (((v_impl_trianglesByEdge m_0).2).length : Int))) with
  | true =>
   have gh_0 := of_decide_eq_true h_0
   have y_0 : (0 : Int) ≤ x_l0 := (by first | assumption | omega | (first | (have q := edges_nth m_0 (okE_is _ (isPlaceOf_ok _ _ (by assumption))) hv_impl_NeighboursOf_1_0 (of_decide_eq_true (by assumption)); first | omega | (simp only [List.length_append, List.length_cons, List.length_nil]; omega)) | (have q := edges_len m_0 (okE_is _ (isPlaceOf_ok _ _ (by assumption))); omega) | (have q := nb_len m_0 place_1; have q2 := edges_len m_0 (okE_is _ (isPlaceOf_ok _ _ (by assumption))); omega)) | (simp_all <;> omega))
   have y_1 : x_l0 < (((v_impl_trianglesByEdge m_0).2).length : Int) := (by first | assumption | omega | (first | (have q := edges_nth m_0 (okE_is _ (isPlaceOf_ok _ _ (by assumption))) hv_impl_NeighboursOf_1_0 (of_decide_eq_true (by assumption)); first | omega | (simp only [List.length_append, List.length_cons, List.length_nil]; omega)) | (have q := edges_len m_0 (okE_is _ (isPlaceOf_ok _ _ (by assumption))); omega) | (have q := nb_len m_0 place_1; have q2 := edges_len m_0 (okE_is _ (isPlaceOf_ok _ _ (by assumption))); omega)) | (simp_all <;> omega))
   have y_2 : x_l0.toNat < ((v_impl_trianglesByEdge m_0).2).length := (by first | assumption | omega | (first | (have q := edges_nth m_0 (okE_is _ (isPlaceOf_ok _ _ (by assumption))) hv_impl_NeighboursOf_1_0 (of_decide_eq_true (by assumption)); first | omega | (simp only [List.length_append, List.length_cons, List.length_nil]; omega)) | (have q := edges_len m_0 (okE_is _ (isPlaceOf_ok _ _ (by assumption))); omega) | (have q := nb_len m_0 place_1; have q2 := edges_len m_0 (okE_is _ (isPlaceOf_ok _ _ (by assumption))); omega)) | (simp_all <;> omega))
   have p {a C} (s : Scr a C) := sB h_0 <| sX Gedge.cells ((v_impl_trianglesByEdge m_0).2) x_l0 y_0 y_1 <| sV Gedge.cells ((v_impl_trianglesByEdge m_0).2) x_l0.toNat y_2 <| sC (show (0 : Int) ≤ 0 ∧ 0 < ((2 : Nat) : Int) from (by decide)) <| s
   cases h_1 : ((((v_impl_trianglesByEdge m_0).2).getD x_l0.toNat default).e0 == place_1) with
   | true =>
    have gh_1 := eq_of_beq h_1
    have y_3 : r1_l1.length + ([(((v_impl_trianglesByEdge m_0).2).getD x_l0.toNat default).e1]).length ≤ 1073741824 := by clear p; exact (by first | assumption | omega | (first | (have q := edges_nth m_0 (okE_is _ (isPlaceOf_ok _ _ (by assumption))) hv_impl_NeighboursOf_1_0 (of_decide_eq_true (by assumption)); first | omega | (simp only [List.length_append, List.length_cons, List.length_nil]; omega)) | (have q := edges_len m_0 (okE_is _ (isPlaceOf_ok _ _ (by assumption))); omega) | (have q := nb_len m_0 place_1; have q2 := edges_len m_0 (okE_is _ (isPlaceOf_ok _ _ (by assumption))); omega)) | (simp_all <;> omega))
    have q {a C} (s : Scr a C) := p (sB h_1 <| sC (show (0 : Int) ≤ 1 ∧ 1 < ((2 : Nat) : Int) from (by decide)) <| sC (show (r1_l1.map (cI .i64)).length + ([[.i .i64 ((((v_impl_trianglesByEdge m_0).2).getD x_l0.toNat default).e1)]] : List (List AV)).length ≤ 1073741824 from (by simpa using y_3)) <| sC (show (0 : Int) ≤ 1 ∧ 1 < ((2 : Nat) : Int) from (by decide)) <| s)
    clear p
    cases h_2 : ((((v_impl_trianglesByEdge m_0).2).getD x_l0.toNat default).e1 == place_1) with
    | true =>
     have gh_2 := eq_of_beq h_2
     have y_4 : (r1_l1 ++ [(((v_impl_trianglesByEdge m_0).2).getD x_l0.toNat default).e1]).length + ([(((v_impl_trianglesByEdge m_0).2).getD x_l0.toNat default).e0]).length ≤ 1073741824 := by clear q; exact (by first | assumption | omega | (first | (have q := edges_nth m_0 (okE_is _ (isPlaceOf_ok _ _ (by assumption))) hv_impl_NeighboursOf_1_0 (of_decide_eq_true (by assumption)); first | omega | (simp only [List.length_append, List.length_cons, List.length_nil]; omega)) | (have q := edges_len m_0 (okE_is _ (isPlaceOf_ok _ _ (by assumption))); omega) | (have q := nb_len m_0 place_1; have q2 := edges_len m_0 (okE_is _ (isPlaceOf_ok _ _ (by assumption))); omega)) | (simp_all <;> omega))
     have y_5 : (-9223372036854775808 : Int) ≤ (x_l0 + 1) := by clear q; exact (by first | assumption | omega | (first | (have q := edges_nth m_0 (okE_is _ (isPlaceOf_ok _ _ (by assumption))) hv_impl_NeighboursOf_1_0 (of_decide_eq_true (by assumption)); first | omega | (simp only [List.length_append, List.length_cons, List.length_nil]; omega)) | (have q := edges_len m_0 (okE_is _ (isPlaceOf_ok _ _ (by assumption))); omega) | (have q := nb_len m_0 place_1; have q2 := edges_len m_0 (okE_is _ (isPlaceOf_ok _ _ (by assumption))); omega)) | (simp_all <;> omega))
     have y_6 : (x_l0 + 1) ≤ (9223372036854775807 : Int) := by clear q; exact (by first | assumption | omega | (first | (have q := edges_nth m_0 (okE_is _ (isPlaceOf_ok _ _ (by assumption))) hv_impl_NeighboursOf_1_0 (of_decide_eq_true (by assumption)); first | omega | (simp only [List.length_append, List.length_cons, List.length_nil]; omega)) | (have q := edges_len m_0 (okE_is _ (isPlaceOf_ok _ _ (by assumption))); omega) | (have q := nb_len m_0 place_1; have q2 := edges_len m_0 (okE_is _ (isPlaceOf_ok _ _ (by assumption))); omega)) | (simp_all <;> omega))
     have e : lo_impl_NeighboursOf_1 m_0 place_1 (k + 1) x_l0 r1_l1 = (lo_impl_NeighboursOf_1 m_0 place_1 k (x_l0 + 1) ((r1_l1 ++ [(((v_impl_trianglesByEdge m_0).2).getD x_l0.toNat default).e1]) ++ [(((v_impl_trianglesByEdge m_0).2).getD x_l0.toNat default).e0])) := by simp only [lo_impl_NeighboursOf_1, h_0, h_1, h_2, cond_true]
     rw [e]
     exact nextS E0Ok hMixed [] mk_impl_NeighboursOf_1_0 [0, 1, 2, 3] (⟨[.agg [.sl (m_0.Places.map GVector.cells), .sl (m_0.Triangles.map (cL (cI .i64)))], .i .i64 place_1, .ptr 0 0 0, .any, .nils, .b false, .own 1, .any, .own 3, .any, .any, .agg [.sl (m_0.Places.map GVector.cells), .sl (m_0.Triangles.map (cL (cI .i64)))], .i .i64 place_1, .b (v_impl_isPlaceOf m_0 place_1), .b (!(v_impl_isPlaceOf m_0 place_1)), .any, .any, .agg [.sl (m_0.Places.map GVector.cells), .sl (m_0.Triangles.map (cL (cI .i64)))], .any, .mp 2, .own 3, .own 3, .i .i64 (((v_impl_trianglesByEdge m_0).2).length : Int), .i .i64 (x_l0 + 1), .any, .any, .any, .any, .any, .any, .any, .any, .any, .any, .any, .any, .any, .any, .any, .any, .any, .any, .any, .any, .any, .any, .any, .any, .any], [.box 31 [.sl (m_0.Places.map GVector.cells), .sl (m_0.Triangles.map (cL (cI .i64)))], .vec 2 1 (((r1_l1.map (cI .i64)) ++ ([[.i .i64 ((((v_impl_trianglesByEdge m_0).2).getD x_l0.toNat default).e1)]] : List (List AV))) ++ ([[.i .i64 ((((v_impl_trianglesByEdge m_0).2).getD x_l0.toNat default).e0)]] : List (List AV))) false, .mapN 2 (mapC Gedge.pr (cI .i64) ((v_impl_trianglesByEdge m_0).1)) none, .vec 100 2 (((v_impl_trianglesByEdge m_0).2).map Gedge.cells) false]⟩) (q (sB h_2 <| sC (show (0 : Int) ≤ 0 ∧ 0 < ((2 : Nat) : Int) from (by decide)) <| sC (show ((r1_l1.map (cI .i64)) ++ ([[.i .i64 ((((v_impl_trianglesByEdge m_0).2).getD x_l0.toNat default).e1)]] : List (List AV))).length + ([[.i .i64 ((((v_impl_trianglesByEdge m_0).2).getD x_l0.toNat default).e0)]] : List (List AV)).length ≤ 1073741824 from (by simpa using y_4)) <| sI (x_l0 + 1) y_5 y_6 <| sN)) (by kernel_rfl) (show _ = ⟨[.agg [.sl (m_0.Places.map GVector.cells), .sl (m_0.Triangles.map (cL (cI .i64)))], .i .i64 place_1, .ptr 0 0 0, .any, .nils, .b false, .own 1, .any, .own 3, .any, .any, .agg [.sl (m_0.Places.map GVector.cells), .sl (m_0.Triangles.map (cL (cI .i64)))], .i .i64 place_1, .b (v_impl_isPlaceOf m_0 place_1), .b (!(v_impl_isPlaceOf m_0 place_1)), .any, .any, .agg [.sl (m_0.Places.map GVector.cells), .sl (m_0.Triangles.map (cL (cI .i64)))], .any, .mp 2, .own 3, .own 3, .i .i64 (((v_impl_trianglesByEdge m_0).2).length : Int), .i .i64 (x_l0 + 1), .any, .any, .any, .any, .any, .any, .any, .any, .any, .any, .any, .any, .any, .any, .any, .any, .any, .any, .any, .any, .any, .any, .any, .any, .any], [.box 31 [.sl (m_0.Places.map GVector.cells), .sl (m_0.Triangles.map (cL (cI .i64)))], .vec 2 1 (((r1_l1 ++ [(((v_impl_trianglesByEdge m_0).2).getD x_l0.toNat default).e1]) ++ [(((v_impl_trianglesByEdge m_0).2).getD x_l0.toNat default).e0]).map (cI .i64)) false, .mapN 2 (mapC Gedge.pr (cI .i64) ((v_impl_trianglesByEdge m_0).1)) none, .vec 100 2 (((v_impl_trianglesByEdge m_0).2).map Gedge.cells) false]⟩ from (by simp [cI])) (ih (x_l0 + 1) ((r1_l1 ++ [(((v_impl_trianglesByEdge m_0).2).getD x_l0.toNat default).e1]) ++ [(((v_impl_trianglesByEdge m_0).2).getD x_l0.toNat default).e0]) (show 0 ≤ (x_l0 + 1) from (by first | assumption | omega | (first | (have q := edges_nth m_0 (okE_is _ (isPlaceOf_ok _ _ (by assumption))) hv_impl_NeighboursOf_1_0 (of_decide_eq_true (by assumption)); first | omega | (simp only [List.length_append, List.length_cons, List.length_nil]; omega)) | (have q := edges_len m_0 (okE_is _ (isPlaceOf_ok _ _ (by assumption))); omega) | (have q := nb_len m_0 place_1; have q2 := edges_len m_0 (okE_is _ (isPlaceOf_ok _ _ (by assumption))); omega)) | (simp_all <;> omega))) (show (((r1_l1 ++ [(((v_impl_trianglesByEdge m_0).2).getD x_l0.toNat default).e1]) ++ [(((v_impl_trianglesByEdge m_0).2).getD x_l0.toNat default).e0]).length : Int) ≤ 2 * (x_l0 + 1) from (by first | assumption | omega | (first | (have q := edges_nth m_0 (okE_is _ (isPlaceOf_ok _ _ (by assumption))) hv_impl_NeighboursOf_1_0 (of_decide_eq_true (by assumption)); first | omega | (simp only [List.length_append, List.length_cons, List.length_nil]; omega)) | (have q := edges_len m_0 (okE_is _ (isPlaceOf_ok _ _ (by assumption))); omega) | (have q := nb_len m_0 place_1; have q2 := edges_len m_0 (okE_is _ (isPlaceOf_ok _ _ (by assumption))); omega)) | (simp_all <;> omega))) (by first | assumption | omega | (first | (have q := edges_nth m_0 (okE_is _ (isPlaceOf_ok _ _ (by assumption))) hv_impl_NeighboursOf_1_0 (of_decide_eq_true (by assumption)); first | omega | (simp only [List.length_append, List.length_cons, List.length_nil]; omega)) | (have q := edges_len m_0 (okE_is _ (isPlaceOf_ok _ _ (by assumption))); omega) | (have q := nb_len m_0 place_1; have q2 := edges_len m_0 (okE_is _ (isPlaceOf_ok _ _ (by assumption))); omega)) | (simp_all <;> omega)))
    | false =>
     have gh_2 := ne_of_beq_false h_2
     have y_4 : (-9223372036854775808 : Int) ≤ (x_l0 + 1) := by clear q; exact (by first | assumption | omega | (first | (have q := edges_nth m_0 (okE_is _ (isPlaceOf_ok _ _ (by assumption))) hv_impl_NeighboursOf_1_0 (of_decide_eq_true (by assumption)); first | omega | (simp only [List.length_append, List.length_cons, List.length_nil]; omega)) | (have q := edges_len m_0 (okE_is _ (isPlaceOf_ok _ _ (by assumption))); omega) | (have q := nb_len m_0 place_1; have q2 := edges_len m_0 (okE_is _ (isPlaceOf_ok _ _ (by assumption))); omega)) | (simp_all <;> omega))
     have y_5 : (x_l0 + 1) ≤ (9223372036854775807 : Int) := by clear q; exact (by first | assumption | omega | (first | (have q := edges_nth m_0 (okE_is _ (isPlaceOf_ok _ _ (by assumption))) hv_impl_NeighboursOf_1_0 (of_decide_eq_true (by assumption)); first | omega | (simp only [List.length_append, List.length_cons, List.length_nil]; omega)) | (have q := edges_len m_0 (okE_is _ (isPlaceOf_ok _ _ (by assumption))); omega) | (have q := nb_len m_0 place_1; have q2 := edges_len m_0 (okE_is _ (isPlaceOf_ok _ _ (by assumption))); omega)) | (simp_all <;> omega))
     have e : lo_impl_NeighboursOf_1 m_0 place_1 (k + 1) x_l0 r1_l1 = (lo_impl_NeighboursOf_1 m_0 place_1 k (x_l0 + 1) (r1_l1 ++ [(((v_impl_trianglesByEdge m_0).2).getD x_l0.toNat default).e1])) := by simp only [lo_impl_NeighboursOf_1, h_0, h_1, h_2, cond_true, cond_false]
     rw [e]
     exact nextS E0Ok hMixed [] mk_impl_NeighboursOf_1_0 [0, 1, 2, 3] (⟨[.agg [.sl (m_0.Places.map GVector.cells), .sl (m_0.Triangles.map (cL (cI .i64)))], .i .i64 place_1, .ptr 0 0 0, .any, .nils, .b false, .own 1, .any, .own 3, .any, .any, .agg [.sl (m_0.Places.map GVector.cells), .sl (m_0.Triangles.map (cL (cI .i64)))], .i .i64 place_1, .b (v_impl_isPlaceOf m_0 place_1), .b (!(v_impl_isPlaceOf m_0 place_1)), .any, .any, .agg [.sl (m_0.Places.map GVector.cells), .sl (m_0.Triangles.map (cL (cI .i64)))], .any, .mp 2, .own 3, .own 3, .i .i64 (((v_impl_trianglesByEdge m_0).2).length : Int), .i .i64 (x_l0 + 1), .any, .any, .any, .any, .any, .any, .any, .any, .any, .any, .any, .any, .any, .any, .any, .any, .any, .any, .any, .any, .any, .any, .any, .any, .any], [.box 31 [.sl (m_0.Places.map GVector.cells), .sl (m_0.Triangles.map (cL (cI .i64)))], .vec 2 1 ((r1_l1.map (cI .i64)) ++ ([[.i .i64 ((((v_impl_trianglesByEdge m_0).2).getD x_l0.toNat default).e1)]] : List (List AV))) false, .mapN 2 (mapC Gedge.pr (cI .i64) ((v_impl_trianglesByEdge m_0).1)) none, .vec 100 2 (((v_impl_trianglesByEdge m_0).2).map Gedge.cells) false]⟩) (q (sB h_2 <| sI (x_l0 + 1) y_4 y_5 <| sN)) (by kernel_rfl) (show _ = ⟨[.agg [.sl (m_0.Places.map GVector.cells), .sl (m_0.Triangles.map (cL (cI .i64)))], .i .i64 place_1, .ptr 0 0 0, .any, .nils, .b false, .own 1, .any, .own 3, .any, .any, .agg [.sl (m_0.Places.map GVector.cells), .sl (m_0.Triangles.map (cL (cI .i64)))], .i .i64 place_1, .b (v_impl_isPlaceOf m_0 place_1), .b (!(v_impl_isPlaceOf m_0 place_1)), .any, .any, .agg [.sl (m_0.Places.map GVector.cells), .sl (m_0.Triangles.map (cL (cI .i64)))], .any, .mp 2, .own 3, .own 3, .i .i64 (((v_impl_trianglesByEdge m_0).2).length : Int), .i .i64 (x_l0 + 1), .any, .any, .any, .any, .any, .any, .any, .any, .any, .any, .any, .any, .any, .any, .any, .any, .any, .any, .any, .any, .any, .any, .any, .any, .any], [.box 31 [.sl (m_0.Places.map GVector.cells), .sl (m_0.Triangles.map (cL (cI .i64)))], .vec 2 1 ((r1_l1 ++ [(((v_impl_trianglesByEdge m_0).2).getD x_l0.toNat default).e1]).map (cI .i64)) false, .mapN 2 (mapC Gedge.pr (cI .i64) ((v_impl_trianglesByEdge m_0).1)) none, .vec 100 2 (((v_impl_trianglesByEdge m_0).2).map Gedge.cells) false]⟩ from (by simp [cI])) (ih (x_l0 + 1) (r1_l1 ++ [(((v_impl_trianglesByEdge m_0).2).getD x_l0.toNat default).e1]) (show 0 ≤ (x_l0 + 1) from (by first | assumption | omega | (first | (have q := edges_nth m_0 (okE_is _ (isPlaceOf_ok _ _ (by assumption))) hv_impl_NeighboursOf_1_0 (of_decide_eq_true (by assumption)); first | omega | (simp only [List.length_append, List.length_cons, List.length_nil]; omega)) | (have q := edges_len m_0 (okE_is _ (isPlaceOf_ok _ _ (by assumption))); omega) | (have q := nb_len m_0 place_1; have q2 := edges_len m_0 (okE_is _ (isPlaceOf_ok _ _ (by assumption))); omega)) | (simp_all <;> omega))) (show ((r1_l1 ++ [(((v_impl_trianglesByEdge m_0).2).getD x_l0.toNat default).e1]).length : Int) ≤ 2 * (x_l0 + 1) from (by first | assumption | omega | (first | (have q := edges_nth m_0 (okE_is _ (isPlaceOf_ok _ _ (by assumption))) hv_impl_NeighboursOf_1_0 (of_decide_eq_true (by assumption)); first | omega | (simp only [List.length_append, List.length_cons, List.length_nil]; omega)) | (have q := edges_len m_0 (okE_is _ (isPlaceOf_ok _ _ (by assumption))); omega) | (have q := nb_len m_0 place_1; have q2 := edges_len m_0 (okE_is _ (isPlaceOf_ok _ _ (by assumption))); omega)) | (simp_all <;> omega))) (by first | assumption | omega | (first | (have q := edges_nth m_0 (okE_is _ (isPlaceOf_ok _ _ (by assumption))) hv_impl_NeighboursOf_1_0 (of_decide_eq_true (by assumption)); first | omega | (simp only [List.length_append, List.length_cons, List.length_nil]; omega)) | (have q := edges_len m_0 (okE_is _ (isPlaceOf_ok _ _ (by assumption))); omega) | (have q := nb_len m_0 place_1; have q2 := edges_len m_0 (okE_is _ (isPlaceOf_ok _ _ (by assumption))); omega)) | (simp_all <;> omega)))
   | false =>
    have gh_1 := ne_of_beq_false h_1
    have q {a C} (s : Scr a C) := p (sB h_1 <| sC (show (0 : Int) ≤ 1 ∧ 1 < ((2 : Nat) : Int) from (by decide)) <| s)
    clear p
    cases h_2 : ((((v_impl_trianglesByEdge m_0).2).getD x_l0.toNat default).e1 == place_1) with
    | true =>
     have gh_2 := eq_of_beq h_2
     have y_3 : r1_l1.length + ([(((v_impl_trianglesByEdge m_0).2).getD x_l0.toNat default).e0]).length ≤ 1073741824 := by clear q; exact (by first | assumption | omega | (first | (have q := edges_nth m_0 (okE_is _ (isPlaceOf_ok _ _ (by assumption))) hv_impl_NeighboursOf_1_0 (of_decide_eq_true (by assumption)); first | omega | (simp only [List.length_append, List.length_cons, List.length_nil]; omega)) | (have q := edges_len m_0 (okE_is _ (isPlaceOf_ok _ _ (by assumption))); omega) | (have q := nb_len m_0 place_1; have q2 := edges_len m_0 (okE_is _ (isPlaceOf_ok _ _ (by assumption))); omega)) | (simp_all <;> omega))
     have y_4 : (-9223372036854775808 : Int) ≤ (x_l0 + 1) := by clear q; exact (by first | assumption | omega | (first | (have q := edges_nth m_0 (okE_is _ (isPlaceOf_ok _ _ (by assumption))) hv_impl_NeighboursOf_1_0 (of_decide_eq_true (by assumption)); first | omega | (simp only [List.length_append, List.length_cons, List.length_nil]; omega)) | (have q := edges_len m_0 (okE_is _ (isPlaceOf_ok _ _ (by assumption))); omega) | (have q := nb_len m_0 place_1; have q2 := edges_len m_0 (okE_is _ (isPlaceOf_ok _ _ (by assumption))); omega)) | (simp_all <;> omega))
     have y_5 : (x_l0 + 1) ≤ (9223372036854775807 : Int) := by clear q; exact (by first | assumption | omega | (first | (have q := edges_nth m_0 (okE_is _ (isPlaceOf_ok _ _ (by assumption))) hv_impl_NeighboursOf_1_0 (of_decide_eq_true (by assumption)); first | omega | (simp only [List.length_append, List.length_cons, List.length_nil]; omega)) | (have q := edges_len m_0 (okE_is _ (isPlaceOf_ok _ _ (by assumption))); omega) | (have q := nb_len m_0 place_1; have q2 := edges_len m_0 (okE_is _ (isPlaceOf_ok _ _ (by assumption))); omega)) | (simp_all <;> omega))
     have e : lo_impl_NeighboursOf_1 m_0 place_1 (k + 1) x_l0 r1_l1 = (lo_impl_NeighboursOf_1 m_0 place_1 k (x_l0 + 1) (r1_l1 ++ [(((v_impl_trianglesByEdge m_0).2).getD x_l0.toNat default).e0])) := by simp only [lo_impl_NeighboursOf_1, h_0, h_1, h_2, cond_true, cond_false]
     rw [e]
     exact nextS E0Ok hMixed [] mk_impl_NeighboursOf_1_0 [0, 1, 2, 3] (⟨[.agg [.sl (m_0.Places.map GVector.cells), .sl (m_0.Triangles.map (cL (cI .i64)))], .i .i64 place_1, .ptr 0 0 0, .any, .nils, .b false, .own 1, .any, .own 3, .any, .any, .agg [.sl (m_0.Places.map GVector.cells), .sl (m_0.Triangles.map (cL (cI .i64)))], .i .i64 place_1, .b (v_impl_isPlaceOf m_0 place_1), .b (!(v_impl_isPlaceOf m_0 place_1)), .any, .any, .agg [.sl (m_0.Places.map GVector.cells), .sl (m_0.Triangles.map (cL (cI .i64)))], .any, .mp 2, .own 3, .own 3, .i .i64 (((v_impl_trianglesByEdge m_0).2).length : Int), .i .i64 (x_l0 + 1), .any, .any, .any, .any, .any, .any, .any, .any, .any, .any, .any, .any, .any, .any, .any, .any, .any, .any, .any, .any, .any, .any, .any, .any, .any], [.box 31 [.sl (m_0.Places.map GVector.cells), .sl (m_0.Triangles.map (cL (cI .i64)))], .vec 2 1 ((r1_l1.map (cI .i64)) ++ ([[.i .i64 ((((v_impl_trianglesByEdge m_0).2).getD x_l0.toNat default).e0)]] : List (List AV))) false, .mapN 2 (mapC Gedge.pr (cI .i64) ((v_impl_trianglesByEdge m_0).1)) none, .vec 100 2 (((v_impl_trianglesByEdge m_0).2).map Gedge.cells) false]⟩) (q (sB h_2 <| sC (show (0 : Int) ≤ 0 ∧ 0 < ((2 : Nat) : Int) from (by decide)) <| sC (show (r1_l1.map (cI .i64)).length + ([[.i .i64 ((((v_impl_trianglesByEdge m_0).2).getD x_l0.toNat default).e0)]] : List (List AV)).length ≤ 1073741824 from (by simpa using y_3)) <| sI (x_l0 + 1) y_4 y_5 <| sN)) (by kernel_rfl) (show _ = ⟨[.agg [.sl (m_0.Places.map GVector.cells), .sl (m_0.Triangles.map (cL (cI .i64)))], .i .i64 place_1, .ptr 0 0 0, .any, .nils, .b false, .own 1, .any, .own 3, .any, .any, .agg [.sl (m_0.Places.map GVector.cells), .sl (m_0.Triangles.map (cL (cI .i64)))], .i .i64 place_1, .b (v_impl_isPlaceOf m_0 place_1), .b (!(v_impl_isPlaceOf m_0 place_1)), .any, .any, .agg [.sl (m_0.Places.map GVector.cells), .sl (m_0.Triangles.map (cL (cI .i64)))], .any, .mp 2, .own 3, .own 3, .i .i64 (((v_impl_trianglesByEdge m_0).2).length : Int), .i .i64 (x_l0 + 1), .any, .any, .any, .any, .any, .any, .any, .any, .any, .any, .any, .any, .any, .any, .any, .any, .any, .any, .any, .any, .any, .any, .any, .any, .any], [.box 31 [.sl (m_0.Places.map GVector.cells), .sl (m_0.Triangles.map (cL (cI .i64)))], .vec 2 1 ((r1_l1 ++ [(((v_impl_trianglesByEdge m_0).2).getD x_l0.toNat default).e0]).map (cI .i64)) false, .mapN 2 (mapC Gedge.pr (cI .i64) ((v_impl_trianglesByEdge m_0).1)) none, .vec 100 2 (((v_impl_trianglesByEdge m_0).2).map Gedge.cells) false]⟩ from (by simp [cI])) (ih (x_l0 + 1) (r1_l1 ++ [(((v_impl_trianglesByEdge m_0).2).getD x_l0.toNat default).e0]) (show 0 ≤ (x_l0 + 1) from (by first | assumption | omega | (first | (have q := edges_nth m_0 (okE_is _ (isPlaceOf_ok _ _ (by assumption))) hv_impl_NeighboursOf_1_0 (of_decide_eq_true (by assumption)); first | omega | (simp only [List.length_append, List.length_cons, List.length_nil]; omega)) | (have q := edges_len m_0 (okE_is _ (isPlaceOf_ok _ _ (by assumption))); omega) | (have q := nb_len m_0 place_1; have q2 := edges_len m_0 (okE_is _ (isPlaceOf_ok _ _ (by assumption))); omega)) | (simp_all <;> omega))) (show ((r1_l1 ++ [(((v_impl_trianglesByEdge m_0).2).getD x_l0.toNat default).e0]).length : Int) ≤ 2 * (x_l0 + 1) from (by first | assumption | omega | (first | (have q := edges_nth m_0 (okE_is _ (isPlaceOf_ok _ _ (by assumption))) hv_impl_NeighboursOf_1_0 (of_decide_eq_true (by assumption)); first | omega | (simp only [List.length_append, List.length_cons, List.length_nil]; omega)) | (have q := edges_len m_0 (okE_is _ (isPlaceOf_ok _ _ (by assumption))); omega) | (have q := nb_len m_0 place_1; have q2 := edges_len m_0 (okE_is _ (isPlaceOf_ok _ _ (by assumption))); omega)) | (simp_all <;> omega))) (by first | assumption | omega | (first | (have q := edges_nth m_0 (okE_is _ (isPlaceOf_ok _ _ (by assumption))) hv_impl_NeighboursOf_1_0 (of_decide_eq_true (by assumption)); first | omega | (simp only [List.length_append, List.length_cons, List.length_nil]; omega)) | (have q := edges_len m_0 (okE_is _ (isPlaceOf_ok _ _ (by assumption))); omega) | (have q := nb_len m_0 place_1; have q2 := edges_len m_0 (okE_is _ (isPlaceOf_ok _ _ (by assumption))); omega)) | (simp_all <;> omega)))
    | false =>
     have gh_2 := ne_of_beq_false h_2
     have y_3 : (-9223372036854775808 : Int) ≤ (x_l0 + 1) := by clear q; exact (by first | assumption | omega | (first | (have q := edges_nth m_0 (okE_is _ (isPlaceOf_ok _ _ (by assumption))) hv_impl_NeighboursOf_1_0 (of_decide_eq_true (by assumption)); first | omega | (simp only [List.length_append, List.length_cons, List.length_nil]; omega)) | (have q := edges_len m_0 (okE_is _ (isPlaceOf_ok _ _ (by assumption))); omega) | (have q := nb_len m_0 place_1; have q2 := edges_len m_0 (okE_is _ (isPlaceOf_ok _ _ (by assumption))); omega)) | (simp_all <;> omega))
     have y_4 : (x_l0 + 1) ≤ (9223372036854775807 : Int) := by clear q; exact (by first | assumption | omega | (first | (have q := edges_nth m_0 (okE_is _ (isPlaceOf_ok _ _ (by assumption))) hv_impl_NeighboursOf_1_0 (of_decide_eq_true (by assumption)); first | omega | (simp only [List.length_append, List.length_cons, List.length_nil]; omega)) | (have q := edges_len m_0 (okE_is _ (isPlaceOf_ok _ _ (by assumption))); omega) | (have q := nb_len m_0 place_1; have q2 := edges_len m_0 (okE_is _ (isPlaceOf_ok _ _ (by assumption))); omega)) | (simp_all <;> omega))
     have e : lo_impl_NeighboursOf_1 m_0 place_1 (k + 1) x_l0 r1_l1 = (lo_impl_NeighboursOf_1 m_0 place_1 k (x_l0 + 1) r1_l1) := by simp only [lo_impl_NeighboursOf_1, h_0, h_1, h_2, cond_true, cond_false]
     rw [e]
     exact nextR E0Ok hMixed [] mk_impl_NeighboursOf_1_0 [0, 1, 2, 3] (ih (x_l0 + 1) r1_l1 (show 0 ≤ (x_l0 + 1) from (by first | assumption | omega | (first | (have q := edges_nth m_0 (okE_is _ (isPlaceOf_ok _ _ (by assumption))) hv_impl_NeighboursOf_1_0 (of_decide_eq_true (by assumption)); first | omega | (simp only [List.length_append, List.length_cons, List.length_nil]; omega)) | (have q := edges_len m_0 (okE_is _ (isPlaceOf_ok _ _ (by assumption))); omega) | (have q := nb_len m_0 place_1; have q2 := edges_len m_0 (okE_is _ (isPlaceOf_ok _ _ (by assumption))); omega)) | (simp_all <;> omega))) (show (r1_l1.length : Int) ≤ 2 * (x_l0 + 1) from (by first | assumption | omega | (first | (have q := edges_nth m_0 (okE_is _ (isPlaceOf_ok _ _ (by assumption))) hv_impl_NeighboursOf_1_0 (of_decide_eq_true (by assumption)); first | omega | (simp only [List.length_append, List.length_cons, List.length_nil]; omega)) | (have q := edges_len m_0 (okE_is _ (isPlaceOf_ok _ _ (by assumption))); omega) | (have q := nb_len m_0 place_1; have q2 := edges_len m_0 (okE_is _ (isPlaceOf_ok _ _ (by assumption))); omega)) | (simp_all <;> omega))) (by first | assumption | omega | (first | (have q := edges_nth m_0 (okE_is _ (isPlaceOf_ok _ _ (by assumption))) hv_impl_NeighboursOf_1_0 (of_decide_eq_true (by assumption)); first | omega | (simp only [List.length_append, List.length_cons, List.length_nil]; omega)) | (have q := edges_len m_0 (okE_is _ (isPlaceOf_ok _ _ (by assumption))); omega) | (have q := nb_len m_0 place_1; have q2 := edges_len m_0 (okE_is _ (isPlaceOf_ok _ _ (by assumption))); omega)) | (simp_all <;> omega))) (q (sB h_2 <| sI (x_l0 + 1) y_3 y_4 <| sN)) (by kernel_rfl)
  | false =>
   have gh_0 := of_decide_eq_false h_0
   have e : lo_impl_NeighboursOf_1 m_0 place_1 (k + 1) x_l0 r1_l1 = r1_l1 := by simp only [lo_impl_NeighboursOf_1, h_0, cond_false]
   rw [e]
   exact outR (e := (.exit 0)) E0Ok hMixed [] mk_impl_NeighboursOf_1_1 [0, 1, 3, 2] (sB h_0 <| sN) (by kernel_rfl) (by intro h; cases h)

def lr_impl_NeighboursOf_1_0 (m_0 : GMesh) (place_1 : Int) : (List Int) := (lo_impl_NeighboursOf_1 m_0 place_1 (((((v_impl_trianglesByEdge m_0).2).length : Int) - 0).toNat + 1) 0 ([] : List Int))

def nbF (place : Int) (e : Gedge) : List Int := (cond (e.e0 == place) [e.e1] []) ++ (cond (e.e1 == place) [e.e0] [])
theorem nb_loop (m : GMesh) (place : Int) : ∀ (k : Nat) (i : Int) (r : List Int), 0 ≤ i → (((v_impl_trianglesByEdge m).2.length : Int) - i).toNat < k → lo_impl_NeighboursOf_1 m place k i r = r ++ ((v_impl_trianglesByEdge m).2.drop i.toNat).flatMap (nbF place) := by
  intro k
  induction k with
  | zero => intro i r _ hk; exact absurd hk (Nat.not_lt_zero _)
  | succ k ih =>
    intro i r h0 hk
    rw [lo_impl_NeighboursOf_1]
    by_cases hi : i < ((v_impl_trianglesByEdge m).2.length : Int)
    · have hn : i.toNat < (v_impl_trianglesByEdge m).2.length := by omega
      have hg : (v_impl_trianglesByEdge m).2.getD i.toNat default = (v_impl_trianglesByEdge m).2[i.toNat] := by rw [List.getD_eq_getElem?_getD, List.getElem?_eq_getElem hn]; rfl
      rw [decide_eq_true hi, cond_true, hg, List.drop_eq_getElem_cons hn, List.flatMap_cons]
      have hF : ∀ e : Gedge, nbF place e = (cond (e.e0 == place) [e.e1] []) ++ (cond (e.e1 == place) [e.e0] []) := fun _ => rfl
      rw [hF]
      cases ((v_impl_trianglesByEdge m).2[i.toNat].e0 == place) <;> cases ((v_impl_trianglesByEdge m).2[i.toNat].e1 == place) <;> simp only [cond_true, cond_false] <;> rw [ih _ _ (by omega) (by omega), show (i + 1).toNat = i.toNat + 1 from by omega] <;> simp only [List.append_assoc, List.nil_append, List.append_nil, List.cons_append]
    · rw [decide_eq_false hi, cond_false, List.drop_eq_nil_of_le (by omega)]; simp
theorem nb_eq (m : GMesh) (place : Int) : lr_impl_NeighboursOf_1_0 m place = (v_impl_trianglesByEdge m).2.flatMap (nbF place) := by
  unfold lr_impl_NeighboursOf_1_0
  rw [nb_loop m place _ _ _ (Int.le_refl 0) (Nat.lt_succ_self _), Int.toNat_zero, List.drop_zero, List.nil_append]
theorem nb_len (m : GMesh) (place : Int) : (lr_impl_NeighboursOf_1_0 m place).length ≤ 2 * (v_impl_trianglesByEdge m).2.length := by
  rw [nb_eq]
  generalize (v_impl_trianglesByEdge m).2 = l
  induction l with
  | nil => simp
  | cons e l ih =>
    rw [List.flatMap_cons, List.length_append, List.length_cons]
    have : (nbF place e).length ≤ 2 := by unfold nbF; cases (e.e0 == place) <;> cases (e.e1 == place) <;> simp
    omega

end Go.Ab
namespace Go.Proofs
open Go.Shelf
def Try.laysMn5_ren : Go.Shelf.Ren := ⟨fun | 5 => 85 | 8 => 128 | 7 => 127 | 19 => 154 | 20 => 155 | 10 => 145 | 11 => 146 | 12 => 147 | 13 => 148 | 14 => 149 | 15 => 150 | 16 => 151 | 17 => 152 | 18 => 153 | 30 => 168 | 31 => 169 | 32 => 170 | 33 => 171 | 34 => 172 | 35 => 173 | 40 => 177 | n => n, fun | 23 => 52 | 25 => 2 | 3 => 3 | 32 => 153 | 22 => 52 | 0 => 0 | 44 => 177 | 46 => 179 | 4 => 4 | 36 => 169 | 35 => 168 | 41 => 174 | 5 => 5 | 9 => 9 | 53 => 186 | 57 => 190 | 63 => 195 | 64 => 196 | n => n, fun | n => n⟩
theorem Try.laysMn5 : Go.Proofs.SlLaysM.n5 Try.prog Try.laysMn5_ren := {
  mixed := by kernel_rfl
  f5 := ⟨Try.f85.name, by decide, Try.func85.trans (congrArg some (by kernel_rfl))⟩
  f7 := ⟨Try.f127.name, by decide, Try.func127.trans (congrArg some (by kernel_rfl))⟩
  f8 := Try.func128.trans (congrArg some (by kernel_rfl))
  f10 := ⟨Try.f145.name, by decide, Try.func145.trans (congrArg some (by kernel_rfl))⟩
  f11 := ⟨Try.f146.name, by decide, Try.func146.trans (congrArg some (by kernel_rfl))⟩
  f12 := ⟨Try.f147.name, by decide, Try.func147.trans (congrArg some (by kernel_rfl))⟩
  f13 := ⟨Try.f148.name, by decide, Try.func148.trans (congrArg some (by kernel_rfl))⟩
  f14 := ⟨Try.f149.name, by decide, Try.func149.trans (congrArg some (by kernel_rfl))⟩
  f15 := ⟨Try.f150.name, by decide, Try.func150.trans (congrArg some (by kernel_rfl))⟩
  f16 := ⟨Try.f151.name, by decide, Try.func151.trans (congrArg some (by kernel_rfl))⟩
  f17 := ⟨Try.f152.name, by decide, Try.func152.trans (congrArg some (by kernel_rfl))⟩
  f18 := ⟨Try.f153.name, by decide, Try.func153.trans (congrArg some (by kernel_rfl))⟩
  f19 := Try.func154.trans (congrArg some (by kernel_rfl))
  f20 := Try.func155.trans (congrArg some (by kernel_rfl))
  f30 := ⟨Try.f168.name, by decide, Try.func168.trans (congrArg some (by kernel_rfl))⟩
  f31 := Try.func169.trans (congrArg some (by kernel_rfl))
  f32 := Try.func170.trans (congrArg some (by kernel_rfl))
  f33 := ⟨Try.f171.name, by decide, Try.func171.trans (congrArg some (by kernel_rfl))⟩
  f34 := ⟨Try.f172.name, by decide, Try.func172.trans (congrArg some (by kernel_rfl))⟩
  f35 := ⟨Try.f173.name, by decide, Try.func173.trans (congrArg some (by kernel_rfl))⟩
  f40 := ⟨Try.f177.name, by decide, Try.func177.trans (congrArg some (by kernel_rfl))⟩
  t0 := Try.underlying0
  a0 := Try.isAgg0
  z0 := Try.sizeOf0
  v0 := Try.zeroValue0
  t3 := Try.underlying3
  a3 := Try.isAgg3
  z3 := Try.sizeOf3
  v3 := Try.zeroValue3
  t4 := Try.underlying4
  a4 := Try.isAgg4
  z4 := Try.sizeOf4
  v4 := Try.zeroValue4
  t5 := Try.underlying5
  a5 := Try.isAgg5
  z5 := Try.sizeOf5
  v5 := Try.zeroValue5
  t9 := Try.underlying9
  a9 := Try.isAgg9
  z9 := Try.sizeOf9
  v9 := Try.zeroValue9
  t22 := Try.underlying52
  a22 := Try.isAgg52
  z22 := Try.sizeOf52
  v22 := Try.zeroValue52
  t23 := Try.underlying52
  a23 := Try.isAgg52
  z23 := Try.sizeOf52
  v23 := Try.zeroValue52
  t25 := Try.underlying2
  a25 := Try.isAgg2
  z25 := Try.sizeOf2
  v25 := Try.zeroValue2
  t32 := Try.underlying153
  a32 := Try.isAgg153
  z32 := Try.sizeOf153
  v32 := Try.zeroValue153
  t35 := Try.underlying168
  a35 := Try.isAgg168
  z35 := Try.sizeOf168
  v35 := Try.zeroValue168
  t36 := Try.underlying169
  a36 := Try.isAgg169
  z36 := Try.sizeOf169
  v36 := Try.zeroValue169
  t41 := Try.underlying174
  a41 := Try.isAgg174
  z41 := Try.sizeOf174
  v41 := Try.zeroValue174
  t44 := Try.underlying177
  a44 := Try.isAgg177
  z44 := Try.sizeOf177
  v44 := Try.zeroValue177
  t46 := Try.underlying179
  a46 := Try.isAgg179
  z46 := Try.sizeOf179
  v46 := Try.zeroValue179
  t53 := Try.underlying186
  a53 := Try.isAgg186
  z53 := Try.sizeOf186
  v53 := Try.zeroValue186
  t57 := Try.underlying190
  a57 := Try.isAgg190
  z57 := Try.sizeOf190
  v57 := Try.zeroValue190
  t63 := Try.underlying195
  a63 := Try.isAgg195
  z63 := Try.sizeOf195
  v63 := Try.zeroValue195
  t64 := Try.underlying196
  a64 := Try.isAgg196
  z64 := Try.sizeOf196
  v64 := Try.zeroValue196 }
end Go.Proofs
namespace Go.Ab
open Go.RowKit Go.Proofs.Try

theorem t_sort_int64 (l : List Int) (h : l.length ≤ 1073741824) : CallSt prog 85 [.vec 2 1 (l.map (cI .i64)) false] [.own 0] (.tup []) [.vec 2 1 ((sortI l).map (cI .i64)) false] :=
  sort_rowI laysMn5 2 ⟨_, func85, rfl, by kernel_rfl⟩ l h

def v_impl_NeighboursOf (m_0 : GMesh) (place_1 : Int) : (List Int) × Bool := (cond (v_impl_isPlaceOf m_0 place_1)
  ((sortI (lr_impl_NeighboursOf_1_0 m_0 place_1)), true)
  (([] : List Int), false))

theorem nb_mem {place : Int} {e : Gedge} {x : Int} : x ∈ nbF place e ↔ (e.e0 = place ∧ x = e.e1) ∨ (e.e1 = place ∧ x = e.e0) := by
  unfold nbF
  by_cases h0 : e.e0 = place <;> by_cases h1 : e.e1 = place <;> simp [h0, h1, beq_iff_eq.2, beq_eq_false_iff_ne.2]
theorem nb_nodup (place : Int) (n : Nat) (ts : List (List Int)) : ((edgL n ts).flatMap (nbF place)).Nodup := by
  unfold List.Nodup
  rw [List.pairwise_flatMap]
  refine ⟨fun e he => ?_, ?_⟩
  · have hb := edgL_at he
    unfold nbF
    by_cases h0 : e.e0 = place
    · by_cases h1 : e.e1 = place
      · omega
      · rw [beq_eq_false_iff_ne.2 h1]; cases (e.e0 == place) <;> simp
    · rw [beq_eq_false_iff_ne.2 h0]; cases (e.e1 == place) <;> simp
  · have hnd : (edgL n ts).Pairwise (· ≠ ·) := edgL_nodup n ts
    have hall : ∀ e ∈ edgL n ts, e.e0 < e.e1 := fun e he => (edgL_at he).2.1
    refine hnd.imp_of_mem fun {a b} ha hb hne x hx y hy hxy => ?_
    subst hxy
    rw [nb_mem] at hx hy
    have h1 := hall a ha
    have h2 := hall b hb
    apply hne
    apply Gedge.inj
    unfold Gedge.pr
    exact Prod.ext (by simp only; omega) (by simp only; omega)
theorem nb_is (m : GMesh) (ok : OkE m.Places.length m.Triangles) (place : Int) : sortI (lr_impl_NeighboursOf_1_0 m place) = v_spec_l02Near m place := by
  rw [nb_eq, edges_eq m ok]
  obtain ⟨g1, g2⟩ := near_law m place (((m.Triangles.length : Int) - 0).toNat + 1) 0 [] (Int.le_refl 0) (Nat.lt_succ_self _) List.Pairwise.nil
  refine sorted_ext (sortI_sorted (nb_nodup place _ _)) g1 fun x => ?_
  rw [mem_sortI, List.mem_flatMap]
  show _ ↔ x ∈ lo_spec_l02Near_1 m place (((m.Triangles.length : Int) - 0).toNat + 1) 0 []
  rw [g2, Int.toNat_zero, List.drop_zero]
  have hT : ∀ (t : List Int) (a b : Int), tHas t a b = (v_spec_l02Has t a && v_spec_l02Has t b) := by
    intro t a b
    unfold tHas v_spec_l02Has
    cases (t.getD 0 default == a) <;> cases (t.getD 1 default == a) <;> cases (t.getD 2 default == a) <;> cases (t.getD 0 default == b) <;> cases (t.getD 1 default == b) <;> cases (t.getD 2 default == b) <;> rfl
  have hin : ∀ t ∈ m.Triangles, ∀ y : Int, v_spec_l02Has t y = true → 0 ≤ y ∧ y < (m.Places.length : Int) := by
    intro t ht y hy
    obtain ⟨a, b, c, rfl, r1, r2, r3, -⟩ := ok.2.2 t ht
    unfold v_spec_l02Has at hy
    simp only [List.getD_cons_zero, List.getD_cons_succ] at hy
    by_cases e0 : a = y
    · omega
    · by_cases e1 : b = y
      · omega
      · rw [beq_eq_false_iff_ne.2 e0, beq_eq_false_iff_ne.2 e1, cond_false, cond_false, beq_iff_eq] at hy
        omega
  simp only [List.not_mem_nil, false_or, nb_mem]
  constructor
  · rintro ⟨e, he, h⟩
    obtain ⟨⟨h0, h1, h2⟩, h3⟩ := mem_edgL.1 he
    rw [List.any_eq_true] at h3
    obtain ⟨t, ht, h4⟩ := h3
    rw [hT, Bool.and_eq_true] at h4
    rcases h with ⟨rfl, rfl⟩ | ⟨rfl, rfl⟩
    · exact ⟨t, ht, h4.1, h4.2, by omega⟩
    · exact ⟨t, ht, h4.2, h4.1, by omega⟩
  · rintro ⟨t, ht, h1, h2, h3⟩
    have b1 := hin t ht _ h1
    have b2 := hin t ht _ h2
    by_cases hlt : place < x
    · refine ⟨⟨place, x⟩, mem_edgL.2 ⟨⟨b1.1, hlt, b2.2⟩, ?_⟩, .inl ⟨rfl, rfl⟩⟩
      rw [List.any_eq_true]; exact ⟨t, ht, by rw [hT, h1, h2]; rfl⟩
    · refine ⟨⟨x, place⟩, mem_edgL.2 ⟨⟨b2.1, by simp only; omega, b1.2⟩, ?_⟩, .inr ⟨rfl, rfl⟩⟩
      rw [List.any_eq_true]; exact ⟨t, ht, by rw [hT, h1, h2]; rfl⟩
theorem eq_NeighboursOf (m : GMesh) (p : Int) : v_impl_NeighboursOf m p = v_spec_NeighboursOf m p := by
  unfold v_impl_NeighboursOf v_spec_NeighboursOf v_impl_isPlaceOf
  rw [eq_ValidMesh, show v_impl_within p 0 (IntKind.wrap .i64 ((m.Places.length : Int) - 1)) = v_spec_l02Place m p from by kernel_rfl]
  cases h : v_spec_l02Is m with
  | false => rfl
  | true =>
    rw [cond_true, cond_true, nb_is m (okE_is m h)]
theorem le_impl_NeighboursOf (m : GMesh) (p : Int) : (v_impl_NeighboursOf m p).1.length ≤ 4096 := by rw [eq_NeighboursOf]; exact le_spec_NeighboursOf m p

theorem t_impl_NeighboursOf (m_0 : GMesh) (place_1 : Int) (hp0 : m_0.Places.length ≤ 1073741824) (hp1 : m_0.Triangles.length ≤ 1073741824) (hp2 : ∀ t ∈ m_0.Triangles, t.length ≤ 1073741824)  : Fn prog 34 [.agg [.sl (m_0.Places.map GVector.cells), .sl (m_0.Triangles.map (cL (cI .i64)))], .i .i64 place_1] (.tup [.own 0, .b ((v_impl_NeighboursOf m_0 place_1).2)]) [.vec 2 1 (((v_impl_NeighboursOf m_0 place_1).1).map (cI .i64)) false] := by
 have p {a C} (s : Scr a C) := sF (t_impl_isPlaceOf m_0 place_1 hp0 hp1 hp2) <| s
 cases h0 : (v_impl_isPlaceOf m_0 place_1) with
 | true =>
  have y0 : OkE m_0.Places.length m_0.Triangles := by clear p; exact (by first | assumption | exact okE_is _ (isPlaceOf_ok _ _ (by assumption)) | omega)
  have y1 : (lr_impl_NeighboursOf_1_0 m_0 place_1).length ≤ 1073741824 := by clear p; exact (by first | assumption | omega | (first | (have q := edges_nth m_0 (okE_is _ (isPlaceOf_ok _ _ (by assumption))) hv_impl_NeighboursOf_1_0 (of_decide_eq_true (by assumption)); first | omega | (simp only [List.length_append, List.length_cons, List.length_nil]; omega)) | (have q := edges_len m_0 (okE_is _ (isPlaceOf_ok _ _ (by assumption))); omega) | (have q := nb_len m_0 place_1; have q2 := edges_len m_0 (okE_is _ (isPlaceOf_ok _ _ (by assumption))); omega)) | (simp_all <;> omega))
  refine fnS E0Ok hMixed (c := bodyOf f34) [] (.tup [.own 0, .b true]) [.vec 2 1 ((sortI (lr_impl_NeighboursOf_1_0 m_0 place_1)).map (cI .i64)) false] func34 (p (sB' h0 <| sF (t_impl_trianglesByEdge m_0 hp0 hp1 hp2 y0) <| sZ Gedge.cells ((v_impl_trianglesByEdge m_0).2) <| sL mk_impl_NeighboursOf_1_0 4 (lp_cast (st2 := ⟨[.agg [.sl (m_0.Places.map GVector.cells), .sl (m_0.Triangles.map (cL (cI .i64)))], .i .i64 place_1, .ptr 0 0 0, .any, .nils, .b false, .own 1, .any, .own 3, .any, .any, .agg [.sl (m_0.Places.map GVector.cells), .sl (m_0.Triangles.map (cL (cI .i64)))], .i .i64 place_1, .b (v_impl_isPlaceOf m_0 place_1), .b (!(v_impl_isPlaceOf m_0 place_1)), .any, .any, .agg [.sl (m_0.Places.map GVector.cells), .sl (m_0.Triangles.map (cL (cI .i64)))], .any, .mp 2, .own 3, .own 3, .i .i64 (((v_impl_trianglesByEdge m_0).2).length : Int), .i .i64 0, .any, .any, .any, .any, .any, .any, .any, .any, .any, .any, .any, .any, .any, .any, .any, .any, .any, .any, .any, .any, .any, .any, .any, .any, .any], [.box 31 [.sl (m_0.Places.map GVector.cells), .sl (m_0.Triangles.map (cL (cI .i64)))], .vec 2 1 ([] : List (List AV)) false, .mapN 2 (mapC Gedge.pr (cI .i64) ((v_impl_trianglesByEdge m_0).1)) none, .vec 100 2 (((v_impl_trianglesByEdge m_0).2).map Gedge.cells) false]⟩) (lp_val (ls_impl_NeighboursOf_1 m_0 place_1) (x := (lr_impl_NeighboursOf_1_0 m_0 place_1)) (lp_impl_NeighboursOf_1 m_0 place_1 hp0 hp1 hp2 h0 (((((v_impl_trianglesByEdge m_0).2).length : Int) - 0).toNat + 1) 0 ([] : List Int) (show 0 ≤ 0 from (by first | assumption | omega | (first | (have q := edges_nth m_0 (okE_is _ (isPlaceOf_ok _ _ (by assumption))) hv_impl_NeighboursOf_1_0 (of_decide_eq_true (by assumption)); first | omega | (simp only [List.length_append, List.length_cons, List.length_nil]; omega)) | (have q := edges_len m_0 (okE_is _ (isPlaceOf_ok _ _ (by assumption))); omega) | (have q := nb_len m_0 place_1; have q2 := edges_len m_0 (okE_is _ (isPlaceOf_ok _ _ (by assumption))); omega)) | (simp_all <;> omega))) (show (([] : List Int).length : Int) ≤ 2 * 0 from (by simp)) (Nat.lt_succ_self _)) rfl) (by simp [hd_impl_NeighboursOf_1, cI])) <| sS (CallSt.frame (t_sort_int64 (lr_impl_NeighboursOf_1_0 m_0 place_1) y1) [1] (R := [.box 31 [.sl (m_0.Places.map GVector.cells), .sl (m_0.Triangles.map (cL (cI .i64)))], .vec 2 1 ((lr_impl_NeighboursOf_1_0 m_0 place_1).map (cI .i64)) false, .vec 100 2 (((v_impl_trianglesByEdge m_0).2).map Gedge.cells) false, .mapN 2 (mapC Gedge.pr (cI .i64) ((v_impl_trianglesByEdge m_0).1)) none]) (args' := [.own 1]) rfl rfl rfl rfl rfl rfl) <| sK [1] sN)) rfl (by kernel_rfl) (by kernel_rfl) rfl ?_ ?_
  · simp only [v_impl_NeighboursOf, h0, cond_true]
  · simp [v_impl_NeighboursOf, h0]
 | false =>
  refine fnS E0Ok hMixed (c := bodyOf f34) [(.tm 4, .vec 2 1 [] false)] (.tup [.own 0, .b false]) [.vec 2 1 [] false] func34 (p (sB' h0 <| sK [1] sN)) rfl (by kernel_rfl) (by kernel_rfl) rfl ?_ ?_
  · simp only [v_impl_NeighboursOf, h0, cond_false]
  · simp [v_impl_NeighboursOf, h0, cI]

def lo_laws_eqInt64S_1 (a_0 : (List Int)) (b_1 : (List Int)) : Nat → Int → (Unit) ⊕ (Unit)
  | 0, _ => .inl default
  | k + 1, i_l0 => (cond (decide (i_l0 < (a_0.length : Int)))
    (cond ((a_0.getD i_l0.toNat default) != (b_1.getD i_l0.toNat default))
      (.inl ())
      (lo_laws_eqInt64S_1 a_0 b_1 k (i_l0 + 1)))
    (.inr ()))

def ls_laws_eqInt64S_1 (a_0 : (List Int)) (b_1 : (List Int)) : (Unit) ⊕ (Unit) → Ex × St
  | .inl r => (.ret, ⟨[.any, .any, .any, .any, .b false, .any, .any, .any, .any, .any, .any, .any, .any, .any, .any, .any, .any, .any, .any, .any, .any, .any, .any, .any, .any, .any], []⟩)
  | .inr r => ((.exit 0), ⟨[.sl (a_0.map (cI .i64)), .sl (b_1.map (cI .i64)), .any, .any, .any, .any, .sl (a_0.map (cI .i64)), .i .i64 (a_0.length : Int), .sl (b_1.map (cI .i64)), .i .i64 (b_1.length : Int), .b ((a_0.length : Int) != (b_1.length : Int)), .any, .any, .any, .any, .any, .any, .any, .any, .any, .any, .any, .any, .any, .any, .any], []⟩)

def hd_laws_eqInt64S_1 (a_0 : (List Int)) (b_1 : (List Int)) (i_l0 : Int) : St := ⟨[.sl (a_0.map (cI .i64)), .sl (b_1.map (cI .i64)), .any, .any, .any, .i .i64 i_l0, .sl (a_0.map (cI .i64)), .i .i64 (a_0.length : Int), .sl (b_1.map (cI .i64)), .i .i64 (b_1.length : Int), .b ((a_0.length : Int) != (b_1.length : Int)), .any, .any, .any, .any, .any, .any, .any, .any, .any, .any, .any, .any, .any, .any, .any], []⟩

def mk_laws_eqInt64S_1_0 : List Bool := [true, true, false, false, false, true, true, true, true, true, true, false, false, false, false, false, false, false, false, false, false, false, false, false, false, false]

def mk_laws_eqInt64S_1_1 : List Bool := [false, false, false, false, true, false, false, false, false, false, false, false, false, false, false, false, false, false, false, false, false, false, false, false, false, false]

def mk_laws_eqInt64S_1_2 : List Bool := [true, true, false, false, false, false, true, true, true, true, true, false, false, false, false, false, false, false, false, false, false, false, false, false, false, false]

theorem lp_laws_eqInt64S_1 (a_0 : (List Int)) (b_1 : (List Int)) (hp0 : a_0.length ≤ 1073741824) (hp1 : b_1.length ≤ 1073741824) (hf_laws_eqInt64S_1_0 : ((a_0.length : Int) != (b_1.length : Int)) = false) : ∀ (k : Nat) (i_l0 : Int) (hv_laws_eqInt64S_1_0 : 0 ≤ i_l0) (hk : ((a_0.length : Int) - i_l0).toNat < k), Lp prog 0 (sub (bodyOf f35) [1, 1, 0, 1, 0, 0]) (hd_laws_eqInt64S_1 a_0 b_1 i_l0) (ls_laws_eqInt64S_1 a_0 b_1 (lo_laws_eqInt64S_1 a_0 b_1 k i_l0)).1 (ls_laws_eqInt64S_1 a_0 b_1 (lo_laws_eqInt64S_1 a_0 b_1 k i_l0)).2 := by
 intro k
 induction k with
 | zero => intro i_l0 hv_laws_eqInt64S_1_0 hk; exact absurd hk (Nat.not_lt_zero _)
 | succ k ih =>
  intro i_l0 hv_laws_eqInt64S_1_0 hk
  have p {a C} (s : Scr a C) := sZ (cI .i64) a_0 <| s
  cases h_0 : (decide (i_l0 < (a_0.length : Int))) with
  | true =>
   have gh_0 := of_decide_eq_true h_0
   have y_0 : (0 : Int) ≤ i_l0 := by clear p; exact (by first | assumption | omega | (simp_all <;> omega))
   have y_1 : i_l0 < (a_0.length : Int) := by clear p; exact (by first | assumption | omega | (simp_all <;> omega))
   have y_2 : i_l0 < (b_1.length : Int) := by clear p; exact (by first | assumption | omega | (simp_all <;> omega))
   have q {a C} (s : Scr a C) := p (sB h_0 <| sK [8, 8] <| sG (cI .i64) a_0 i_l0 y_0 y_1 <| sG (cI .i64) b_1 i_l0 y_0 y_2 <| s)
   clear p
   cases h_1 : ((a_0.getD i_l0.toNat default) != (b_1.getD i_l0.toNat default)) with
   | true =>
    have gh_1 := bne_iff_ne.1 h_1
    have e : lo_laws_eqInt64S_1 a_0 b_1 (k + 1) i_l0 = (.inl ()) := by simp only [lo_laws_eqInt64S_1, h_0, h_1, cond_true]
    rw [e]
    exact outR (e := .ret) E0Ok hMixed [] mk_laws_eqInt64S_1_1 [] (q (sB h_1 <| sN)) (by kernel_rfl) (by intro h; cases h)
   | false =>
    have gh_1 := bne_eq_false_iff_eq.1 h_1
    have y_3 : (-9223372036854775808 : Int) ≤ (i_l0 + 1) := by clear q; exact (by first | assumption | omega | (simp_all <;> omega))
    have y_4 : (i_l0 + 1) ≤ (9223372036854775807 : Int) := by clear q; exact (by first | assumption | omega | (simp_all <;> omega))
    have e : lo_laws_eqInt64S_1 a_0 b_1 (k + 1) i_l0 = (lo_laws_eqInt64S_1 a_0 b_1 k (i_l0 + 1)) := by simp only [lo_laws_eqInt64S_1, h_0, h_1, cond_true, cond_false]
    rw [e]
    exact nextR E0Ok hMixed [] mk_laws_eqInt64S_1_0 [] (ih (i_l0 + 1) (show 0 ≤ (i_l0 + 1) from (by first | assumption | omega | (simp_all <;> omega))) (by first | assumption | omega | (simp_all <;> omega))) (q (sB h_1 <| sI (i_l0 + 1) y_3 y_4 <| sN)) (by kernel_rfl)
  | false =>
   have gh_0 := of_decide_eq_false h_0
   have e : lo_laws_eqInt64S_1 a_0 b_1 (k + 1) i_l0 = (.inr ()) := by simp only [lo_laws_eqInt64S_1, h_0, cond_false]
   rw [e]
   exact outR (e := (.exit 0)) E0Ok hMixed [] mk_laws_eqInt64S_1_2 [] (p (sB h_0 <| sN)) (by kernel_rfl) (by intro h; cases h)

def lr_laws_eqInt64S_1_0 (a_0 : (List Int)) (b_1 : (List Int)) : (Unit) ⊕ (Unit) := (lo_laws_eqInt64S_1 a_0 b_1 (((a_0.length : Int) - 0).toNat + 1) 0)

def v_laws_eqInt64S (a_0 : (List Int)) (b_1 : (List Int)) : Bool := (cond ((a_0.length : Int) != (b_1.length : Int))
  false
  (match (lr_laws_eqInt64S_1_0 a_0 b_1) with
    | .inl r2 => false
    | .inr r2 => true))

theorem t_laws_eqInt64S (a_0 : (List Int)) (b_1 : (List Int)) (hp0 : a_0.length ≤ 1073741824) (hp1 : b_1.length ≤ 1073741824)  : Fn prog 35 [.sl (a_0.map (cI .i64)), .sl (b_1.map (cI .i64))] (.b (v_laws_eqInt64S a_0 b_1)) [] := by
 have p {a C} (s : Scr a C) := sZ (cI .i64) a_0 <| sZ (cI .i64) b_1 <| s
 cases h0 : ((a_0.length : Int) != (b_1.length : Int)) with
 | true =>
  have gh0 := bne_iff_ne.1 h0
  refine fnS E0Ok hMixed (c := bodyOf f35) [] (.b false) [] func35 (p (sB h0 <| sK [] sN)) rfl (by kernel_rfl) (by kernel_rfl) rfl ?_ ?_
  · simp only [v_laws_eqInt64S, h0, cond_true]
  · rfl
 | false =>
  have gh0 := bne_eq_false_iff_eq.1 h0
  have q {a C} (s : Scr a C) := p (sB h0 <| s)
  clear p
  cases h1 : (lr_laws_eqInt64S_1_0 a_0 b_1) with
  | inl r2 =>
   refine fnS E0Ok hMixed (c := bodyOf f35) [] (.b false) [] func35 (q (sL mk_laws_eqInt64S_1_0 0 (lp_val (ls_laws_eqInt64S_1 a_0 b_1) (x := (lr_laws_eqInt64S_1_0 a_0 b_1)) (lp_laws_eqInt64S_1 a_0 b_1 hp0 hp1 h0 (((a_0.length : Int) - 0).toNat + 1) 0 (show 0 ≤ 0 from (by first | assumption | omega | (simp_all <;> omega))) (Nat.lt_succ_self _)) h1) <| sK [] sN)) rfl (by kernel_rfl) (by kernel_rfl) rfl ?_ ?_
   · simp only [v_laws_eqInt64S, h0, h1, cond_false]
   · rfl
  | inr r2 =>
   refine fnS E0Ok hMixed (c := bodyOf f35) [] (.b true) [] func35 (q (sL mk_laws_eqInt64S_1_0 0 (lp_val (ls_laws_eqInt64S_1 a_0 b_1) (x := (lr_laws_eqInt64S_1_0 a_0 b_1)) (lp_laws_eqInt64S_1 a_0 b_1 hp0 hp1 h0 (((a_0.length : Int) - 0).toNat + 1) 0 (show 0 ≤ 0 from (by first | assumption | omega | (simp_all <;> omega))) (Nat.lt_succ_self _)) h1) <| sK [] sN)) rfl (by kernel_rfl) (by kernel_rfl) rfl ?_ ?_
   · simp only [v_laws_eqInt64S, h0, h1, cond_false]
   · rfl

theorem eqInt64S_self (a : List Int) : v_laws_eqInt64S a a = true := by
  unfold v_laws_eqInt64S lr_laws_eqInt64S_1_0
  rw [all_from (a := a) (p := fun v => !(v != v)) (lo := lo_laws_eqInt64S_1 a a) (x := ()) (y := ()) (fun k i => by rw [lo_laws_eqInt64S_1]; cases (a.getD i.toNat default != a.getD i.toNat default) <;> rfl)]
  rw [show (a.all fun v => !(v != v)) = true from by rw [List.all_eq_true]; intro v _; simp]
  simp

def v_laws_sameFloat (a_0 : Nat) (b_1 : Nat) : Bool := (cond (fcmp .neq .f64 a_0 a_0)
  (fcmp .neq .f64 b_1 b_1)
  (cond (fcmp .neq .f64 b_1 b_1)
    false
    (cond (fcmp .eql .f64 a_0 0)
      (cond (fcmp .eql .f64 b_1 0)
        ((fcmp .gtr .f64 (fop .quo .f64 4607182418800017408 a_0) 0) == (fcmp .gtr .f64 (fop .quo .f64 4607182418800017408 b_1) 0))
        (fcmp .eql .f64 a_0 b_1))
      (fcmp .eql .f64 a_0 b_1))))

theorem t_laws_sameFloat (a_0 : Nat) (b_1 : Nat)   : Fn prog 42 [.f .f64 a_0, .f .f64 b_1] (.b (v_laws_sameFloat a_0 b_1)) [] := by
 cases h0 : (fcmp .neq .f64 a_0 a_0) with
 | true =>
  refine fnS E0Ok hMixed (c := bodyOf f42) [] (.b (fcmp .neq .f64 b_1 b_1)) [] func42 (sB h0 <| sB h0 <| sB h0 <| sB h0 <| sB (show true = true from rfl) <| sB h0 <| sB h0 <| sB h0 <| sB h0 <| sK [] sN) rfl (by kernel_rfl) (by kernel_rfl) rfl ?_ ?_
  · simp only [v_laws_sameFloat, h0, cond_true]
  · rfl
 | false =>
  have p {a C} (s : Scr a C) := sB h0 <| sB h0 <| sB h0 <| sB h0 <| s
  cases h1 : (fcmp .neq .f64 b_1 b_1) with
  | true =>
   refine fnS E0Ok hMixed (c := bodyOf f42) [] (.b false) [] func42 (p (sB h1 <| sB h0 <| sB h0 <| sB h0 <| sB h0 <| sK [] sN)) rfl (by kernel_rfl) (by kernel_rfl) rfl ?_ ?_
   · simp only [v_laws_sameFloat, h0, h1, cond_true, cond_false]
   · rfl
  | false =>
   have q {a C} (s : Scr a C) := p (sB h1 <| s)
   clear p
   cases h2 : (fcmp .eql .f64 a_0 0) with
   | true =>
    have p {a C} (s : Scr a C) := q (sB h2 <| sB h2 <| sB h2 <| s)
    clear q
    cases h3 : (fcmp .eql .f64 b_1 0) with
    | true =>
     refine fnS E0Ok hMixed (c := bodyOf f42) [] (.b ((fcmp .gtr .f64 (fop .quo .f64 4607182418800017408 a_0) 0) == (fcmp .gtr .f64 (fop .quo .f64 4607182418800017408 b_1) 0))) [] func42 (p (sB h3 <| sK [] sN)) rfl (by kernel_rfl) (by kernel_rfl) rfl ?_ ?_
     · simp only [v_laws_sameFloat, h0, h1, h2, h3, cond_true, cond_false]
     · rfl
    | false =>
     refine fnS E0Ok hMixed (c := bodyOf f42) [] (.b (fcmp .eql .f64 a_0 b_1)) [] func42 (p (sB h3 <| sK [] sN)) rfl (by kernel_rfl) (by kernel_rfl) rfl ?_ ?_
     · simp only [v_laws_sameFloat, h0, h1, h2, h3, cond_true, cond_false]
     · rfl
   | false =>
    refine fnS E0Ok hMixed (c := bodyOf f42) [] (.b (fcmp .eql .f64 a_0 b_1)) [] func42 (q (sB h2 <| sB h2 <| sB h2 <| sB (show false = false from rfl) <| sK [] sN)) rfl (by kernel_rfl) (by kernel_rfl) rfl ?_ ?_
    · simp only [v_laws_sameFloat, h0, h1, h2, cond_false]
    · rfl

theorem same_self (x : Nat) : v_laws_sameFloat x x = true := by
  unfold v_laws_sameFloat
  cases h : fcmp .neq .f64 x x
  · simp only [cond_false]
    have h2 : fcmp .eql .f64 x x = true := by
      unfold fcmp at h ⊢
      simpa using h
    cases fcmp .eql .f64 x 0 <;> simp [h2]
  · rfl

def v_laws_eqVector (a_0 : GVector) (b_1 : GVector) : Bool := (cond (v_laws_sameFloat (fcv .f32 .f64 a_0.X) (fcv .f32 .f64 b_1.X))
  (cond (v_laws_sameFloat (fcv .f32 .f64 a_0.Y) (fcv .f32 .f64 b_1.Y))
    (cond (v_laws_sameFloat (fcv .f32 .f64 a_0.Z) (fcv .f32 .f64 b_1.Z))
      true
      false)
    false)
  false)

theorem t_laws_eqVector (a_0 : GVector) (b_1 : GVector)   : Fn prog 96 [.agg [.f .f32 a_0.X, .f .f32 a_0.Y, .f .f32 a_0.Z], .agg [.f .f32 b_1.X, .f .f32 b_1.Y, .f .f32 b_1.Z]] (.b (v_laws_eqVector a_0 b_1)) [] := by
 have p {a C} (s : Scr a C) := sC (widenOk a_0.X) <| sC (widenOk b_1.X) <| sF (t_laws_sameFloat (fcv .f32 .f64 a_0.X) (fcv .f32 .f64 b_1.X)) <| s
 cases h0 : (v_laws_sameFloat (fcv .f32 .f64 a_0.X) (fcv .f32 .f64 b_1.X)) with
 | true =>
  have q {a C} (s : Scr a C) := p (sB' h0 <| sC (widenOk a_0.Y) <| sC (widenOk b_1.Y) <| sF (t_laws_sameFloat (fcv .f32 .f64 a_0.Y) (fcv .f32 .f64 b_1.Y)) <| s)
  clear p
  cases h1 : (v_laws_sameFloat (fcv .f32 .f64 a_0.Y) (fcv .f32 .f64 b_1.Y)) with
  | true =>
   have p {a C} (s : Scr a C) := q (sB' h1 <| sC (widenOk a_0.Z) <| sC (widenOk b_1.Z) <| sF (t_laws_sameFloat (fcv .f32 .f64 a_0.Z) (fcv .f32 .f64 b_1.Z)) <| s)
   clear q
   cases h2 : (v_laws_sameFloat (fcv .f32 .f64 a_0.Z) (fcv .f32 .f64 b_1.Z)) with
   | true =>
    refine fnS E0Ok hMixed (c := bodyOf f96) [] (.b true) [] func96 (p (sB' h2 <| sK [] sN)) rfl (by kernel_rfl) (by kernel_rfl) rfl ?_ ?_
    · simp only [v_laws_eqVector, h0, h1, h2, cond_true]
    · rfl
   | false =>
    refine fnS E0Ok hMixed (c := bodyOf f96) [] (.b false) [] func96 (p (sB' h2 <| sK [] sN)) rfl (by kernel_rfl) (by kernel_rfl) rfl ?_ ?_
    · simp only [v_laws_eqVector, h0, h1, h2, cond_true, cond_false]
    · rfl
  | false =>
   refine fnS E0Ok hMixed (c := bodyOf f96) [] (.b false) [] func96 (q (sB' h1 <| sK [] sN)) rfl (by kernel_rfl) (by kernel_rfl) rfl ?_ ?_
   · simp only [v_laws_eqVector, h0, h1, cond_true, cond_false]
   · rfl
 | false =>
  refine fnS E0Ok hMixed (c := bodyOf f96) [] (.b false) [] func96 (p (sB' h0 <| sK [] sN)) rfl (by kernel_rfl) (by kernel_rfl) rfl ?_ ?_
  · simp only [v_laws_eqVector, h0, cond_false]
  · rfl

theorem eqVector_self (a : GVector) : v_laws_eqVector a a = true := by
  simp [v_laws_eqVector, same_self]

def lo_laws_eqVectorS_1 (a_0 : (List GVector)) (b_1 : (List GVector)) : Nat → Int → (Unit) ⊕ (Unit)
  | 0, _ => .inl default
  | k + 1, i_l0 => (cond (decide (i_l0 < (a_0.length : Int)))
    (cond (v_laws_eqVector (a_0.getD i_l0.toNat default) (b_1.getD i_l0.toNat default))
      (lo_laws_eqVectorS_1 a_0 b_1 k (i_l0 + 1))
      (.inl ()))
    (.inr ()))

def ls_laws_eqVectorS_1 (a_0 : (List GVector)) (b_1 : (List GVector)) : (Unit) ⊕ (Unit) → Ex × St
  | .inl r => (.ret, ⟨[.any, .any, .any, .any, .b false, .any, .any, .any, .any, .any, .any, .any, .any, .any, .any, .any, .any, .any, .any, .any, .any, .any, .any, .any, .any, .any, .any], []⟩)
  | .inr r => ((.exit 0), ⟨[.sl (a_0.map GVector.cells), .sl (b_1.map GVector.cells), .any, .any, .any, .any, .sl (a_0.map GVector.cells), .i .i64 (a_0.length : Int), .sl (b_1.map GVector.cells), .i .i64 (b_1.length : Int), .b ((a_0.length : Int) != (b_1.length : Int)), .any, .any, .any, .any, .any, .any, .any, .any, .any, .any, .any, .any, .any, .any, .any, .any], []⟩)

def hd_laws_eqVectorS_1 (a_0 : (List GVector)) (b_1 : (List GVector)) (i_l0 : Int) : St := ⟨[.sl (a_0.map GVector.cells), .sl (b_1.map GVector.cells), .any, .any, .any, .i .i64 i_l0, .sl (a_0.map GVector.cells), .i .i64 (a_0.length : Int), .sl (b_1.map GVector.cells), .i .i64 (b_1.length : Int), .b ((a_0.length : Int) != (b_1.length : Int)), .any, .any, .any, .any, .any, .any, .any, .any, .any, .any, .any, .any, .any, .any, .any, .any], []⟩

def mk_laws_eqVectorS_1_0 : List Bool := [true, true, false, false, false, true, true, true, true, true, true, false, false, false, false, false, false, false, false, false, false, false, false, false, false, false, false]

def mk_laws_eqVectorS_1_1 : List Bool := [false, false, false, false, true, false, false, false, false, false, false, false, false, false, false, false, false, false, false, false, false, false, false, false, false, false, false]

def mk_laws_eqVectorS_1_2 : List Bool := [true, true, false, false, false, false, true, true, true, true, true, false, false, false, false, false, false, false, false, false, false, false, false, false, false, false, false]

theorem lp_laws_eqVectorS_1 (a_0 : (List GVector)) (b_1 : (List GVector)) (hp0 : a_0.length ≤ 1073741824) (hp1 : b_1.length ≤ 1073741824) (hf_laws_eqVectorS_1_0 : ((a_0.length : Int) != (b_1.length : Int)) = false) : ∀ (k : Nat) (i_l0 : Int) (hv_laws_eqVectorS_1_0 : 0 ≤ i_l0) (hk : ((a_0.length : Int) - i_l0).toNat < k), Lp prog 0 (sub (bodyOf f58) [1, 1, 0, 1, 0, 0]) (hd_laws_eqVectorS_1 a_0 b_1 i_l0) (ls_laws_eqVectorS_1 a_0 b_1 (lo_laws_eqVectorS_1 a_0 b_1 k i_l0)).1 (ls_laws_eqVectorS_1 a_0 b_1 (lo_laws_eqVectorS_1 a_0 b_1 k i_l0)).2 := by
 intro k
 induction k with
 | zero => intro i_l0 hv_laws_eqVectorS_1_0 hk; exact absurd hk (Nat.not_lt_zero _)
 | succ k ih =>
  intro i_l0 hv_laws_eqVectorS_1_0 hk
  have p {a C} (s : Scr a C) := sZ GVector.cells a_0 <| s
  cases h_0 : (decide (i_l0 < (a_0.length : Int))) with
  | true =>
   have gh_0 := of_decide_eq_true h_0
   have y_0 : (0 : Int) ≤ i_l0 := by clear p; exact (by first | assumption | omega | (simp_all <;> omega))
   have y_1 : i_l0 < (a_0.length : Int) := by clear p; exact (by first | assumption | omega | (simp_all <;> omega))
   have y_2 : i_l0 < (b_1.length : Int) := by clear p; exact (by first | assumption | omega | (simp_all <;> omega))
   have q {a C} (s : Scr a C) := p (sB h_0 <| sK [8, 8] <| sG GVector.cells a_0 i_l0 y_0 y_1 <| sG GVector.cells b_1 i_l0 y_0 y_2 <| sF (t_laws_eqVector (a_0.getD i_l0.toNat default) (b_1.getD i_l0.toNat default)) <| s)
   clear p
   cases h_1 : (v_laws_eqVector (a_0.getD i_l0.toNat default) (b_1.getD i_l0.toNat default)) with
   | true =>
    have y_3 : (-9223372036854775808 : Int) ≤ (i_l0 + 1) := by clear q; exact (by first | assumption | omega | (simp_all <;> omega))
    have y_4 : (i_l0 + 1) ≤ (9223372036854775807 : Int) := by clear q; exact (by first | assumption | omega | (simp_all <;> omega))
    have e : lo_laws_eqVectorS_1 a_0 b_1 (k + 1) i_l0 = (lo_laws_eqVectorS_1 a_0 b_1 k (i_l0 + 1)) := by simp only [lo_laws_eqVectorS_1, h_0, h_1, cond_true]
    rw [e]
    exact nextR E0Ok hMixed [] mk_laws_eqVectorS_1_0 [] (ih (i_l0 + 1) (show 0 ≤ (i_l0 + 1) from (by first | assumption | omega | (simp_all <;> omega))) (by first | assumption | omega | (simp_all <;> omega))) (q (sB' h_1 <| sI (i_l0 + 1) y_3 y_4 <| sN)) (by kernel_rfl)
   | false =>
    have e : lo_laws_eqVectorS_1 a_0 b_1 (k + 1) i_l0 = (.inl ()) := by simp only [lo_laws_eqVectorS_1, h_0, h_1, cond_true, cond_false]
    rw [e]
    exact outR (e := .ret) E0Ok hMixed [] mk_laws_eqVectorS_1_1 [] (q (sB' h_1 <| sN)) (by kernel_rfl) (by intro h; cases h)
  | false =>
   have gh_0 := of_decide_eq_false h_0
   have e : lo_laws_eqVectorS_1 a_0 b_1 (k + 1) i_l0 = (.inr ()) := by simp only [lo_laws_eqVectorS_1, h_0, cond_false]
   rw [e]
   exact outR (e := (.exit 0)) E0Ok hMixed [] mk_laws_eqVectorS_1_2 [] (p (sB h_0 <| sN)) (by kernel_rfl) (by intro h; cases h)

def lr_laws_eqVectorS_1_0 (a_0 : (List GVector)) (b_1 : (List GVector)) : (Unit) ⊕ (Unit) := (lo_laws_eqVectorS_1 a_0 b_1 (((a_0.length : Int) - 0).toNat + 1) 0)

def v_laws_eqVectorS (a_0 : (List GVector)) (b_1 : (List GVector)) : Bool := (cond ((a_0.length : Int) != (b_1.length : Int))
  false
  (match (lr_laws_eqVectorS_1_0 a_0 b_1) with
    | .inl r2 => false
    | .inr r2 => true))

theorem t_laws_eqVectorS (a_0 : (List GVector)) (b_1 : (List GVector)) (hp0 : a_0.length ≤ 1073741824) (hp1 : b_1.length ≤ 1073741824)  : Fn prog 58 [.sl (a_0.map GVector.cells), .sl (b_1.map GVector.cells)] (.b (v_laws_eqVectorS a_0 b_1)) [] := by
 have p {a C} (s : Scr a C) := sZ GVector.cells a_0 <| sZ GVector.cells b_1 <| s
 cases h0 : ((a_0.length : Int) != (b_1.length : Int)) with
 | true =>
  have gh0 := bne_iff_ne.1 h0
  refine fnS E0Ok hMixed (c := bodyOf f58) [] (.b false) [] func58 (p (sB h0 <| sK [] sN)) rfl (by kernel_rfl) (by kernel_rfl) rfl ?_ ?_
  · simp only [v_laws_eqVectorS, h0, cond_true]
  · rfl
 | false =>
  have gh0 := bne_eq_false_iff_eq.1 h0
  have q {a C} (s : Scr a C) := p (sB h0 <| s)
  clear p
  cases h1 : (lr_laws_eqVectorS_1_0 a_0 b_1) with
  | inl r2 =>
   refine fnS E0Ok hMixed (c := bodyOf f58) [] (.b false) [] func58 (q (sL mk_laws_eqVectorS_1_0 0 (lp_val (ls_laws_eqVectorS_1 a_0 b_1) (x := (lr_laws_eqVectorS_1_0 a_0 b_1)) (lp_laws_eqVectorS_1 a_0 b_1 hp0 hp1 h0 (((a_0.length : Int) - 0).toNat + 1) 0 (show 0 ≤ 0 from (by first | assumption | omega | (simp_all <;> omega))) (Nat.lt_succ_self _)) h1) <| sK [] sN)) rfl (by kernel_rfl) (by kernel_rfl) rfl ?_ ?_
   · simp only [v_laws_eqVectorS, h0, h1, cond_false]
   · rfl
  | inr r2 =>
   refine fnS E0Ok hMixed (c := bodyOf f58) [] (.b true) [] func58 (q (sL mk_laws_eqVectorS_1_0 0 (lp_val (ls_laws_eqVectorS_1 a_0 b_1) (x := (lr_laws_eqVectorS_1_0 a_0 b_1)) (lp_laws_eqVectorS_1 a_0 b_1 hp0 hp1 h0 (((a_0.length : Int) - 0).toNat + 1) 0 (show 0 ≤ 0 from (by first | assumption | omega | (simp_all <;> omega))) (Nat.lt_succ_self _)) h1) <| sK [] sN)) rfl (by kernel_rfl) (by kernel_rfl) rfl ?_ ?_
   · simp only [v_laws_eqVectorS, h0, h1, cond_false]
   · rfl

theorem eqVectorS_self (a : List GVector) : v_laws_eqVectorS a a = true := by
  unfold v_laws_eqVectorS lr_laws_eqVectorS_1_0
  rw [all_loop (a := a) (p := fun v => v_laws_eqVector v v) (lo := lo_laws_eqVectorS_1 a a) (x := ()) (y := ()) (fun k i => rfl) (fun v _ => eqVector_self v) _ _ (Int.le_refl 0) (Nat.lt_succ_self _)]
  simp

def lo_laws_eqInt64SS_1 (a_0 : (List (List Int))) (b_1 : (List (List Int))) : Nat → Int → (Unit) ⊕ (Unit)
  | 0, _ => .inl default
  | k + 1, i_l0 => (cond (decide (i_l0 < (a_0.length : Int)))
    (cond (v_laws_eqInt64S (a_0.getD i_l0.toNat default) (b_1.getD i_l0.toNat default))
      (lo_laws_eqInt64SS_1 a_0 b_1 k (i_l0 + 1))
      (.inl ()))
    (.inr ()))

def ls_laws_eqInt64SS_1 (a_0 : (List (List Int))) (b_1 : (List (List Int))) : (Unit) ⊕ (Unit) → Ex × St
  | .inl r => (.ret, ⟨[.any, .any, .any, .any, .b false, .any, .any, .any, .any, .any, .any, .any, .any, .any, .any, .any, .any, .any, .any, .any, .any, .any, .any, .any, .any, .any, .any], []⟩)
  | .inr r => ((.exit 0), ⟨[.sl (a_0.map (cL (cI .i64))), .sl (b_1.map (cL (cI .i64))), .any, .any, .any, .any, .sl (a_0.map (cL (cI .i64))), .i .i64 (a_0.length : Int), .sl (b_1.map (cL (cI .i64))), .i .i64 (b_1.length : Int), .b ((a_0.length : Int) != (b_1.length : Int)), .any, .any, .any, .any, .any, .any, .any, .any, .any, .any, .any, .any, .any, .any, .any, .any], []⟩)

def hd_laws_eqInt64SS_1 (a_0 : (List (List Int))) (b_1 : (List (List Int))) (i_l0 : Int) : St := ⟨[.sl (a_0.map (cL (cI .i64))), .sl (b_1.map (cL (cI .i64))), .any, .any, .any, .i .i64 i_l0, .sl (a_0.map (cL (cI .i64))), .i .i64 (a_0.length : Int), .sl (b_1.map (cL (cI .i64))), .i .i64 (b_1.length : Int), .b ((a_0.length : Int) != (b_1.length : Int)), .any, .any, .any, .any, .any, .any, .any, .any, .any, .any, .any, .any, .any, .any, .any, .any], []⟩

def mk_laws_eqInt64SS_1_0 : List Bool := [true, true, false, false, false, true, true, true, true, true, true, false, false, false, false, false, false, false, false, false, false, false, false, false, false, false, false]

def mk_laws_eqInt64SS_1_1 : List Bool := [false, false, false, false, true, false, false, false, false, false, false, false, false, false, false, false, false, false, false, false, false, false, false, false, false, false, false]

def mk_laws_eqInt64SS_1_2 : List Bool := [true, true, false, false, false, false, true, true, true, true, true, false, false, false, false, false, false, false, false, false, false, false, false, false, false, false, false]

theorem lp_laws_eqInt64SS_1 (a_0 : (List (List Int))) (b_1 : (List (List Int))) (hp0 : a_0.length ≤ 1073741824) (hp1 : ∀ t ∈ a_0, t.length ≤ 1073741824) (hp2 : b_1.length ≤ 1073741824) (hp3 : ∀ t ∈ b_1, t.length ≤ 1073741824) (hf_laws_eqInt64SS_1_0 : ((a_0.length : Int) != (b_1.length : Int)) = false) : ∀ (k : Nat) (i_l0 : Int) (hv_laws_eqInt64SS_1_0 : 0 ≤ i_l0) (hk : ((a_0.length : Int) - i_l0).toNat < k), Lp prog 0 (sub (bodyOf f15) [1, 1, 0, 1, 0, 0]) (hd_laws_eqInt64SS_1 a_0 b_1 i_l0) (ls_laws_eqInt64SS_1 a_0 b_1 (lo_laws_eqInt64SS_1 a_0 b_1 k i_l0)).1 (ls_laws_eqInt64SS_1 a_0 b_1 (lo_laws_eqInt64SS_1 a_0 b_1 k i_l0)).2 := by
 intro k
 induction k with
 | zero => intro i_l0 hv_laws_eqInt64SS_1_0 hk; exact absurd hk (Nat.not_lt_zero _)
 | succ k ih =>
  intro i_l0 hv_laws_eqInt64SS_1_0 hk
  have p {a C} (s : Scr a C) := sZ (cL (cI .i64)) a_0 <| s
  cases h_0 : (decide (i_l0 < (a_0.length : Int))) with
  | true =>
   have gh_0 := of_decide_eq_true h_0
   have y_0 : (0 : Int) ≤ i_l0 := by clear p; exact (by first | assumption | omega | (simp_all <;> omega))
   have y_1 : i_l0 < (a_0.length : Int) := by clear p; exact (by first | assumption | omega | (simp_all <;> omega))
   have y_2 : i_l0 < (b_1.length : Int) := by clear p; exact (by first | assumption | omega | (simp_all <;> omega))
   have y_3 : (a_0.getD i_l0.toNat default).length ≤ 1073741824 := by clear p; exact (by first | assumption | omega | (simp_all <;> omega))
   have y_4 : (b_1.getD i_l0.toNat default).length ≤ 1073741824 := by clear p; exact (by first | assumption | omega | (simp_all <;> omega))
   have q {a C} (s : Scr a C) := p (sB h_0 <| sK [8, 8] <| sG (cL (cI .i64)) a_0 i_l0 y_0 y_1 <| sG (cL (cI .i64)) b_1 i_l0 y_0 y_2 <| sF (t_laws_eqInt64S (a_0.getD i_l0.toNat default) (b_1.getD i_l0.toNat default) y_3 y_4) <| s)
   clear p
   cases h_1 : (v_laws_eqInt64S (a_0.getD i_l0.toNat default) (b_1.getD i_l0.toNat default)) with
   | true =>
    have y_5 : (-9223372036854775808 : Int) ≤ (i_l0 + 1) := by clear q; exact (by first | assumption | omega | (simp_all <;> omega))
    have y_6 : (i_l0 + 1) ≤ (9223372036854775807 : Int) := by clear q; exact (by first | assumption | omega | (simp_all <;> omega))
    have e : lo_laws_eqInt64SS_1 a_0 b_1 (k + 1) i_l0 = (lo_laws_eqInt64SS_1 a_0 b_1 k (i_l0 + 1)) := by simp only [lo_laws_eqInt64SS_1, h_0, h_1, cond_true]
    rw [e]
    exact nextR E0Ok hMixed [] mk_laws_eqInt64SS_1_0 [] (ih (i_l0 + 1) (show 0 ≤ (i_l0 + 1) from (by first | assumption | omega | (simp_all <;> omega))) (by first | assumption | omega | (simp_all <;> omega))) (q (sB' h_1 <| sI (i_l0 + 1) y_5 y_6 <| sN)) (by kernel_rfl)
   | false =>
    have e : lo_laws_eqInt64SS_1 a_0 b_1 (k + 1) i_l0 = (.inl ()) := by simp only [lo_laws_eqInt64SS_1, h_0, h_1, cond_true, cond_false]
    rw [e]
    exact outR (e := .ret) E0Ok hMixed [] mk_laws_eqInt64SS_1_1 [] (q (sB' h_1 <| sN)) (by kernel_rfl) (by intro h; cases h)
  | false =>
   have gh_0 := of_decide_eq_false h_0
   have e : lo_laws_eqInt64SS_1 a_0 b_1 (k + 1) i_l0 = (.inr ()) := by simp only [lo_laws_eqInt64SS_1, h_0, cond_false]
   rw [e]
   exact outR (e := (.exit 0)) E0Ok hMixed [] mk_laws_eqInt64SS_1_2 [] (p (sB h_0 <| sN)) (by kernel_rfl) (by intro h; cases h)

def lr_laws_eqInt64SS_1_0 (a_0 : (List (List Int))) (b_1 : (List (List Int))) : (Unit) ⊕ (Unit) := (lo_laws_eqInt64SS_1 a_0 b_1 (((a_0.length : Int) - 0).toNat + 1) 0)

def v_laws_eqInt64SS (a_0 : (List (List Int))) (b_1 : (List (List Int))) : Bool := (cond ((a_0.length : Int) != (b_1.length : Int))
  false
  (match (lr_laws_eqInt64SS_1_0 a_0 b_1) with
    | .inl r2 => false
    | .inr r2 => true))

theorem t_laws_eqInt64SS (a_0 : (List (List Int))) (b_1 : (List (List Int))) (hp0 : a_0.length ≤ 1073741824) (hp1 : ∀ t ∈ a_0, t.length ≤ 1073741824) (hp2 : b_1.length ≤ 1073741824) (hp3 : ∀ t ∈ b_1, t.length ≤ 1073741824)  : Fn prog 15 [.sl (a_0.map (cL (cI .i64))), .sl (b_1.map (cL (cI .i64)))] (.b (v_laws_eqInt64SS a_0 b_1)) [] := by
 have p {a C} (s : Scr a C) := sZ (cL (cI .i64)) a_0 <| sZ (cL (cI .i64)) b_1 <| s
 cases h0 : ((a_0.length : Int) != (b_1.length : Int)) with
 | true =>
  have gh0 := bne_iff_ne.1 h0
  refine fnS E0Ok hMixed (c := bodyOf f15) [] (.b false) [] func15 (p (sB h0 <| sK [] sN)) rfl (by kernel_rfl) (by kernel_rfl) rfl ?_ ?_
  · simp only [v_laws_eqInt64SS, h0, cond_true]
  · rfl
 | false =>
  have gh0 := bne_eq_false_iff_eq.1 h0
  have q {a C} (s : Scr a C) := p (sB h0 <| s)
  clear p
  cases h1 : (lr_laws_eqInt64SS_1_0 a_0 b_1) with
  | inl r2 =>
   refine fnS E0Ok hMixed (c := bodyOf f15) [] (.b false) [] func15 (q (sL mk_laws_eqInt64SS_1_0 0 (lp_val (ls_laws_eqInt64SS_1 a_0 b_1) (x := (lr_laws_eqInt64SS_1_0 a_0 b_1)) (lp_laws_eqInt64SS_1 a_0 b_1 hp0 hp1 hp2 hp3 h0 (((a_0.length : Int) - 0).toNat + 1) 0 (show 0 ≤ 0 from (by first | assumption | omega | (simp_all <;> omega))) (Nat.lt_succ_self _)) h1) <| sK [] sN)) rfl (by kernel_rfl) (by kernel_rfl) rfl ?_ ?_
   · simp only [v_laws_eqInt64SS, h0, h1, cond_false]
   · rfl
  | inr r2 =>
   refine fnS E0Ok hMixed (c := bodyOf f15) [] (.b true) [] func15 (q (sL mk_laws_eqInt64SS_1_0 0 (lp_val (ls_laws_eqInt64SS_1 a_0 b_1) (x := (lr_laws_eqInt64SS_1_0 a_0 b_1)) (lp_laws_eqInt64SS_1 a_0 b_1 hp0 hp1 hp2 hp3 h0 (((a_0.length : Int) - 0).toNat + 1) 0 (show 0 ≤ 0 from (by first | assumption | omega | (simp_all <;> omega))) (Nat.lt_succ_self _)) h1) <| sK [] sN)) rfl (by kernel_rfl) (by kernel_rfl) rfl ?_ ?_
   · simp only [v_laws_eqInt64SS, h0, h1, cond_false]
   · rfl

theorem eqInt64SS_self (a : List (List Int)) : v_laws_eqInt64SS a a = true := by
  unfold v_laws_eqInt64SS lr_laws_eqInt64SS_1_0
  rw [all_from (a := a) (p := fun v => v_laws_eqInt64S v v) (lo := lo_laws_eqInt64SS_1 a a) (x := ()) (y := ()) (fun k i => rfl)]
  rw [show (a.all fun v => v_laws_eqInt64S v v) = true from by rw [List.all_eq_true]; intro v _; exact eqInt64S_self v]
  simp

def v_laws_eqMesh (a_0 : GMesh) (b_1 : GMesh) : Bool := (cond (v_laws_eqVectorS a_0.Places b_1.Places)
  (cond (v_laws_eqInt64SS a_0.Triangles b_1.Triangles)
    true
    false)
  false)

theorem t_laws_eqMesh (a_0 : GMesh) (b_1 : GMesh) (hp0 : a_0.Places.length ≤ 1073741824) (hp1 : a_0.Triangles.length ≤ 1073741824) (hp2 : ∀ t ∈ a_0.Triangles, t.length ≤ 1073741824) (hp3 : b_1.Places.length ≤ 1073741824) (hp4 : b_1.Triangles.length ≤ 1073741824) (hp5 : ∀ t ∈ b_1.Triangles, t.length ≤ 1073741824)  : Fn prog 16 [.agg [.sl (a_0.Places.map GVector.cells), .sl (a_0.Triangles.map (cL (cI .i64)))], .agg [.sl (b_1.Places.map GVector.cells), .sl (b_1.Triangles.map (cL (cI .i64)))]] (.b (v_laws_eqMesh a_0 b_1)) [] := by
 have p {a C} (s : Scr a C) := sF (t_laws_eqVectorS a_0.Places b_1.Places hp0 hp3) <| s
 cases h0 : (v_laws_eqVectorS a_0.Places b_1.Places) with
 | true =>
  have q {a C} (s : Scr a C) := p (sB' h0 <| sF (t_laws_eqInt64SS a_0.Triangles b_1.Triangles hp1 hp2 hp4 hp5) <| s)
  clear p
  cases h1 : (v_laws_eqInt64SS a_0.Triangles b_1.Triangles) with
  | true =>
   refine fnS E0Ok hMixed (c := bodyOf f16) [] (.b true) [] func16 (q (sB' h1 <| sK [] sN)) rfl (by kernel_rfl) (by kernel_rfl) rfl ?_ ?_
   · simp only [v_laws_eqMesh, h0, h1, cond_true]
   · rfl
  | false =>
   refine fnS E0Ok hMixed (c := bodyOf f16) [] (.b false) [] func16 (q (sB' h1 <| sK [] sN)) rfl (by kernel_rfl) (by kernel_rfl) rfl ?_ ?_
   · simp only [v_laws_eqMesh, h0, h1, cond_true, cond_false]
   · rfl
 | false =>
  refine fnS E0Ok hMixed (c := bodyOf f16) [] (.b false) [] func16 (p (sB' h0 <| sK [] sN)) rfl (by kernel_rfl) (by kernel_rfl) rfl ?_ ?_
  · simp only [v_laws_eqMesh, h0, cond_false]
  · rfl

theorem eqMesh_self (a : GMesh) : v_laws_eqMesh a a = true := by
  simp [v_laws_eqMesh, eqVectorS_self, eqInt64SS_self]

def lo_laws_markVectorS_mon_1 (a_0 : (List GVector)) (k_1 : Int) : Nat → Int → Int → (List GVector) → Int × (List GVector)
  | 0, _, _, _ => default
  | k + 1, k_l0, i_l1, r0_l2 => (cond (decide (i_l1 < (r0_l2.length : Int)))
    (lo_laws_markVectorS_mon_1 a_0 k_1 k (IntKind.wrap .i64 ((IntKind.wrap .i64 ((IntKind.wrap .i64 (k_l0 + 1)) + 1)) + 1)) (i_l1 + 1) (r0_l2.set i_l1.toNat (⟨(ofInt .f32 k_l0), (ofInt .f32 (IntKind.wrap .i64 (k_l0 + 1))), (ofInt .f32 (IntKind.wrap .i64 ((IntKind.wrap .i64 (k_l0 + 1)) + 1)))⟩ : GVector)))
    (k_l0, r0_l2))

def ls_laws_markVectorS_mon_1 (a_0 : (List GVector)) (k_1 : Int) (r : Int × (List GVector)) : Ex × St := ((.exit 0), ⟨[.any, .i .i64 r.1, .any, .any, .i .i64 0, .any, .any, .any, .any, .any, .any, .any, .any, .any, .any, .any, .any, .any, .any, .any, .any, .any, .any, .any, .any, .any, .any, .any, .any, .any, .any, .any, .any, .any, .any, .any, .any], [.vec 67 3 (r.2.map GVector.cells) false]⟩)

def hd_laws_markVectorS_mon_1 (a_0 : (List GVector)) (k_1 : Int) (k_l0 : Int) (i_l1 : Int) (r0_l2 : (List GVector)) : St := ⟨[.own 0, .i .i64 k_l0, .any, .any, .i .i64 0, .i .i64 i_l1, .any, .any, .any, .any, .any, .any, .any, .any, .any, .any, .any, .any, .any, .any, .any, .any, .any, .any, .any, .any, .any, .any, .any, .any, .any, .any, .any, .any, .any, .any, .any], [.vec 67 3 (r0_l2.map GVector.cells) false]⟩

def mk_laws_markVectorS_mon_1_0 : List Bool := [true, true, false, false, true, true, false, false, false, false, false, false, false, false, false, false, false, false, false, false, false, false, false, false, false, false, false, false, false, false, false, false, false, false, false, false, false]

def mk_laws_markVectorS_mon_1_1 : List Bool := [false, true, false, false, true, false, false, false, false, false, false, false, false, false, false, false, false, false, false, false, false, false, false, false, false, false, false, false, false, false, false, false, false, false, false, false, false]

theorem lp_laws_markVectorS_mon_1 (a_0 : (List GVector)) (k_1 : Int) (hp0 : a_0.length ≤ 1073741824) : ∀ (k : Nat) (k_l0 : Int) (i_l1 : Int) (r0_l2 : (List GVector)) (hv_laws_markVectorS_mon_1_0 : 0 ≤ i_l1) (hv_laws_markVectorS_mon_1_1 : r0_l2.length = a_0.length) (hk : ((a_0.length : Int) - i_l1).toNat < k), Lp prog 1 (sub (bodyOf f59) [1, 0, 1, 0, 0]) (hd_laws_markVectorS_mon_1 a_0 k_1 k_l0 i_l1 r0_l2) (ls_laws_markVectorS_mon_1 a_0 k_1 (lo_laws_markVectorS_mon_1 a_0 k_1 k k_l0 i_l1 r0_l2)).1 (ls_laws_markVectorS_mon_1 a_0 k_1 (lo_laws_markVectorS_mon_1 a_0 k_1 k k_l0 i_l1 r0_l2)).2 := by
 intro k
 induction k with
 | zero => intro k_l0 i_l1 r0_l2 hv_laws_markVectorS_mon_1_0 hv_laws_markVectorS_mon_1_1 hk; exact absurd hk (Nat.not_lt_zero _)
 | succ k ih =>
  intro k_l0 i_l1 r0_l2 hv_laws_markVectorS_mon_1_0 hv_laws_markVectorS_mon_1_1 hk
  have p {a C} (s : Scr a C) := sZ GVector.cells r0_l2 <| s
  cases h_0 : (decide (i_l1 < (r0_l2.length : Int))) with
  | true =>
   have gh_0 := of_decide_eq_true h_0
   have y_0 : (0 : Int) ≤ i_l1 := by clear p; exact (by first | assumption | omega | (simp_all <;> omega))
   have y_1 : i_l1 < (r0_l2.length : Int) := by clear p; exact (by first | assumption | omega | (simp_all <;> omega))
   have y_2 : i_l1.toNat < r0_l2.length := by clear p; exact (by first | assumption | omega | (simp_all <;> omega))
   have y_3 : i_l1 < ((r0_l2.set i_l1.toNat (⟨(ofInt .f32 k_l0), (r0_l2.getD i_l1.toNat default).Y, (r0_l2.getD i_l1.toNat default).Z⟩ : GVector)).length : Int) := by clear p; exact (by first | assumption | omega | (simp_all <;> omega))
   have y_4 : i_l1 < ((r0_l2.set i_l1.toNat (⟨(ofInt .f32 k_l0), (ofInt .f32 (IntKind.wrap .i64 (k_l0 + 1))), (r0_l2.getD i_l1.toNat default).Z⟩ : GVector)).length : Int) := by clear p; exact (by first | assumption | omega | (simp_all <;> omega))
   have y_5 : (-9223372036854775808 : Int) ≤ (i_l1 + 1) := by clear p; exact (by first | assumption | omega | (simp_all <;> omega))
   have y_6 : (i_l1 + 1) ≤ (9223372036854775807 : Int) := by clear p; exact (by first | assumption | omega | (simp_all <;> omega))
   have e : lo_laws_markVectorS_mon_1 a_0 k_1 (k + 1) k_l0 i_l1 r0_l2 = (lo_laws_markVectorS_mon_1 a_0 k_1 k (IntKind.wrap .i64 ((IntKind.wrap .i64 ((IntKind.wrap .i64 (k_l0 + 1)) + 1)) + 1)) (i_l1 + 1) (r0_l2.set i_l1.toNat (⟨(ofInt .f32 k_l0), (ofInt .f32 (IntKind.wrap .i64 (k_l0 + 1))), (ofInt .f32 (IntKind.wrap .i64 ((IntKind.wrap .i64 (k_l0 + 1)) + 1)))⟩ : GVector))) := by simp only [lo_laws_markVectorS_mon_1, h_0, cond_true]
   rw [e]
   exact nextS (EpOk 1) hMixed [] mk_laws_markVectorS_mon_1_0 [] (⟨[.own 0, .i .i64 (IntKind.wrap .i64 ((IntKind.wrap .i64 ((IntKind.wrap .i64 (k_l0 + 1)) + 1)) + 1)), .any, .any, .i .i64 0, .i .i64 (i_l1 + 1), .any, .any, .any, .any, .any, .any, .any, .any, .any, .any, .any, .any, .any, .any, .any, .any, .any, .any, .any, .any, .any, .any, .any, .any, .any, .any, .any, .any, .any, .any, .any], [.vec 67 3 ((((r0_l2.map GVector.cells).set i_l1.toNat [.f .f32 (ofInt .f32 k_l0), .f .f32 ((r0_l2.getD i_l1.toNat default).Y), .f .f32 ((r0_l2.getD i_l1.toNat default).Z)]).set i_l1.toNat [.f .f32 (ofInt .f32 k_l0), .f .f32 (ofInt .f32 (IntKind.wrap .i64 (k_l0 + 1))), .f .f32 ((r0_l2.getD i_l1.toNat default).Z)]).set i_l1.toNat [.f .f32 (ofInt .f32 k_l0), .f .f32 (ofInt .f32 (IntKind.wrap .i64 (k_l0 + 1))), .f .f32 (ofInt .f32 (IntKind.wrap .i64 ((IntKind.wrap .i64 (k_l0 + 1)) + 1)))]) false]⟩) (p (sB h_0 <| sX GVector.cells r0_l2 i_l1 y_0 y_1 <| sV GVector.cells r0_l2 i_l1.toNat y_2 <| sW .i64 (k_l0 + 1) <| sC (show 0 ≤ i_l1 ∧ Int.toNat i_l1 < ((r0_l2.map GVector.cells).set i_l1.toNat [.f .f32 (ofInt .f32 k_l0), .f .f32 ((r0_l2.getD i_l1.toNat default).Y), .f .f32 ((r0_l2.getD i_l1.toNat default).Z)]).length from (by simpa using idx_ok (c := GVector.cells) (l := (r0_l2.set i_l1.toNat (⟨(ofInt .f32 k_l0), (r0_l2.getD i_l1.toNat default).Y, (r0_l2.getD i_l1.toNat default).Z⟩ : GVector))) (i := i_l1) y_0 y_3)) <| sE (show ((r0_l2.map GVector.cells).set i_l1.toNat [.f .f32 (ofInt .f32 k_l0), .f .f32 ((r0_l2.getD i_l1.toNat default).Y), .f .f32 ((r0_l2.getD i_l1.toNat default).Z)])[i_l1.toNat]? = some [.f .f32 (ofInt .f32 k_l0), .f .f32 ((r0_l2.getD i_l1.toNat default).Y), .f .f32 ((r0_l2.getD i_l1.toNat default).Z)] from List.getElem?_set_self (by simpa using y_2)) <| sW .i64 ((IntKind.wrap .i64 (k_l0 + 1)) + 1) <| sC (show 0 ≤ i_l1 ∧ Int.toNat i_l1 < (((r0_l2.map GVector.cells).set i_l1.toNat [.f .f32 (ofInt .f32 k_l0), .f .f32 ((r0_l2.getD i_l1.toNat default).Y), .f .f32 ((r0_l2.getD i_l1.toNat default).Z)]).set i_l1.toNat [.f .f32 (ofInt .f32 k_l0), .f .f32 (ofInt .f32 (IntKind.wrap .i64 (k_l0 + 1))), .f .f32 ((r0_l2.getD i_l1.toNat default).Z)]).length from (by simpa using idx_ok (c := GVector.cells) (l := (r0_l2.set i_l1.toNat (⟨(ofInt .f32 k_l0), (ofInt .f32 (IntKind.wrap .i64 (k_l0 + 1))), (r0_l2.getD i_l1.toNat default).Z⟩ : GVector))) (i := i_l1) y_0 y_4)) <| sE (show (((r0_l2.map GVector.cells).set i_l1.toNat [.f .f32 (ofInt .f32 k_l0), .f .f32 ((r0_l2.getD i_l1.toNat default).Y), .f .f32 ((r0_l2.getD i_l1.toNat default).Z)]).set i_l1.toNat [.f .f32 (ofInt .f32 k_l0), .f .f32 (ofInt .f32 (IntKind.wrap .i64 (k_l0 + 1))), .f .f32 ((r0_l2.getD i_l1.toNat default).Z)])[i_l1.toNat]? = some [.f .f32 (ofInt .f32 k_l0), .f .f32 (ofInt .f32 (IntKind.wrap .i64 (k_l0 + 1))), .f .f32 ((r0_l2.getD i_l1.toNat default).Z)] from List.getElem?_set_self (by simpa using y_2)) <| sW .i64 ((IntKind.wrap .i64 ((IntKind.wrap .i64 (k_l0 + 1)) + 1)) + 1) <| sI (i_l1 + 1) y_5 y_6 <| sN)) (by kernel_rfl) (show _ = ⟨[.own 0, .i .i64 (IntKind.wrap .i64 ((IntKind.wrap .i64 ((IntKind.wrap .i64 (k_l0 + 1)) + 1)) + 1)), .any, .any, .i .i64 0, .i .i64 (i_l1 + 1), .any, .any, .any, .any, .any, .any, .any, .any, .any, .any, .any, .any, .any, .any, .any, .any, .any, .any, .any, .any, .any, .any, .any, .any, .any, .any, .any, .any, .any, .any, .any], [.vec 67 3 ((r0_l2.set i_l1.toNat (⟨(ofInt .f32 k_l0), (ofInt .f32 (IntKind.wrap .i64 (k_l0 + 1))), (ofInt .f32 (IntKind.wrap .i64 ((IntKind.wrap .i64 (k_l0 + 1)) + 1)))⟩ : GVector)).map GVector.cells) false]⟩ from (by simp [List.map_set, GVector.cells])) (ih (IntKind.wrap .i64 ((IntKind.wrap .i64 ((IntKind.wrap .i64 (k_l0 + 1)) + 1)) + 1)) (i_l1 + 1) (r0_l2.set i_l1.toNat (⟨(ofInt .f32 k_l0), (ofInt .f32 (IntKind.wrap .i64 (k_l0 + 1))), (ofInt .f32 (IntKind.wrap .i64 ((IntKind.wrap .i64 (k_l0 + 1)) + 1)))⟩ : GVector)) (show 0 ≤ (i_l1 + 1) from (by first | assumption | omega | (simp_all <;> omega))) (show (r0_l2.set i_l1.toNat (⟨(ofInt .f32 k_l0), (ofInt .f32 (IntKind.wrap .i64 (k_l0 + 1))), (ofInt .f32 (IntKind.wrap .i64 ((IntKind.wrap .i64 (k_l0 + 1)) + 1)))⟩ : GVector)).length = a_0.length from (by first | assumption | omega | (simp_all <;> omega))) (by first | assumption | omega | (simp_all <;> omega)))
  | false =>
   have gh_0 := of_decide_eq_false h_0
   have e : lo_laws_markVectorS_mon_1 a_0 k_1 (k + 1) k_l0 i_l1 r0_l2 = (k_l0, r0_l2) := by simp only [lo_laws_markVectorS_mon_1, h_0, cond_false]
   rw [e]
   exact outR (e := (.exit 0)) (EpOk 1) hMixed [] mk_laws_markVectorS_mon_1_1 [] (p (sB h_0 <| sN)) (by kernel_rfl) (by intro h; cases h)

theorem ln_laws_markVectorS_mon_1_1 (a_0 : (List GVector)) (k_1 : Int) : ∀ (k : Nat) (k_l0 : Int) (i_l1 : Int) (r0_l2 : (List GVector)) (hk : ((r0_l2.length : Int) - i_l1).toNat < k), (lo_laws_markVectorS_mon_1 a_0 k_1 k k_l0 i_l1 r0_l2).2.length = r0_l2.length := by
  intro k
  induction k with
  | zero => intro k_l0 i_l1 r0_l2 hk; exact absurd hk (Nat.not_lt_zero _)
  | succ k ih =>
    intro k_l0 i_l1 r0_l2 hk
    cases h_0 : (decide (i_l1 < (r0_l2.length : Int))) with
    | true =>
      have e : lo_laws_markVectorS_mon_1 a_0 k_1 (k + 1) k_l0 i_l1 r0_l2 = (lo_laws_markVectorS_mon_1 a_0 k_1 k (IntKind.wrap .i64 ((IntKind.wrap .i64 ((IntKind.wrap .i64 (k_l0 + 1)) + 1)) + 1)) (i_l1 + 1) (r0_l2.set i_l1.toNat (⟨(ofInt .f32 k_l0), (ofInt .f32 (IntKind.wrap .i64 (k_l0 + 1))), (ofInt .f32 (IntKind.wrap .i64 ((IntKind.wrap .i64 (k_l0 + 1)) + 1)))⟩ : GVector))) := by simp only [lo_laws_markVectorS_mon_1, h_0, cond_true]
      rw [e, ih (IntKind.wrap .i64 ((IntKind.wrap .i64 ((IntKind.wrap .i64 (k_l0 + 1)) + 1)) + 1)) (i_l1 + 1) (r0_l2.set i_l1.toNat (⟨(ofInt .f32 k_l0), (ofInt .f32 (IntKind.wrap .i64 (k_l0 + 1))), (ofInt .f32 (IntKind.wrap .i64 ((IntKind.wrap .i64 (k_l0 + 1)) + 1)))⟩ : GVector)) (by first | assumption | omega | (simp_all <;> omega))]; simp
    | false =>
      have e : lo_laws_markVectorS_mon_1 a_0 k_1 (k + 1) k_l0 i_l1 r0_l2 = (k_l0, r0_l2) := by simp only [lo_laws_markVectorS_mon_1, h_0, cond_false]
      first | (rw [e]; done) | (rw [e]; rfl)

end Go.Ab
