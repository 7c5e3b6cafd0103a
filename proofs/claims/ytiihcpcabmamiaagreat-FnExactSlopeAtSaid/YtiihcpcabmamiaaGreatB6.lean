/- The functions of this seat as plain Lean, and that the program's are these. Printed by a program of the prover's own. -/
import Derived.Test.YtiihcpcabmamiaaGreatB5
set_option linter.unusedVariables false
set_option linter.unusedSimpArgs false
set_option maxRecDepth 100000
namespace Go.Ab
open Go.RowKit Go.Proofs.Tryz

def lr_impl_trianglesByEdge_1_1 (m_0 : GMesh) : (List (Gedge × List Int)) × (List Gedge) := (lo_impl_trianglesByEdge_1 m_0 (((m_0.Triangles.length : Int) - 0).toNat + 1) 0 ([] : (List (Gedge × List Int))) ([] : List Gedge))

theorem loT1_st (m : GMesh) (k : Nat) (i : Int) (b : List (Gedge × List Int)) (l : List Gedge) (h0 : 0 ≤ i) : lo_impl_trianglesByEdge_1 m (k + 1) i b l = cond (decide (i < (m.Triangles.length : Int))) (lo_impl_trianglesByEdge_1 m k (i + 1) (stT (b, l) (m.Triangles.getD i.toNat default) i).1 (stT (b, l) (m.Triangles.getD i.toNat default) i).2) (b, l) := by
  have st : ∀ (x : Int) (k : Nat) (b : List (Gedge × List Int)) (l : List Gedge), x < 3 → lo_impl_trianglesByEdge_2 m i b l (k + 1) x b l = lo_impl_trianglesByEdge_2 m i b l (k + 1) x b l := fun _ _ _ _ _ => rfl
  have one : ∀ (b0 : List (Gedge × List Int)) (l0 : List Gedge) (k : Nat) (x : Int) (s : List (Gedge × List Int) × List Gedge), x < 3 → lo_impl_trianglesByEdge_2 m i b0 l0 (k + 1) x s.1 s.2 = lo_impl_trianglesByEdge_2 m i b0 l0 k (x + 1) (stE s (nd_impl_trianglesByEdge_0 m i x) i).1 (stE s (nd_impl_trianglesByEdge_0 m i x) i).2 := by
    intro b0 l0 k x s hx
    rw [lo_impl_trianglesByEdge_2, decide_eq_true hx, cond_true]
    unfold stE
    cases mhas s.1 (nd_impl_trianglesByEdge_0 m i x) with
    | true =>
      rw [cond_true, cond_true]
      cases (((s.1.getD (midx s.1 (nd_impl_trianglesByEdge_0 m i x)) default).2.length : Int) == 0) <;> rfl
    | false => rfl
  have tri : lr_impl_trianglesByEdge_2_0 m i b l = stT (b, l) (m.Triangles.getD i.toNat default) i := by
    unfold lr_impl_trianglesByEdge_2_0
    show lo_impl_trianglesByEdge_2 m i b l 4 0 (b, l).1 (b, l).2 = _
    rw [one b l 3 0 (b, l) (by omega), one b l 2 (0 + 1) _ (by omega), one b l 1 (0 + 1 + 1) _ (by omega), lo_impl_trianglesByEdge_2]
    show cond (decide ((3 : Int) < 3)) _ _ = _
    rw [decide_eq_false (by omega), cond_false]
    unfold nd_impl_trianglesByEdge_0 stT
    simp only [edgeOf_eq]
    rfl
  rw [lo_impl_trianglesByEdge_1, tri]
theorem etab_is (m : GMesh) (ok : OkE m.Places.length m.Triangles) : ETab m.Triangles m.Triangles.length (lr_impl_trianglesByEdge_1_1 m) := by
  unfold lr_impl_trianglesByEdge_1_1
  exact ETab.loop ok (loT1_st m) _ 0 ([], []) (Nat.zero_le _) (ETab.nil _) (by omega)
theorem loTE_len (m : GMesh) (ok : OkE m.Places.length m.Triangles) : (lr_impl_trianglesByEdge_1_1 m).2.length ≤ 4096 := by
  have h := congrArg List.length ((etab_is m ok).sorted ok)
  rw [length_sortE] at h
  rw [h]; exact edgL_len ok

end Go.Ab
namespace Go.Proofs
open Go.Shelf
def Tryz.laysF0n6_ren : Go.Shelf.Ren := ⟨fun | 6 => 116 | 15 => 120 | 14 => 119 | 28 => 130 | 29 => 131 | 20 => 122 | 21 => 123 | 22 => 124 | 23 => 125 | 24 => 126 | 25 => 127 | 26 => 128 | 27 => 129 | 46 => 133 | 47 => 134 | 48 => 135 | 49 => 136 | 50 => 137 | 57 => 139 | n => n, fun | 22 => 132 | 24 => 136 | 25 => 144 | 3 => 3 | 39 => 147 | 0 => 0 | 53 => 158 | 55 => 160 | 4 => 4 | 46 => 151 | 45 => 150 | 50 => 155 | 5 => 5 | 9 => 9 | 66 => 162 | 70 => 166 | 76 => 169 | 77 => 170 | n => n, fun | n => n⟩
theorem Tryz.laysF0n6 : Go.Proofs.SlLaysF0.n6 Tryz.prog Tryz.laysF0n6_ren := {
  mixed := by kernel_rfl
  f6 := ⟨Tryz.f116.name, by decide, Tryz.func116.trans (congrArg some (by kernel_rfl))⟩
  f14 := ⟨Tryz.f119.name, by decide, Tryz.func119.trans (congrArg some (by kernel_rfl))⟩
  f15 := Tryz.func120.trans (congrArg some (by kernel_rfl))
  f20 := ⟨Tryz.f122.name, by decide, Tryz.func122.trans (congrArg some (by kernel_rfl))⟩
  f21 := ⟨Tryz.f123.name, by decide, Tryz.func123.trans (congrArg some (by kernel_rfl))⟩
  f22 := ⟨Tryz.f124.name, by decide, Tryz.func124.trans (congrArg some (by kernel_rfl))⟩
  f23 := ⟨Tryz.f125.name, by decide, Tryz.func125.trans (congrArg some (by kernel_rfl))⟩
  f24 := ⟨Tryz.f126.name, by decide, Tryz.func126.trans (congrArg some (by kernel_rfl))⟩
  f25 := ⟨Tryz.f127.name, by decide, Tryz.func127.trans (congrArg some (by kernel_rfl))⟩
  f26 := ⟨Tryz.f128.name, by decide, Tryz.func128.trans (congrArg some (by kernel_rfl))⟩
  f27 := ⟨Tryz.f129.name, by decide, Tryz.func129.trans (congrArg some (by kernel_rfl))⟩
  f28 := Tryz.func130.trans (congrArg some (by kernel_rfl))
  f29 := Tryz.func131.trans (congrArg some (by kernel_rfl))
  f46 := ⟨Tryz.f133.name, by decide, Tryz.func133.trans (congrArg some (by kernel_rfl))⟩
  f47 := Tryz.func134.trans (congrArg some (by kernel_rfl))
  f48 := Tryz.func135.trans (congrArg some (by kernel_rfl))
  f49 := ⟨Tryz.f136.name, by decide, Tryz.func136.trans (congrArg some (by kernel_rfl))⟩
  f50 := ⟨Tryz.f137.name, by decide, Tryz.func137.trans (congrArg some (by kernel_rfl))⟩
  f57 := ⟨Tryz.f139.name, by decide, Tryz.func139.trans (congrArg some (by kernel_rfl))⟩
  t0 := Tryz.underlying0
  a0 := Tryz.isAgg0
  z0 := Tryz.sizeOf0
  v0 := Tryz.zeroValue0
  t3 := Tryz.underlying3
  a3 := Tryz.isAgg3
  z3 := Tryz.sizeOf3
  v3 := Tryz.zeroValue3
  t4 := Tryz.underlying4
  a4 := Tryz.isAgg4
  z4 := Tryz.sizeOf4
  v4 := Tryz.zeroValue4
  t5 := Tryz.underlying5
  a5 := Tryz.isAgg5
  z5 := Tryz.sizeOf5
  v5 := Tryz.zeroValue5
  t9 := Tryz.underlying9
  a9 := Tryz.isAgg9
  z9 := Tryz.sizeOf9
  v9 := Tryz.zeroValue9
  t22 := Tryz.underlying132
  a22 := Tryz.isAgg132
  z22 := Tryz.sizeOf132
  v22 := Tryz.zeroValue132
  t25 := Tryz.underlying144
  a25 := Tryz.isAgg144
  z25 := Tryz.sizeOf144
  v25 := Tryz.zeroValue144
  t39 := Tryz.underlying147
  a39 := Tryz.isAgg147
  z39 := Tryz.sizeOf147
  v39 := Tryz.zeroValue147
  t45 := Tryz.underlying150
  a45 := Tryz.isAgg150
  z45 := Tryz.sizeOf150
  v45 := Tryz.zeroValue150
  t46 := Tryz.underlying151
  a46 := Tryz.isAgg151
  z46 := Tryz.sizeOf151
  v46 := Tryz.zeroValue151
  t50 := Tryz.underlying155
  a50 := Tryz.isAgg155
  z50 := Tryz.sizeOf155
  v50 := Tryz.zeroValue155
  t53 := Tryz.underlying158
  a53 := Tryz.isAgg158
  z53 := Tryz.sizeOf158
  v53 := Tryz.zeroValue158
  t55 := Tryz.underlying160
  a55 := Tryz.isAgg160
  z55 := Tryz.sizeOf160
  v55 := Tryz.zeroValue160
  t66 := Tryz.underlying162
  a66 := Tryz.isAgg162
  z66 := Tryz.sizeOf162
  v66 := Tryz.zeroValue162
  t70 := Tryz.underlying166
  a70 := Tryz.isAgg166
  z70 := Tryz.sizeOf166
  v70 := Tryz.zeroValue166
  t76 := Tryz.underlying169
  a76 := Tryz.isAgg169
  z76 := Tryz.sizeOf169
  v76 := Tryz.zeroValue169
  t77 := Tryz.underlying170
  a77 := Tryz.isAgg170
  z77 := Tryz.sizeOf170
  v77 := Tryz.zeroValue170 }
end Go.Proofs
namespace Go.Ab
open Go.RowKit Go.Proofs.Tryz

theorem v_cmpC (x y : Int) : v_cmp_Compare_int64_ x y = if x < y then -1 else if x > y then 1 else 0 := by
  unfold v_cmp_Compare_int64_ v_cmp_isNaN_int64_
  simp only [bne_self_eq_false, cond_false]
  by_cases h1 : x < y
  · simp [h1]
  · by_cases h2 : x > y <;> simp [h1, h2]

theorem v_cmpE (a b : Gedge) : v_impl_compareEdges a b = cmpP a.pr b.pr := by
  unfold v_impl_compareEdges v_slices_Compare___int64_int64_ lr_slices_Compare___int64_int64__1_0 cmpP Gedge.pr
  show (match lo_slices_Compare___int64_int64__1 [a.e0, a.e1] [b.e0, b.e1] 3 0 with | .inl r1 => r1 | .inr r1 => cond (decide (((2 : Nat) : Int) < ((2 : Nat) : Int))) (-1) 0) = _
  simp only [lo_slices_Compare___int64_int64__1, v_cmpC, List.length_cons, List.length_nil]
  by_cases h1 : a.e0 < b.e0
  · simp [h1]
  · by_cases h2 : a.e0 > b.e0
    · simp [h1, h2]
    · by_cases h3 : a.e1 < b.e1
      · simp [h1, h2, h3]
      · by_cases h4 : a.e1 > b.e1 <;> simp [h1, h2, h3, h4]

def sort_impl_compareEdges (l : List Gedge) : List Gedge := sortE Gedge.pr l

theorem t_sort_impl_compareEdges (l : List Gedge) (h : l.length ≤ 1073741824) : CallSt prog 116 [.vec 136 2 (l.map Gedge.cells) false] [.own 0, .fn 117 []] (.tup []) [.vec 136 2 ((sort_impl_compareEdges l).map Gedge.cells) false] :=
  sort_row laysF0n6 isAgg136 sizeOf136 Gedge.pr Gedge.inj Gedge.cells (fun _ => rfl) 136 117 ⟨_, func116, rfl, by kernel_rfl⟩ (t_impl_compareEdges default default).1
    (fun a b W => ((t_impl_compareEdges a b).2 W #[keyV a.pr, keyV b.pr] ⟨rfl, fun j c e => by match j, e with | 0, e => cases e; exact Rep.agg _ _ rfl (fun i c e => by match i, e with | 0, e => cases e; exact .i _ _ | 1, e => cases e; exact .i _ _) | 1, e => cases e; exact Rep.agg _ _ rfl (fun i c e => by match i, e with | 0, e => cases e; exact .i _ _ | 1, e => cases e; exact .i _ _)⟩).mono fun e w' ⟨v, μ', he, hb, _, hr⟩ => by
      cases hr; rw [v_cmpE] at he; exact ⟨he, hb⟩) l h

def v_impl_trianglesByEdge (m_0 : GMesh) : (List (Gedge × List Int)) × (List Gedge) := ((lr_impl_trianglesByEdge_1_1 m_0).1, (sort_impl_compareEdges ((lr_impl_trianglesByEdge_1_1 m_0).2)))

theorem edges_eq (m : GMesh) (ok : OkE m.Places.length m.Triangles) : (v_impl_trianglesByEdge m).2 = edgL m.Places.length m.Triangles := (etab_is m ok).sorted ok
theorem edges_at (m : GMesh) (ok : OkE m.Places.length m.Triangles) {e : Gedge} (he : e ∈ (v_impl_trianglesByEdge m).2) : mhas (v_impl_trianglesByEdge m).1 e = true ∧ ((v_impl_trianglesByEdge m).1.getD (midx (v_impl_trianglesByEdge m).1 e) default).2 = idxP m.Triangles e.e0 e.e1 := by
  rw [edges_eq m ok] at he
  have h := (etab_is m ok).at ok he
  exact ⟨h.1, h.2.trans (idxE_eq ok (mem_edgL.1 he).1.2.1)⟩
theorem edges_len (m : GMesh) (ok : OkE m.Places.length m.Triangles) : (v_impl_trianglesByEdge m).2.length ≤ 4096 := by
  rw [edges_eq m ok]; exact edgL_len ok
theorem edges_mem (m : GMesh) (ok : OkE m.Places.length m.Triangles) {i : Int} (h0 : 0 ≤ i) (hi : i < ((v_impl_trianglesByEdge m).2.length : Int)) : (v_impl_trianglesByEdge m).2.getD i.toNat default ∈ (v_impl_trianglesByEdge m).2 := by
  have hn : i.toNat < (v_impl_trianglesByEdge m).2.length := by omega
  rw [List.getD_eq_getElem?_getD, List.getElem?_eq_getElem hn]; exact List.getElem_mem hn
theorem edges_nth (m : GMesh) (ok : OkE m.Places.length m.Triangles) {i : Int} (h0 : 0 ≤ i) (hi : i < ((v_impl_trianglesByEdge m).2.length : Int)) :
    0 ≤ ((v_impl_trianglesByEdge m).2.getD i.toNat default).e0 ∧ ((v_impl_trianglesByEdge m).2.getD i.toNat default).e0 < ((v_impl_trianglesByEdge m).2.getD i.toNat default).e1 ∧ ((v_impl_trianglesByEdge m).2.getD i.toNat default).e1 < (m.Places.length : Int) ∧ (m.Places.length : Int) ≤ 64 ∧ ((v_impl_trianglesByEdge m).2.length : Int) ≤ 4096 := by
  have hl := edges_len m ok
  have h64 := ok.1
  have hm := edges_mem m ok h0 hi
  rw [edges_eq m ok] at hm
  have hb := edgL_at hm
  rw [← edges_eq m ok] at hb
  exact ⟨hb.1, hb.2.1, hb.2.2, by omega, by omega⟩
theorem hg_at (m : GMesh) (ok : OkE m.Places.length m.Triangles) {i : Int} (h0 : 0 ≤ i) (hi : i < ((v_impl_trianglesByEdge m).2.length : Int))
    (h2 : ((((v_impl_trianglesByEdge m).1.getD (midx (v_impl_trianglesByEdge m).1 ((v_impl_trianglesByEdge m).2.getD i.toNat default)) default).2.length : Int)) = 2) :
    0 ≤ ((v_impl_trianglesByEdge m).1.getD (midx (v_impl_trianglesByEdge m).1 ((v_impl_trianglesByEdge m).2.getD i.toNat default)) default).2.getD 0 default ∧ ((v_impl_trianglesByEdge m).1.getD (midx (v_impl_trianglesByEdge m).1 ((v_impl_trianglesByEdge m).2.getD i.toNat default)) default).2.getD 0 default < (m.Triangles.length : Int) ∧
    0 ≤ ((v_impl_trianglesByEdge m).1.getD (midx (v_impl_trianglesByEdge m).1 ((v_impl_trianglesByEdge m).2.getD i.toNat default)) default).2.getD 1 default ∧ ((v_impl_trianglesByEdge m).1.getD (midx (v_impl_trianglesByEdge m).1 ((v_impl_trianglesByEdge m).2.getD i.toNat default)) default).2.getD 1 default < (m.Triangles.length : Int) ∧ (m.Triangles.length : Int) ≤ 128 := by
  obtain ⟨g1, g2⟩ := edges_at m ok (edges_mem m ok h0 hi)
  rw [g2] at h2 ⊢
  have a1 := idxP_at (ts := m.Triangles) (a := ((v_impl_trianglesByEdge m).2.getD i.toNat default).e0) (b := ((v_impl_trianglesByEdge m).2.getD i.toNat default).e1) (k := 0) (by omega)
  have a2 := idxP_at (ts := m.Triangles) (a := ((v_impl_trianglesByEdge m).2.getD i.toNat default).e0) (b := ((v_impl_trianglesByEdge m).2.getD i.toNat default).e1) (k := 1) (by omega)
  have := ok.2.1
  exact ⟨a1.1, a1.2.1, a2.1, a2.2.1, by omega⟩

theorem t_impl_trianglesByEdge (m_0 : GMesh) (hp0 : m_0.Places.length ≤ 1073741824) (hp1 : m_0.Triangles.length ≤ 1073741824) (hp2 : ∀ t ∈ m_0.Triangles, t.length ≤ 1073741824) (hp3 : OkE m_0.Places.length m_0.Triangles)  : Fn prog 107 [.agg [.sl (m_0.Places.map GVector.cells), .sl (m_0.Triangles.map (cL (cI .i64)))]] (.tup [.mp 0, .own 1]) [.mapN 2 (mapC Gedge.pr (cI .i64) ((v_impl_trianglesByEdge m_0).1)) none, .vec 136 2 (((v_impl_trianglesByEdge m_0).2).map Gedge.cells) false] := by
 have y0 : ((lr_impl_trianglesByEdge_1_1 m_0).2).length ≤ 1073741824 := (by first | assumption | omega | (first | (have g5 := of_decide_eq_true hf_impl_trianglesByEdge_2_0; have q := OkE.at hp3 hv_impl_trianglesByEdge_1_0 g5 hv_impl_trianglesByEdge_2_0 (of_decide_eq_true (by assumption)); first | omega | (simp only [List.length_append, List.length_cons, List.length_nil]; omega) | (have q3 := mlen_leI (N := 3 * x_l0 + x_l0_1) (by omega) (by assumption) (midx r1_l1_1 (nd_impl_trianglesByEdge_0 m_0 x_l0 x_l0_1)); simp only [List.length_cons, List.length_nil]; omega)) | (have := hp3.2.1; omega) | (have q := loTE_len m_0 hp3; omega)) | (simp_all <;> omega))
 refine fnS E0Ok hMixed (c := bodyOf f107) [] (.tup [.mp 0, .own 1]) [.mapN 2 (mapC Gedge.pr (cI .i64) ((lr_impl_trianglesByEdge_1_1 m_0).1)) none, .vec 136 2 ((sort_impl_compareEdges ((lr_impl_trianglesByEdge_1_1 m_0).2)).map Gedge.cells) false] func107 (sZ (cL (cI .i64)) m_0.Triangles <| sL mk_impl_trianglesByEdge_1_0 3 (lp_cast (st2 := ⟨[.agg [.sl (m_0.Places.map GVector.cells), .sl (m_0.Triangles.map (cL (cI .i64)))], .ptr 0 0 0, .any, .nils, .mp 1, .own 2, .any, .any, .any, .any, .mp 1, .any, .ptr 0 0 1, .sl (m_0.Triangles.map (cL (cI .i64))), .i .i64 (m_0.Triangles.length : Int), .i .i64 0, .any, .any, .any, .any, .any, .any, .any, .any, .any, .any, .any, .any, .any, .any, .any, .any, .any, .any, .any, .any, .any, .any, .any, .any, .any, .any, .any, .any, .any, .any, .any, .any, .any, .any, .any, .any, .any, .any, .any, .any, .any], [.box 38 [.sl (m_0.Places.map GVector.cells), .sl (m_0.Triangles.map (cL (cI .i64)))], .mapN 2 [] none, .vec 136 2 ([] : List (List AV)) false]⟩) (lp_val (ls_impl_trianglesByEdge_1 m_0) (x := (lr_impl_trianglesByEdge_1_1 m_0)) (lp_impl_trianglesByEdge_1 m_0 hp0 hp1 hp2 hp3 (((m_0.Triangles.length : Int) - 0).toNat + 1) 0 ([] : (List (Gedge × List Int))) ([] : List Gedge) (show 0 ≤ 0 from (by first | omega | (simp; done) | (intro y hy; have q := hv_impl_trianglesByEdge_1_2 y hy; omega))) (show (([] : List Gedge).length : Int) ≤ 3 * 0 from (by first | omega | (simp; done) | (intro y hy; have q := hv_impl_trianglesByEdge_1_2 y hy; omega))) (show ∀ y ∈ ([] : (List (Gedge × List Int))), (y.2.length : Int) ≤ 3 * 0 from (by first | omega | (simp; done) | (intro y hy; have q := hv_impl_trianglesByEdge_1_2 y hy; omega))) (Nat.lt_succ_self _)) rfl) (by simp [hd_impl_trianglesByEdge_1, mapC, Gedge.cells])) <| sS (CallSt.frame (t_sort_impl_compareEdges ((lr_impl_trianglesByEdge_1_1 m_0).2) y0) [2] (R := [.box 38 [.sl (m_0.Places.map GVector.cells), .sl (m_0.Triangles.map (cL (cI .i64)))], .mapN 2 (mapC Gedge.pr (cI .i64) ((lr_impl_trianglesByEdge_1_1 m_0).1)) none, .vec 136 2 (((lr_impl_trianglesByEdge_1_1 m_0).2).map Gedge.cells) false]) (args' := [.own 2, .fn 117 []]) rfl rfl rfl rfl rfl rfl) <| sK [1, 2] sN) rfl (by kernel_rfl) (by kernel_rfl) rfl ?_ ?_
 · rfl
 · simp [v_impl_trianglesByEdge]

def nd_impl_thirdOf_0 (t_0 : (List Int)) (e_1 : Gedge) : Int := (IntKind.wrap .i64 ((IntKind.wrap .i64 ((IntKind.wrap .i64 ((IntKind.wrap .i64 ((t_0.getD 0 default) + (t_0.getD 1 default))) + (t_0.getD 2 default))) - e_1.e0)) - e_1.e1))

def v_impl_thirdOf (t_0 : (List Int)) (e_1 : Gedge) : Int := (nd_impl_thirdOf_0 t_0 e_1)

theorem t_impl_thirdOf (t_0 : (List Int)) (e_1 : Gedge) (hp0 : t_0.length ≤ 1073741824) (hp1 : t_0.length = 3)  : Fn prog 108 [.sl (t_0.map (cI .i64)), .agg [.i .i64 e_1.e0, .i .i64 e_1.e1]] (.i .i64 (v_impl_thirdOf t_0 e_1)) [] := by
 have y0 : (0 : Int) ≤ 0 := (by first | assumption | omega)
 have y1 : 0 < (t_0.length : Int) := (by first | assumption | omega)
 have y2 : (0 : Int) ≤ 1 := (by first | assumption | omega)
 have y3 : 1 < (t_0.length : Int) := (by first | assumption | omega)
 have y4 : (0 : Int) ≤ 2 := (by first | assumption | omega)
 have y5 : 2 < (t_0.length : Int) := (by first | assumption | omega)
 refine fnS E0Ok hMixed (c := bodyOf f108) [] (.i .i64 (nd_impl_thirdOf_0 t_0 e_1)) [] func108 (sK [16, 16] <| sG (cI .i64) t_0 0 y0 y1 <| sG (cI .i64) t_0 1 y2 y3 <| sW .i64 ((t_0.getD 0 default) + (t_0.getD 1 default)) <| sG (cI .i64) t_0 2 y4 y5 <| sW .i64 ((IntKind.wrap .i64 ((t_0.getD 0 default) + (t_0.getD 1 default))) + (t_0.getD 2 default)) <| sC (show (0 : Int) ≤ 0 ∧ 0 < ((2 : Nat) : Int) from (by decide)) <| sW .i64 ((IntKind.wrap .i64 ((IntKind.wrap .i64 ((t_0.getD 0 default) + (t_0.getD 1 default))) + (t_0.getD 2 default))) - e_1.e0) <| sC (show (0 : Int) ≤ 1 ∧ 1 < ((2 : Nat) : Int) from (by decide)) <| sM (show IntKind.wrap .i64 ((IntKind.wrap .i64 ((IntKind.wrap .i64 ((IntKind.wrap .i64 ((t_0.getD 0 default) + (t_0.getD 1 default))) + (t_0.getD 2 default))) - e_1.e0)) - e_1.e1) = (nd_impl_thirdOf_0 t_0 e_1) from rfl) <| sK [] sN) rfl (by kernel_rfl) (by kernel_rfl) rfl ?_ ?_
 · rfl
 · rfl

def nd_impl_hingesOf_0 (m_0 : GMesh) (x_l0 : Int) : Int := (v_impl_thirdOf (m_0.Triangles.getD ((((v_impl_trianglesByEdge m_0).1).getD (midx ((v_impl_trianglesByEdge m_0).1) (((v_impl_trianglesByEdge m_0).2).getD x_l0.toNat default)) default).2.getD 0 default).toNat default) (((v_impl_trianglesByEdge m_0).2).getD x_l0.toNat default))

def nd_impl_hingesOf_1 (m_0 : GMesh) (x_l0 : Int) : Int := (v_impl_thirdOf (m_0.Triangles.getD ((((v_impl_trianglesByEdge m_0).1).getD (midx ((v_impl_trianglesByEdge m_0).1) (((v_impl_trianglesByEdge m_0).2).getD x_l0.toNat default)) default).2.getD 1 default).toNat default) (((v_impl_trianglesByEdge m_0).2).getD x_l0.toNat default))

def lo_impl_hingesOf_1 (m_0 : GMesh) : Nat → Int → (List (List Int)) → (List (List Int))
  | 0, _, _ => default
  | k + 1, x_l0, r1_l1 => (cond (decide (x_l0 < (((v_impl_trianglesByEdge m_0).2).length : Int)))
    (cond (mhas ((v_impl_trianglesByEdge m_0).1) (((v_impl_trianglesByEdge m_0).2).getD x_l0.toNat default))
      (cond (((((v_impl_trianglesByEdge m_0).1).getD (midx ((v_impl_trianglesByEdge m_0).1) (((v_impl_trianglesByEdge m_0).2).getD x_l0.toNat default)) default).2.length : Int) == 2)
        (lo_impl_hingesOf_1 m_0 k (x_l0 + 1) (r1_l1 ++ [[(((v_impl_trianglesByEdge m_0).2).getD x_l0.toNat default).e0, (((v_impl_trianglesByEdge m_0).2).getD x_l0.toNat default).e1, (nd_impl_hingesOf_0 m_0 x_l0), (nd_impl_hingesOf_1 m_0 x_l0)]]))
        (lo_impl_hingesOf_1 m_0 k (x_l0 + 1) r1_l1))
      (lo_impl_hingesOf_1 m_0 k (x_l0 + 1) r1_l1))
    r1_l1)

def ls_impl_hingesOf_1 (m_0 : GMesh) (r : (List (List Int))) : Ex × St := ((.exit 0), ⟨[.agg [.sl (m_0.Places.map GVector.cells), .sl (m_0.Triangles.map (cL (cI .i64)))], .ptr 0 0 0, .nils, .own 1, .any, .own 2, .any, .any, .any, .any, .any, .agg [.sl (m_0.Places.map GVector.cells), .sl (m_0.Triangles.map (cL (cI .i64)))], .any, .mp 3, .own 2, .own 2, .any, .any, .any, .any, .any, .any, .any, .any, .any, .any, .any, .any, .any, .any, .any, .any, .any, .any, .any, .any, .any, .any, .any, .any, .any, .any, .any, .any, .any, .any, .any, .any, .any, .any, .any, .any, .any, .any, .any], [.box 38 [.sl (m_0.Places.map GVector.cells), .sl (m_0.Triangles.map (cL (cI .i64)))], .nest 54 (r.map fun l => l.map (cI .i64)) false, .vec 136 2 (((v_impl_trianglesByEdge m_0).2).map Gedge.cells) false, .mapN 2 (mapC Gedge.pr (cI .i64) ((v_impl_trianglesByEdge m_0).1)) none]⟩)

def hd_impl_hingesOf_1 (m_0 : GMesh) (x_l0 : Int) (r1_l1 : (List (List Int))) : St := ⟨[.agg [.sl (m_0.Places.map GVector.cells), .sl (m_0.Triangles.map (cL (cI .i64)))], .ptr 0 0 0, .nils, .own 1, .mp 2, .own 3, .any, .any, .any, .any, .any, .agg [.sl (m_0.Places.map GVector.cells), .sl (m_0.Triangles.map (cL (cI .i64)))], .any, .mp 2, .own 3, .own 3, .i .i64 (((v_impl_trianglesByEdge m_0).2).length : Int), .i .i64 x_l0, .any, .any, .any, .any, .any, .any, .any, .any, .any, .any, .any, .any, .any, .any, .any, .any, .any, .any, .any, .any, .any, .any, .any, .any, .any, .any, .any, .any, .any, .any, .any, .any, .any, .any, .any, .any, .any], [.box 38 [.sl (m_0.Places.map GVector.cells), .sl (m_0.Triangles.map (cL (cI .i64)))], .nest 54 (r1_l1.map fun l => l.map (cI .i64)) false, .mapN 2 (mapC Gedge.pr (cI .i64) ((v_impl_trianglesByEdge m_0).1)) none, .vec 136 2 (((v_impl_trianglesByEdge m_0).2).map Gedge.cells) false]⟩

def mk_impl_hingesOf_1_0 : List Bool := [true, true, true, true, true, true, false, false, false, false, false, true, false, true, true, true, true, true, false, false, false, false, false, false, false, false, false, false, false, false, false, false, false, false, false, false, false, false, false, false, false, false, false, false, false, false, false, false, false, false, false, false, false, false, false]

def mk_impl_hingesOf_1_1 : List Bool := [true, true, true, true, false, true, false, false, false, false, false, true, false, true, true, true, false, false, false, false, false, false, false, false, false, false, false, false, false, false, false, false, false, false, false, false, false, false, false, false, false, false, false, false, false, false, false, false, false, false, false, false, false, false, false]

theorem lp_impl_hingesOf_1 (m_0 : GMesh) (hp0 : m_0.Places.length ≤ 1073741824) (hp1 : m_0.Triangles.length ≤ 1073741824) (hp2 : ∀ t ∈ m_0.Triangles, t.length ≤ 1073741824) (hp3 : OkE m_0.Places.length m_0.Triangles) : ∀ (k : Nat) (x_l0 : Int) (r1_l1 : (List (List Int))) (hv_impl_hingesOf_1_0 : 0 ≤ x_l0) (hv_impl_hingesOf_1_1 : (r1_l1.length : Int) ≤ x_l0) (hk : ((((v_impl_trianglesByEdge m_0).2).length : Int) - x_l0).toNat < k), Lp prog 0 (sub (bodyOf f92) [1, 1, 1, 0, 1, 0, 0]) (hd_impl_hingesOf_1 m_0 x_l0 r1_l1) (ls_impl_hingesOf_1 m_0 (lo_impl_hingesOf_1 m_0 k x_l0 r1_l1)).1 (ls_impl_hingesOf_1 m_0 (lo_impl_hingesOf_1 m_0 k x_l0 r1_l1)).2 := by
 intro k
 induction k with
 | zero => intro x_l0 r1_l1 hv_impl_hingesOf_1_0 hv_impl_hingesOf_1_1 hk; exact absurd hk (Nat.not_lt_zero _)
 | succ k ih =>
  intro x_l0 r1_l1 hv_impl_hingesOf_1_0 hv_impl_hingesOf_1_1 hk
  cases h_0 : (decide (x_l0 < (((v_impl_trianglesByEdge m_0).2).length : Int))) with
  | true =>
   have gh_0 := of_decide_eq_true h_0
   have y_0 : (0 : Int) ≤ x_l0 := (by first | assumption | omega)
   have y_1 : x_l0 < (((v_impl_trianglesByEdge m_0).2).length : Int) := (by first | assumption | omega)
   have y_2 : x_l0.toNat < ((v_impl_trianglesByEdge m_0).2).length := (by first | assumption | omega)
   have p {a C} (s : Scr a C) := sB h_0 <| sX Gedge.cells ((v_impl_trianglesByEdge m_0).2) x_l0 y_0 y_1 <| sV Gedge.cells ((v_impl_trianglesByEdge m_0).2) x_l0.toNat y_2 <| s
   cases h_1 : (mhas ((v_impl_trianglesByEdge m_0).1) (((v_impl_trianglesByEdge m_0).2).getD x_l0.toNat default)) with
   | true =>
    have m_8 := midx_lt h_1
    have q {a C} (s : Scr a C) := p (sA (.keep [midx ((v_impl_trianglesByEdge m_0).1) (((v_impl_trianglesByEdge m_0).2).getD x_l0.toNat default)]) <| sC (mget_ok (ck := Gedge.pr) (cv := (cI .i64)) h_1) <| sM (mget_len (ck := Gedge.pr) (cv := (cI .i64)) (l := (v_impl_trianglesByEdge m_0).1) (j := (midx ((v_impl_trianglesByEdge m_0).1) (((v_impl_trianglesByEdge m_0).2).getD x_l0.toNat default)))) <| s)
    clear p
    cases h_2 : (((((v_impl_trianglesByEdge m_0).1).getD (midx ((v_impl_trianglesByEdge m_0).1) (((v_impl_trianglesByEdge m_0).2).getD x_l0.toNat default)) default).2.length : Int) == 2) with
    | true =>
     have gh_2 := eq_of_beq h_2
     have y_3 : (0 : Int) ≤ 0 := by clear q; exact (by first | assumption | omega)
     have y_4 : 0 < ((((v_impl_trianglesByEdge m_0).1).getD (midx ((v_impl_trianglesByEdge m_0).1) (((v_impl_trianglesByEdge m_0).2).getD x_l0.toNat default)) default).2.length : Int) := by clear q; exact (by first | assumption | omega)
     have y_5 : 0 < (((v_impl_trianglesByEdge m_0).1).getD (midx ((v_impl_trianglesByEdge m_0).1) (((v_impl_trianglesByEdge m_0).2).getD x_l0.toNat default)) default).2.length := by clear q; exact (by first | assumption | omega)
     have y_6 : (0 : Int) ≤ ((((v_impl_trianglesByEdge m_0).1).getD (midx ((v_impl_trianglesByEdge m_0).1) (((v_impl_trianglesByEdge m_0).2).getD x_l0.toNat default)) default).2.getD 0 default) := by clear q; exact (by first | assumption | omega | (first | (have q := hg_at m_0 hp3 hv_impl_hingesOf_1_0 (of_decide_eq_true (by assumption)) (by assumption); omega) | (have q := edges_nth m_0 hp3 hv_impl_hingesOf_1_0 (of_decide_eq_true (by assumption)); first | omega | (simp only [List.length_append, List.length_cons, List.length_nil]; omega)) | (have q := edges_len m_0 hp3; omega)) | (simp_all <;> omega))
     have y_7 : ((((v_impl_trianglesByEdge m_0).1).getD (midx ((v_impl_trianglesByEdge m_0).1) (((v_impl_trianglesByEdge m_0).2).getD x_l0.toNat default)) default).2.getD 0 default) < (m_0.Triangles.length : Int) := by clear q; exact (by first | assumption | omega | (first | (have q := hg_at m_0 hp3 hv_impl_hingesOf_1_0 (of_decide_eq_true (by assumption)) (by assumption); omega) | (have q := edges_nth m_0 hp3 hv_impl_hingesOf_1_0 (of_decide_eq_true (by assumption)); first | omega | (simp only [List.length_append, List.length_cons, List.length_nil]; omega)) | (have q := edges_len m_0 hp3; omega)) | (simp_all <;> omega))
     have y_8 : (m_0.Triangles.getD ((((v_impl_trianglesByEdge m_0).1).getD (midx ((v_impl_trianglesByEdge m_0).1) (((v_impl_trianglesByEdge m_0).2).getD x_l0.toNat default)) default).2.getD 0 default).toNat default).length ≤ 1073741824 := by clear q; exact (by first | assumption | omega | (have q := hg_at m_0 hp3 hv_impl_hingesOf_1_0 (of_decide_eq_true (by assumption)) (by assumption); have q1 := (hp3.tris.at q.1 q.2.1).1; have q2 := (hp3.tris.at q.2.2.1 q.2.2.2.1).1; first | exact q1 | exact q2 | omega))
     have y_9 : (m_0.Triangles.getD ((((v_impl_trianglesByEdge m_0).1).getD (midx ((v_impl_trianglesByEdge m_0).1) (((v_impl_trianglesByEdge m_0).2).getD x_l0.toNat default)) default).2.getD 0 default).toNat default).length = 3 := by clear q; exact (by first | assumption | omega | (have q := hg_at m_0 hp3 hv_impl_hingesOf_1_0 (of_decide_eq_true (by assumption)) (by assumption); have q1 := (hp3.tris.at q.1 q.2.1).1; have q2 := (hp3.tris.at q.2.2.1 q.2.2.2.1).1; first | exact q1 | exact q2 | omega))
     have y_10 : (0 : Int) ≤ 1 := by clear q; exact (by first | assumption | omega)
     have y_11 : 1 < ((((v_impl_trianglesByEdge m_0).1).getD (midx ((v_impl_trianglesByEdge m_0).1) (((v_impl_trianglesByEdge m_0).2).getD x_l0.toNat default)) default).2.length : Int) := by clear q; exact (by first | assumption | omega)
     have y_12 : 1 < (((v_impl_trianglesByEdge m_0).1).getD (midx ((v_impl_trianglesByEdge m_0).1) (((v_impl_trianglesByEdge m_0).2).getD x_l0.toNat default)) default).2.length := by clear q; exact (by first | assumption | omega)
     have y_13 : (0 : Int) ≤ ((((v_impl_trianglesByEdge m_0).1).getD (midx ((v_impl_trianglesByEdge m_0).1) (((v_impl_trianglesByEdge m_0).2).getD x_l0.toNat default)) default).2.getD 1 default) := by clear q; exact (by first | assumption | omega | (first | (have q := hg_at m_0 hp3 hv_impl_hingesOf_1_0 (of_decide_eq_true (by assumption)) (by assumption); omega) | (have q := edges_nth m_0 hp3 hv_impl_hingesOf_1_0 (of_decide_eq_true (by assumption)); first | omega | (simp only [List.length_append, List.length_cons, List.length_nil]; omega)) | (have q := edges_len m_0 hp3; omega)) | (simp_all <;> omega))
     have y_14 : ((((v_impl_trianglesByEdge m_0).1).getD (midx ((v_impl_trianglesByEdge m_0).1) (((v_impl_trianglesByEdge m_0).2).getD x_l0.toNat default)) default).2.getD 1 default) < (m_0.Triangles.length : Int) := by clear q; exact (by first | assumption | omega | (first | (have q := hg_at m_0 hp3 hv_impl_hingesOf_1_0 (of_decide_eq_true (by assumption)) (by assumption); omega) | (have q := edges_nth m_0 hp3 hv_impl_hingesOf_1_0 (of_decide_eq_true (by assumption)); first | omega | (simp only [List.length_append, List.length_cons, List.length_nil]; omega)) | (have q := edges_len m_0 hp3; omega)) | (simp_all <;> omega))
     have y_15 : (m_0.Triangles.getD ((((v_impl_trianglesByEdge m_0).1).getD (midx ((v_impl_trianglesByEdge m_0).1) (((v_impl_trianglesByEdge m_0).2).getD x_l0.toNat default)) default).2.getD 1 default).toNat default).length ≤ 1073741824 := by clear q; exact (by first | assumption | omega | (have q := hg_at m_0 hp3 hv_impl_hingesOf_1_0 (of_decide_eq_true (by assumption)) (by assumption); have q1 := (hp3.tris.at q.1 q.2.1).1; have q2 := (hp3.tris.at q.2.2.1 q.2.2.2.1).1; first | exact q1 | exact q2 | omega))
     have y_16 : (m_0.Triangles.getD ((((v_impl_trianglesByEdge m_0).1).getD (midx ((v_impl_trianglesByEdge m_0).1) (((v_impl_trianglesByEdge m_0).2).getD x_l0.toNat default)) default).2.getD 1 default).toNat default).length = 3 := by clear q; exact (by first | assumption | omega | (have q := hg_at m_0 hp3 hv_impl_hingesOf_1_0 (of_decide_eq_true (by assumption)) (by assumption); have q1 := (hp3.tris.at q.1 q.2.1).1; have q2 := (hp3.tris.at q.2.2.1 q.2.2.2.1).1; first | exact q1 | exact q2 | omega))
     have y_17 : r1_l1.length + [[(((v_impl_trianglesByEdge m_0).2).getD x_l0.toNat default).e0, (((v_impl_trianglesByEdge m_0).2).getD x_l0.toNat default).e1, (nd_impl_hingesOf_0 m_0 x_l0), (nd_impl_hingesOf_1 m_0 x_l0)]].length ≤ 1073741824 := by clear q; exact (by first | assumption | omega | (first | (have q := hg_at m_0 hp3 hv_impl_hingesOf_1_0 (of_decide_eq_true (by assumption)) (by assumption); omega) | (have q := edges_nth m_0 hp3 hv_impl_hingesOf_1_0 (of_decide_eq_true (by assumption)); first | omega | (simp only [List.length_append, List.length_cons, List.length_nil]; omega)) | (have q := edges_len m_0 hp3; omega)) | (simp_all <;> omega))
     have y_18 : (-9223372036854775808 : Int) ≤ (x_l0 + 1) := by clear q; exact (by first | assumption | omega)
     have y_19 : (x_l0 + 1) ≤ (9223372036854775807 : Int) := by clear q; exact (by first | assumption | omega | (first | (have q := hg_at m_0 hp3 hv_impl_hingesOf_1_0 (of_decide_eq_true (by assumption)) (by assumption); omega) | (have q := edges_nth m_0 hp3 hv_impl_hingesOf_1_0 (of_decide_eq_true (by assumption)); first | omega | (simp only [List.length_append, List.length_cons, List.length_nil]; omega)) | (have q := edges_len m_0 hp3; omega)) | (simp_all <;> omega))
     have e : lo_impl_hingesOf_1 m_0 (k + 1) x_l0 r1_l1 = (lo_impl_hingesOf_1 m_0 k (x_l0 + 1) (r1_l1 ++ [[(((v_impl_trianglesByEdge m_0).2).getD x_l0.toNat default).e0, (((v_impl_trianglesByEdge m_0).2).getD x_l0.toNat default).e1, (nd_impl_hingesOf_0 m_0 x_l0), (nd_impl_hingesOf_1 m_0 x_l0)]])) := by simp only [lo_impl_hingesOf_1, h_0, h_1, h_2, cond_true]
     rw [e]
     exact nextS E0Ok hMixed [] mk_impl_hingesOf_1_0 [0, 1, 2, 3] (⟨[.agg [.sl (m_0.Places.map GVector.cells), .sl (m_0.Triangles.map (cL (cI .i64)))], .ptr 0 0 0, .nils, .own 1, .mp 2, .own 3, .any, .any, .any, .any, .any, .agg [.sl (m_0.Places.map GVector.cells), .sl (m_0.Triangles.map (cL (cI .i64)))], .any, .mp 2, .own 3, .own 3, .i .i64 (((v_impl_trianglesByEdge m_0).2).length : Int), .i .i64 (x_l0 + 1), .any, .any, .any, .any, .any, .any, .any, .any, .any, .any, .any, .any, .any, .any, .any, .any, .any, .any, .any, .any, .any, .any, .any, .any, .any, .any, .any, .any, .any, .any, .any, .any, .any, .any, .any, .any, .any], [.box 38 [.sl (m_0.Places.map GVector.cells), .sl (m_0.Triangles.map (cL (cI .i64)))], .nest 54 ((r1_l1.map fun l => l.map (cI .i64)) ++ [([[.i .i64 ((((v_impl_trianglesByEdge m_0).2).getD x_l0.toNat default).e0)], [.i .i64 ((((v_impl_trianglesByEdge m_0).2).getD x_l0.toNat default).e1)], [.i .i64 (nd_impl_hingesOf_0 m_0 x_l0)], [.i .i64 (nd_impl_hingesOf_1 m_0 x_l0)]] : List (List AV))]) false, .mapN 2 (mapC Gedge.pr (cI .i64) ((v_impl_trianglesByEdge m_0).1)) none, .vec 136 2 (((v_impl_trianglesByEdge m_0).2).map Gedge.cells) false]⟩) (q (sB h_2 <| sK [25, 25] <| sC (show (0 : Int) ≤ 0 ∧ 0 < ((2 : Nat) : Int) from (by decide)) <| sC (show (0 : Int) ≤ 1 ∧ 1 < ((2 : Nat) : Int) from (by decide)) <| sC (mget_ix (ck := Gedge.pr) (cv := (cI .i64)) (l := (v_impl_trianglesByEdge m_0).1) (j := (midx ((v_impl_trianglesByEdge m_0).1) (((v_impl_trianglesByEdge m_0).2).getD x_l0.toNat default))) (i := 0) y_3 y_4) <| sE (mget_el (ck := Gedge.pr) (cv := (cI .i64)) (l := (v_impl_trianglesByEdge m_0).1) (j := (midx ((v_impl_trianglesByEdge m_0).1) (((v_impl_trianglesByEdge m_0).2).getD x_l0.toNat default))) (i := 0) y_5) <| sG (cL (cI .i64)) m_0.Triangles ((((v_impl_trianglesByEdge m_0).1).getD (midx ((v_impl_trianglesByEdge m_0).1) (((v_impl_trianglesByEdge m_0).2).getD x_l0.toNat default)) default).2.getD 0 default) y_6 y_7 <| sF (t_impl_thirdOf (m_0.Triangles.getD ((((v_impl_trianglesByEdge m_0).1).getD (midx ((v_impl_trianglesByEdge m_0).1) (((v_impl_trianglesByEdge m_0).2).getD x_l0.toNat default)) default).2.getD 0 default).toNat default) (((v_impl_trianglesByEdge m_0).2).getD x_l0.toNat default) y_8 y_9) <| sC (mget_ix (ck := Gedge.pr) (cv := (cI .i64)) (l := (v_impl_trianglesByEdge m_0).1) (j := (midx ((v_impl_trianglesByEdge m_0).1) (((v_impl_trianglesByEdge m_0).2).getD x_l0.toNat default))) (i := 1) y_10 y_11) <| sE (mget_el (ck := Gedge.pr) (cv := (cI .i64)) (l := (v_impl_trianglesByEdge m_0).1) (j := (midx ((v_impl_trianglesByEdge m_0).1) (((v_impl_trianglesByEdge m_0).2).getD x_l0.toNat default))) (i := 1) y_12) <| sG (cL (cI .i64)) m_0.Triangles ((((v_impl_trianglesByEdge m_0).1).getD (midx ((v_impl_trianglesByEdge m_0).1) (((v_impl_trianglesByEdge m_0).2).getD x_l0.toNat default)) default).2.getD 1 default) y_13 y_14 <| sF (t_impl_thirdOf (m_0.Triangles.getD ((((v_impl_trianglesByEdge m_0).1).getD (midx ((v_impl_trianglesByEdge m_0).1) (((v_impl_trianglesByEdge m_0).2).getD x_l0.toNat default)) default).2.getD 1 default).toNat default) (((v_impl_trianglesByEdge m_0).2).getD x_l0.toNat default) y_15 y_16) <| sC (show (r1_l1.map fun l => l.map (cI .i64)).length + [([[.i .i64 ((((v_impl_trianglesByEdge m_0).2).getD x_l0.toNat default).e0)], [.i .i64 ((((v_impl_trianglesByEdge m_0).2).getD x_l0.toNat default).e1)], [.i .i64 (nd_impl_hingesOf_0 m_0 x_l0)], [.i .i64 (nd_impl_hingesOf_1 m_0 x_l0)]] : List (List AV))].length ≤ 1073741824 from (by simpa using y_17)) <| sI (x_l0 + 1) y_18 y_19 <| sN)) (by kernel_rfl) (show _ = ⟨[.agg [.sl (m_0.Places.map GVector.cells), .sl (m_0.Triangles.map (cL (cI .i64)))], .ptr 0 0 0, .nils, .own 1, .mp 2, .own 3, .any, .any, .any, .any, .any, .agg [.sl (m_0.Places.map GVector.cells), .sl (m_0.Triangles.map (cL (cI .i64)))], .any, .mp 2, .own 3, .own 3, .i .i64 (((v_impl_trianglesByEdge m_0).2).length : Int), .i .i64 (x_l0 + 1), .any, .any, .any, .any, .any, .any, .any, .any, .any, .any, .any, .any, .any, .any, .any, .any, .any, .any, .any, .any, .any, .any, .any, .any, .any, .any, .any, .any, .any, .any, .any, .any, .any, .any, .any, .any, .any], [.box 38 [.sl (m_0.Places.map GVector.cells), .sl (m_0.Triangles.map (cL (cI .i64)))], .nest 54 ((r1_l1 ++ [[(((v_impl_trianglesByEdge m_0).2).getD x_l0.toNat default).e0, (((v_impl_trianglesByEdge m_0).2).getD x_l0.toNat default).e1, (nd_impl_hingesOf_0 m_0 x_l0), (nd_impl_hingesOf_1 m_0 x_l0)]]).map fun l => l.map (cI .i64)) false, .mapN 2 (mapC Gedge.pr (cI .i64) ((v_impl_trianglesByEdge m_0).1)) none, .vec 136 2 (((v_impl_trianglesByEdge m_0).2).map Gedge.cells) false]⟩ from (by simp [cL, cI])) (ih (x_l0 + 1) (r1_l1 ++ [[(((v_impl_trianglesByEdge m_0).2).getD x_l0.toNat default).e0, (((v_impl_trianglesByEdge m_0).2).getD x_l0.toNat default).e1, (nd_impl_hingesOf_0 m_0 x_l0), (nd_impl_hingesOf_1 m_0 x_l0)]]) (show 0 ≤ (x_l0 + 1) from (by first | assumption | omega)) (show ((r1_l1 ++ [[(((v_impl_trianglesByEdge m_0).2).getD x_l0.toNat default).e0, (((v_impl_trianglesByEdge m_0).2).getD x_l0.toNat default).e1, (nd_impl_hingesOf_0 m_0 x_l0), (nd_impl_hingesOf_1 m_0 x_l0)]]).length : Int) ≤ (x_l0 + 1) from (by first | assumption | omega | (first | (have q := hg_at m_0 hp3 hv_impl_hingesOf_1_0 (of_decide_eq_true (by assumption)) (by assumption); omega) | (have q := edges_nth m_0 hp3 hv_impl_hingesOf_1_0 (of_decide_eq_true (by assumption)); first | omega | (simp only [List.length_append, List.length_cons, List.length_nil]; omega)) | (have q := edges_len m_0 hp3; omega)) | (simp_all <;> omega))) (by first | assumption | omega))
    | false =>
     have gh_2 := ne_of_beq_false h_2
     have y_3 : (-9223372036854775808 : Int) ≤ (x_l0 + 1) := by clear q; exact (by first | assumption | omega)
     have y_4 : (x_l0 + 1) ≤ (9223372036854775807 : Int) := by clear q; exact (by first | assumption | omega | (first | (have q := hg_at m_0 hp3 hv_impl_hingesOf_1_0 (of_decide_eq_true (by assumption)) (by assumption); omega) | (have q := edges_nth m_0 hp3 hv_impl_hingesOf_1_0 (of_decide_eq_true (by assumption)); first | omega | (simp only [List.length_append, List.length_cons, List.length_nil]; omega)) | (have q := edges_len m_0 hp3; omega)) | (simp_all <;> omega))
     have e : lo_impl_hingesOf_1 m_0 (k + 1) x_l0 r1_l1 = (lo_impl_hingesOf_1 m_0 k (x_l0 + 1) r1_l1) := by simp only [lo_impl_hingesOf_1, h_0, h_1, h_2, cond_true, cond_false]
     rw [e]
     exact nextR E0Ok hMixed [] mk_impl_hingesOf_1_0 [0, 1, 2, 3] (ih (x_l0 + 1) r1_l1 (show 0 ≤ (x_l0 + 1) from (by first | assumption | omega)) (show (r1_l1.length : Int) ≤ (x_l0 + 1) from (by first | assumption | omega)) (by first | assumption | omega)) (q (sB h_2 <| sI (x_l0 + 1) y_3 y_4 <| sN)) (by kernel_rfl)
   | false =>
    have y_3 : (-9223372036854775808 : Int) ≤ (x_l0 + 1) := by clear p; exact (by first | assumption | omega)
    have y_4 : (x_l0 + 1) ≤ (9223372036854775807 : Int) := by clear p; exact (by first | assumption | omega | (first | (have q := hg_at m_0 hp3 hv_impl_hingesOf_1_0 (of_decide_eq_true (by assumption)) (by assumption); omega) | (have q := edges_nth m_0 hp3 hv_impl_hingesOf_1_0 (of_decide_eq_true (by assumption)); first | omega | (simp only [List.length_append, List.length_cons, List.length_nil]; omega)) | (have q := edges_len m_0 hp3; omega)) | (simp_all <;> omega))
    have e : lo_impl_hingesOf_1 m_0 (k + 1) x_l0 r1_l1 = (lo_impl_hingesOf_1 m_0 k (x_l0 + 1) r1_l1) := by simp only [lo_impl_hingesOf_1, h_0, h_1, cond_true, cond_false]
    rw [e]
    exact nextR E0Ok hMixed [] mk_impl_hingesOf_1_0 [0, 1, 2, 3] (ih (x_l0 + 1) r1_l1 (show 0 ≤ (x_l0 + 1) from (by first | assumption | omega)) (show (r1_l1.length : Int) ≤ (x_l0 + 1) from (by first | assumption | omega)) (by first | assumption | omega)) (p (sA (.keep []) <| sC (mnot_ok (ck := Gedge.pr) (cv := (cI .i64)) Gedge.inj h_1) <| sM (show ((0 : Nat) : Int) = 0 from rfl) <| sB (show (0 == 2) = false from rfl) <| sI (x_l0 + 1) y_3 y_4 <| sN)) (by kernel_rfl)
  | false =>
   have gh_0 := of_decide_eq_false h_0
   have e : lo_impl_hingesOf_1 m_0 (k + 1) x_l0 r1_l1 = r1_l1 := by simp only [lo_impl_hingesOf_1, h_0, cond_false]
   rw [e]
   exact outR (e := (.exit 0)) E0Ok hMixed [] mk_impl_hingesOf_1_1 [0, 1, 3, 2] (sB h_0 <| sN) (by kernel_rfl) (by intro h; cases h)

def lr_impl_hingesOf_1_0 (m_0 : GMesh) : (List (List Int)) := (lo_impl_hingesOf_1 m_0 (((((v_impl_trianglesByEdge m_0).2).length : Int) - 0).toNat + 1) 0 ([] : List (List Int)))

def v_impl_hingesOf (m_0 : GMesh) : (List (List Int)) := (lr_impl_hingesOf_1_0 m_0)

theorem impl_hingesOf_eq (m : GMesh) (ok : OkE m.Places.length m.Triangles) : v_impl_hingesOf m = hgL m.Places.length m.Triangles := by
  unfold v_impl_hingesOf lr_impl_hingesOf_1_0
  refine (filtm_from (a := (v_impl_trianglesByEdge m).2) (p := fun e => decide ((idxP m.Triangles e.e0 e.e1).length = 2)) (f := fun e => [e.e0, e.e1] ++ (idxP m.Triangles e.e0 e.e1).map fun i => thd (m.Triangles.getD i.toNat default) e.e0 e.e1) (lo := lo_impl_hingesOf_1 m) (fun k i r h0 hi => ?_) (fun k i r hi => ?_)).trans ?_
  · have q := edges_nth m ok h0 hi
    have hm := edges_mem m ok h0 hi
    obtain ⟨g1, g2⟩ := edges_at m ok hm
    rw [lo_impl_hingesOf_1, decide_eq_true hi, cond_true, g1, cond_true, g2]
    unfold nd_impl_hingesOf_0 nd_impl_hingesOf_1
    rw [g2]
    generalize (v_impl_trianglesByEdge m).2.getD i.toNat default = e at *
    by_cases h2 : (idxP m.Triangles e.e0 e.e1).length = 2
    · rw [decide_eq_true h2, show (((idxP m.Triangles e.e0 e.e1).length : Int) == 2) = true from by rw [beq_iff_eq]; omega, cond_true, cond_true]
      have hthd : ∀ k : Nat, k < 2 → v_impl_thirdOf (m.Triangles.getD ((idxP m.Triangles e.e0 e.e1).getD k default).toNat default) e = thd (m.Triangles.getD ((idxP m.Triangles e.e0 e.e1).getD k default).toNat default) e.e0 e.e1 := by
        intro k hk
        obtain ⟨a1, a2, a3⟩ := idxP_at (ts := m.Triangles) (a := e.e0) (b := e.e1) (k := k) (by omega)
        generalize (idxP m.Triangles e.e0 e.e1).getD k default = i' at *
        have q2 := ok.tris.at a1 a2
        generalize m.Triangles.getD i'.toNat default = t at *
        have h64 := ok.1
        unfold v_impl_thirdOf nd_impl_thirdOf_0 thd
        rw [wrap_id (n := t.getD 0 default + t.getD 1 default) (by omega) (by omega), wrap_id (n := t.getD 0 default + t.getD 1 default + t.getD 2 default) (by omega) (by omega), wrap_id (n := t.getD 0 default + t.getD 1 default + t.getD 2 default - e.e0) (by omega) (by omega), wrap_id (n := t.getD 0 default + t.getD 1 default + t.getD 2 default - e.e0 - e.e1) (by omega) (by omega)]
      rw [hthd 0 (by omega), hthd 1 (by omega)]
      generalize idxP m.Triangles e.e0 e.e1 = l at *
      match l, h2 with
      | [a, b], _ => rfl
    · rw [decide_eq_false h2, show (((idxP m.Triangles e.e0 e.e1).length : Int) == 2) = false from by rw [beq_eq_false_iff_ne]; omega, cond_false, cond_false]
  · rw [lo_impl_hingesOf_1, decide_eq_false (by omega), cond_false]
  · rw [edges_eq m ok]; rfl
theorem hingesOf_at (m : GMesh) (ok : OkE m.Places.length m.Triangles) {i : Int} (h0 : 0 ≤ i) (hi : i < ((v_impl_hingesOf m).length : Int)) : ((v_impl_hingesOf m).getD i.toNat default).length = 4 ∧ ∀ x ∈ (v_impl_hingesOf m).getD i.toNat default, 0 ≤ x ∧ x < (m.Places.length : Int) := by
  refine hgL_mem ok ?_
  rw [← impl_hingesOf_eq m ok, List.getD_eq_getElem?_getD, List.getElem?_eq_getElem (by omega)]; exact List.getElem_mem _
theorem hin4i {m : GMesh} (ok : OkE m.Places.length m.Triangles) {i : Int} (h0 : 0 ≤ i) (hi : decide (i < ((v_impl_hingesOf m).length : Int)) = true) : ((v_impl_hingesOf m).getD i.toNat default).length = 4 ∧ ∀ x ∈ (v_impl_hingesOf m).getD i.toNat default, 0 ≤ x ∧ x < (m.Places.length : Int) := hingesOf_at m ok h0 (of_decide_eq_true hi)
theorem hin4iL {m : GMesh} (ok : OkE m.Places.length m.Triangles) {i : Int} (h0 : 0 ≤ i) (hi : decide (i < ((v_impl_hingesOf m).length : Int)) = true) : ((v_impl_hingesOf m).getD i.toNat default).length ≤ 1073741824 := by have := (hin4i ok h0 hi).1; omega
theorem impl_hingesOf_len (m : GMesh) (ok : OkE m.Places.length m.Triangles) : (v_impl_hingesOf m).length ≤ 4096 := by rw [impl_hingesOf_eq m ok]; exact hgL_len ok

theorem t_impl_hingesOf (m_0 : GMesh) (hp0 : m_0.Places.length ≤ 1073741824) (hp1 : m_0.Triangles.length ≤ 1073741824) (hp2 : ∀ t ∈ m_0.Triangles, t.length ≤ 1073741824) (hp3 : OkE m_0.Places.length m_0.Triangles)  : Fn prog 92 [.agg [.sl (m_0.Places.map GVector.cells), .sl (m_0.Triangles.map (cL (cI .i64)))]] (.own 0) [.nest 54 ((v_impl_hingesOf m_0).map fun l => l.map (cI .i64)) false] := by
 refine fnS E0Ok hMixed (c := bodyOf f92) [] (.own 0) [.nest 54 ((lr_impl_hingesOf_1_0 m_0).map fun l => l.map (cI .i64)) false] func92 (sF (t_impl_trianglesByEdge m_0 hp0 hp1 hp2 hp3) <| sZ Gedge.cells ((v_impl_trianglesByEdge m_0).2) <| sL mk_impl_hingesOf_1_0 4 (lp_cast (st2 := ⟨[.agg [.sl (m_0.Places.map GVector.cells), .sl (m_0.Triangles.map (cL (cI .i64)))], .ptr 0 0 0, .nils, .own 1, .mp 2, .own 3, .any, .any, .any, .any, .any, .agg [.sl (m_0.Places.map GVector.cells), .sl (m_0.Triangles.map (cL (cI .i64)))], .any, .mp 2, .own 3, .own 3, .i .i64 (((v_impl_trianglesByEdge m_0).2).length : Int), .i .i64 0, .any, .any, .any, .any, .any, .any, .any, .any, .any, .any, .any, .any, .any, .any, .any, .any, .any, .any, .any, .any, .any, .any, .any, .any, .any, .any, .any, .any, .any, .any, .any, .any, .any, .any, .any, .any, .any], [.box 38 [.sl (m_0.Places.map GVector.cells), .sl (m_0.Triangles.map (cL (cI .i64)))], .nest 54 [] false, .mapN 2 (mapC Gedge.pr (cI .i64) ((v_impl_trianglesByEdge m_0).1)) none, .vec 136 2 (((v_impl_trianglesByEdge m_0).2).map Gedge.cells) false]⟩) (lp_val (ls_impl_hingesOf_1 m_0) (x := (lr_impl_hingesOf_1_0 m_0)) (lp_impl_hingesOf_1 m_0 hp0 hp1 hp2 hp3 (((((v_impl_trianglesByEdge m_0).2).length : Int) - 0).toNat + 1) 0 ([] : List (List Int)) (show 0 ≤ 0 from (by first | assumption | omega)) (show (([] : List (List Int)).length : Int) ≤ 0 from (by simp)) (Nat.lt_succ_self _)) rfl) (by simp [hd_impl_hingesOf_1, cL, cI])) <| sK [1] sN) rfl (by kernel_rfl) (by kernel_rfl) rfl ?_ ?_
 · rfl
 · simp [v_impl_hingesOf]

def v_impl_AddVectors (a_0 : GVector) (b_1 : GVector) : GVector := (⟨(fop .add .f32 a_0.X b_1.X), (fop .add .f32 a_0.Y b_1.Y), (fop .add .f32 a_0.Z b_1.Z)⟩ : GVector)

theorem t_impl_AddVectors (a_0 : GVector) (b_1 : GVector)   : Fn prog 84 [.agg [.f .f32 a_0.X, .f .f32 a_0.Y, .f .f32 a_0.Z], .agg [.f .f32 b_1.X, .f .f32 b_1.Y, .f .f32 b_1.Z]] (.agg [.f .f32 ((v_impl_AddVectors a_0 b_1).X), .f .f32 ((v_impl_AddVectors a_0 b_1).Y), .f .f32 ((v_impl_AddVectors a_0 b_1).Z)]) [] := by
 refine fnS E0Ok hMixed (c := bodyOf f84) [] (.agg [.f .f32 (fop .add .f32 a_0.X b_1.X), .f .f32 (fop .add .f32 a_0.Y b_1.Y), .f .f32 (fop .add .f32 a_0.Z b_1.Z)]) [] func84 (sK [] sN) rfl (by kernel_rfl) (by kernel_rfl) rfl ?_ ?_
 · rfl
 · rfl

def nd_impl_bendOf_0 (m_0 : GMesh) (h_1 : (List Int)) : GVector := (v_impl_LessVectors (v_impl_AddVectors (m_0.Places.getD (h_1.getD 2 default).toNat default) (m_0.Places.getD (h_1.getD 3 default).toNat default)) (v_impl_AddVectors (m_0.Places.getD (h_1.getD 0 default).toNat default) (m_0.Places.getD (h_1.getD 1 default).toNat default)))

def v_impl_bendOf (m_0 : GMesh) (h_1 : (List Int)) : GVector := (nd_impl_bendOf_0 m_0 h_1)

theorem t_impl_bendOf (m_0 : GMesh) (h_1 : (List Int)) (hp0 : m_0.Places.length ≤ 1073741824) (hp1 : m_0.Triangles.length ≤ 1073741824) (hp2 : ∀ t ∈ m_0.Triangles, t.length ≤ 1073741824) (hp3 : h_1.length ≤ 1073741824) (hp4 : h_1.length = 4 ∧ ∀ x ∈ h_1, 0 ≤ x ∧ x < (m_0.Places.length : Int))  : Fn prog 93 [.agg [.sl (m_0.Places.map GVector.cells), .sl (m_0.Triangles.map (cL (cI .i64)))], .sl (h_1.map (cI .i64))] (.agg [.f .f32 ((v_impl_bendOf m_0 h_1).X), .f .f32 ((v_impl_bendOf m_0 h_1).Y), .f .f32 ((v_impl_bendOf m_0 h_1).Z)]) [] := by
 have y0 : (0 : Int) ≤ 2 := (by first | assumption | omega)
 have y1 : 2 < (h_1.length : Int) := (by first | assumption | omega)
 have y2 : (0 : Int) ≤ (h_1.getD 2 default) := (by first | assumption | omega | (have q := Okh.at hp4; omega) | (simp_all <;> omega))
 have y3 : (h_1.getD 2 default) < (m_0.Places.length : Int) := (by first | assumption | omega | (have q := Okh.at hp4; omega) | (simp_all <;> omega))
 have y4 : (0 : Int) ≤ 3 := (by first | assumption | omega)
 have y5 : 3 < (h_1.length : Int) := (by first | assumption | omega)
 have y6 : (0 : Int) ≤ (h_1.getD 3 default) := (by first | assumption | omega | (have q := Okh.at hp4; omega) | (simp_all <;> omega))
 have y7 : (h_1.getD 3 default) < (m_0.Places.length : Int) := (by first | assumption | omega | (have q := Okh.at hp4; omega) | (simp_all <;> omega))
 have y8 : (0 : Int) ≤ 0 := (by first | assumption | omega)
 have y9 : 0 < (h_1.length : Int) := (by first | assumption | omega)
 have y10 : (0 : Int) ≤ (h_1.getD 0 default) := (by first | assumption | omega | (have q := Okh.at hp4; omega) | (simp_all <;> omega))
 have y11 : (h_1.getD 0 default) < (m_0.Places.length : Int) := (by first | assumption | omega | (have q := Okh.at hp4; omega) | (simp_all <;> omega))
 have y12 : (0 : Int) ≤ 1 := (by first | assumption | omega)
 have y13 : 1 < (h_1.length : Int) := (by first | assumption | omega)
 have y14 : (0 : Int) ≤ (h_1.getD 1 default) := (by first | assumption | omega | (have q := Okh.at hp4; omega) | (simp_all <;> omega))
 have y15 : (h_1.getD 1 default) < (m_0.Places.length : Int) := (by first | assumption | omega | (have q := Okh.at hp4; omega) | (simp_all <;> omega))
 refine fnS E0Ok hMixed (c := bodyOf f93) [] (.agg [.f .f32 ((nd_impl_bendOf_0 m_0 h_1).X), .f .f32 ((nd_impl_bendOf_0 m_0 h_1).Y), .f .f32 ((nd_impl_bendOf_0 m_0 h_1).Z)]) [] func93 (sK [25, 25] <| sG (cI .i64) h_1 2 y0 y1 <| sG GVector.cells m_0.Places (h_1.getD 2 default) y2 y3 <| sG (cI .i64) h_1 3 y4 y5 <| sG GVector.cells m_0.Places (h_1.getD 3 default) y6 y7 <| sF (t_impl_AddVectors (m_0.Places.getD (h_1.getD 2 default).toNat default) (m_0.Places.getD (h_1.getD 3 default).toNat default)) <| sG (cI .i64) h_1 0 y8 y9 <| sG GVector.cells m_0.Places (h_1.getD 0 default) y10 y11 <| sG (cI .i64) h_1 1 y12 y13 <| sG GVector.cells m_0.Places (h_1.getD 1 default) y14 y15 <| sF (t_impl_AddVectors (m_0.Places.getD (h_1.getD 0 default).toNat default) (m_0.Places.getD (h_1.getD 1 default).toNat default)) <| sF (t_impl_LessVectors (v_impl_AddVectors (m_0.Places.getD (h_1.getD 2 default).toNat default) (m_0.Places.getD (h_1.getD 3 default).toNat default)) (v_impl_AddVectors (m_0.Places.getD (h_1.getD 0 default).toNat default) (m_0.Places.getD (h_1.getD 1 default).toNat default))) <| sK [] sN) rfl (by kernel_rfl) (by kernel_rfl) rfl ?_ ?_
 · rfl
 · rfl

def nd_impl_partsOf_0 (b_0 : GBody) (x_l0 : Int) : Nat := (fop .mul .f32 (fop .sub .f32 (v_impl_LongOf (v_impl_alongSpring b_0 (b_0.Springs.getD x_l0.toNat default))) ((b_0.Springs.getD x_l0.toNat default).Long)) (fop .sub .f32 (v_impl_LongOf (v_impl_alongSpring b_0 (b_0.Springs.getD x_l0.toNat default))) ((b_0.Springs.getD x_l0.toNat default).Long)))

def lo_impl_partsOf_1 (b_0 : GBody) : Nat → Int → (List Nat) → (List Nat)
  | 0, _, _ => default
  | k + 1, x_l0, r1_l1 => (cond (decide (x_l0 < (b_0.Springs.length : Int)))
    (lo_impl_partsOf_1 b_0 k (x_l0 + 1) (r1_l1.set 0 (fop .add .f32 (r1_l1.getD 0 default) (fop .mul .f32 (fop .mul .f32 1056964608 ((b_0.Springs.getD x_l0.toNat default).Stiff)) (nd_impl_partsOf_0 b_0 x_l0)))))
    r1_l1)

def ls_impl_partsOf_1 (b_0 : GBody) (r : (List Nat)) : Ex × St := ((.exit 0), ⟨[.agg [.sl (b_0.Mesh.Places.map GVector.cells), .sl (b_0.Mesh.Triangles.map (cL (cI .i64))), .sl (b_0.Springs.map GSpring.cells), .f .f32 b_0.Film, .f .f32 b_0.Bend, .sl (b_0.Weights.map (cF .f32)), .f .f32 b_0.Fall.X, .f .f32 b_0.Fall.Y, .f .f32 b_0.Fall.Z], .ptr 0 0 0, .nils, .own 1, .any, .any, .any, .any, .any, .any, .any, .any, .any, .any, .own 1, .ptr 0 0 2, .sl (b_0.Springs.map GSpring.cells), .any, .any, .any, .any, .any, .any, .any, .any, .any, .any, .any, .any, .any, .any, .any, .any, .any, .any, .any, .any, .any, .any, .any, .any, .any, .any, .any, .any, .any, .any, .any, .any, .any, .any, .any, .any, .any, .any, .any, .any, .any, .any, .any, .any, .any, .any, .any, .any, .any, .any, .any, .any, .any, .any, .any, .any, .any, .any, .any, .any, .any, .any, .any, .any, .any, .any, .any, .any, .any, .any, .any, .any, .any, .any, .any, .any, .any, .any, .any, .any, .any, .any, .any, .any, .any, .any, .any, .any, .any, .any, .any, .any, .any, .any, .any, .any, .any, .any, .any, .any], [.box 42 [.sl (b_0.Mesh.Places.map GVector.cells), .sl (b_0.Mesh.Triangles.map (cL (cI .i64))), .sl (b_0.Springs.map GSpring.cells), .f .f32 b_0.Film, .f .f32 b_0.Bend, .sl (b_0.Weights.map (cF .f32)), .f .f32 b_0.Fall.X, .f .f32 b_0.Fall.Y, .f .f32 b_0.Fall.Z], .vec 27 1 (r.map (cF .f32)) false]⟩)

def hd_impl_partsOf_1 (b_0 : GBody) (x_l0 : Int) (r1_l1 : (List Nat)) : St := ⟨[.agg [.sl (b_0.Mesh.Places.map GVector.cells), .sl (b_0.Mesh.Triangles.map (cL (cI .i64))), .sl (b_0.Springs.map GSpring.cells), .f .f32 b_0.Film, .f .f32 b_0.Bend, .sl (b_0.Weights.map (cF .f32)), .f .f32 b_0.Fall.X, .f .f32 b_0.Fall.Y, .f .f32 b_0.Fall.Z], .ptr 0 0 0, .nils, .own 1, .any, .any, .any, .any, .any, .any, .any, .any, .any, .any, .own 1, .ptr 0 0 2, .sl (b_0.Springs.map GSpring.cells), .i .i64 (b_0.Springs.length : Int), .i .i64 x_l0, .any, .any, .any, .any, .any, .any, .any, .any, .any, .any, .any, .any, .any, .any, .any, .any, .any, .any, .any, .any, .any, .any, .any, .any, .any, .any, .any, .any, .any, .any, .any, .any, .any, .any, .any, .any, .any, .any, .any, .any, .any, .any, .any, .any, .any, .any, .any, .any, .any, .any, .any, .any, .any, .any, .any, .any, .any, .any, .any, .any, .any, .any, .any, .any, .any, .any, .any, .any, .any, .any, .any, .any, .any, .any, .any, .any, .any, .any, .any, .any, .any, .any, .any, .any, .any, .any, .any, .any, .any, .any, .any, .any, .any, .any, .any, .any, .any, .any], [.box 42 [.sl (b_0.Mesh.Places.map GVector.cells), .sl (b_0.Mesh.Triangles.map (cL (cI .i64))), .sl (b_0.Springs.map GSpring.cells), .f .f32 b_0.Film, .f .f32 b_0.Bend, .sl (b_0.Weights.map (cF .f32)), .f .f32 b_0.Fall.X, .f .f32 b_0.Fall.Y, .f .f32 b_0.Fall.Z], .vec 27 1 (r1_l1.map (cF .f32)) false]⟩

def mk_impl_partsOf_1_0 : List Bool := [true, true, true, true, false, false, false, false, false, false, false, false, false, false, true, true, true, true, true, false, false, false, false, false, false, false, false, false, false, false, false, false, false, false, false, false, false, false, false, false, false, false, false, false, false, false, false, false, false, false, false, false, false, false, false, false, false, false, false, false, false, false, false, false, false, false, false, false, false, false, false, false, false, false, false, false, false, false, false, false, false, false, false, false, false, false, false, false, false, false, false, false, false, false, false, false, false, false, false, false, false, false, false, false, false, false, false, false, false, false, false, false, false, false, false, false, false]

def mk_impl_partsOf_1_1 : List Bool := [true, true, true, true, false, false, false, false, false, false, false, false, false, false, true, true, true, false, false, false, false, false, false, false, false, false, false, false, false, false, false, false, false, false, false, false, false, false, false, false, false, false, false, false, false, false, false, false, false, false, false, false, false, false, false, false, false, false, false, false, false, false, false, false, false, false, false, false, false, false, false, false, false, false, false, false, false, false, false, false, false, false, false, false, false, false, false, false, false, false, false, false, false, false, false, false, false, false, false, false, false, false, false, false, false, false, false, false, false, false, false, false, false, false, false, false, false]

theorem lp_impl_partsOf_1 (b_0 : GBody) (hp0 : b_0.Mesh.Places.length ≤ 1073741824) (hp1 : b_0.Mesh.Triangles.length ≤ 1073741824) (hp2 : ∀ t ∈ b_0.Mesh.Triangles, t.length ≤ 1073741824) (hp3 : b_0.Springs.length ≤ 1073741824) (hp4 : b_0.Weights.length ≤ 1073741824) (hp5 : OkBd b_0) : ∀ (k : Nat) (x_l0 : Int) (r1_l1 : (List Nat)) (hv_impl_partsOf_1_0 : 0 ≤ x_l0) (hv_impl_partsOf_1_1 : r1_l1.length = 4) (hk : ((b_0.Springs.length : Int) - x_l0).toNat < k), Lp prog 0 (sub (bodyOf f101) [1, 1, 0, 1, 0, 0]) (hd_impl_partsOf_1 b_0 x_l0 r1_l1) (ls_impl_partsOf_1 b_0 (lo_impl_partsOf_1 b_0 k x_l0 r1_l1)).1 (ls_impl_partsOf_1 b_0 (lo_impl_partsOf_1 b_0 k x_l0 r1_l1)).2 := by
 intro k
 induction k with
 | zero => intro x_l0 r1_l1 hv_impl_partsOf_1_0 hv_impl_partsOf_1_1 hk; exact absurd hk (Nat.not_lt_zero _)
 | succ k ih =>
  intro x_l0 r1_l1 hv_impl_partsOf_1_0 hv_impl_partsOf_1_1 hk
  cases h_0 : (decide (x_l0 < (b_0.Springs.length : Int))) with
  | true =>
   have gh_0 := of_decide_eq_true h_0
   have y_0 : (0 : Int) ≤ x_l0 := (by first | assumption | omega)
   have y_1 : x_l0 < (b_0.Springs.length : Int) := (by first | assumption | omega)
   have y_2 : 0 ≤ (b_0.Springs.getD x_l0.toNat default).A := (by first | assumption | omega | exact hp5.e | (have q := okBd_spr hp5 (by assumption) h_0; omega) | exact tri3 hp5.e (by assumption) h_0 | exact tri3L hp5.e (by assumption) h_0 | exact hin4i hp5.e (by assumption) h_0 | exact hin4iL hp5.e (by assumption) h_0)
   have y_3 : (b_0.Springs.getD x_l0.toNat default).A < (b_0.Mesh.Places.length : Int) := (by first | assumption | omega | exact hp5.e | (have q := okBd_spr hp5 (by assumption) h_0; omega) | exact tri3 hp5.e (by assumption) h_0 | exact tri3L hp5.e (by assumption) h_0 | exact hin4i hp5.e (by assumption) h_0 | exact hin4iL hp5.e (by assumption) h_0)
   have y_4 : 0 ≤ (b_0.Springs.getD x_l0.toNat default).B := (by first | assumption | omega | exact hp5.e | (have q := okBd_spr hp5 (by assumption) h_0; omega) | exact tri3 hp5.e (by assumption) h_0 | exact tri3L hp5.e (by assumption) h_0 | exact hin4i hp5.e (by assumption) h_0 | exact hin4iL hp5.e (by assumption) h_0)
   have y_5 : (b_0.Springs.getD x_l0.toNat default).B < (b_0.Mesh.Places.length : Int) := (by first | assumption | omega | exact hp5.e | (have q := okBd_spr hp5 (by assumption) h_0; omega) | exact tri3 hp5.e (by assumption) h_0 | exact tri3L hp5.e (by assumption) h_0 | exact hin4i hp5.e (by assumption) h_0 | exact hin4iL hp5.e (by assumption) h_0)
   have y_6 : (0 : Int) ≤ 0 := (by first | assumption | omega)
   have y_7 : 0 < (r1_l1.length : Int) := (by first | assumption | omega)
   have y_8 : 0 < r1_l1.length := (by first | assumption | omega)
   have y_9 : (-9223372036854775808 : Int) ≤ (x_l0 + 1) := (by first | assumption | omega)
   have y_10 : (x_l0 + 1) ≤ (9223372036854775807 : Int) := (by first | assumption | omega)
   have e : lo_impl_partsOf_1 b_0 (k + 1) x_l0 r1_l1 = (lo_impl_partsOf_1 b_0 k (x_l0 + 1) (r1_l1.set 0 (fop .add .f32 (r1_l1.getD 0 default) (fop .mul .f32 (fop .mul .f32 1056964608 ((b_0.Springs.getD x_l0.toNat default).Stiff)) (nd_impl_partsOf_0 b_0 x_l0))))) := by simp only [lo_impl_partsOf_1, h_0, cond_true]
   rw [e]
   exact nextS E0Ok hMixed [] mk_impl_partsOf_1_0 [0, 1] (⟨[.agg [.sl (b_0.Mesh.Places.map GVector.cells), .sl (b_0.Mesh.Triangles.map (cL (cI .i64))), .sl (b_0.Springs.map GSpring.cells), .f .f32 b_0.Film, .f .f32 b_0.Bend, .sl (b_0.Weights.map (cF .f32)), .f .f32 b_0.Fall.X, .f .f32 b_0.Fall.Y, .f .f32 b_0.Fall.Z], .ptr 0 0 0, .nils, .own 1, .any, .any, .any, .any, .any, .any, .any, .any, .any, .any, .own 1, .ptr 0 0 2, .sl (b_0.Springs.map GSpring.cells), .i .i64 (b_0.Springs.length : Int), .i .i64 (x_l0 + 1), .any, .any, .any, .any, .any, .any, .any, .any, .any, .any, .any, .any, .any, .any, .any, .any, .any, .any, .any, .any, .any, .any, .any, .any, .any, .any, .any, .any, .any, .any, .any, .any, .any, .any, .any, .any, .any, .any, .any, .any, .any, .any, .any, .any, .any, .any, .any, .any, .any, .any, .any, .any, .any, .any, .any, .any, .any, .any, .any, .any, .any, .any, .any, .any, .any, .any, .any, .any, .any, .any, .any, .any, .any, .any, .any, .any, .any, .any, .any, .any, .any, .any, .any, .any, .any, .any, .any, .any, .any, .any, .any, .any, .any, .any, .any, .any, .any, .any], [.box 42 [.sl (b_0.Mesh.Places.map GVector.cells), .sl (b_0.Mesh.Triangles.map (cL (cI .i64))), .sl (b_0.Springs.map GSpring.cells), .f .f32 b_0.Film, .f .f32 b_0.Bend, .sl (b_0.Weights.map (cF .f32)), .f .f32 b_0.Fall.X, .f .f32 b_0.Fall.Y, .f .f32 b_0.Fall.Z], .vec 27 1 ((r1_l1.map (cF .f32)).set 0 [.f .f32 (fop .add .f32 (r1_l1.getD 0 default) (fop .mul .f32 (fop .mul .f32 1056964608 ((b_0.Springs.getD x_l0.toNat default).Stiff)) (nd_impl_partsOf_0 b_0 x_l0)))]) false]⟩) (sB h_0 <| sG GSpring.cells b_0.Springs x_l0 y_0 y_1 <| sK [6, 6] <| sF (t_impl_alongSpring b_0 (b_0.Springs.getD x_l0.toNat default) hp0 hp1 hp2 hp3 hp4 y_2 y_3 y_4 y_5) <| sF (t_impl_LongOf (v_impl_alongSpring b_0 (b_0.Springs.getD x_l0.toNat default))) <| sK [10, 10] <| sX (cF .f32) r1_l1 0 y_6 y_7 <| sV (cF .f32) r1_l1 0 y_8 <| sX (cF .f32) r1_l1 0 y_6 y_7 <| sC (maplt (c := (cF .f32)) (l := r1_l1) y_8) <| sI (x_l0 + 1) y_9 y_10 <| sN) (by kernel_rfl) (show _ = ⟨[.agg [.sl (b_0.Mesh.Places.map GVector.cells), .sl (b_0.Mesh.Triangles.map (cL (cI .i64))), .sl (b_0.Springs.map GSpring.cells), .f .f32 b_0.Film, .f .f32 b_0.Bend, .sl (b_0.Weights.map (cF .f32)), .f .f32 b_0.Fall.X, .f .f32 b_0.Fall.Y, .f .f32 b_0.Fall.Z], .ptr 0 0 0, .nils, .own 1, .any, .any, .any, .any, .any, .any, .any, .any, .any, .any, .own 1, .ptr 0 0 2, .sl (b_0.Springs.map GSpring.cells), .i .i64 (b_0.Springs.length : Int), .i .i64 (x_l0 + 1), .any, .any, .any, .any, .any, .any, .any, .any, .any, .any, .any, .any, .any, .any, .any, .any, .any, .any, .any, .any, .any, .any, .any, .any, .any, .any, .any, .any, .any, .any, .any, .any, .any, .any, .any, .any, .any, .any, .any, .any, .any, .any, .any, .any, .any, .any, .any, .any, .any, .any, .any, .any, .any, .any, .any, .any, .any, .any, .any, .any, .any, .any, .any, .any, .any, .any, .any, .any, .any, .any, .any, .any, .any, .any, .any, .any, .any, .any, .any, .any, .any, .any, .any, .any, .any, .any, .any, .any, .any, .any, .any, .any, .any, .any, .any, .any, .any, .any], [.box 42 [.sl (b_0.Mesh.Places.map GVector.cells), .sl (b_0.Mesh.Triangles.map (cL (cI .i64))), .sl (b_0.Springs.map GSpring.cells), .f .f32 b_0.Film, .f .f32 b_0.Bend, .sl (b_0.Weights.map (cF .f32)), .f .f32 b_0.Fall.X, .f .f32 b_0.Fall.Y, .f .f32 b_0.Fall.Z], .vec 27 1 ((r1_l1.set 0 (fop .add .f32 (r1_l1.getD 0 default) (fop .mul .f32 (fop .mul .f32 1056964608 ((b_0.Springs.getD x_l0.toNat default).Stiff)) (nd_impl_partsOf_0 b_0 x_l0)))).map (cF .f32)) false]⟩ from (by simp [List.map_set, cF])) (ih (x_l0 + 1) (r1_l1.set 0 (fop .add .f32 (r1_l1.getD 0 default) (fop .mul .f32 (fop .mul .f32 1056964608 ((b_0.Springs.getD x_l0.toNat default).Stiff)) (nd_impl_partsOf_0 b_0 x_l0)))) (show 0 ≤ (x_l0 + 1) from (by first | assumption | omega)) (show (r1_l1.set 0 (fop .add .f32 (r1_l1.getD 0 default) (fop .mul .f32 (fop .mul .f32 1056964608 ((b_0.Springs.getD x_l0.toNat default).Stiff)) (nd_impl_partsOf_0 b_0 x_l0)))).length = 4 from (by first | assumption | omega | (have q := hp5.w; first | omega | (have q := okBd_spr hp5 (by assumption) h_0; omega) | (have q := impl_hingesOf_len _ hp5.e; omega) | (simp; done)) | (simp_all <;> omega))) (by first | assumption | omega))
  | false =>
   have gh_0 := of_decide_eq_false h_0
   have e : lo_impl_partsOf_1 b_0 (k + 1) x_l0 r1_l1 = r1_l1 := by simp only [lo_impl_partsOf_1, h_0, cond_false]
   rw [e]
   exact outR (e := (.exit 0)) E0Ok hMixed [] mk_impl_partsOf_1_1 [0, 1] (sB h_0 <| sN) (by kernel_rfl) (by intro h; cases h)

theorem ln_impl_partsOf_1_0 (b_0 : GBody) : ∀ (k : Nat) (x_l0 : Int) (r1_l1 : (List Nat)) (hk : ((b_0.Springs.length : Int) - x_l0).toNat < k), (lo_impl_partsOf_1 b_0 k x_l0 r1_l1).length = r1_l1.length := by
  intro k
  induction k with
  | zero => intro x_l0 r1_l1 hk; exact absurd hk (Nat.not_lt_zero _)
  | succ k ih =>
    intro x_l0 r1_l1 hk
    cases h_0 : (decide (x_l0 < (b_0.Springs.length : Int))) with
    | true =>
      have e : lo_impl_partsOf_1 b_0 (k + 1) x_l0 r1_l1 = (lo_impl_partsOf_1 b_0 k (x_l0 + 1) (r1_l1.set 0 (fop .add .f32 (r1_l1.getD 0 default) (fop .mul .f32 (fop .mul .f32 1056964608 ((b_0.Springs.getD x_l0.toNat default).Stiff)) (nd_impl_partsOf_0 b_0 x_l0))))) := by simp only [lo_impl_partsOf_1, h_0, cond_true]
      rw [e, ih (x_l0 + 1) (r1_l1.set 0 (fop .add .f32 (r1_l1.getD 0 default) (fop .mul .f32 (fop .mul .f32 1056964608 ((b_0.Springs.getD x_l0.toNat default).Stiff)) (nd_impl_partsOf_0 b_0 x_l0)))) (by first | assumption | omega | (have q := hp5.w; first | omega | (have q := okBd_spr hp5 (by assumption) h_0; omega) | (have q := impl_hingesOf_len _ hp5.e; omega) | (simp; done)) | (simp_all <;> omega))]; simp
    | false =>
      have e : lo_impl_partsOf_1 b_0 (k + 1) x_l0 r1_l1 = r1_l1 := by simp only [lo_impl_partsOf_1, h_0, cond_false]
      first | (rw [e]; done) | (rw [e]; rfl)

def lr_impl_partsOf_1_0 (b_0 : GBody) : (List Nat) := (lo_impl_partsOf_1 b_0 (((b_0.Springs.length : Int) - 0).toNat + 1) 0 (List.replicate 4 0))

@[simp] theorem len_lr_impl_partsOf_1_0_0 (b_0 : GBody) : (lr_impl_partsOf_1_0 b_0).length = ((List.replicate 4 0) : (List Nat)).length := ln_impl_partsOf_1_0 b_0 (((b_0.Springs.length : Int) - 0).toNat + 1) 0 (List.replicate 4 0) (by first | exact Nat.lt_succ_self _ | simp)

def nd_impl_partsOf_2 (b_0 : GBody) (x_l0 : Int) (r1_l1 : (List Nat)) : Nat := (fop .add .f32 (r1_l1.getD 1 default) (fop .mul .f32 b_0.Film (fop .mul .f32 1056964608 (v_impl_LongOf (v_impl_normalOf b_0.Mesh (b_0.Mesh.Triangles.getD x_l0.toNat default))))))

def lo_impl_partsOf_2 (b_0 : GBody) : Nat → Int → (List Nat) → (List Nat)
  | 0, _, _ => default
  | k + 1, x_l0, r1_l1 => (cond (decide (x_l0 < (b_0.Mesh.Triangles.length : Int)))
    (lo_impl_partsOf_2 b_0 k (x_l0 + 1) (r1_l1.set 1 (nd_impl_partsOf_2 b_0 x_l0 r1_l1)))
    r1_l1)

def ls_impl_partsOf_2 (b_0 : GBody) (r : (List Nat)) : Ex × St := ((.exit 2), ⟨[.agg [.sl (b_0.Mesh.Places.map GVector.cells), .sl (b_0.Mesh.Triangles.map (cL (cI .i64))), .sl (b_0.Springs.map GSpring.cells), .f .f32 b_0.Film, .f .f32 b_0.Bend, .sl (b_0.Weights.map (cF .f32)), .f .f32 b_0.Fall.X, .f .f32 b_0.Fall.Y, .f .f32 b_0.Fall.Z], .ptr 0 0 0, .nils, .own 1, .any, .any, .any, .any, .any, .any, .any, .any, .any, .any, .own 1, .ptr 0 0 2, .sl (b_0.Springs.map GSpring.cells), .any, .any, .any, .any, .any, .any, .any, .any, .any, .any, .any, .any, .any, .any, .any, .any, .any, .any, .any, .any, .any, .any, .any, .any, .any, .ptr 0 0 0, .ptr 0 0 1, .sl (b_0.Mesh.Triangles.map (cL (cI .i64))), .any, .any, .any, .any, .any, .any, .any, .any, .any, .any, .any, .any, .any, .any, .any, .any, .any, .any, .any, .any, .any, .any, .any, .any, .any, .any, .any, .any, .any, .any, .any, .any, .any, .any, .any, .any, .any, .any, .any, .any, .any, .any, .any, .any, .any, .any, .any, .any, .any, .any, .any, .any, .any, .any, .any, .any, .any, .any, .any, .any, .any, .any, .any, .any, .any, .any, .any, .any, .any, .any, .any, .any], [.box 42 [.sl (b_0.Mesh.Places.map GVector.cells), .sl (b_0.Mesh.Triangles.map (cL (cI .i64))), .sl (b_0.Springs.map GSpring.cells), .f .f32 b_0.Film, .f .f32 b_0.Bend, .sl (b_0.Weights.map (cF .f32)), .f .f32 b_0.Fall.X, .f .f32 b_0.Fall.Y, .f .f32 b_0.Fall.Z], .vec 27 1 (r.map (cF .f32)) false]⟩)

def hd_impl_partsOf_2 (b_0 : GBody) (x_l0 : Int) (r1_l1 : (List Nat)) : St := ⟨[.agg [.sl (b_0.Mesh.Places.map GVector.cells), .sl (b_0.Mesh.Triangles.map (cL (cI .i64))), .sl (b_0.Springs.map GSpring.cells), .f .f32 b_0.Film, .f .f32 b_0.Bend, .sl (b_0.Weights.map (cF .f32)), .f .f32 b_0.Fall.X, .f .f32 b_0.Fall.Y, .f .f32 b_0.Fall.Z], .ptr 0 0 0, .nils, .own 1, .any, .any, .any, .any, .any, .any, .any, .any, .any, .any, .own 1, .ptr 0 0 2, .sl (b_0.Springs.map GSpring.cells), .any, .any, .any, .any, .any, .any, .any, .any, .any, .any, .any, .any, .any, .any, .any, .any, .any, .any, .any, .any, .any, .any, .any, .any, .any, .ptr 0 0 0, .ptr 0 0 1, .sl (b_0.Mesh.Triangles.map (cL (cI .i64))), .i .i64 (b_0.Mesh.Triangles.length : Int), .i .i64 x_l0, .any, .any, .any, .any, .any, .any, .any, .any, .any, .any, .any, .any, .any, .any, .any, .any, .any, .any, .any, .any, .any, .any, .any, .any, .any, .any, .any, .any, .any, .any, .any, .any, .any, .any, .any, .any, .any, .any, .any, .any, .any, .any, .any, .any, .any, .any, .any, .any, .any, .any, .any, .any, .any, .any, .any, .any, .any, .any, .any, .any, .any, .any, .any, .any, .any, .any, .any, .any, .any, .any], [.box 42 [.sl (b_0.Mesh.Places.map GVector.cells), .sl (b_0.Mesh.Triangles.map (cL (cI .i64))), .sl (b_0.Springs.map GSpring.cells), .f .f32 b_0.Film, .f .f32 b_0.Bend, .sl (b_0.Weights.map (cF .f32)), .f .f32 b_0.Fall.X, .f .f32 b_0.Fall.Y, .f .f32 b_0.Fall.Z], .vec 27 1 (r1_l1.map (cF .f32)) false]⟩

def mk_impl_partsOf_2_0 : List Bool := [true, true, true, true, false, false, false, false, false, false, false, false, false, false, true, true, true, false, false, false, false, false, false, false, false, false, false, false, false, false, false, false, false, false, false, false, false, false, false, false, false, false, true, true, true, true, true, false, false, false, false, false, false, false, false, false, false, false, false, false, false, false, false, false, false, false, false, false, false, false, false, false, false, false, false, false, false, false, false, false, false, false, false, false, false, false, false, false, false, false, false, false, false, false, false, false, false, false, false, false, false, false, false, false, false, false, false, false, false, false, false, false, false, false, false, false, false]

def mk_impl_partsOf_2_1 : List Bool := [true, true, true, true, false, false, false, false, false, false, false, false, false, false, true, true, true, false, false, false, false, false, false, false, false, false, false, false, false, false, false, false, false, false, false, false, false, false, false, false, false, false, true, true, true, false, false, false, false, false, false, false, false, false, false, false, false, false, false, false, false, false, false, false, false, false, false, false, false, false, false, false, false, false, false, false, false, false, false, false, false, false, false, false, false, false, false, false, false, false, false, false, false, false, false, false, false, false, false, false, false, false, false, false, false, false, false, false, false, false, false, false, false, false, false, false, false]

theorem lp_impl_partsOf_2 (b_0 : GBody) (hp0 : b_0.Mesh.Places.length ≤ 1073741824) (hp1 : b_0.Mesh.Triangles.length ≤ 1073741824) (hp2 : ∀ t ∈ b_0.Mesh.Triangles, t.length ≤ 1073741824) (hp3 : b_0.Springs.length ≤ 1073741824) (hp4 : b_0.Weights.length ≤ 1073741824) (hp5 : OkBd b_0) : ∀ (k : Nat) (x_l0 : Int) (r1_l1 : (List Nat)) (hv_impl_partsOf_2_0 : 0 ≤ x_l0) (hv_impl_partsOf_2_1 : r1_l1.length = (lr_impl_partsOf_1_0 b_0).length) (hk : ((b_0.Mesh.Triangles.length : Int) - x_l0).toNat < k), Lp prog 0 (sub (bodyOf f101) [1, 1, 1, 0, 1, 0, 0]) (hd_impl_partsOf_2 b_0 x_l0 r1_l1) (ls_impl_partsOf_2 b_0 (lo_impl_partsOf_2 b_0 k x_l0 r1_l1)).1 (ls_impl_partsOf_2 b_0 (lo_impl_partsOf_2 b_0 k x_l0 r1_l1)).2 := by
 intro k
 induction k with
 | zero => intro x_l0 r1_l1 hv_impl_partsOf_2_0 hv_impl_partsOf_2_1 hk; exact absurd hk (Nat.not_lt_zero _)
 | succ k ih =>
  intro x_l0 r1_l1 hv_impl_partsOf_2_0 hv_impl_partsOf_2_1 hk
  cases h_0 : (decide (x_l0 < (b_0.Mesh.Triangles.length : Int))) with
  | true =>
   have gh_0 := of_decide_eq_true h_0
   have y_0 : (0 : Int) ≤ x_l0 := (by first | assumption | omega)
   have y_1 : x_l0 < (b_0.Mesh.Triangles.length : Int) := (by first | assumption | omega)
   have y_2 : (0 : Int) ≤ 1 := (by first | assumption | omega)
   have y_3 : 1 < (r1_l1.length : Int) := (by first | assumption | omega | (have q := hp5.w; first | omega | (have q := okBd_spr hp5 (by assumption) h_0; omega) | (have q := impl_hingesOf_len _ hp5.e; omega) | (simp; done)) | (simp_all <;> omega))
   have y_4 : 1 < r1_l1.length := (by first | assumption | omega)
   have y_5 : (b_0.Mesh.Triangles.getD x_l0.toNat default).length ≤ 1073741824 := (by first | assumption | omega | exact hp5.e | (have q := okBd_spr hp5 (by assumption) h_0; omega) | exact tri3 hp5.e (by assumption) h_0 | exact tri3L hp5.e (by assumption) h_0 | exact hin4i hp5.e (by assumption) h_0 | exact hin4iL hp5.e (by assumption) h_0)
   have y_6 : (b_0.Mesh.Triangles.getD x_l0.toNat default).length = 3 ∧ ∀ x ∈ (b_0.Mesh.Triangles.getD x_l0.toNat default), 0 ≤ x ∧ x < (b_0.Mesh.Places.length : Int) := (by first | assumption | omega | exact hp5.e | (have q := okBd_spr hp5 (by assumption) h_0; omega) | exact tri3 hp5.e (by assumption) h_0 | exact tri3L hp5.e (by assumption) h_0 | exact hin4i hp5.e (by assumption) h_0 | exact hin4iL hp5.e (by assumption) h_0)
   have y_7 : (-9223372036854775808 : Int) ≤ (x_l0 + 1) := (by first | assumption | omega)
   have y_8 : (x_l0 + 1) ≤ (9223372036854775807 : Int) := (by first | assumption | omega)
   have e : lo_impl_partsOf_2 b_0 (k + 1) x_l0 r1_l1 = (lo_impl_partsOf_2 b_0 k (x_l0 + 1) (r1_l1.set 1 (nd_impl_partsOf_2 b_0 x_l0 r1_l1))) := by simp only [lo_impl_partsOf_2, h_0, cond_true]
   rw [e]
   exact nextS E0Ok hMixed [] mk_impl_partsOf_2_0 [0, 1] (⟨[.agg [.sl (b_0.Mesh.Places.map GVector.cells), .sl (b_0.Mesh.Triangles.map (cL (cI .i64))), .sl (b_0.Springs.map GSpring.cells), .f .f32 b_0.Film, .f .f32 b_0.Bend, .sl (b_0.Weights.map (cF .f32)), .f .f32 b_0.Fall.X, .f .f32 b_0.Fall.Y, .f .f32 b_0.Fall.Z], .ptr 0 0 0, .nils, .own 1, .any, .any, .any, .any, .any, .any, .any, .any, .any, .any, .own 1, .ptr 0 0 2, .sl (b_0.Springs.map GSpring.cells), .any, .any, .any, .any, .any, .any, .any, .any, .any, .any, .any, .any, .any, .any, .any, .any, .any, .any, .any, .any, .any, .any, .any, .any, .any, .ptr 0 0 0, .ptr 0 0 1, .sl (b_0.Mesh.Triangles.map (cL (cI .i64))), .i .i64 (b_0.Mesh.Triangles.length : Int), .i .i64 (x_l0 + 1), .any, .any, .any, .any, .any, .any, .any, .any, .any, .any, .any, .any, .any, .any, .any, .any, .any, .any, .any, .any, .any, .any, .any, .any, .any, .any, .any, .any, .any, .any, .any, .any, .any, .any, .any, .any, .any, .any, .any, .any, .any, .any, .any, .any, .any, .any, .any, .any, .any, .any, .any, .any, .any, .any, .any, .any, .any, .any, .any, .any, .any, .any, .any, .any, .any, .any, .any, .any, .any, .any], [.box 42 [.sl (b_0.Mesh.Places.map GVector.cells), .sl (b_0.Mesh.Triangles.map (cL (cI .i64))), .sl (b_0.Springs.map GSpring.cells), .f .f32 b_0.Film, .f .f32 b_0.Bend, .sl (b_0.Weights.map (cF .f32)), .f .f32 b_0.Fall.X, .f .f32 b_0.Fall.Y, .f .f32 b_0.Fall.Z], .vec 27 1 ((r1_l1.map (cF .f32)).set 1 [.f .f32 (nd_impl_partsOf_2 b_0 x_l0 r1_l1)]) false]⟩) (sB h_0 <| sG (cL (cI .i64)) b_0.Mesh.Triangles x_l0 y_0 y_1 <| sK [12, 12] <| sX (cF .f32) r1_l1 1 y_2 y_3 <| sV (cF .f32) r1_l1 1 y_4 <| sF (t_impl_normalOf b_0.Mesh (b_0.Mesh.Triangles.getD x_l0.toNat default) hp0 hp1 hp2 y_5 y_6) <| sF (t_impl_LongOf (v_impl_normalOf b_0.Mesh (b_0.Mesh.Triangles.getD x_l0.toNat default))) <| sX (cF .f32) r1_l1 1 y_2 y_3 <| sC (maplt (c := (cF .f32)) (l := r1_l1) y_4) <| sI (x_l0 + 1) y_7 y_8 <| sN) (by kernel_rfl) (show _ = ⟨[.agg [.sl (b_0.Mesh.Places.map GVector.cells), .sl (b_0.Mesh.Triangles.map (cL (cI .i64))), .sl (b_0.Springs.map GSpring.cells), .f .f32 b_0.Film, .f .f32 b_0.Bend, .sl (b_0.Weights.map (cF .f32)), .f .f32 b_0.Fall.X, .f .f32 b_0.Fall.Y, .f .f32 b_0.Fall.Z], .ptr 0 0 0, .nils, .own 1, .any, .any, .any, .any, .any, .any, .any, .any, .any, .any, .own 1, .ptr 0 0 2, .sl (b_0.Springs.map GSpring.cells), .any, .any, .any, .any, .any, .any, .any, .any, .any, .any, .any, .any, .any, .any, .any, .any, .any, .any, .any, .any, .any, .any, .any, .any, .any, .ptr 0 0 0, .ptr 0 0 1, .sl (b_0.Mesh.Triangles.map (cL (cI .i64))), .i .i64 (b_0.Mesh.Triangles.length : Int), .i .i64 (x_l0 + 1), .any, .any, .any, .any, .any, .any, .any, .any, .any, .any, .any, .any, .any, .any, .any, .any, .any, .any, .any, .any, .any, .any, .any, .any, .any, .any, .any, .any, .any, .any, .any, .any, .any, .any, .any, .any, .any, .any, .any, .any, .any, .any, .any, .any, .any, .any, .any, .any, .any, .any, .any, .any, .any, .any, .any, .any, .any, .any, .any, .any, .any, .any, .any, .any, .any, .any, .any, .any, .any, .any], [.box 42 [.sl (b_0.Mesh.Places.map GVector.cells), .sl (b_0.Mesh.Triangles.map (cL (cI .i64))), .sl (b_0.Springs.map GSpring.cells), .f .f32 b_0.Film, .f .f32 b_0.Bend, .sl (b_0.Weights.map (cF .f32)), .f .f32 b_0.Fall.X, .f .f32 b_0.Fall.Y, .f .f32 b_0.Fall.Z], .vec 27 1 ((r1_l1.set 1 (nd_impl_partsOf_2 b_0 x_l0 r1_l1)).map (cF .f32)) false]⟩ from (by simp [List.map_set, cF])) (ih (x_l0 + 1) (r1_l1.set 1 (nd_impl_partsOf_2 b_0 x_l0 r1_l1)) (show 0 ≤ (x_l0 + 1) from (by first | assumption | omega)) (show (r1_l1.set 1 (nd_impl_partsOf_2 b_0 x_l0 r1_l1)).length = (lr_impl_partsOf_1_0 b_0).length from (by first | assumption | omega | (have q := hp5.w; first | omega | (have q := okBd_spr hp5 (by assumption) h_0; omega) | (have q := impl_hingesOf_len _ hp5.e; omega) | (simp; done)) | (simp_all <;> omega))) (by first | assumption | omega))
  | false =>
   have gh_0 := of_decide_eq_false h_0
   have e : lo_impl_partsOf_2 b_0 (k + 1) x_l0 r1_l1 = r1_l1 := by simp only [lo_impl_partsOf_2, h_0, cond_false]
   rw [e]
   exact outR (e := (.exit 2)) E0Ok hMixed [] mk_impl_partsOf_2_1 [0, 1] (sB h_0 <| sN) (by kernel_rfl) (by intro h; cases h)

theorem ln_impl_partsOf_2_0 (b_0 : GBody) : ∀ (k : Nat) (x_l0 : Int) (r1_l1 : (List Nat)) (hk : ((b_0.Mesh.Triangles.length : Int) - x_l0).toNat < k), (lo_impl_partsOf_2 b_0 k x_l0 r1_l1).length = r1_l1.length := by
  intro k
  induction k with
  | zero => intro x_l0 r1_l1 hk; exact absurd hk (Nat.not_lt_zero _)
  | succ k ih =>
    intro x_l0 r1_l1 hk
    cases h_0 : (decide (x_l0 < (b_0.Mesh.Triangles.length : Int))) with
    | true =>
      have e : lo_impl_partsOf_2 b_0 (k + 1) x_l0 r1_l1 = (lo_impl_partsOf_2 b_0 k (x_l0 + 1) (r1_l1.set 1 (nd_impl_partsOf_2 b_0 x_l0 r1_l1))) := by simp only [lo_impl_partsOf_2, h_0, cond_true]
      rw [e, ih (x_l0 + 1) (r1_l1.set 1 (nd_impl_partsOf_2 b_0 x_l0 r1_l1)) (by first | assumption | omega | (have q := hp5.w; first | omega | (have q := okBd_spr hp5 (by assumption) h_0; omega) | (have q := impl_hingesOf_len _ hp5.e; omega) | (simp; done)) | (simp_all <;> omega))]; simp
    | false =>
      have e : lo_impl_partsOf_2 b_0 (k + 1) x_l0 r1_l1 = r1_l1 := by simp only [lo_impl_partsOf_2, h_0, cond_false]
      first | (rw [e]; done) | (rw [e]; rfl)

def lr_impl_partsOf_2_1 (b_0 : GBody) : (List Nat) := (lo_impl_partsOf_2 b_0 (((b_0.Mesh.Triangles.length : Int) - 0).toNat + 1) 0 (lr_impl_partsOf_1_0 b_0))

@[simp] theorem len_lr_impl_partsOf_2_1_0 (b_0 : GBody) : (lr_impl_partsOf_2_1 b_0).length = ((lr_impl_partsOf_1_0 b_0) : (List Nat)).length := ln_impl_partsOf_2_0 b_0 (((b_0.Mesh.Triangles.length : Int) - 0).toNat + 1) 0 (lr_impl_partsOf_1_0 b_0) (by first | exact Nat.lt_succ_self _ | simp)

def nd_impl_partsOf_4 (b_0 : GBody) (x_l0 : Int) : Nat := (v_impl_InnerOf (v_impl_bendOf b_0.Mesh ((v_impl_hingesOf b_0.Mesh).getD x_l0.toNat default)) (v_impl_bendOf b_0.Mesh ((v_impl_hingesOf b_0.Mesh).getD x_l0.toNat default)))

def lo_impl_partsOf_3 (b_0 : GBody) : Nat → Int → (List Nat) → (List Nat)
  | 0, _, _ => default
  | k + 1, x_l0, r1_l1 => (cond (decide (x_l0 < ((v_impl_hingesOf b_0.Mesh).length : Int)))
    (lo_impl_partsOf_3 b_0 k (x_l0 + 1) (r1_l1.set 2 (fop .add .f32 (r1_l1.getD 2 default) (fop .mul .f32 (fop .mul .f32 1056964608 b_0.Bend) (nd_impl_partsOf_4 b_0 x_l0)))))
    r1_l1)

def ls_impl_partsOf_3 (b_0 : GBody) (r : (List Nat)) : Ex × St := ((.exit 4), ⟨[.agg [.sl (b_0.Mesh.Places.map GVector.cells), .sl (b_0.Mesh.Triangles.map (cL (cI .i64))), .sl (b_0.Springs.map GSpring.cells), .f .f32 b_0.Film, .f .f32 b_0.Bend, .sl (b_0.Weights.map (cF .f32)), .f .f32 b_0.Fall.X, .f .f32 b_0.Fall.Y, .f .f32 b_0.Fall.Z], .ptr 0 0 0, .nils, .own 1, .any, .any, .any, .any, .any, .any, .any, .any, .any, .any, .own 1, .ptr 0 0 2, .sl (b_0.Springs.map GSpring.cells), .any, .any, .any, .any, .any, .any, .any, .any, .any, .any, .any, .any, .any, .any, .any, .any, .any, .any, .any, .any, .any, .any, .any, .any, .any, .ptr 0 0 0, .ptr 0 0 1, .sl (b_0.Mesh.Triangles.map (cL (cI .i64))), .any, .any, .any, .any, .any, .any, .any, .any, .any, .any, .any, .any, .any, .any, .any, .any, .any, .any, .any, .any, .ptr 0 0 0, .agg [.sl (b_0.Mesh.Places.map GVector.cells), .sl (b_0.Mesh.Triangles.map (cL (cI .i64)))], .own 2, .any, .any, .any, .any, .any, .any, .any, .any, .any, .any, .any, .any, .any, .any, .any, .any, .any, .any, .any, .any, .any, .any, .any, .any, .any, .any, .any, .any, .any, .any, .any, .any, .any, .any, .any, .any, .any, .any, .any, .any, .any, .any, .any, .any, .any, .any, .any, .any, .any], [.box 42 [.sl (b_0.Mesh.Places.map GVector.cells), .sl (b_0.Mesh.Triangles.map (cL (cI .i64))), .sl (b_0.Springs.map GSpring.cells), .f .f32 b_0.Film, .f .f32 b_0.Bend, .sl (b_0.Weights.map (cF .f32)), .f .f32 b_0.Fall.X, .f .f32 b_0.Fall.Y, .f .f32 b_0.Fall.Z], .vec 27 1 (r.map (cF .f32)) false, .nest 54 ((v_impl_hingesOf b_0.Mesh).map fun l => l.map (cI .i64)) false]⟩)

def hd_impl_partsOf_3 (b_0 : GBody) (x_l0 : Int) (r1_l1 : (List Nat)) : St := ⟨[.agg [.sl (b_0.Mesh.Places.map GVector.cells), .sl (b_0.Mesh.Triangles.map (cL (cI .i64))), .sl (b_0.Springs.map GSpring.cells), .f .f32 b_0.Film, .f .f32 b_0.Bend, .sl (b_0.Weights.map (cF .f32)), .f .f32 b_0.Fall.X, .f .f32 b_0.Fall.Y, .f .f32 b_0.Fall.Z], .ptr 0 0 0, .nils, .own 1, .any, .any, .any, .any, .any, .any, .any, .any, .any, .any, .own 1, .ptr 0 0 2, .sl (b_0.Springs.map GSpring.cells), .any, .any, .any, .any, .any, .any, .any, .any, .any, .any, .any, .any, .any, .any, .any, .any, .any, .any, .any, .any, .any, .any, .any, .any, .any, .ptr 0 0 0, .ptr 0 0 1, .sl (b_0.Mesh.Triangles.map (cL (cI .i64))), .any, .any, .any, .any, .any, .any, .any, .any, .any, .any, .any, .any, .any, .any, .any, .any, .any, .any, .any, .any, .ptr 0 0 0, .agg [.sl (b_0.Mesh.Places.map GVector.cells), .sl (b_0.Mesh.Triangles.map (cL (cI .i64)))], .own 2, .i .i64 ((v_impl_hingesOf b_0.Mesh).length : Int), .i .i64 x_l0, .any, .any, .any, .any, .any, .any, .any, .any, .any, .any, .any, .any, .any, .any, .any, .any, .any, .any, .any, .any, .any, .any, .any, .any, .any, .any, .any, .any, .any, .any, .any, .any, .any, .any, .any, .any, .any, .any, .any, .any, .any, .any, .any, .any, .any, .any, .any], [.box 42 [.sl (b_0.Mesh.Places.map GVector.cells), .sl (b_0.Mesh.Triangles.map (cL (cI .i64))), .sl (b_0.Springs.map GSpring.cells), .f .f32 b_0.Film, .f .f32 b_0.Bend, .sl (b_0.Weights.map (cF .f32)), .f .f32 b_0.Fall.X, .f .f32 b_0.Fall.Y, .f .f32 b_0.Fall.Z], .vec 27 1 (r1_l1.map (cF .f32)) false, .nest 54 ((v_impl_hingesOf b_0.Mesh).map fun l => l.map (cI .i64)) false]⟩

def mk_impl_partsOf_3_0 : List Bool := [true, true, true, true, false, false, false, false, false, false, false, false, false, false, true, true, true, false, false, false, false, false, false, false, false, false, false, false, false, false, false, false, false, false, false, false, false, false, false, false, false, false, true, true, true, false, false, false, false, false, false, false, false, false, false, false, false, false, false, false, false, false, false, false, false, true, true, true, true, true, false, false, false, false, false, false, false, false, false, false, false, false, false, false, false, false, false, false, false, false, false, false, false, false, false, false, false, false, false, false, false, false, false, false, false, false, false, false, false, false, false, false, false, false, false, false, false]

def mk_impl_partsOf_3_1 : List Bool := [true, true, true, true, false, false, false, false, false, false, false, false, false, false, true, true, true, false, false, false, false, false, false, false, false, false, false, false, false, false, false, false, false, false, false, false, false, false, false, false, false, false, true, true, true, false, false, false, false, false, false, false, false, false, false, false, false, false, false, false, false, false, false, false, false, true, true, true, false, false, false, false, false, false, false, false, false, false, false, false, false, false, false, false, false, false, false, false, false, false, false, false, false, false, false, false, false, false, false, false, false, false, false, false, false, false, false, false, false, false, false, false, false, false, false, false, false]

theorem lp_impl_partsOf_3 (b_0 : GBody) (hp0 : b_0.Mesh.Places.length ≤ 1073741824) (hp1 : b_0.Mesh.Triangles.length ≤ 1073741824) (hp2 : ∀ t ∈ b_0.Mesh.Triangles, t.length ≤ 1073741824) (hp3 : b_0.Springs.length ≤ 1073741824) (hp4 : b_0.Weights.length ≤ 1073741824) (hp5 : OkBd b_0) : ∀ (k : Nat) (x_l0 : Int) (r1_l1 : (List Nat)) (hv_impl_partsOf_3_0 : 0 ≤ x_l0) (hv_impl_partsOf_3_1 : r1_l1.length = (lr_impl_partsOf_2_1 b_0).length) (hk : (((v_impl_hingesOf b_0.Mesh).length : Int) - x_l0).toNat < k), Lp prog 0 (sub (bodyOf f101) [1, 1, 1, 1, 0, 1, 0, 0]) (hd_impl_partsOf_3 b_0 x_l0 r1_l1) (ls_impl_partsOf_3 b_0 (lo_impl_partsOf_3 b_0 k x_l0 r1_l1)).1 (ls_impl_partsOf_3 b_0 (lo_impl_partsOf_3 b_0 k x_l0 r1_l1)).2 := by
 intro k
 induction k with
 | zero => intro x_l0 r1_l1 hv_impl_partsOf_3_0 hv_impl_partsOf_3_1 hk; exact absurd hk (Nat.not_lt_zero _)
 | succ k ih =>
  intro x_l0 r1_l1 hv_impl_partsOf_3_0 hv_impl_partsOf_3_1 hk
  cases h_0 : (decide (x_l0 < ((v_impl_hingesOf b_0.Mesh).length : Int))) with
  | true =>
   have gh_0 := of_decide_eq_true h_0
   have y_0 : (0 : Int) ≤ x_l0 := (by first | assumption | omega)
   have y_1 : Int.toNat x_l0 < (v_impl_hingesOf b_0.Mesh).length := (by first | assumption | omega)
   have y_2 : x_l0.toNat < (v_impl_hingesOf b_0.Mesh).length := (by first | assumption | omega)
   have y_3 : ((v_impl_hingesOf b_0.Mesh).getD x_l0.toNat default).length ≤ 1073741824 := (by first | assumption | omega | exact hp5.e | (have q := okBd_spr hp5 (by assumption) h_0; omega) | exact tri3 hp5.e (by assumption) h_0 | exact tri3L hp5.e (by assumption) h_0 | exact hin4i hp5.e (by assumption) h_0 | exact hin4iL hp5.e (by assumption) h_0)
   have y_4 : ((v_impl_hingesOf b_0.Mesh).getD x_l0.toNat default).length = 4 ∧ ∀ x ∈ ((v_impl_hingesOf b_0.Mesh).getD x_l0.toNat default), 0 ≤ x ∧ x < (b_0.Mesh.Places.length : Int) := (by first | assumption | omega | exact hp5.e | (have q := okBd_spr hp5 (by assumption) h_0; omega) | exact tri3 hp5.e (by assumption) h_0 | exact tri3L hp5.e (by assumption) h_0 | exact hin4i hp5.e (by assumption) h_0 | exact hin4iL hp5.e (by assumption) h_0)
   have y_5 : (0 : Int) ≤ 2 := (by first | assumption | omega)
   have y_6 : 2 < (r1_l1.length : Int) := (by first | assumption | omega | (have q := hp5.w; first | omega | (have q := okBd_spr hp5 (by assumption) h_0; omega) | (have q := impl_hingesOf_len _ hp5.e; omega) | (simp; done)) | (simp_all <;> omega))
   have y_7 : 2 < r1_l1.length := (by first | assumption | omega)
   have y_8 : (-9223372036854775808 : Int) ≤ (x_l0 + 1) := (by first | assumption | omega)
   have y_9 : (x_l0 + 1) ≤ (9223372036854775807 : Int) := (by first | assumption | omega | (have q := hp5.w; first | omega | (have q := okBd_spr hp5 (by assumption) h_0; omega) | (have q := impl_hingesOf_len _ hp5.e; omega) | (simp; done)) | (simp_all <;> omega))
   have e : lo_impl_partsOf_3 b_0 (k + 1) x_l0 r1_l1 = (lo_impl_partsOf_3 b_0 k (x_l0 + 1) (r1_l1.set 2 (fop .add .f32 (r1_l1.getD 2 default) (fop .mul .f32 (fop .mul .f32 1056964608 b_0.Bend) (nd_impl_partsOf_4 b_0 x_l0))))) := by simp only [lo_impl_partsOf_3, h_0, cond_true]
   rw [e]
   exact nextS E0Ok hMixed [] mk_impl_partsOf_3_0 [0, 1, 2] (⟨[.agg [.sl (b_0.Mesh.Places.map GVector.cells), .sl (b_0.Mesh.Triangles.map (cL (cI .i64))), .sl (b_0.Springs.map GSpring.cells), .f .f32 b_0.Film, .f .f32 b_0.Bend, .sl (b_0.Weights.map (cF .f32)), .f .f32 b_0.Fall.X, .f .f32 b_0.Fall.Y, .f .f32 b_0.Fall.Z], .ptr 0 0 0, .nils, .own 1, .any, .any, .any, .any, .any, .any, .any, .any, .any, .any, .own 1, .ptr 0 0 2, .sl (b_0.Springs.map GSpring.cells), .any, .any, .any, .any, .any, .any, .any, .any, .any, .any, .any, .any, .any, .any, .any, .any, .any, .any, .any, .any, .any, .any, .any, .any, .any, .ptr 0 0 0, .ptr 0 0 1, .sl (b_0.Mesh.Triangles.map (cL (cI .i64))), .any, .any, .any, .any, .any, .any, .any, .any, .any, .any, .any, .any, .any, .any, .any, .any, .any, .any, .any, .any, .ptr 0 0 0, .agg [.sl (b_0.Mesh.Places.map GVector.cells), .sl (b_0.Mesh.Triangles.map (cL (cI .i64)))], .own 2, .i .i64 ((v_impl_hingesOf b_0.Mesh).length : Int), .i .i64 (x_l0 + 1), .any, .any, .any, .any, .any, .any, .any, .any, .any, .any, .any, .any, .any, .any, .any, .any, .any, .any, .any, .any, .any, .any, .any, .any, .any, .any, .any, .any, .any, .any, .any, .any, .any, .any, .any, .any, .any, .any, .any, .any, .any, .any, .any, .any, .any, .any, .any], [.box 42 [.sl (b_0.Mesh.Places.map GVector.cells), .sl (b_0.Mesh.Triangles.map (cL (cI .i64))), .sl (b_0.Springs.map GSpring.cells), .f .f32 b_0.Film, .f .f32 b_0.Bend, .sl (b_0.Weights.map (cF .f32)), .f .f32 b_0.Fall.X, .f .f32 b_0.Fall.Y, .f .f32 b_0.Fall.Z], .vec 27 1 ((r1_l1.map (cF .f32)).set 2 [.f .f32 (fop .add .f32 (r1_l1.getD 2 default) (fop .mul .f32 (fop .mul .f32 1056964608 b_0.Bend) (nd_impl_partsOf_4 b_0 x_l0)))]) false, .nest 54 ((v_impl_hingesOf b_0.Mesh).map fun l => l.map (cI .i64)) false]⟩) (sB h_0 <| sC (nestix (c := (cI .i64)) (l := (v_impl_hingesOf b_0.Mesh)) (i := x_l0) y_0 y_1) <| sC (nestlt (c := (cI .i64)) (l := (v_impl_hingesOf b_0.Mesh)) y_2) <| sF (Fn.castA (args' := [.agg [.sl (b_0.Mesh.Places.map GVector.cells), .sl (b_0.Mesh.Triangles.map (cL (cI .i64)))], .sl (((v_impl_hingesOf b_0.Mesh).map fun l => l.map (cI .i64)).getD x_l0.toNat [])]) (t_impl_bendOf b_0.Mesh ((v_impl_hingesOf b_0.Mesh).getD x_l0.toNat default) hp0 hp1 hp2 y_3 y_4) (by first | (simp [cI]; done) | (simp [cI]; rfl))) <| sK [10, 10] <| sX (cF .f32) r1_l1 2 y_5 y_6 <| sV (cF .f32) r1_l1 2 y_7 <| sF (t_impl_InnerOf (v_impl_bendOf b_0.Mesh ((v_impl_hingesOf b_0.Mesh).getD x_l0.toNat default)) (v_impl_bendOf b_0.Mesh ((v_impl_hingesOf b_0.Mesh).getD x_l0.toNat default))) <| sX (cF .f32) r1_l1 2 y_5 y_6 <| sC (maplt (c := (cF .f32)) (l := r1_l1) y_7) <| sI (x_l0 + 1) y_8 y_9 <| sN) (by kernel_rfl) (show _ = ⟨[.agg [.sl (b_0.Mesh.Places.map GVector.cells), .sl (b_0.Mesh.Triangles.map (cL (cI .i64))), .sl (b_0.Springs.map GSpring.cells), .f .f32 b_0.Film, .f .f32 b_0.Bend, .sl (b_0.Weights.map (cF .f32)), .f .f32 b_0.Fall.X, .f .f32 b_0.Fall.Y, .f .f32 b_0.Fall.Z], .ptr 0 0 0, .nils, .own 1, .any, .any, .any, .any, .any, .any, .any, .any, .any, .any, .own 1, .ptr 0 0 2, .sl (b_0.Springs.map GSpring.cells), .any, .any, .any, .any, .any, .any, .any, .any, .any, .any, .any, .any, .any, .any, .any, .any, .any, .any, .any, .any, .any, .any, .any, .any, .any, .ptr 0 0 0, .ptr 0 0 1, .sl (b_0.Mesh.Triangles.map (cL (cI .i64))), .any, .any, .any, .any, .any, .any, .any, .any, .any, .any, .any, .any, .any, .any, .any, .any, .any, .any, .any, .any, .ptr 0 0 0, .agg [.sl (b_0.Mesh.Places.map GVector.cells), .sl (b_0.Mesh.Triangles.map (cL (cI .i64)))], .own 2, .i .i64 ((v_impl_hingesOf b_0.Mesh).length : Int), .i .i64 (x_l0 + 1), .any, .any, .any, .any, .any, .any, .any, .any, .any, .any, .any, .any, .any, .any, .any, .any, .any, .any, .any, .any, .any, .any, .any, .any, .any, .any, .any, .any, .any, .any, .any, .any, .any, .any, .any, .any, .any, .any, .any, .any, .any, .any, .any, .any, .any, .any, .any], [.box 42 [.sl (b_0.Mesh.Places.map GVector.cells), .sl (b_0.Mesh.Triangles.map (cL (cI .i64))), .sl (b_0.Springs.map GSpring.cells), .f .f32 b_0.Film, .f .f32 b_0.Bend, .sl (b_0.Weights.map (cF .f32)), .f .f32 b_0.Fall.X, .f .f32 b_0.Fall.Y, .f .f32 b_0.Fall.Z], .vec 27 1 ((r1_l1.set 2 (fop .add .f32 (r1_l1.getD 2 default) (fop .mul .f32 (fop .mul .f32 1056964608 b_0.Bend) (nd_impl_partsOf_4 b_0 x_l0)))).map (cF .f32)) false, .nest 54 ((v_impl_hingesOf b_0.Mesh).map fun l => l.map (cI .i64)) false]⟩ from (by simp [List.map_set, cF])) (ih (x_l0 + 1) (r1_l1.set 2 (fop .add .f32 (r1_l1.getD 2 default) (fop .mul .f32 (fop .mul .f32 1056964608 b_0.Bend) (nd_impl_partsOf_4 b_0 x_l0)))) (show 0 ≤ (x_l0 + 1) from (by first | assumption | omega)) (show (r1_l1.set 2 (fop .add .f32 (r1_l1.getD 2 default) (fop .mul .f32 (fop .mul .f32 1056964608 b_0.Bend) (nd_impl_partsOf_4 b_0 x_l0)))).length = (lr_impl_partsOf_2_1 b_0).length from (by first | assumption | omega | (have q := hp5.w; first | omega | (have q := okBd_spr hp5 (by assumption) h_0; omega) | (have q := impl_hingesOf_len _ hp5.e; omega) | (simp; done)) | (simp_all <;> omega))) (by first | assumption | omega))
  | false =>
   have gh_0 := of_decide_eq_false h_0
   have e : lo_impl_partsOf_3 b_0 (k + 1) x_l0 r1_l1 = r1_l1 := by simp only [lo_impl_partsOf_3, h_0, cond_false]
   rw [e]
   exact outR (e := (.exit 4)) E0Ok hMixed [] mk_impl_partsOf_3_1 [0, 1, 2] (sB h_0 <| sN) (by kernel_rfl) (by intro h; cases h)

theorem ln_impl_partsOf_3_0 (b_0 : GBody) : ∀ (k : Nat) (x_l0 : Int) (r1_l1 : (List Nat)) (hk : (((v_impl_hingesOf b_0.Mesh).length : Int) - x_l0).toNat < k), (lo_impl_partsOf_3 b_0 k x_l0 r1_l1).length = r1_l1.length := by
  intro k
  induction k with
  | zero => intro x_l0 r1_l1 hk; exact absurd hk (Nat.not_lt_zero _)
  | succ k ih =>
    intro x_l0 r1_l1 hk
    cases h_0 : (decide (x_l0 < ((v_impl_hingesOf b_0.Mesh).length : Int))) with
    | true =>
      have e : lo_impl_partsOf_3 b_0 (k + 1) x_l0 r1_l1 = (lo_impl_partsOf_3 b_0 k (x_l0 + 1) (r1_l1.set 2 (fop .add .f32 (r1_l1.getD 2 default) (fop .mul .f32 (fop .mul .f32 1056964608 b_0.Bend) (nd_impl_partsOf_4 b_0 x_l0))))) := by simp only [lo_impl_partsOf_3, h_0, cond_true]
      rw [e, ih (x_l0 + 1) (r1_l1.set 2 (fop .add .f32 (r1_l1.getD 2 default) (fop .mul .f32 (fop .mul .f32 1056964608 b_0.Bend) (nd_impl_partsOf_4 b_0 x_l0)))) (by first | assumption | omega | (have q := hp5.w; first | omega | (have q := okBd_spr hp5 (by assumption) h_0; omega) | (have q := impl_hingesOf_len _ hp5.e; omega) | (simp; done)) | (simp_all <;> omega))]; simp
    | false =>
      have e : lo_impl_partsOf_3 b_0 (k + 1) x_l0 r1_l1 = r1_l1 := by simp only [lo_impl_partsOf_3, h_0, cond_false]
      first | (rw [e]; done) | (rw [e]; rfl)

def lr_impl_partsOf_3_2 (b_0 : GBody) : (List Nat) := (lo_impl_partsOf_3 b_0 ((((v_impl_hingesOf b_0.Mesh).length : Int) - 0).toNat + 1) 0 (lr_impl_partsOf_2_1 b_0))

@[simp] theorem len_lr_impl_partsOf_3_2_0 (b_0 : GBody) : (lr_impl_partsOf_3_2 b_0).length = ((lr_impl_partsOf_2_1 b_0) : (List Nat)).length := ln_impl_partsOf_3_0 b_0 ((((v_impl_hingesOf b_0.Mesh).length : Int) - 0).toNat + 1) 0 (lr_impl_partsOf_2_1 b_0) (by first | exact Nat.lt_succ_self _ | simp)

def nd_impl_partsOf_6 (b_0 : GBody) (x_l0 : Int) (r1_l1 : (List Nat)) : Nat := (fop .add .f32 (r1_l1.getD 3 default) (fneg .f32 (fop .mul .f32 (b_0.Weights.getD x_l0.toNat default) (v_impl_InnerOf b_0.Fall (b_0.Mesh.Places.getD x_l0.toNat default)))))

def lo_impl_partsOf_4 (b_0 : GBody) : Nat → Int → (List Nat) → (List Nat)
  | 0, _, _ => default
  | k + 1, x_l0, r1_l1 => (cond (decide (x_l0 < (b_0.Mesh.Places.length : Int)))
    (lo_impl_partsOf_4 b_0 k (x_l0 + 1) (r1_l1.set 3 (nd_impl_partsOf_6 b_0 x_l0 r1_l1)))
    r1_l1)

def ls_impl_partsOf_4 (b_0 : GBody) (r : (List Nat)) : Ex × St := ((.exit 6), ⟨[.agg [.sl (b_0.Mesh.Places.map GVector.cells), .sl (b_0.Mesh.Triangles.map (cL (cI .i64))), .sl (b_0.Springs.map GSpring.cells), .f .f32 b_0.Film, .f .f32 b_0.Bend, .sl (b_0.Weights.map (cF .f32)), .f .f32 b_0.Fall.X, .f .f32 b_0.Fall.Y, .f .f32 b_0.Fall.Z], .ptr 0 0 0, .nils, .own 1, .any, .any, .any, .any, .any, .any, .any, .any, .any, .any, .own 1, .ptr 0 0 2, .sl (b_0.Springs.map GSpring.cells), .any, .any, .any, .any, .any, .any, .any, .any, .any, .any, .any, .any, .any, .any, .any, .any, .any, .any, .any, .any, .any, .any, .any, .any, .any, .ptr 0 0 0, .ptr 0 0 1, .sl (b_0.Mesh.Triangles.map (cL (cI .i64))), .any, .any, .any, .any, .any, .any, .any, .any, .any, .any, .any, .any, .any, .any, .any, .any, .any, .any, .any, .any, .ptr 0 0 0, .agg [.sl (b_0.Mesh.Places.map GVector.cells), .sl (b_0.Mesh.Triangles.map (cL (cI .i64)))], .own 2, .any, .any, .any, .any, .any, .any, .any, .any, .any, .any, .any, .any, .any, .any, .any, .any, .any, .any, .any, .any, .any, .any, .ptr 0 0 0, .ptr 0 0 0, .sl (b_0.Mesh.Places.map GVector.cells), .any, .any, .any, .any, .any, .any, .any, .any, .any, .any, .any, .any, .any, .any, .any, .any, .any, .any, .any, .any, .any, .any, .any, .any], [.box 42 [.sl (b_0.Mesh.Places.map GVector.cells), .sl (b_0.Mesh.Triangles.map (cL (cI .i64))), .sl (b_0.Springs.map GSpring.cells), .f .f32 b_0.Film, .f .f32 b_0.Bend, .sl (b_0.Weights.map (cF .f32)), .f .f32 b_0.Fall.X, .f .f32 b_0.Fall.Y, .f .f32 b_0.Fall.Z], .vec 27 1 (r.map (cF .f32)) false, .nest 54 ((v_impl_hingesOf b_0.Mesh).map fun l => l.map (cI .i64)) false]⟩)

def hd_impl_partsOf_4 (b_0 : GBody) (x_l0 : Int) (r1_l1 : (List Nat)) : St := ⟨[.agg [.sl (b_0.Mesh.Places.map GVector.cells), .sl (b_0.Mesh.Triangles.map (cL (cI .i64))), .sl (b_0.Springs.map GSpring.cells), .f .f32 b_0.Film, .f .f32 b_0.Bend, .sl (b_0.Weights.map (cF .f32)), .f .f32 b_0.Fall.X, .f .f32 b_0.Fall.Y, .f .f32 b_0.Fall.Z], .ptr 0 0 0, .nils, .own 1, .any, .any, .any, .any, .any, .any, .any, .any, .any, .any, .own 1, .ptr 0 0 2, .sl (b_0.Springs.map GSpring.cells), .any, .any, .any, .any, .any, .any, .any, .any, .any, .any, .any, .any, .any, .any, .any, .any, .any, .any, .any, .any, .any, .any, .any, .any, .any, .ptr 0 0 0, .ptr 0 0 1, .sl (b_0.Mesh.Triangles.map (cL (cI .i64))), .any, .any, .any, .any, .any, .any, .any, .any, .any, .any, .any, .any, .any, .any, .any, .any, .any, .any, .any, .any, .ptr 0 0 0, .agg [.sl (b_0.Mesh.Places.map GVector.cells), .sl (b_0.Mesh.Triangles.map (cL (cI .i64)))], .own 2, .any, .any, .any, .any, .any, .any, .any, .any, .any, .any, .any, .any, .any, .any, .any, .any, .any, .any, .any, .any, .any, .any, .ptr 0 0 0, .ptr 0 0 0, .sl (b_0.Mesh.Places.map GVector.cells), .i .i64 (b_0.Mesh.Places.length : Int), .i .i64 x_l0, .any, .any, .any, .any, .any, .any, .any, .any, .any, .any, .any, .any, .any, .any, .any, .any, .any, .any, .any, .any, .any, .any], [.box 42 [.sl (b_0.Mesh.Places.map GVector.cells), .sl (b_0.Mesh.Triangles.map (cL (cI .i64))), .sl (b_0.Springs.map GSpring.cells), .f .f32 b_0.Film, .f .f32 b_0.Bend, .sl (b_0.Weights.map (cF .f32)), .f .f32 b_0.Fall.X, .f .f32 b_0.Fall.Y, .f .f32 b_0.Fall.Z], .vec 27 1 (r1_l1.map (cF .f32)) false, .nest 54 ((v_impl_hingesOf b_0.Mesh).map fun l => l.map (cI .i64)) false]⟩

end Go.Ab
