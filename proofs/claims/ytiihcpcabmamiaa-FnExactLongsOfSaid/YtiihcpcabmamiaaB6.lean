/- The functions of this seat as plain Lean, and that the program's are these. Printed by a program of the prover's own. -/
import Derived.Test.YtiihcpcabmamiaaB5
set_option linter.unusedVariables false
set_option linter.unusedSimpArgs false
set_option maxRecDepth 100000
namespace Go.Ab
open Go.RowKit Go.Proofs.Try

theorem v_cmpE (a b : Gedge) : v_impl_compareEdges a b = cmpP a.pr b.pr := by
  unfold v_impl_compareEdges v_slices_Compare___int64_int64_ lr_slices_Compare___int64_int64__1_0 cmpP Gedge.pr
  show (match lo_slices_Compare___int64_int64__1 [a.e0, a.e1] [b.e0, b.e1] 3 0 with | .inl r1 => r1 | .inr r1 => cond (decide (((2 : Nat) : Int) < ((2 : Nat) : Int))) (-1) 0) = _
  simp only [lo_slices_Compare___int64_int64__1, v_cmpC, List.length_cons, List.length_nil]
  by_cases h1 : a.e0 < b.e0
  · simp [h1]
  · by_cases h2 : a.e0 > b.e0
    · simp [h1, h2]
    · by_cases h3 : a.e1 < b.e1
      · simp [h1, h2, h3]
      · by_cases h4 : a.e1 > b.e1 <;> simp [h1, h2, h3, h4]

def sort_impl_compareEdges (l : List Gedge) : List Gedge := sortE Gedge.pr l

theorem t_sort_impl_compareEdges (l : List Gedge) (h : l.length ≤ 1073741824) : CallSt prog 114 [.vec 100 2 (l.map Gedge.cells) false] [.own 0, .fn 115 []] (.tup []) [.vec 100 2 ((sort_impl_compareEdges l).map Gedge.cells) false] :=
  sort_row laysF0n6 isAgg100 sizeOf100 Gedge.pr Gedge.inj Gedge.cells (fun _ => rfl) 100 115 ⟨_, func114, rfl, by kernel_rfl⟩ (t_impl_compareEdges default default).1
    (fun a b W => ((t_impl_compareEdges a b).2 W #[keyV a.pr, keyV b.pr] ⟨rfl, fun j c e => by match j, e with | 0, e => cases e; exact Rep.agg _ _ rfl (fun i c e => by match i, e with | 0, e => cases e; exact .i _ _ | 1, e => cases e; exact .i _ _) | 1, e => cases e; exact Rep.agg _ _ rfl (fun i c e => by match i, e with | 0, e => cases e; exact .i _ _ | 1, e => cases e; exact .i _ _)⟩).mono fun e w' ⟨v, μ', he, hb, _, hr⟩ => by
      cases hr; rw [v_cmpE] at he; exact ⟨he, hb⟩) l h

def v_impl_trianglesByEdge (m_0 : GMesh) : (List (Gedge × List Int)) × (List Gedge) := ((lr_impl_trianglesByEdge_1_1 m_0).1, (sort_impl_compareEdges ((lr_impl_trianglesByEdge_1_1 m_0).2)))

theorem edges_eq (m : GMesh) (ok : OkE m.Places.length m.Triangles) : (v_impl_trianglesByEdge m).2 = edgL m.Places.length m.Triangles := (etab_is m ok).sorted ok
theorem edges_at (m : GMesh) (ok : OkE m.Places.length m.Triangles) {e : Gedge} (he : e ∈ (v_impl_trianglesByEdge m).2) : mhas (v_impl_trianglesByEdge m).1 e = true ∧ ((v_impl_trianglesByEdge m).1.getD (midx (v_impl_trianglesByEdge m).1 e) default).2 = idxP m.Triangles e.e0 e.e1 := by
  rw [edges_eq m ok] at he
  have h := (etab_is m ok).at ok he
  exact ⟨h.1, h.2.trans (idxE_eq ok (mem_edgL.1 he).1.2.1)⟩
theorem edges_len (m : GMesh) (ok : OkE m.Places.length m.Triangles) : (v_impl_trianglesByEdge m).2.length ≤ 4096 := by
  rw [edges_eq m ok]; exact edgL_len ok
theorem edges_mem (m : GMesh) (ok : OkE m.Places.length m.Triangles) {i : Int} (h0 : 0 ≤ i) (hi : i < ((v_impl_trianglesByEdge m).2.length : Int)) : (v_impl_trianglesByEdge m).2.getD i.toNat default ∈ (v_impl_trianglesByEdge m).2 := by
  have hn : i.toNat < (v_impl_trianglesByEdge m).2.length := by omega
  rw [List.getD_eq_getElem?_getD, List.getElem?_eq_getElem hn]; exact List.getElem_mem hn
theorem edges_nth (m : GMesh) (ok : OkE m.Places.length m.Triangles) {i : Int} (h0 : 0 ≤ i) (hi : i < ((v_impl_trianglesByEdge m).2.length : Int)) :
    0 ≤ ((v_impl_trianglesByEdge m).2.getD i.toNat default).e0 ∧ ((v_impl_trianglesByEdge m).2.getD i.toNat default).e0 < ((v_impl_trianglesByEdge m).2.getD i.toNat default).e1 ∧ ((v_impl_trianglesByEdge m).2.getD i.toNat default).e1 < (m.Places.length : Int) ∧ (m.Places.length : Int) ≤ 64 ∧ ((v_impl_trianglesByEdge m).2.length : Int) ≤ 4096 := by
  have hl := edges_len m ok
  have h64 := ok.1
  have hm := edges_mem m ok h0 hi
  rw [edges_eq m ok] at hm
  have hb := edgL_at hm
  rw [← edges_eq m ok] at hb
  exact ⟨hb.1, hb.2.1, hb.2.2, by omega, by omega⟩

theorem t_impl_trianglesByEdge (m_0 : GMesh) (hp0 : m_0.Places.length ≤ 1073741824) (hp1 : m_0.Triangles.length ≤ 1073741824) (hp2 : ∀ t ∈ m_0.Triangles, t.length ≤ 1073741824) (hp3 : OkE m_0.Places.length m_0.Triangles)  : Fn prog 66 [.agg [.sl (m_0.Places.map GVector.cells), .sl (m_0.Triangles.map (cL (cI .i64)))]] (.tup [.mp 0, .own 1]) [.mapN 2 (mapC Gedge.pr (cI .i64) ((v_impl_trianglesByEdge m_0).1)) none, .vec 100 2 (((v_impl_trianglesByEdge m_0).2).map Gedge.cells) false] := by
 have y0 : ((lr_impl_trianglesByEdge_1_1 m_0).2).length ≤ 1073741824 := (by first | assumption | omega | (first | (have g5 := of_decide_eq_true hf_impl_trianglesByEdge_2_0; have q := OkE.at hp3 hv_impl_trianglesByEdge_1_0 g5 hv_impl_trianglesByEdge_2_0 (of_decide_eq_true (by assumption)); first | omega | (simp only [List.length_append, List.length_cons, List.length_nil]; omega) | (have q3 := mlen_leI (N := 3 * x_l0 + x_l0_1) (by omega) (by assumption) (midx r1_l1_1 (nd_impl_trianglesByEdge_0 m_0 x_l0 x_l0_1)); simp only [List.length_cons, List.length_nil]; omega)) | (have := hp3.2.1; omega) | (have q := loTE_len m_0 hp3; omega)) | (simp_all <;> omega))
 refine fnS E0Ok hMixed (c := bodyOf f66) [] (.tup [.mp 0, .own 1]) [.mapN 2 (mapC Gedge.pr (cI .i64) ((lr_impl_trianglesByEdge_1_1 m_0).1)) none, .vec 100 2 ((sort_impl_compareEdges ((lr_impl_trianglesByEdge_1_1 m_0).2)).map Gedge.cells) false] func66 (sZ (cL (cI .i64)) m_0.Triangles <| sL mk_impl_trianglesByEdge_1_0 3 (lp_cast (st2 := ⟨[.agg [.sl (m_0.Places.map GVector.cells), .sl (m_0.Triangles.map (cL (cI .i64)))], .ptr 0 0 0, .any, .nils, .mp 1, .own 2, .any, .any, .any, .any, .mp 1, .any, .ptr 0 0 1, .sl (m_0.Triangles.map (cL (cI .i64))), .i .i64 (m_0.Triangles.length : Int), .i .i64 0, .any, .any, .any, .any, .any, .any, .any, .any, .any, .any, .any, .any, .any, .any, .any, .any, .any, .any, .any, .any, .any, .any, .any, .any, .any, .any, .any, .any, .any, .any, .any, .any, .any, .any, .any, .any, .any, .any, .any, .any, .any], [.box 31 [.sl (m_0.Places.map GVector.cells), .sl (m_0.Triangles.map (cL (cI .i64)))], .mapN 2 [] none, .vec 100 2 ([] : List (List AV)) false]⟩) (lp_val (ls_impl_trianglesByEdge_1 m_0) (x := (lr_impl_trianglesByEdge_1_1 m_0)) (lp_impl_trianglesByEdge_1 m_0 hp0 hp1 hp2 hp3 (((m_0.Triangles.length : Int) - 0).toNat + 1) 0 ([] : (List (Gedge × List Int))) ([] : List Gedge) (show 0 ≤ 0 from (by first | omega | (simp; done) | (intro y hy; have q := hv_impl_trianglesByEdge_1_2 y hy; omega))) (show (([] : List Gedge).length : Int) ≤ 3 * 0 from (by first | omega | (simp; done) | (intro y hy; have q := hv_impl_trianglesByEdge_1_2 y hy; omega))) (show ∀ y ∈ ([] : (List (Gedge × List Int))), (y.2.length : Int) ≤ 3 * 0 from (by first | omega | (simp; done) | (intro y hy; have q := hv_impl_trianglesByEdge_1_2 y hy; omega))) (Nat.lt_succ_self _)) rfl) (by simp [hd_impl_trianglesByEdge_1, mapC, Gedge.cells])) <| sS (CallSt.frame (t_sort_impl_compareEdges ((lr_impl_trianglesByEdge_1_1 m_0).2) y0) [2] (R := [.box 31 [.sl (m_0.Places.map GVector.cells), .sl (m_0.Triangles.map (cL (cI .i64)))], .mapN 2 (mapC Gedge.pr (cI .i64) ((lr_impl_trianglesByEdge_1_1 m_0).1)) none, .vec 100 2 (((lr_impl_trianglesByEdge_1_1 m_0).2).map Gedge.cells) false]) (args' := [.own 2, .fn 115 []]) rfl rfl rfl rfl rfl rfl) <| sK [1, 2] sN) rfl (by kernel_rfl) (by kernel_rfl) rfl ?_ ?_
 · rfl
 · simp [v_impl_trianglesByEdge]

def v_impl_LessVectors (a_0 : GVector) (b_1 : GVector) : GVector := (⟨(fop .sub .f32 a_0.X b_1.X), (fop .sub .f32 a_0.Y b_1.Y), (fop .sub .f32 a_0.Z b_1.Z)⟩ : GVector)

theorem t_impl_LessVectors (a_0 : GVector) (b_1 : GVector)   : Fn prog 122 [.agg [.f .f32 a_0.X, .f .f32 a_0.Y, .f .f32 a_0.Z], .agg [.f .f32 b_1.X, .f .f32 b_1.Y, .f .f32 b_1.Z]] (.agg [.f .f32 ((v_impl_LessVectors a_0 b_1).X), .f .f32 ((v_impl_LessVectors a_0 b_1).Y), .f .f32 ((v_impl_LessVectors a_0 b_1).Z)]) [] := by
 refine fnS E0Ok hMixed (c := bodyOf f122) [] (.agg [.f .f32 (fop .sub .f32 a_0.X b_1.X), .f .f32 (fop .sub .f32 a_0.Y b_1.Y), .f .f32 (fop .sub .f32 a_0.Z b_1.Z)]) [] func122 (sK [] sN) rfl (by kernel_rfl) (by kernel_rfl) rfl ?_ ?_
 · rfl
 · rfl

def v_impl_InnerOf (a_0 : GVector) (b_1 : GVector) : Nat := (fop .add .f32 (fop .add .f32 (fop .mul .f32 a_0.X b_1.X) (fop .mul .f32 a_0.Y b_1.Y)) (fop .mul .f32 a_0.Z b_1.Z))

theorem t_impl_InnerOf (a_0 : GVector) (b_1 : GVector)   : Fn prog 117 [.agg [.f .f32 a_0.X, .f .f32 a_0.Y, .f .f32 a_0.Z], .agg [.f .f32 b_1.X, .f .f32 b_1.Y, .f .f32 b_1.Z]] (.f .f32 (v_impl_InnerOf a_0 b_1)) [] := by
 refine fnS E0Ok hMixed (c := bodyOf f117) [] (.f .f32 (fop .add .f32 (fop .add .f32 (fop .mul .f32 a_0.X b_1.X) (fop .mul .f32 a_0.Y b_1.Y)) (fop .mul .f32 a_0.Z b_1.Z))) [] func117 (sK [] sN) rfl (by kernel_rfl) (by kernel_rfl) rfl ?_ ?_
 · rfl
 · rfl

def v_impl_RootNumber (x_0 : Nat) : Nat := (fcv .f64 .f32 (v_math_Sqrt (fcv .f32 .f64 x_0)))

theorem t_impl_RootNumber (x_0 : Nat)   : Fn prog 116 [.f .f32 x_0] (.f .f32 (v_impl_RootNumber x_0)) [] := by
 have y0 : fcvOk .f64 .f32 (v_math_Sqrt (fcv .f32 .f64 x_0)) = true := (narrow_sqrt _)
 refine fnS E0Ok hMixed (c := bodyOf f116) [] (.f .f32 (fcv .f64 .f32 (v_math_Sqrt (fcv .f32 .f64 x_0)))) [] func116 (sC (widenOk x_0) <| sF (t_math_Sqrt (fcv .f32 .f64 x_0)) <| sC y0 <| sK [] sN) rfl (by kernel_rfl) (by kernel_rfl) rfl ?_ ?_
 · rfl
 · rfl

def v_impl_LongOf (v_0 : GVector) : Nat := (v_impl_RootNumber (v_impl_InnerOf v_0 v_0))

theorem t_impl_LongOf (v_0 : GVector)   : Fn prog 69 [.agg [.f .f32 v_0.X, .f .f32 v_0.Y, .f .f32 v_0.Z]] (.f .f32 (v_impl_LongOf v_0)) [] := by
 refine fnS E0Ok hMixed (c := bodyOf f69) [] (.f .f32 (v_impl_RootNumber (v_impl_InnerOf v_0 v_0))) [] func69 (sF (t_impl_InnerOf v_0 v_0) <| sF (t_impl_RootNumber (v_impl_InnerOf v_0 v_0)) <| sK [] sN) rfl (by kernel_rfl) (by kernel_rfl) rfl ?_ ?_
 · rfl
 · rfl

def v_impl_longOfEdge (m_0 : GMesh) (e_1 : Gedge) : Nat := (v_impl_LongOf (v_impl_LessVectors (m_0.Places.getD e_1.e0.toNat default) (m_0.Places.getD e_1.e1.toNat default)))

theorem t_impl_longOfEdge (m_0 : GMesh) (e_1 : Gedge) (hp0 : m_0.Places.length ≤ 1073741824) (hp1 : m_0.Triangles.length ≤ 1073741824) (hp2 : ∀ t ∈ m_0.Triangles, t.length ≤ 1073741824) (hp3 : 0 ≤ e_1.e0) (hp4 : e_1.e0 < e_1.e1) (hp5 : e_1.e1 < (m_0.Places.length : Int))  : Fn prog 76 [.agg [.sl (m_0.Places.map GVector.cells), .sl (m_0.Triangles.map (cL (cI .i64)))], .agg [.i .i64 e_1.e0, .i .i64 e_1.e1]] (.f .f32 (v_impl_longOfEdge m_0 e_1)) [] := by
 have y0 : (0 : Int) ≤ e_1.e0 := (by first | assumption | omega | (simp_all <;> omega))
 have y1 : e_1.e0 < (m_0.Places.length : Int) := (by first | assumption | omega | (simp_all <;> omega))
 have y2 : (0 : Int) ≤ e_1.e1 := (by first | assumption | omega | (simp_all <;> omega))
 refine fnS E0Ok hMixed (c := bodyOf f76) [] (.f .f32 (v_impl_LongOf (v_impl_LessVectors (m_0.Places.getD e_1.e0.toNat default) (m_0.Places.getD e_1.e1.toNat default)))) [] func76 (sK [12, 12] <| sC (show (0 : Int) ≤ 0 ∧ 0 < ((2 : Nat) : Int) from (by decide)) <| sG GVector.cells m_0.Places e_1.e0 y0 y1 <| sC (show (0 : Int) ≤ 1 ∧ 1 < ((2 : Nat) : Int) from (by decide)) <| sG GVector.cells m_0.Places e_1.e1 y2 hp5 <| sF (t_impl_LessVectors (m_0.Places.getD e_1.e0.toNat default) (m_0.Places.getD e_1.e1.toNat default)) <| sF (t_impl_LongOf (v_impl_LessVectors (m_0.Places.getD e_1.e0.toNat default) (m_0.Places.getD e_1.e1.toNat default))) <| sK [] sN) rfl (by kernel_rfl) (by kernel_rfl) rfl ?_ ?_
 · rfl
 · rfl

def lo_impl_LongsOf_1 (m_0 : GMesh) : Nat → Int → (List Nat) → (List Nat)
  | 0, _, _ => default
  | k + 1, x_l0, r1_l1 => (cond (decide (x_l0 < (((v_impl_trianglesByEdge m_0).2).length : Int)))
    (lo_impl_LongsOf_1 m_0 k (x_l0 + 1) (r1_l1 ++ [(v_impl_longOfEdge m_0 (((v_impl_trianglesByEdge m_0).2).getD x_l0.toNat default))]))
    r1_l1)

def ls_impl_LongsOf_1 (m_0 : GMesh) (r : (List Nat)) : Ex × St := ((.exit 0), ⟨[.agg [.sl (m_0.Places.map GVector.cells), .sl (m_0.Triangles.map (cL (cI .i64)))], .ptr 0 0 0, .nils, .b false, .own 1, .any, .own 2, .any, .any, .agg [.sl (m_0.Places.map GVector.cells), .sl (m_0.Triangles.map (cL (cI .i64)))], .b (v_impl_ValidMesh m_0), .b (!(v_impl_ValidMesh m_0)), .any, .any, .agg [.sl (m_0.Places.map GVector.cells), .sl (m_0.Triangles.map (cL (cI .i64)))], .any, .mp 3, .own 2, .own 2, .any, .any, .any, .any, .any, .any, .any, .any, .any, .any, .any, .any, .any], [.box 31 [.sl (m_0.Places.map GVector.cells), .sl (m_0.Triangles.map (cL (cI .i64)))], .vec 38 1 (r.map (cF .f32)) false, .vec 100 2 (((v_impl_trianglesByEdge m_0).2).map Gedge.cells) false, .mapN 2 (mapC Gedge.pr (cI .i64) ((v_impl_trianglesByEdge m_0).1)) none]⟩)

def hd_impl_LongsOf_1 (m_0 : GMesh) (x_l0 : Int) (r1_l1 : (List Nat)) : St := ⟨[.agg [.sl (m_0.Places.map GVector.cells), .sl (m_0.Triangles.map (cL (cI .i64)))], .ptr 0 0 0, .nils, .b false, .own 1, .any, .own 3, .any, .any, .agg [.sl (m_0.Places.map GVector.cells), .sl (m_0.Triangles.map (cL (cI .i64)))], .b (v_impl_ValidMesh m_0), .b (!(v_impl_ValidMesh m_0)), .any, .any, .agg [.sl (m_0.Places.map GVector.cells), .sl (m_0.Triangles.map (cL (cI .i64)))], .any, .mp 2, .own 3, .own 3, .i .i64 (((v_impl_trianglesByEdge m_0).2).length : Int), .i .i64 x_l0, .any, .any, .any, .any, .any, .any, .any, .any, .any, .any, .any], [.box 31 [.sl (m_0.Places.map GVector.cells), .sl (m_0.Triangles.map (cL (cI .i64)))], .vec 38 1 (r1_l1.map (cF .f32)) false, .mapN 2 (mapC Gedge.pr (cI .i64) ((v_impl_trianglesByEdge m_0).1)) none, .vec 100 2 (((v_impl_trianglesByEdge m_0).2).map Gedge.cells) false]⟩

def mk_impl_LongsOf_1_0 : List Bool := [true, true, true, true, true, false, true, false, false, true, true, true, false, false, true, false, true, true, true, true, true, false, false, false, false, false, false, false, false, false, false, false]

def mk_impl_LongsOf_1_1 : List Bool := [true, true, true, true, true, false, true, false, false, true, true, true, false, false, true, false, true, true, true, false, false, false, false, false, false, false, false, false, false, false, false, false]

theorem lp_impl_LongsOf_1 (m_0 : GMesh) (hp0 : m_0.Places.length ≤ 1073741824) (hp1 : m_0.Triangles.length ≤ 1073741824) (hp2 : ∀ t ∈ m_0.Triangles, t.length ≤ 1073741824) (hf_impl_LongsOf_1_0 : (v_impl_ValidMesh m_0) = true) : ∀ (k : Nat) (x_l0 : Int) (r1_l1 : (List Nat)) (hv_impl_LongsOf_1_0 : 0 ≤ x_l0) (hv_impl_LongsOf_1_1 : (r1_l1.length : Int) = x_l0) (hk : ((((v_impl_trianglesByEdge m_0).2).length : Int) - x_l0).toNat < k), Lp prog 0 (sub (bodyOf f24) [1, 1, 1, 1, 0, 1, 0, 0]) (hd_impl_LongsOf_1 m_0 x_l0 r1_l1) (ls_impl_LongsOf_1 m_0 (lo_impl_LongsOf_1 m_0 k x_l0 r1_l1)).1 (ls_impl_LongsOf_1 m_0 (lo_impl_LongsOf_1 m_0 k x_l0 r1_l1)).2 := by
 intro k
 induction k with
 | zero => intro x_l0 r1_l1 hv_impl_LongsOf_1_0 hv_impl_LongsOf_1_1 hk; exact absurd hk (Nat.not_lt_zero _)
 | succ k ih =>
  intro x_l0 r1_l1 hv_impl_LongsOf_1_0 hv_impl_LongsOf_1_1 hk
  cases h_0 : (decide (x_l0 < (((v_impl_trianglesByEdge m_0).2).length : Int))) with
  | true =>
   have gh_0 := of_decide_eq_true h_0
   have y_0 : (0 : Int) ≤ x_l0 := (by first | assumption | omega | (first | (have q := edges_nth m_0 (okE_is _ (by rw [← eq_ValidMesh]; assumption)) hv_impl_LongsOf_1_0 (of_decide_eq_true (by assumption)); first | omega | (simp only [List.length_cons, List.length_nil]; omega)) | (have q := edges_len m_0 (okE_is m_0 (by rw [← eq_ValidMesh]; assumption)); omega)) | (simp_all <;> omega))
   have y_1 : x_l0 < (((v_impl_trianglesByEdge m_0).2).length : Int) := (by first | assumption | omega | (first | (have q := edges_nth m_0 (okE_is _ (by rw [← eq_ValidMesh]; assumption)) hv_impl_LongsOf_1_0 (of_decide_eq_true (by assumption)); first | omega | (simp only [List.length_cons, List.length_nil]; omega)) | (have q := edges_len m_0 (okE_is m_0 (by rw [← eq_ValidMesh]; assumption)); omega)) | (simp_all <;> omega))
   have y_2 : x_l0.toNat < ((v_impl_trianglesByEdge m_0).2).length := (by first | assumption | omega | (first | (have q := edges_nth m_0 (okE_is _ (by rw [← eq_ValidMesh]; assumption)) hv_impl_LongsOf_1_0 (of_decide_eq_true (by assumption)); first | omega | (simp only [List.length_cons, List.length_nil]; omega)) | (have q := edges_len m_0 (okE_is m_0 (by rw [← eq_ValidMesh]; assumption)); omega)) | (simp_all <;> omega))
   have y_3 : 0 ≤ (((v_impl_trianglesByEdge m_0).2).getD x_l0.toNat default).e0 := (by first | assumption | exact okE_is _ (by rw [← eq_ValidMesh]; assumption) | exact Nat.le_trans (edges_len _ (by first | assumption | exact okE_is _ (by rw [← eq_ValidMesh]; assumption))) (by decide) | (have q := edges_nth m_0 (okE_is _ (by rw [← eq_ValidMesh]; assumption)) hv_impl_LongsOf_1_0 (of_decide_eq_true (by assumption)); omega) | omega)
   have y_4 : (((v_impl_trianglesByEdge m_0).2).getD x_l0.toNat default).e0 < (((v_impl_trianglesByEdge m_0).2).getD x_l0.toNat default).e1 := (by first | assumption | exact okE_is _ (by rw [← eq_ValidMesh]; assumption) | exact Nat.le_trans (edges_len _ (by first | assumption | exact okE_is _ (by rw [← eq_ValidMesh]; assumption))) (by decide) | (have q := edges_nth m_0 (okE_is _ (by rw [← eq_ValidMesh]; assumption)) hv_impl_LongsOf_1_0 (of_decide_eq_true (by assumption)); omega) | omega)
   have y_5 : (((v_impl_trianglesByEdge m_0).2).getD x_l0.toNat default).e1 < (m_0.Places.length : Int) := (by first | assumption | exact okE_is _ (by rw [← eq_ValidMesh]; assumption) | exact Nat.le_trans (edges_len _ (by first | assumption | exact okE_is _ (by rw [← eq_ValidMesh]; assumption))) (by decide) | (have q := edges_nth m_0 (okE_is _ (by rw [← eq_ValidMesh]; assumption)) hv_impl_LongsOf_1_0 (of_decide_eq_true (by assumption)); omega) | omega)
   have y_6 : r1_l1.length + ([(v_impl_longOfEdge m_0 (((v_impl_trianglesByEdge m_0).2).getD x_l0.toNat default))]).length ≤ 1073741824 := (by first | assumption | omega | (first | (have q := edges_nth m_0 (okE_is _ (by rw [← eq_ValidMesh]; assumption)) hv_impl_LongsOf_1_0 (of_decide_eq_true (by assumption)); first | omega | (simp only [List.length_cons, List.length_nil]; omega)) | (have q := edges_len m_0 (okE_is m_0 (by rw [← eq_ValidMesh]; assumption)); omega)) | (simp_all <;> omega))
   have y_7 : (-9223372036854775808 : Int) ≤ (x_l0 + 1) := (by first | assumption | omega | (first | (have q := edges_nth m_0 (okE_is _ (by rw [← eq_ValidMesh]; assumption)) hv_impl_LongsOf_1_0 (of_decide_eq_true (by assumption)); first | omega | (simp only [List.length_cons, List.length_nil]; omega)) | (have q := edges_len m_0 (okE_is m_0 (by rw [← eq_ValidMesh]; assumption)); omega)) | (simp_all <;> omega))
   have y_8 : (x_l0 + 1) ≤ (9223372036854775807 : Int) := (by first | assumption | omega | (first | (have q := edges_nth m_0 (okE_is _ (by rw [← eq_ValidMesh]; assumption)) hv_impl_LongsOf_1_0 (of_decide_eq_true (by assumption)); first | omega | (simp only [List.length_cons, List.length_nil]; omega)) | (have q := edges_len m_0 (okE_is m_0 (by rw [← eq_ValidMesh]; assumption)); omega)) | (simp_all <;> omega))
   have e : lo_impl_LongsOf_1 m_0 (k + 1) x_l0 r1_l1 = (lo_impl_LongsOf_1 m_0 k (x_l0 + 1) (r1_l1 ++ [(v_impl_longOfEdge m_0 (((v_impl_trianglesByEdge m_0).2).getD x_l0.toNat default))])) := by simp only [lo_impl_LongsOf_1, h_0, cond_true]
   rw [e]
   exact nextS E0Ok hMixed [] mk_impl_LongsOf_1_0 [0, 1, 2, 3] (⟨[.agg [.sl (m_0.Places.map GVector.cells), .sl (m_0.Triangles.map (cL (cI .i64)))], .ptr 0 0 0, .nils, .b false, .own 1, .any, .own 3, .any, .any, .agg [.sl (m_0.Places.map GVector.cells), .sl (m_0.Triangles.map (cL (cI .i64)))], .b (v_impl_ValidMesh m_0), .b (!(v_impl_ValidMesh m_0)), .any, .any, .agg [.sl (m_0.Places.map GVector.cells), .sl (m_0.Triangles.map (cL (cI .i64)))], .any, .mp 2, .own 3, .own 3, .i .i64 (((v_impl_trianglesByEdge m_0).2).length : Int), .i .i64 (x_l0 + 1), .any, .any, .any, .any, .any, .any, .any, .any, .any, .any, .any], [.box 31 [.sl (m_0.Places.map GVector.cells), .sl (m_0.Triangles.map (cL (cI .i64)))], .vec 38 1 ((r1_l1.map (cF .f32)) ++ ([[.f .f32 (v_impl_longOfEdge m_0 (((v_impl_trianglesByEdge m_0).2).getD x_l0.toNat default))]] : List (List AV))) false, .mapN 2 (mapC Gedge.pr (cI .i64) ((v_impl_trianglesByEdge m_0).1)) none, .vec 100 2 (((v_impl_trianglesByEdge m_0).2).map Gedge.cells) false]⟩) (sB h_0 <| sX Gedge.cells ((v_impl_trianglesByEdge m_0).2) x_l0 y_0 y_1 <| sV Gedge.cells ((v_impl_trianglesByEdge m_0).2) x_l0.toNat y_2 <| sF (t_impl_longOfEdge m_0 (((v_impl_trianglesByEdge m_0).2).getD x_l0.toNat default) hp0 hp1 hp2 y_3 y_4 y_5) <| sC (show (r1_l1.map (cF .f32)).length + ([[.f .f32 (v_impl_longOfEdge m_0 (((v_impl_trianglesByEdge m_0).2).getD x_l0.toNat default))]] : List (List AV)).length ≤ 1073741824 from (by simpa using y_6)) <| sI (x_l0 + 1) y_7 y_8 <| sN) (by kernel_rfl) (show _ = ⟨[.agg [.sl (m_0.Places.map GVector.cells), .sl (m_0.Triangles.map (cL (cI .i64)))], .ptr 0 0 0, .nils, .b false, .own 1, .any, .own 3, .any, .any, .agg [.sl (m_0.Places.map GVector.cells), .sl (m_0.Triangles.map (cL (cI .i64)))], .b (v_impl_ValidMesh m_0), .b (!(v_impl_ValidMesh m_0)), .any, .any, .agg [.sl (m_0.Places.map GVector.cells), .sl (m_0.Triangles.map (cL (cI .i64)))], .any, .mp 2, .own 3, .own 3, .i .i64 (((v_impl_trianglesByEdge m_0).2).length : Int), .i .i64 (x_l0 + 1), .any, .any, .any, .any, .any, .any, .any, .any, .any, .any, .any], [.box 31 [.sl (m_0.Places.map GVector.cells), .sl (m_0.Triangles.map (cL (cI .i64)))], .vec 38 1 ((r1_l1 ++ [(v_impl_longOfEdge m_0 (((v_impl_trianglesByEdge m_0).2).getD x_l0.toNat default))]).map (cF .f32)) false, .mapN 2 (mapC Gedge.pr (cI .i64) ((v_impl_trianglesByEdge m_0).1)) none, .vec 100 2 (((v_impl_trianglesByEdge m_0).2).map Gedge.cells) false]⟩ from (by simp [cF])) (ih (x_l0 + 1) (r1_l1 ++ [(v_impl_longOfEdge m_0 (((v_impl_trianglesByEdge m_0).2).getD x_l0.toNat default))]) (show 0 ≤ (x_l0 + 1) from (by first | assumption | omega | (first | (have q := edges_nth m_0 (okE_is _ (by rw [← eq_ValidMesh]; assumption)) hv_impl_LongsOf_1_0 (of_decide_eq_true (by assumption)); first | omega | (simp only [List.length_cons, List.length_nil]; omega)) | (have q := edges_len m_0 (okE_is m_0 (by rw [← eq_ValidMesh]; assumption)); omega)) | (simp_all <;> omega))) (show ((r1_l1 ++ [(v_impl_longOfEdge m_0 (((v_impl_trianglesByEdge m_0).2).getD x_l0.toNat default))]).length : Int) = (x_l0 + 1) from (by first | assumption | omega | (first | (have q := edges_nth m_0 (okE_is _ (by rw [← eq_ValidMesh]; assumption)) hv_impl_LongsOf_1_0 (of_decide_eq_true (by assumption)); first | omega | (simp only [List.length_cons, List.length_nil]; omega)) | (have q := edges_len m_0 (okE_is m_0 (by rw [← eq_ValidMesh]; assumption)); omega)) | (simp_all <;> omega))) (by first | assumption | omega | (first | (have q := edges_nth m_0 (okE_is _ (by rw [← eq_ValidMesh]; assumption)) hv_impl_LongsOf_1_0 (of_decide_eq_true (by assumption)); first | omega | (simp only [List.length_cons, List.length_nil]; omega)) | (have q := edges_len m_0 (okE_is m_0 (by rw [← eq_ValidMesh]; assumption)); omega)) | (simp_all <;> omega)))
  | false =>
   have gh_0 := of_decide_eq_false h_0
   have e : lo_impl_LongsOf_1 m_0 (k + 1) x_l0 r1_l1 = r1_l1 := by simp only [lo_impl_LongsOf_1, h_0, cond_false]
   rw [e]
   exact outR (e := (.exit 0)) E0Ok hMixed [] mk_impl_LongsOf_1_1 [0, 1, 3, 2] (sB h_0 <| sN) (by kernel_rfl) (by intro h; cases h)

def lr_impl_LongsOf_1_0 (m_0 : GMesh) : (List Nat) := (lo_impl_LongsOf_1 m_0 (((((v_impl_trianglesByEdge m_0).2).length : Int) - 0).toNat + 1) 0 ([] : List Nat))

def v_impl_LongsOf (m_0 : GMesh) : (List Nat) × Bool := (cond (v_impl_ValidMesh m_0)
  ((lr_impl_LongsOf_1_0 m_0), true)
  (([] : List Nat), false))

theorem impl_LongsOf_eq (m : GMesh) : v_impl_LongsOf m = cond (v_impl_ValidMesh m) (((v_impl_trianglesByEdge m).2).map (fun e => v_impl_longOfEdge m e), true) ([], false) := by
  unfold v_impl_LongsOf
  cases v_impl_ValidMesh m with
  | false => rfl
  | true =>
    rw [cond_true, cond_true]
    congr 1
    exact appm_loop (fun k i r => rfl)
theorem eq_LongsOf (m : GMesh) : v_impl_LongsOf m = v_spec_LongsOf m := by
  rw [impl_LongsOf_eq, spec_LongsOf_eq, eq_ValidMesh]
  cases h : v_spec_l02Is m with
  | false => rfl
  | true => rw [cond_true, cond_true, edges_eq m (okE_is m h), l02Edges_eq m (okE_is m h), List.map_map]; rfl
theorem le_impl_LongsOf (m : GMesh) : (v_impl_LongsOf m).1.length ≤ 4096 := by rw [eq_LongsOf]; exact le_spec_LongsOf m

theorem t_impl_LongsOf (m_0 : GMesh) (hp0 : m_0.Places.length ≤ 1073741824) (hp1 : m_0.Triangles.length ≤ 1073741824) (hp2 : ∀ t ∈ m_0.Triangles, t.length ≤ 1073741824)  : Fn prog 24 [.agg [.sl (m_0.Places.map GVector.cells), .sl (m_0.Triangles.map (cL (cI .i64)))]] (.tup [.own 0, .b ((v_impl_LongsOf m_0).2)]) [.vec 38 1 (((v_impl_LongsOf m_0).1).map (cF .f32)) false] := by
 have p {a C} (s : Scr a C) := sF (t_impl_ValidMesh m_0 hp0 hp1 hp2) <| s
 cases h0 : (v_impl_ValidMesh m_0) with
 | true =>
  have y0 : OkE m_0.Places.length m_0.Triangles := by clear p; exact (by first | assumption | exact okE_is _ (by rw [← eq_ValidMesh]; assumption) | exact Nat.le_trans (edges_len _ (by first | assumption | exact okE_is _ (by rw [← eq_ValidMesh]; assumption))) (by decide) | (have q := edges_nth m_0 (okE_is _ (by rw [← eq_ValidMesh]; assumption)) hv_impl_LongsOf_1_0 (of_decide_eq_true (by assumption)); omega) | omega)
  refine fnS E0Ok hMixed (c := bodyOf f24) [] (.tup [.own 0, .b true]) [.vec 38 1 ((lr_impl_LongsOf_1_0 m_0).map (cF .f32)) false] func24 (p (sB' h0 <| sF (t_impl_trianglesByEdge m_0 hp0 hp1 hp2 y0) <| sZ Gedge.cells ((v_impl_trianglesByEdge m_0).2) <| sL mk_impl_LongsOf_1_0 4 (lp_cast (st2 := ⟨[.agg [.sl (m_0.Places.map GVector.cells), .sl (m_0.Triangles.map (cL (cI .i64)))], .ptr 0 0 0, .nils, .b false, .own 1, .any, .own 3, .any, .any, .agg [.sl (m_0.Places.map GVector.cells), .sl (m_0.Triangles.map (cL (cI .i64)))], .b (v_impl_ValidMesh m_0), .b (!(v_impl_ValidMesh m_0)), .any, .any, .agg [.sl (m_0.Places.map GVector.cells), .sl (m_0.Triangles.map (cL (cI .i64)))], .any, .mp 2, .own 3, .own 3, .i .i64 (((v_impl_trianglesByEdge m_0).2).length : Int), .i .i64 0, .any, .any, .any, .any, .any, .any, .any, .any, .any, .any, .any], [.box 31 [.sl (m_0.Places.map GVector.cells), .sl (m_0.Triangles.map (cL (cI .i64)))], .vec 38 1 ([] : List (List AV)) false, .mapN 2 (mapC Gedge.pr (cI .i64) ((v_impl_trianglesByEdge m_0).1)) none, .vec 100 2 (((v_impl_trianglesByEdge m_0).2).map Gedge.cells) false]⟩) (lp_val (ls_impl_LongsOf_1 m_0) (x := (lr_impl_LongsOf_1_0 m_0)) (lp_impl_LongsOf_1 m_0 hp0 hp1 hp2 h0 (((((v_impl_trianglesByEdge m_0).2).length : Int) - 0).toNat + 1) 0 ([] : List Nat) (show 0 ≤ 0 from (by first | assumption | omega | (first | (have q := edges_nth m_0 (okE_is _ (by rw [← eq_ValidMesh]; assumption)) hv_impl_LongsOf_1_0 (of_decide_eq_true (by assumption)); first | omega | (simp only [List.length_cons, List.length_nil]; omega)) | (have q := edges_len m_0 (okE_is m_0 (by rw [← eq_ValidMesh]; assumption)); omega)) | (simp_all <;> omega))) (show (([] : List Nat).length : Int) = 0 from (by simp)) (Nat.lt_succ_self _)) rfl) (by simp [hd_impl_LongsOf_1, cF])) <| sK [1] sN)) rfl (by kernel_rfl) (by kernel_rfl) rfl ?_ ?_
  · simp only [v_impl_LongsOf, h0, cond_true]
  · simp [v_impl_LongsOf, h0]
 | false =>
  refine fnS E0Ok hMixed (c := bodyOf f24) [(.tm 2, .vec 38 1 [] false)] (.tup [.own 0, .b false]) [.vec 38 1 [] false] func24 (p (sB' h0 <| sK [1] sN)) rfl (by kernel_rfl) (by kernel_rfl) rfl ?_ ?_
  · simp only [v_impl_LongsOf, h0, cond_false]
  · simp [v_impl_LongsOf, h0, cF]

def v_laws_sameFloat (a_0 : Nat) (b_1 : Nat) : Bool := (cond (fcmp .neq .f64 a_0 a_0)
  (fcmp .neq .f64 b_1 b_1)
  (cond (fcmp .neq .f64 b_1 b_1)
    false
    (cond (fcmp .eql .f64 a_0 0)
      (cond (fcmp .eql .f64 b_1 0)
        ((fcmp .gtr .f64 (fop .quo .f64 4607182418800017408 a_0) 0) == (fcmp .gtr .f64 (fop .quo .f64 4607182418800017408 b_1) 0))
        (fcmp .eql .f64 a_0 b_1))
      (fcmp .eql .f64 a_0 b_1))))

theorem t_laws_sameFloat (a_0 : Nat) (b_1 : Nat)   : Fn prog 42 [.f .f64 a_0, .f .f64 b_1] (.b (v_laws_sameFloat a_0 b_1)) [] := by
 cases h0 : (fcmp .neq .f64 a_0 a_0) with
 | true =>
  refine fnS E0Ok hMixed (c := bodyOf f42) [] (.b (fcmp .neq .f64 b_1 b_1)) [] func42 (sB h0 <| sB h0 <| sB h0 <| sB h0 <| sB (show true = true from rfl) <| sB h0 <| sB h0 <| sB h0 <| sB h0 <| sK [] sN) rfl (by kernel_rfl) (by kernel_rfl) rfl ?_ ?_
  · simp only [v_laws_sameFloat, h0, cond_true]
  · rfl
 | false =>
  have p {a C} (s : Scr a C) := sB h0 <| sB h0 <| sB h0 <| sB h0 <| s
  cases h1 : (fcmp .neq .f64 b_1 b_1) with
  | true =>
   refine fnS E0Ok hMixed (c := bodyOf f42) [] (.b false) [] func42 (p (sB h1 <| sB h0 <| sB h0 <| sB h0 <| sB h0 <| sK [] sN)) rfl (by kernel_rfl) (by kernel_rfl) rfl ?_ ?_
   · simp only [v_laws_sameFloat, h0, h1, cond_true, cond_false]
   · rfl
  | false =>
   have q {a C} (s : Scr a C) := p (sB h1 <| s)
   clear p
   cases h2 : (fcmp .eql .f64 a_0 0) with
   | true =>
    have p {a C} (s : Scr a C) := q (sB h2 <| sB h2 <| sB h2 <| s)
    clear q
    cases h3 : (fcmp .eql .f64 b_1 0) with
    | true =>
     refine fnS E0Ok hMixed (c := bodyOf f42) [] (.b ((fcmp .gtr .f64 (fop .quo .f64 4607182418800017408 a_0) 0) == (fcmp .gtr .f64 (fop .quo .f64 4607182418800017408 b_1) 0))) [] func42 (p (sB h3 <| sK [] sN)) rfl (by kernel_rfl) (by kernel_rfl) rfl ?_ ?_
     · simp only [v_laws_sameFloat, h0, h1, h2, h3, cond_true, cond_false]
     · rfl
    | false =>
     refine fnS E0Ok hMixed (c := bodyOf f42) [] (.b (fcmp .eql .f64 a_0 b_1)) [] func42 (p (sB h3 <| sK [] sN)) rfl (by kernel_rfl) (by kernel_rfl) rfl ?_ ?_
     · simp only [v_laws_sameFloat, h0, h1, h2, h3, cond_true, cond_false]
     · rfl
   | false =>
    refine fnS E0Ok hMixed (c := bodyOf f42) [] (.b (fcmp .eql .f64 a_0 b_1)) [] func42 (q (sB h2 <| sB h2 <| sB h2 <| sB (show false = false from rfl) <| sK [] sN)) rfl (by kernel_rfl) (by kernel_rfl) rfl ?_ ?_
    · simp only [v_laws_sameFloat, h0, h1, h2, cond_false]
    · rfl

theorem same_self (x : Nat) : v_laws_sameFloat x x = true := by
  unfold v_laws_sameFloat
  cases h : fcmp .neq .f64 x x
  · simp only [cond_false]
    have h2 : fcmp .eql .f64 x x = true := by
      unfold fcmp at h ⊢
      simpa using h
    cases fcmp .eql .f64 x 0 <;> simp [h2]
  · rfl

def lo_laws_eqFloat32S_1 (a_0 : (List Nat)) (b_1 : (List Nat)) : Nat → Int → (Unit) ⊕ (Unit)
  | 0, _ => .inl default
  | k + 1, i_l0 => (cond (decide (i_l0 < (a_0.length : Int)))
    (cond (v_laws_sameFloat (fcv .f32 .f64 (a_0.getD i_l0.toNat default)) (fcv .f32 .f64 (b_1.getD i_l0.toNat default)))
      (lo_laws_eqFloat32S_1 a_0 b_1 k (i_l0 + 1))
      (.inl ()))
    (.inr ()))

def ls_laws_eqFloat32S_1 (a_0 : (List Nat)) (b_1 : (List Nat)) : (Unit) ⊕ (Unit) → Ex × St
  | .inl r => (.ret, ⟨[.any, .any, .any, .any, .b false, .any, .any, .any, .any, .any, .any, .any, .any, .any, .any, .any, .any, .any, .any, .any, .any, .any, .any, .any, .any, .any, .any, .any, .any], []⟩)
  | .inr r => ((.exit 0), ⟨[.sl (a_0.map (cF .f32)), .sl (b_1.map (cF .f32)), .any, .any, .any, .any, .sl (a_0.map (cF .f32)), .i .i64 (a_0.length : Int), .sl (b_1.map (cF .f32)), .i .i64 (b_1.length : Int), .b ((a_0.length : Int) != (b_1.length : Int)), .any, .any, .any, .any, .any, .any, .any, .any, .any, .any, .any, .any, .any, .any, .any, .any, .any, .any], []⟩)

def hd_laws_eqFloat32S_1 (a_0 : (List Nat)) (b_1 : (List Nat)) (i_l0 : Int) : St := ⟨[.sl (a_0.map (cF .f32)), .sl (b_1.map (cF .f32)), .any, .any, .any, .i .i64 i_l0, .sl (a_0.map (cF .f32)), .i .i64 (a_0.length : Int), .sl (b_1.map (cF .f32)), .i .i64 (b_1.length : Int), .b ((a_0.length : Int) != (b_1.length : Int)), .any, .any, .any, .any, .any, .any, .any, .any, .any, .any, .any, .any, .any, .any, .any, .any, .any, .any], []⟩

def mk_laws_eqFloat32S_1_0 : List Bool := [true, true, false, false, false, true, true, true, true, true, true, false, false, false, false, false, false, false, false, false, false, false, false, false, false, false, false, false, false]

def mk_laws_eqFloat32S_1_1 : List Bool := [false, false, false, false, true, false, false, false, false, false, false, false, false, false, false, false, false, false, false, false, false, false, false, false, false, false, false, false, false]

def mk_laws_eqFloat32S_1_2 : List Bool := [true, true, false, false, false, false, true, true, true, true, true, false, false, false, false, false, false, false, false, false, false, false, false, false, false, false, false, false, false]

theorem lp_laws_eqFloat32S_1 (a_0 : (List Nat)) (b_1 : (List Nat)) (hp0 : a_0.length ≤ 1073741824) (hp1 : b_1.length ≤ 1073741824) (hf_laws_eqFloat32S_1_0 : ((a_0.length : Int) != (b_1.length : Int)) = false) : ∀ (k : Nat) (i_l0 : Int) (hv_laws_eqFloat32S_1_0 : 0 ≤ i_l0) (hk : ((a_0.length : Int) - i_l0).toNat < k), Lp prog 0 (sub (bodyOf f25) [1, 1, 0, 1, 0, 0]) (hd_laws_eqFloat32S_1 a_0 b_1 i_l0) (ls_laws_eqFloat32S_1 a_0 b_1 (lo_laws_eqFloat32S_1 a_0 b_1 k i_l0)).1 (ls_laws_eqFloat32S_1 a_0 b_1 (lo_laws_eqFloat32S_1 a_0 b_1 k i_l0)).2 := by
 intro k
 induction k with
 | zero => intro i_l0 hv_laws_eqFloat32S_1_0 hk; exact absurd hk (Nat.not_lt_zero _)
 | succ k ih =>
  intro i_l0 hv_laws_eqFloat32S_1_0 hk
  have p {a C} (s : Scr a C) := sZ (cF .f32) a_0 <| s
  cases h_0 : (decide (i_l0 < (a_0.length : Int))) with
  | true =>
   have gh_0 := of_decide_eq_true h_0
   have y_0 : (0 : Int) ≤ i_l0 := by clear p; exact (by first | assumption | omega | (simp_all <;> omega))
   have y_1 : i_l0 < (a_0.length : Int) := by clear p; exact (by first | assumption | omega | (simp_all <;> omega))
   have y_2 : i_l0 < (b_1.length : Int) := by clear p; exact (by first | assumption | omega | (simp_all <;> omega))
   have q {a C} (s : Scr a C) := p (sB h_0 <| sK [10, 10] <| sG (cF .f32) a_0 i_l0 y_0 y_1 <| sC (widenOk (a_0.getD i_l0.toNat default)) <| sG (cF .f32) b_1 i_l0 y_0 y_2 <| sC (widenOk (b_1.getD i_l0.toNat default)) <| sF (t_laws_sameFloat (fcv .f32 .f64 (a_0.getD i_l0.toNat default)) (fcv .f32 .f64 (b_1.getD i_l0.toNat default))) <| s)
   clear p
   cases h_1 : (v_laws_sameFloat (fcv .f32 .f64 (a_0.getD i_l0.toNat default)) (fcv .f32 .f64 (b_1.getD i_l0.toNat default))) with
   | true =>
    have y_3 : (-9223372036854775808 : Int) ≤ (i_l0 + 1) := by clear q; exact (by first | assumption | omega | (simp_all <;> omega))
    have y_4 : (i_l0 + 1) ≤ (9223372036854775807 : Int) := by clear q; exact (by first | assumption | omega | (simp_all <;> omega))
    have e : lo_laws_eqFloat32S_1 a_0 b_1 (k + 1) i_l0 = (lo_laws_eqFloat32S_1 a_0 b_1 k (i_l0 + 1)) := by simp only [lo_laws_eqFloat32S_1, h_0, h_1, cond_true]
    rw [e]
    exact nextR E0Ok hMixed [] mk_laws_eqFloat32S_1_0 [] (ih (i_l0 + 1) (show 0 ≤ (i_l0 + 1) from (by first | assumption | omega | (simp_all <;> omega))) (by first | assumption | omega | (simp_all <;> omega))) (q (sB' h_1 <| sI (i_l0 + 1) y_3 y_4 <| sN)) (by kernel_rfl)
   | false =>
    have e : lo_laws_eqFloat32S_1 a_0 b_1 (k + 1) i_l0 = (.inl ()) := by simp only [lo_laws_eqFloat32S_1, h_0, h_1, cond_true, cond_false]
    rw [e]
    exact outR (e := .ret) E0Ok hMixed [] mk_laws_eqFloat32S_1_1 [] (q (sB' h_1 <| sN)) (by kernel_rfl) (by intro h; cases h)
  | false =>
   have gh_0 := of_decide_eq_false h_0
   have e : lo_laws_eqFloat32S_1 a_0 b_1 (k + 1) i_l0 = (.inr ()) := by simp only [lo_laws_eqFloat32S_1, h_0, cond_false]
   rw [e]
   exact outR (e := (.exit 0)) E0Ok hMixed [] mk_laws_eqFloat32S_1_2 [] (p (sB h_0 <| sN)) (by kernel_rfl) (by intro h; cases h)

def lr_laws_eqFloat32S_1_0 (a_0 : (List Nat)) (b_1 : (List Nat)) : (Unit) ⊕ (Unit) := (lo_laws_eqFloat32S_1 a_0 b_1 (((a_0.length : Int) - 0).toNat + 1) 0)

def v_laws_eqFloat32S (a_0 : (List Nat)) (b_1 : (List Nat)) : Bool := (cond ((a_0.length : Int) != (b_1.length : Int))
  false
  (match (lr_laws_eqFloat32S_1_0 a_0 b_1) with
    | .inl r2 => false
    | .inr r2 => true))

theorem t_laws_eqFloat32S (a_0 : (List Nat)) (b_1 : (List Nat)) (hp0 : a_0.length ≤ 1073741824) (hp1 : b_1.length ≤ 1073741824)  : Fn prog 25 [.sl (a_0.map (cF .f32)), .sl (b_1.map (cF .f32))] (.b (v_laws_eqFloat32S a_0 b_1)) [] := by
 have p {a C} (s : Scr a C) := sZ (cF .f32) a_0 <| sZ (cF .f32) b_1 <| s
 cases h0 : ((a_0.length : Int) != (b_1.length : Int)) with
 | true =>
  have gh0 := bne_iff_ne.1 h0
  refine fnS E0Ok hMixed (c := bodyOf f25) [] (.b false) [] func25 (p (sB h0 <| sK [] sN)) rfl (by kernel_rfl) (by kernel_rfl) rfl ?_ ?_
  · simp only [v_laws_eqFloat32S, h0, cond_true]
  · rfl
 | false =>
  have gh0 := bne_eq_false_iff_eq.1 h0
  have q {a C} (s : Scr a C) := p (sB h0 <| s)
  clear p
  cases h1 : (lr_laws_eqFloat32S_1_0 a_0 b_1) with
  | inl r2 =>
   refine fnS E0Ok hMixed (c := bodyOf f25) [] (.b false) [] func25 (q (sL mk_laws_eqFloat32S_1_0 0 (lp_val (ls_laws_eqFloat32S_1 a_0 b_1) (x := (lr_laws_eqFloat32S_1_0 a_0 b_1)) (lp_laws_eqFloat32S_1 a_0 b_1 hp0 hp1 h0 (((a_0.length : Int) - 0).toNat + 1) 0 (show 0 ≤ 0 from (by first | assumption | omega | (simp_all <;> omega))) (Nat.lt_succ_self _)) h1) <| sK [] sN)) rfl (by kernel_rfl) (by kernel_rfl) rfl ?_ ?_
   · simp only [v_laws_eqFloat32S, h0, h1, cond_false]
   · rfl
  | inr r2 =>
   refine fnS E0Ok hMixed (c := bodyOf f25) [] (.b true) [] func25 (q (sL mk_laws_eqFloat32S_1_0 0 (lp_val (ls_laws_eqFloat32S_1 a_0 b_1) (x := (lr_laws_eqFloat32S_1_0 a_0 b_1)) (lp_laws_eqFloat32S_1 a_0 b_1 hp0 hp1 h0 (((a_0.length : Int) - 0).toNat + 1) 0 (show 0 ≤ 0 from (by first | assumption | omega | (simp_all <;> omega))) (Nat.lt_succ_self _)) h1) <| sK [] sN)) rfl (by kernel_rfl) (by kernel_rfl) rfl ?_ ?_
   · simp only [v_laws_eqFloat32S, h0, h1, cond_false]
   · rfl

theorem eqFloat32S_self (a : List Nat) : v_laws_eqFloat32S a a = true := by
  unfold v_laws_eqFloat32S lr_laws_eqFloat32S_1_0
  rw [all_from (a := a) (p := fun v => v_laws_sameFloat (fcv .f32 .f64 v) (fcv .f32 .f64 v)) (lo := lo_laws_eqFloat32S_1 a a) (x := ()) (y := ()) (fun k i => rfl)]
  rw [show (a.all fun v => v_laws_sameFloat (fcv .f32 .f64 v) (fcv .f32 .f64 v)) = true from by rw [List.all_eq_true]; intro v _; exact same_self _]
  simp

def v_laws_eqVector (a_0 : GVector) (b_1 : GVector) : Bool := (cond (v_laws_sameFloat (fcv .f32 .f64 a_0.X) (fcv .f32 .f64 b_1.X))
  (cond (v_laws_sameFloat (fcv .f32 .f64 a_0.Y) (fcv .f32 .f64 b_1.Y))
    (cond (v_laws_sameFloat (fcv .f32 .f64 a_0.Z) (fcv .f32 .f64 b_1.Z))
      true
      false)
    false)
  false)

theorem t_laws_eqVector (a_0 : GVector) (b_1 : GVector)   : Fn prog 96 [.agg [.f .f32 a_0.X, .f .f32 a_0.Y, .f .f32 a_0.Z], .agg [.f .f32 b_1.X, .f .f32 b_1.Y, .f .f32 b_1.Z]] (.b (v_laws_eqVector a_0 b_1)) [] := by
 have p {a C} (s : Scr a C) := sC (widenOk a_0.X) <| sC (widenOk b_1.X) <| sF (t_laws_sameFloat (fcv .f32 .f64 a_0.X) (fcv .f32 .f64 b_1.X)) <| s
 cases h0 : (v_laws_sameFloat (fcv .f32 .f64 a_0.X) (fcv .f32 .f64 b_1.X)) with
 | true =>
  have q {a C} (s : Scr a C) := p (sB' h0 <| sC (widenOk a_0.Y) <| sC (widenOk b_1.Y) <| sF (t_laws_sameFloat (fcv .f32 .f64 a_0.Y) (fcv .f32 .f64 b_1.Y)) <| s)
  clear p
  cases h1 : (v_laws_sameFloat (fcv .f32 .f64 a_0.Y) (fcv .f32 .f64 b_1.Y)) with
  | true =>
   have p {a C} (s : Scr a C) := q (sB' h1 <| sC (widenOk a_0.Z) <| sC (widenOk b_1.Z) <| sF (t_laws_sameFloat (fcv .f32 .f64 a_0.Z) (fcv .f32 .f64 b_1.Z)) <| s)
   clear q
   cases h2 : (v_laws_sameFloat (fcv .f32 .f64 a_0.Z) (fcv .f32 .f64 b_1.Z)) with
   | true =>
    refine fnS E0Ok hMixed (c := bodyOf f96) [] (.b true) [] func96 (p (sB' h2 <| sK [] sN)) rfl (by kernel_rfl) (by kernel_rfl) rfl ?_ ?_
    · simp only [v_laws_eqVector, h0, h1, h2, cond_true]
    · rfl
   | false =>
    refine fnS E0Ok hMixed (c := bodyOf f96) [] (.b false) [] func96 (p (sB' h2 <| sK [] sN)) rfl (by kernel_rfl) (by kernel_rfl) rfl ?_ ?_
    · simp only [v_laws_eqVector, h0, h1, h2, cond_true, cond_false]
    · rfl
  | false =>
   refine fnS E0Ok hMixed (c := bodyOf f96) [] (.b false) [] func96 (q (sB' h1 <| sK [] sN)) rfl (by kernel_rfl) (by kernel_rfl) rfl ?_ ?_
   · simp only [v_laws_eqVector, h0, h1, cond_true, cond_false]
   · rfl
 | false =>
  refine fnS E0Ok hMixed (c := bodyOf f96) [] (.b false) [] func96 (p (sB' h0 <| sK [] sN)) rfl (by kernel_rfl) (by kernel_rfl) rfl ?_ ?_
  · simp only [v_laws_eqVector, h0, cond_false]
  · rfl

theorem eqVector_self (a : GVector) : v_laws_eqVector a a = true := by
  simp [v_laws_eqVector, same_self]

def lo_laws_eqVectorS_1 (a_0 : (List GVector)) (b_1 : (List GVector)) : Nat → Int → (Unit) ⊕ (Unit)
  | 0, _ => .inl default
  | k + 1, i_l0 => (cond (decide (i_l0 < (a_0.length : Int)))
    (cond (v_laws_eqVector (a_0.getD i_l0.toNat default) (b_1.getD i_l0.toNat default))
      (lo_laws_eqVectorS_1 a_0 b_1 k (i_l0 + 1))
      (.inl ()))
    (.inr ()))

def ls_laws_eqVectorS_1 (a_0 : (List GVector)) (b_1 : (List GVector)) : (Unit) ⊕ (Unit) → Ex × St
  | .inl r => (.ret, ⟨[.any, .any, .any, .any, .b false, .any, .any, .any, .any, .any, .any, .any, .any, .any, .any, .any, .any, .any, .any, .any, .any, .any, .any, .any, .any, .any, .any], []⟩)
  | .inr r => ((.exit 0), ⟨[.sl (a_0.map GVector.cells), .sl (b_1.map GVector.cells), .any, .any, .any, .any, .sl (a_0.map GVector.cells), .i .i64 (a_0.length : Int), .sl (b_1.map GVector.cells), .i .i64 (b_1.length : Int), .b ((a_0.length : Int) != (b_1.length : Int)), .any, .any, .any, .any, .any, .any, .any, .any, .any, .any, .any, .any, .any, .any, .any, .any], []⟩)

def hd_laws_eqVectorS_1 (a_0 : (List GVector)) (b_1 : (List GVector)) (i_l0 : Int) : St := ⟨[.sl (a_0.map GVector.cells), .sl (b_1.map GVector.cells), .any, .any, .any, .i .i64 i_l0, .sl (a_0.map GVector.cells), .i .i64 (a_0.length : Int), .sl (b_1.map GVector.cells), .i .i64 (b_1.length : Int), .b ((a_0.length : Int) != (b_1.length : Int)), .any, .any, .any, .any, .any, .any, .any, .any, .any, .any, .any, .any, .any, .any, .any, .any], []⟩

def mk_laws_eqVectorS_1_0 : List Bool := [true, true, false, false, false, true, true, true, true, true, true, false, false, false, false, false, false, false, false, false, false, false, false, false, false, false, false]

def mk_laws_eqVectorS_1_1 : List Bool := [false, false, false, false, true, false, false, false, false, false, false, false, false, false, false, false, false, false, false, false, false, false, false, false, false, false, false]

def mk_laws_eqVectorS_1_2 : List Bool := [true, true, false, false, false, false, true, true, true, true, true, false, false, false, false, false, false, false, false, false, false, false, false, false, false, false, false]

theorem lp_laws_eqVectorS_1 (a_0 : (List GVector)) (b_1 : (List GVector)) (hp0 : a_0.length ≤ 1073741824) (hp1 : b_1.length ≤ 1073741824) (hf_laws_eqVectorS_1_0 : ((a_0.length : Int) != (b_1.length : Int)) = false) : ∀ (k : Nat) (i_l0 : Int) (hv_laws_eqVectorS_1_0 : 0 ≤ i_l0) (hk : ((a_0.length : Int) - i_l0).toNat < k), Lp prog 0 (sub (bodyOf f58) [1, 1, 0, 1, 0, 0]) (hd_laws_eqVectorS_1 a_0 b_1 i_l0) (ls_laws_eqVectorS_1 a_0 b_1 (lo_laws_eqVectorS_1 a_0 b_1 k i_l0)).1 (ls_laws_eqVectorS_1 a_0 b_1 (lo_laws_eqVectorS_1 a_0 b_1 k i_l0)).2 := by
 intro k
 induction k with
 | zero => intro i_l0 hv_laws_eqVectorS_1_0 hk; exact absurd hk (Nat.not_lt_zero _)
 | succ k ih =>
  intro i_l0 hv_laws_eqVectorS_1_0 hk
  have p {a C} (s : Scr a C) := sZ GVector.cells a_0 <| s
  cases h_0 : (decide (i_l0 < (a_0.length : Int))) with
  | true =>
   have gh_0 := of_decide_eq_true h_0
   have y_0 : (0 : Int) ≤ i_l0 := by clear p; exact (by first | assumption | omega | (simp_all <;> omega))
   have y_1 : i_l0 < (a_0.length : Int) := by clear p; exact (by first | assumption | omega | (simp_all <;> omega))
   have y_2 : i_l0 < (b_1.length : Int) := by clear p; exact (by first | assumption | omega | (simp_all <;> omega))
   have q {a C} (s : Scr a C) := p (sB h_0 <| sK [8, 8] <| sG GVector.cells a_0 i_l0 y_0 y_1 <| sG GVector.cells b_1 i_l0 y_0 y_2 <| sF (t_laws_eqVector (a_0.getD i_l0.toNat default) (b_1.getD i_l0.toNat default)) <| s)
   clear p
   cases h_1 : (v_laws_eqVector (a_0.getD i_l0.toNat default) (b_1.getD i_l0.toNat default)) with
   | true =>
    have y_3 : (-9223372036854775808 : Int) ≤ (i_l0 + 1) := by clear q; exact (by first | assumption | omega | (simp_all <;> omega))
    have y_4 : (i_l0 + 1) ≤ (9223372036854775807 : Int) := by clear q; exact (by first | assumption | omega | (simp_all <;> omega))
    have e : lo_laws_eqVectorS_1 a_0 b_1 (k + 1) i_l0 = (lo_laws_eqVectorS_1 a_0 b_1 k (i_l0 + 1)) := by simp only [lo_laws_eqVectorS_1, h_0, h_1, cond_true]
    rw [e]
    exact nextR E0Ok hMixed [] mk_laws_eqVectorS_1_0 [] (ih (i_l0 + 1) (show 0 ≤ (i_l0 + 1) from (by first | assumption | omega | (simp_all <;> omega))) (by first | assumption | omega | (simp_all <;> omega))) (q (sB' h_1 <| sI (i_l0 + 1) y_3 y_4 <| sN)) (by kernel_rfl)
   | false =>
    have e : lo_laws_eqVectorS_1 a_0 b_1 (k + 1) i_l0 = (.inl ()) := by simp only [lo_laws_eqVectorS_1, h_0, h_1, cond_true, cond_false]
    rw [e]
    exact outR (e := .ret) E0Ok hMixed [] mk_laws_eqVectorS_1_1 [] (q (sB' h_1 <| sN)) (by kernel_rfl) (by intro h; cases h)
  | false =>
   have gh_0 := of_decide_eq_false h_0
   have e : lo_laws_eqVectorS_1 a_0 b_1 (k + 1) i_l0 = (.inr ()) := by simp only [lo_laws_eqVectorS_1, h_0, cond_false]
   rw [e]
   exact outR (e := (.exit 0)) E0Ok hMixed [] mk_laws_eqVectorS_1_2 [] (p (sB h_0 <| sN)) (by kernel_rfl) (by intro h; cases h)

def lr_laws_eqVectorS_1_0 (a_0 : (List GVector)) (b_1 : (List GVector)) : (Unit) ⊕ (Unit) := (lo_laws_eqVectorS_1 a_0 b_1 (((a_0.length : Int) - 0).toNat + 1) 0)

def v_laws_eqVectorS (a_0 : (List GVector)) (b_1 : (List GVector)) : Bool := (cond ((a_0.length : Int) != (b_1.length : Int))
  false
  (match (lr_laws_eqVectorS_1_0 a_0 b_1) with
    | .inl r2 => false
    | .inr r2 => true))

theorem t_laws_eqVectorS (a_0 : (List GVector)) (b_1 : (List GVector)) (hp0 : a_0.length ≤ 1073741824) (hp1 : b_1.length ≤ 1073741824)  : Fn prog 58 [.sl (a_0.map GVector.cells), .sl (b_1.map GVector.cells)] (.b (v_laws_eqVectorS a_0 b_1)) [] := by
 have p {a C} (s : Scr a C) := sZ GVector.cells a_0 <| sZ GVector.cells b_1 <| s
 cases h0 : ((a_0.length : Int) != (b_1.length : Int)) with
 | true =>
  have gh0 := bne_iff_ne.1 h0
  refine fnS E0Ok hMixed (c := bodyOf f58) [] (.b false) [] func58 (p (sB h0 <| sK [] sN)) rfl (by kernel_rfl) (by kernel_rfl) rfl ?_ ?_
  · simp only [v_laws_eqVectorS, h0, cond_true]
  · rfl
 | false =>
  have gh0 := bne_eq_false_iff_eq.1 h0
  have q {a C} (s : Scr a C) := p (sB h0 <| s)
  clear p
  cases h1 : (lr_laws_eqVectorS_1_0 a_0 b_1) with
  | inl r2 =>
   refine fnS E0Ok hMixed (c := bodyOf f58) [] (.b false) [] func58 (q (sL mk_laws_eqVectorS_1_0 0 (lp_val (ls_laws_eqVectorS_1 a_0 b_1) (x := (lr_laws_eqVectorS_1_0 a_0 b_1)) (lp_laws_eqVectorS_1 a_0 b_1 hp0 hp1 h0 (((a_0.length : Int) - 0).toNat + 1) 0 (show 0 ≤ 0 from (by first | assumption | omega | (simp_all <;> omega))) (Nat.lt_succ_self _)) h1) <| sK [] sN)) rfl (by kernel_rfl) (by kernel_rfl) rfl ?_ ?_
   · simp only [v_laws_eqVectorS, h0, h1, cond_false]
   · rfl
  | inr r2 =>
   refine fnS E0Ok hMixed (c := bodyOf f58) [] (.b true) [] func58 (q (sL mk_laws_eqVectorS_1_0 0 (lp_val (ls_laws_eqVectorS_1 a_0 b_1) (x := (lr_laws_eqVectorS_1_0 a_0 b_1)) (lp_laws_eqVectorS_1 a_0 b_1 hp0 hp1 h0 (((a_0.length : Int) - 0).toNat + 1) 0 (show 0 ≤ 0 from (by first | assumption | omega | (simp_all <;> omega))) (Nat.lt_succ_self _)) h1) <| sK [] sN)) rfl (by kernel_rfl) (by kernel_rfl) rfl ?_ ?_
   · simp only [v_laws_eqVectorS, h0, h1, cond_false]
   · rfl

theorem eqVectorS_self (a : List GVector) : v_laws_eqVectorS a a = true := by
  unfold v_laws_eqVectorS lr_laws_eqVectorS_1_0
  rw [all_loop (a := a) (p := fun v => v_laws_eqVector v v) (lo := lo_laws_eqVectorS_1 a a) (x := ()) (y := ()) (fun k i => rfl) (fun v _ => eqVector_self v) _ _ (Int.le_refl 0) (Nat.lt_succ_self _)]
  simp

def lo_laws_eqInt64S_1 (a_0 : (List Int)) (b_1 : (List Int)) : Nat → Int → (Unit) ⊕ (Unit)
  | 0, _ => .inl default
  | k + 1, i_l0 => (cond (decide (i_l0 < (a_0.length : Int)))
    (cond ((a_0.getD i_l0.toNat default) != (b_1.getD i_l0.toNat default))
      (.inl ())
      (lo_laws_eqInt64S_1 a_0 b_1 k (i_l0 + 1)))
    (.inr ()))

def ls_laws_eqInt64S_1 (a_0 : (List Int)) (b_1 : (List Int)) : (Unit) ⊕ (Unit) → Ex × St
  | .inl r => (.ret, ⟨[.any, .any, .any, .any, .b false, .any, .any, .any, .any, .any, .any, .any, .any, .any, .any, .any, .any, .any, .any, .any, .any, .any, .any, .any, .any, .any], []⟩)
  | .inr r => ((.exit 0), ⟨[.sl (a_0.map (cI .i64)), .sl (b_1.map (cI .i64)), .any, .any, .any, .any, .sl (a_0.map (cI .i64)), .i .i64 (a_0.length : Int), .sl (b_1.map (cI .i64)), .i .i64 (b_1.length : Int), .b ((a_0.length : Int) != (b_1.length : Int)), .any, .any, .any, .any, .any, .any, .any, .any, .any, .any, .any, .any, .any, .any, .any], []⟩)

def hd_laws_eqInt64S_1 (a_0 : (List Int)) (b_1 : (List Int)) (i_l0 : Int) : St := ⟨[.sl (a_0.map (cI .i64)), .sl (b_1.map (cI .i64)), .any, .any, .any, .i .i64 i_l0, .sl (a_0.map (cI .i64)), .i .i64 (a_0.length : Int), .sl (b_1.map (cI .i64)), .i .i64 (b_1.length : Int), .b ((a_0.length : Int) != (b_1.length : Int)), .any, .any, .any, .any, .any, .any, .any, .any, .any, .any, .any, .any, .any, .any, .any], []⟩

def mk_laws_eqInt64S_1_0 : List Bool := [true, true, false, false, false, true, true, true, true, true, true, false, false, false, false, false, false, false, false, false, false, false, false, false, false, false]

def mk_laws_eqInt64S_1_1 : List Bool := [false, false, false, false, true, false, false, false, false, false, false, false, false, false, false, false, false, false, false, false, false, false, false, false, false, false]

def mk_laws_eqInt64S_1_2 : List Bool := [true, true, false, false, false, false, true, true, true, true, true, false, false, false, false, false, false, false, false, false, false, false, false, false, false, false]

theorem lp_laws_eqInt64S_1 (a_0 : (List Int)) (b_1 : (List Int)) (hp0 : a_0.length ≤ 1073741824) (hp1 : b_1.length ≤ 1073741824) (hf_laws_eqInt64S_1_0 : ((a_0.length : Int) != (b_1.length : Int)) = false) : ∀ (k : Nat) (i_l0 : Int) (hv_laws_eqInt64S_1_0 : 0 ≤ i_l0) (hk : ((a_0.length : Int) - i_l0).toNat < k), Lp prog 0 (sub (bodyOf f35) [1, 1, 0, 1, 0, 0]) (hd_laws_eqInt64S_1 a_0 b_1 i_l0) (ls_laws_eqInt64S_1 a_0 b_1 (lo_laws_eqInt64S_1 a_0 b_1 k i_l0)).1 (ls_laws_eqInt64S_1 a_0 b_1 (lo_laws_eqInt64S_1 a_0 b_1 k i_l0)).2 := by
 intro k
 induction k with
 | zero => intro i_l0 hv_laws_eqInt64S_1_0 hk; exact absurd hk (Nat.not_lt_zero _)
 | succ k ih =>
  intro i_l0 hv_laws_eqInt64S_1_0 hk
  have p {a C} (s : Scr a C) := sZ (cI .i64) a_0 <| s
  cases h_0 : (decide (i_l0 < (a_0.length : Int))) with
  | true =>
   have gh_0 := of_decide_eq_true h_0
   have y_0 : (0 : Int) ≤ i_l0 := by clear p; exact (by first | assumption | omega | (simp_all <;> omega))
   have y_1 : i_l0 < (a_0.length : Int) := by clear p; exact (by first | assumption | omega | (simp_all <;> omega))
   have y_2 : i_l0 < (b_1.length : Int) := by clear p; exact (by first | assumption | omega | (simp_all <;> omega))
   have q {a C} (s : Scr a C) := p (sB h_0 <| sK [8, 8] <| sG (cI .i64) a_0 i_l0 y_0 y_1 <| sG (cI .i64) b_1 i_l0 y_0 y_2 <| s)
   clear p
   cases h_1 : ((a_0.getD i_l0.toNat default) != (b_1.getD i_l0.toNat default)) with
   | true =>
    have gh_1 := bne_iff_ne.1 h_1
    have e : lo_laws_eqInt64S_1 a_0 b_1 (k + 1) i_l0 = (.inl ()) := by simp only [lo_laws_eqInt64S_1, h_0, h_1, cond_true]
    rw [e]
    exact outR (e := .ret) E0Ok hMixed [] mk_laws_eqInt64S_1_1 [] (q (sB h_1 <| sN)) (by kernel_rfl) (by intro h; cases h)
   | false =>
    have gh_1 := bne_eq_false_iff_eq.1 h_1
    have y_3 : (-9223372036854775808 : Int) ≤ (i_l0 + 1) := by clear q; exact (by first | assumption | omega | (simp_all <;> omega))
    have y_4 : (i_l0 + 1) ≤ (9223372036854775807 : Int) := by clear q; exact (by first | assumption | omega | (simp_all <;> omega))
    have e : lo_laws_eqInt64S_1 a_0 b_1 (k + 1) i_l0 = (lo_laws_eqInt64S_1 a_0 b_1 k (i_l0 + 1)) := by simp only [lo_laws_eqInt64S_1, h_0, h_1, cond_true, cond_false]
    rw [e]
    exact nextR E0Ok hMixed [] mk_laws_eqInt64S_1_0 [] (ih (i_l0 + 1) (show 0 ≤ (i_l0 + 1) from (by first | assumption | omega | (simp_all <;> omega))) (by first | assumption | omega | (simp_all <;> omega))) (q (sB h_1 <| sI (i_l0 + 1) y_3 y_4 <| sN)) (by kernel_rfl)
  | false =>
   have gh_0 := of_decide_eq_false h_0
   have e : lo_laws_eqInt64S_1 a_0 b_1 (k + 1) i_l0 = (.inr ()) := by simp only [lo_laws_eqInt64S_1, h_0, cond_false]
   rw [e]
   exact outR (e := (.exit 0)) E0Ok hMixed [] mk_laws_eqInt64S_1_2 [] (p (sB h_0 <| sN)) (by kernel_rfl) (by intro h; cases h)

def lr_laws_eqInt64S_1_0 (a_0 : (List Int)) (b_1 : (List Int)) : (Unit) ⊕ (Unit) := (lo_laws_eqInt64S_1 a_0 b_1 (((a_0.length : Int) - 0).toNat + 1) 0)

def v_laws_eqInt64S (a_0 : (List Int)) (b_1 : (List Int)) : Bool := (cond ((a_0.length : Int) != (b_1.length : Int))
  false
  (match (lr_laws_eqInt64S_1_0 a_0 b_1) with
    | .inl r2 => false
    | .inr r2 => true))

theorem t_laws_eqInt64S (a_0 : (List Int)) (b_1 : (List Int)) (hp0 : a_0.length ≤ 1073741824) (hp1 : b_1.length ≤ 1073741824)  : Fn prog 35 [.sl (a_0.map (cI .i64)), .sl (b_1.map (cI .i64))] (.b (v_laws_eqInt64S a_0 b_1)) [] := by
 have p {a C} (s : Scr a C) := sZ (cI .i64) a_0 <| sZ (cI .i64) b_1 <| s
 cases h0 : ((a_0.length : Int) != (b_1.length : Int)) with
 | true =>
  have gh0 := bne_iff_ne.1 h0
  refine fnS E0Ok hMixed (c := bodyOf f35) [] (.b false) [] func35 (p (sB h0 <| sK [] sN)) rfl (by kernel_rfl) (by kernel_rfl) rfl ?_ ?_
  · simp only [v_laws_eqInt64S, h0, cond_true]
  · rfl
 | false =>
  have gh0 := bne_eq_false_iff_eq.1 h0
  have q {a C} (s : Scr a C) := p (sB h0 <| s)
  clear p
  cases h1 : (lr_laws_eqInt64S_1_0 a_0 b_1) with
  | inl r2 =>
   refine fnS E0Ok hMixed (c := bodyOf f35) [] (.b false) [] func35 (q (sL mk_laws_eqInt64S_1_0 0 (lp_val (ls_laws_eqInt64S_1 a_0 b_1) (x := (lr_laws_eqInt64S_1_0 a_0 b_1)) (lp_laws_eqInt64S_1 a_0 b_1 hp0 hp1 h0 (((a_0.length : Int) - 0).toNat + 1) 0 (show 0 ≤ 0 from (by first | assumption | omega | (simp_all <;> omega))) (Nat.lt_succ_self _)) h1) <| sK [] sN)) rfl (by kernel_rfl) (by kernel_rfl) rfl ?_ ?_
   · simp only [v_laws_eqInt64S, h0, h1, cond_false]
   · rfl
  | inr r2 =>
   refine fnS E0Ok hMixed (c := bodyOf f35) [] (.b true) [] func35 (q (sL mk_laws_eqInt64S_1_0 0 (lp_val (ls_laws_eqInt64S_1 a_0 b_1) (x := (lr_laws_eqInt64S_1_0 a_0 b_1)) (lp_laws_eqInt64S_1 a_0 b_1 hp0 hp1 h0 (((a_0.length : Int) - 0).toNat + 1) 0 (show 0 ≤ 0 from (by first | assumption | omega | (simp_all <;> omega))) (Nat.lt_succ_self _)) h1) <| sK [] sN)) rfl (by kernel_rfl) (by kernel_rfl) rfl ?_ ?_
   · simp only [v_laws_eqInt64S, h0, h1, cond_false]
   · rfl

theorem eqInt64S_self (a : List Int) : v_laws_eqInt64S a a = true := by
  unfold v_laws_eqInt64S lr_laws_eqInt64S_1_0
  rw [all_from (a := a) (p := fun v => !(v != v)) (lo := lo_laws_eqInt64S_1 a a) (x := ()) (y := ()) (fun k i => by rw [lo_laws_eqInt64S_1]; cases (a.getD i.toNat default != a.getD i.toNat default) <;> rfl)]
  rw [show (a.all fun v => !(v != v)) = true from by rw [List.all_eq_true]; intro v _; simp]
  simp

def lo_laws_eqInt64SS_1 (a_0 : (List (List Int))) (b_1 : (List (List Int))) : Nat → Int → (Unit) ⊕ (Unit)
  | 0, _ => .inl default
  | k + 1, i_l0 => (cond (decide (i_l0 < (a_0.length : Int)))
    (cond (v_laws_eqInt64S (a_0.getD i_l0.toNat default) (b_1.getD i_l0.toNat default))
      (lo_laws_eqInt64SS_1 a_0 b_1 k (i_l0 + 1))
      (.inl ()))
    (.inr ()))

def ls_laws_eqInt64SS_1 (a_0 : (List (List Int))) (b_1 : (List (List Int))) : (Unit) ⊕ (Unit) → Ex × St
  | .inl r => (.ret, ⟨[.any, .any, .any, .any, .b false, .any, .any, .any, .any, .any, .any, .any, .any, .any, .any, .any, .any, .any, .any, .any, .any, .any, .any, .any, .any, .any, .any], []⟩)
  | .inr r => ((.exit 0), ⟨[.sl (a_0.map (cL (cI .i64))), .sl (b_1.map (cL (cI .i64))), .any, .any, .any, .any, .sl (a_0.map (cL (cI .i64))), .i .i64 (a_0.length : Int), .sl (b_1.map (cL (cI .i64))), .i .i64 (b_1.length : Int), .b ((a_0.length : Int) != (b_1.length : Int)), .any, .any, .any, .any, .any, .any, .any, .any, .any, .any, .any, .any, .any, .any, .any, .any], []⟩)

def hd_laws_eqInt64SS_1 (a_0 : (List (List Int))) (b_1 : (List (List Int))) (i_l0 : Int) : St := ⟨[.sl (a_0.map (cL (cI .i64))), .sl (b_1.map (cL (cI .i64))), .any, .any, .any, .i .i64 i_l0, .sl (a_0.map (cL (cI .i64))), .i .i64 (a_0.length : Int), .sl (b_1.map (cL (cI .i64))), .i .i64 (b_1.length : Int), .b ((a_0.length : Int) != (b_1.length : Int)), .any, .any, .any, .any, .any, .any, .any, .any, .any, .any, .any, .any, .any, .any, .any, .any], []⟩

def mk_laws_eqInt64SS_1_0 : List Bool := [true, true, false, false, false, true, true, true, true, true, true, false, false, false, false, false, false, false, false, false, false, false, false, false, false, false, false]

def mk_laws_eqInt64SS_1_1 : List Bool := [false, false, false, false, true, false, false, false, false, false, false, false, false, false, false, false, false, false, false, false, false, false, false, false, false, false, false]

def mk_laws_eqInt64SS_1_2 : List Bool := [true, true, false, false, false, false, true, true, true, true, true, false, false, false, false, false, false, false, false, false, false, false, false, false, false, false, false]

theorem lp_laws_eqInt64SS_1 (a_0 : (List (List Int))) (b_1 : (List (List Int))) (hp0 : a_0.length ≤ 1073741824) (hp1 : ∀ t ∈ a_0, t.length ≤ 1073741824) (hp2 : b_1.length ≤ 1073741824) (hp3 : ∀ t ∈ b_1, t.length ≤ 1073741824) (hf_laws_eqInt64SS_1_0 : ((a_0.length : Int) != (b_1.length : Int)) = false) : ∀ (k : Nat) (i_l0 : Int) (hv_laws_eqInt64SS_1_0 : 0 ≤ i_l0) (hk : ((a_0.length : Int) - i_l0).toNat < k), Lp prog 0 (sub (bodyOf f15) [1, 1, 0, 1, 0, 0]) (hd_laws_eqInt64SS_1 a_0 b_1 i_l0) (ls_laws_eqInt64SS_1 a_0 b_1 (lo_laws_eqInt64SS_1 a_0 b_1 k i_l0)).1 (ls_laws_eqInt64SS_1 a_0 b_1 (lo_laws_eqInt64SS_1 a_0 b_1 k i_l0)).2 := by
 intro k
 induction k with
 | zero => intro i_l0 hv_laws_eqInt64SS_1_0 hk; exact absurd hk (Nat.not_lt_zero _)
 | succ k ih =>
  intro i_l0 hv_laws_eqInt64SS_1_0 hk
  have p {a C} (s : Scr a C) := sZ (cL (cI .i64)) a_0 <| s
  cases h_0 : (decide (i_l0 < (a_0.length : Int))) with
  | true =>
   have gh_0 := of_decide_eq_true h_0
   have y_0 : (0 : Int) ≤ i_l0 := by clear p; exact (by first | assumption | omega | (simp_all <;> omega))
   have y_1 : i_l0 < (a_0.length : Int) := by clear p; exact (by first | assumption | omega | (simp_all <;> omega))
   have y_2 : i_l0 < (b_1.length : Int) := by clear p; exact (by first | assumption | omega | (simp_all <;> omega))
   have y_3 : (a_0.getD i_l0.toNat default).length ≤ 1073741824 := by clear p; exact (by first | assumption | omega | (simp_all <;> omega))
   have y_4 : (b_1.getD i_l0.toNat default).length ≤ 1073741824 := by clear p; exact (by first | assumption | omega | (simp_all <;> omega))
   have q {a C} (s : Scr a C) := p (sB h_0 <| sK [8, 8] <| sG (cL (cI .i64)) a_0 i_l0 y_0 y_1 <| sG (cL (cI .i64)) b_1 i_l0 y_0 y_2 <| sF (t_laws_eqInt64S (a_0.getD i_l0.toNat default) (b_1.getD i_l0.toNat default) y_3 y_4) <| s)
   clear p
   cases h_1 : (v_laws_eqInt64S (a_0.getD i_l0.toNat default) (b_1.getD i_l0.toNat default)) with
   | true =>
    have y_5 : (-9223372036854775808 : Int) ≤ (i_l0 + 1) := by clear q; exact (by first | assumption | omega | (simp_all <;> omega))
    have y_6 : (i_l0 + 1) ≤ (9223372036854775807 : Int) := by clear q; exact (by first | assumption | omega | (simp_all <;> omega))
    have e : lo_laws_eqInt64SS_1 a_0 b_1 (k + 1) i_l0 = (lo_laws_eqInt64SS_1 a_0 b_1 k (i_l0 + 1)) := by simp only [lo_laws_eqInt64SS_1, h_0, h_1, cond_true]
    rw [e]
    exact nextR E0Ok hMixed [] mk_laws_eqInt64SS_1_0 [] (ih (i_l0 + 1) (show 0 ≤ (i_l0 + 1) from (by first | assumption | omega | (simp_all <;> omega))) (by first | assumption | omega | (simp_all <;> omega))) (q (sB' h_1 <| sI (i_l0 + 1) y_5 y_6 <| sN)) (by kernel_rfl)
   | false =>
    have e : lo_laws_eqInt64SS_1 a_0 b_1 (k + 1) i_l0 = (.inl ()) := by simp only [lo_laws_eqInt64SS_1, h_0, h_1, cond_true, cond_false]
    rw [e]
    exact outR (e := .ret) E0Ok hMixed [] mk_laws_eqInt64SS_1_1 [] (q (sB' h_1 <| sN)) (by kernel_rfl) (by intro h; cases h)
  | false =>
   have gh_0 := of_decide_eq_false h_0
   have e : lo_laws_eqInt64SS_1 a_0 b_1 (k + 1) i_l0 = (.inr ()) := by simp only [lo_laws_eqInt64SS_1, h_0, cond_false]
   rw [e]
   exact outR (e := (.exit 0)) E0Ok hMixed [] mk_laws_eqInt64SS_1_2 [] (p (sB h_0 <| sN)) (by kernel_rfl) (by intro h; cases h)

end Go.Ab
