/- The functions of this seat as plain Lean, and that the program's are these. Printed by a program of the prover's own. -/
import Derived.Test.YtpndflbllggeiaaGreatB5
set_option linter.unusedVariables false
set_option linter.unusedSimpArgs false
set_option maxRecDepth 100000
namespace Go.Ab
open Go.RowKit Go.Proofs.Tryz
theorem Zbr (x y : Int) : Z16 x y = if x < y then -1 else if x > y then 1 else 0 := by
  unfold Z16 Z2n
  simp only [bne_self_eq_false, cond_false]
  by_cases h1 : x < y
  · simp [h1]
  · by_cases h2 : x > y <;> simp [h1, h2]
theorem Zbs (a b : Gedge) : Z4t a b = cmpP a.pr b.pr := by
  unfold Z4t Z1j Z1C cmpP Gedge.pr
  show (match Ze [a.e0, a.e1] [b.e0, b.e1] 3 0 with | .inl r1 => r1 | .inr r1 => cond (decide (((2 : Nat) : Int) < ((2 : Nat) : Int))) (-1) 0) = _
  simp only [Ze, Zbr, List.length_cons, List.length_nil]
  by_cases h1 : a.e0 < b.e0
  · simp [h1]
  · by_cases h2 : a.e0 > b.e0
    · simp [h1, h2]
    · by_cases h3 : a.e1 < b.e1
      · simp [h1, h2, h3]
      · by_cases h4 : a.e1 > b.e1 <;> simp [h1, h2, h3, h4]
def Z3U (l : List Gedge) : List Gedge := sortE Gedge.pr l
theorem Z6L (l : List Gedge) (h : l.length ≤ 1073741824) : CallSt prog 150 [.vec 167 2 (l.map Gedge.cells) false] [.own 0, .fn 151 []] (.tup []) [.vec 167 2 ((Z3U l).map Gedge.cells) false] :=
  sort_row laysF0n6 isAgg167 sizeOf167 Gedge.pr Gedge.inj Gedge.cells (fun _ => rfl) 167 151 ⟨_, func150, rfl, by kernel_rfl⟩ (Z6a default default).1
    (fun a b W => ((Z6a a b).2 W #[keyV a.pr, keyV b.pr] ⟨rfl, fun j c e => by match j, e with | 0, e => cases e; exact Rep.agg _ _ rfl (fun i c e => by match i, e with | 0, e => cases e; exact .i _ _ | 1, e => cases e; exact .i _ _) | 1, e => cases e; exact Rep.agg _ _ rfl (fun i c e => by match i, e with | 0, e => cases e; exact .i _ _ | 1, e => cases e; exact .i _ _)⟩).mono fun e w' ⟨v, μ', he, hb, _, hr⟩ => by
      cases hr; rw [Zbs] at he; exact ⟨he, hb⟩) l h
def Z1 (m_0 : GMesh) : (List (Gedge × List Int)) × (List Gedge) := ((ZC m_0).1, (Z3U ((ZC m_0).2)))
theorem Z6M (m : GMesh) (ok : OkE m.Places.length m.Triangles) : (Z1 m).2 = edgL m.Places.length m.Triangles := (Z9A m ok).sorted ok
theorem Zan (m : GMesh) (ok : OkE m.Places.length m.Triangles) {e : Gedge} (he : e ∈ (Z1 m).2) : mhas (Z1 m).1 e = true ∧ ((Z1 m).1.getD (midx (Z1 m).1 e) default).2 = idxP m.Triangles e.e0 e.e1 := by
  rw [Z6M m ok] at he
  have h := (Z9A m ok).at ok he
  exact ⟨h.1, h.2.trans (idxE_eq ok (mem_edgL.1 he).1.2.1)⟩
theorem Zb7 (m : GMesh) (ok : OkE m.Places.length m.Triangles) : (Z1 m).2.length ≤ 4096 := by
  rw [Z6M m ok]; exact edgL_len ok
theorem Z8c (m : GMesh) (ok : OkE m.Places.length m.Triangles) {i : Int} (h0 : 0 ≤ i) (hi : i < ((Z1 m).2.length : Int)) : (Z1 m).2.getD i.toNat default ∈ (Z1 m).2 := by
  have hn : i.toNat < (Z1 m).2.length := by omega
  rw [List.getD_eq_getElem?_getD, List.getElem?_eq_getElem hn]; exact List.getElem_mem hn
theorem Z5q (m : GMesh) (ok : OkE m.Places.length m.Triangles) {i : Int} (h0 : 0 ≤ i) (hi : i < ((Z1 m).2.length : Int)) :
    0 ≤ ((Z1 m).2.getD i.toNat default).e0 ∧ ((Z1 m).2.getD i.toNat default).e0 < ((Z1 m).2.getD i.toNat default).e1 ∧ ((Z1 m).2.getD i.toNat default).e1 < (m.Places.length : Int) ∧ (m.Places.length : Int) ≤ 64 ∧ ((Z1 m).2.length : Int) ≤ 4096 := by
  have hl := Zb7 m ok
  have h64 := ok.1
  have hm := Z8c m ok h0 hi
  rw [Z6M m ok] at hm
  have hb := edgL_at hm
  rw [← Z6M m ok] at hb
  exact ⟨hb.1, hb.2.1, hb.2.2, by omega, by omega⟩
theorem Z6S (m : GMesh) (ok : OkE m.Places.length m.Triangles) {i : Int} (h0 : 0 ≤ i) (hi : i < ((Z1 m).2.length : Int))
    (h2 : ((((Z1 m).1.getD (midx (Z1 m).1 ((Z1 m).2.getD i.toNat default)) default).2.length : Int)) = 2) :
    0 ≤ ((Z1 m).1.getD (midx (Z1 m).1 ((Z1 m).2.getD i.toNat default)) default).2.getD 0 default ∧ ((Z1 m).1.getD (midx (Z1 m).1 ((Z1 m).2.getD i.toNat default)) default).2.getD 0 default < (m.Triangles.length : Int) ∧
    0 ≤ ((Z1 m).1.getD (midx (Z1 m).1 ((Z1 m).2.getD i.toNat default)) default).2.getD 1 default ∧ ((Z1 m).1.getD (midx (Z1 m).1 ((Z1 m).2.getD i.toNat default)) default).2.getD 1 default < (m.Triangles.length : Int) ∧ (m.Triangles.length : Int) ≤ 128 := by
  obtain ⟨g1, g2⟩ := Zan m ok (Z8c m ok h0 hi)
  rw [g2] at h2 ⊢
  have a1 := idxP_at (ts := m.Triangles) (a := ((Z1 m).2.getD i.toNat default).e0) (b := ((Z1 m).2.getD i.toNat default).e1) (k := 0) (by omega)
  have a2 := idxP_at (ts := m.Triangles) (a := ((Z1 m).2.getD i.toNat default).e0) (b := ((Z1 m).2.getD i.toNat default).e1) (k := 1) (by omega)
  have := ok.2.1
  exact ⟨a1.1, a1.2.1, a2.1, a2.2.1, by omega⟩
theorem Z6W (m_0 : GMesh) (hp0 : m_0.Places.length ≤ 1073741824) (hp1 : m_0.Triangles.length ≤ 1073741824) (hp2 : ∀ t ∈ m_0.Triangles, t.length ≤ 1073741824) (hp3 : OkE m_0.Places.length m_0.Triangles)  : Fn prog 141 [.agg [.sl (m_0.Places.map GVector.cells), .sl (m_0.Triangles.map (cL (cI .i64)))]] (.tup [.mp 0, .own 1]) [.mapN 2 (mapC Gedge.pr (cI .i64) ((Z1 m_0).1)) none, .vec 167 2 (((Z1 m_0).2).map Gedge.cells) false] := by
 have y0 : ((ZC m_0).2).length ≤ 1073741824 := (by (have q := Zbi m_0 hp3; omega))
 refine fnS E0Ok Z3 (c := bodyOf f141) [] (.tup [.mp 0, .own 1]) [.mapN 2 (mapC Gedge.pr (cI .i64) ((ZC m_0).1)) none, .vec 167 2 ((Z3U ((ZC m_0).2)).map Gedge.cells) false] func141 (sZ (cL (cI .i64)) m_0.Triangles <| sL (mR false [0, 2, 1, 3, 4, 1, 1, 4, 41]) 3 (lp_cast (st2 := ⟨.agg [.sl (m_0.Places.map GVector.cells), .sl (m_0.Triangles.map (cL (cI .i64)))] :: .ptr 0 0 0 :: .any :: .nils :: .mp 1 :: .own 2 :: an 4 (.mp 1 :: .any :: .ptr 0 0 1 :: .sl (m_0.Triangles.map (cL (cI .i64))) :: .i .i64 (m_0.Triangles.length : Int) :: .i .i64 0 :: an 41 []), [.box 38 [.sl (m_0.Places.map GVector.cells), .sl (m_0.Triangles.map (cL (cI .i64)))], .mapN 2 [] none, .vec 167 2 ([] : List (List AV)) false]⟩) (lp_val (Z3A m_0) (x := (ZC m_0)) (Z6D m_0 hp0 hp1 hp2 hp3 (((m_0.Triangles.length : Int) - 0).toNat + 1) 0 ([] : (List (Gedge × List Int))) ([] : List Gedge) (show 0 ≤ 0 from (by omega)) (show (([] : List Gedge).length : Int) ≤ 3 * 0 from (by simp; done)) (show ∀ y ∈ ([] : (List (Gedge × List Int))), (y.2.length : Int) ≤ 3 * 0 from (by simp; done)) (Nat.lt_succ_self _)) rfl) (by simp [Z4A, mapC, Gedge.cells])) <| sS (CallSt.frame (Z6L ((ZC m_0).2) y0) [2] (R := [.box 38 [.sl (m_0.Places.map GVector.cells), .sl (m_0.Triangles.map (cL (cI .i64)))], .mapN 2 (mapC Gedge.pr (cI .i64) ((ZC m_0).1)) none, .vec 167 2 (((ZC m_0).2).map Gedge.cells) false]) (args' := [.own 2, .fn 151 []]) rfl rfl rfl rfl rfl rfl) <| sK [1, 2] sN) rfl (by kernel_rfl) (by kernel_rfl) rfl ?_ ?_
 · rfl
 · simp [Z1]
def Z3X (t_0 : (List Int)) (e_1 : Gedge) : Int := (IntKind.wrap .i64 ((IntKind.wrap .i64 ((IntKind.wrap .i64 ((IntKind.wrap .i64 ((t_0.getD 0 default) + (t_0.getD 1 default))) + (t_0.getD 2 default))) - e_1.e0)) - e_1.e1))
def Z42 (t_0 : (List Int)) (e_1 : Gedge) : Int := (Z3X t_0 e_1)
theorem Z7b (t_0 : (List Int)) (e_1 : Gedge) (hp0 : t_0.length ≤ 1073741824) (hp1 : t_0.length = 3)  : Fn prog 142 [.sl (t_0.map (cI .i64)), .agg [.i .i64 e_1.e0, .i .i64 e_1.e1]] (.i .i64 (Z42 t_0 e_1)) [] := by
 have y0 : (0 : Int) ≤ 0 := (by omega)
 have y1 : 0 < (t_0.length : Int) := (by omega)
 have y2 : (0 : Int) ≤ 1 := (by omega)
 have y3 : 1 < (t_0.length : Int) := (by omega)
 have y4 : (0 : Int) ≤ 2 := (by omega)
 have y5 : 2 < (t_0.length : Int) := (by omega)
 refine fnS E0Ok Z3 (c := bodyOf f142) [] (.i .i64 (Z3X t_0 e_1)) [] func142 (sK [16, 16] <| sG (cI .i64) t_0 0 y0 y1 <| sG (cI .i64) t_0 1 y2 y3 <| sW .i64 ((t_0.getD 0 default) + (t_0.getD 1 default)) <| sG (cI .i64) t_0 2 y4 y5 <| sW .i64 ((IntKind.wrap .i64 ((t_0.getD 0 default) + (t_0.getD 1 default))) + (t_0.getD 2 default)) <| sC (show (0 : Int) ≤ 0 ∧ 0 < ((2 : Nat) : Int) from (by decide)) <| sW .i64 ((IntKind.wrap .i64 ((IntKind.wrap .i64 ((t_0.getD 0 default) + (t_0.getD 1 default))) + (t_0.getD 2 default))) - e_1.e0) <| sC (show (0 : Int) ≤ 1 ∧ 1 < ((2 : Nat) : Int) from (by decide)) <| sM (show IntKind.wrap .i64 ((IntKind.wrap .i64 ((IntKind.wrap .i64 ((IntKind.wrap .i64 ((t_0.getD 0 default) + (t_0.getD 1 default))) + (t_0.getD 2 default))) - e_1.e0)) - e_1.e1) = (Z3X t_0 e_1) from rfl) <| sK [] sN) rfl (by kernel_rfl) (by kernel_rfl) rfl ?_ ?_
 · rfl
 · rfl
def Z28 (m_0 : GMesh) (x_l0 : Int) : Int := (Z42 (m_0.Triangles.getD ((((Z1 m_0).1).getD (midx ((Z1 m_0).1) (((Z1 m_0).2).getD x_l0.toNat default)) default).2.getD 0 default).toNat default) (((Z1 m_0).2).getD x_l0.toNat default))
def Z29 (m_0 : GMesh) (x_l0 : Int) : Int := (Z42 (m_0.Triangles.getD ((((Z1 m_0).1).getD (midx ((Z1 m_0).1) (((Z1 m_0).2).getD x_l0.toNat default)) default).2.getD 1 default).toNat default) (((Z1 m_0).2).getD x_l0.toNat default))
def Zx (m_0 : GMesh) : Nat → Int → (List (List Int)) → (List (List Int))
  | 0, _, _ => default
  | k + 1, x_l0, r1_l1 => (cond (decide (x_l0 < (((Z1 m_0).2).length : Int)))
    (cond (mhas ((Z1 m_0).1) (((Z1 m_0).2).getD x_l0.toNat default))
      (cond (((((Z1 m_0).1).getD (midx ((Z1 m_0).1) (((Z1 m_0).2).getD x_l0.toNat default)) default).2.length : Int) == 2)
        (Zx m_0 k (x_l0 + 1) (r1_l1 ++ [[(((Z1 m_0).2).getD x_l0.toNat default).e0, (((Z1 m_0).2).getD x_l0.toNat default).e1, (Z28 m_0 x_l0), (Z29 m_0 x_l0)]]))
        (Zx m_0 k (x_l0 + 1) r1_l1))
      (Zx m_0 k (x_l0 + 1) r1_l1))
    r1_l1)
def Z4G (m_0 : GMesh) (r : (List (List Int))) : Ex × St := ((.exit 0), ⟨.agg [.sl (m_0.Places.map GVector.cells), .sl (m_0.Triangles.map (cL (cI .i64)))] :: .ptr 0 0 0 :: .nils :: .own 1 :: .any :: .own 2 :: an 5 (.agg [.sl (m_0.Places.map GVector.cells), .sl (m_0.Triangles.map (cL (cI .i64)))] :: .any :: .mp 3 :: .own 2 :: .own 2 :: an 39 []), [.box 38 [.sl (m_0.Places.map GVector.cells), .sl (m_0.Triangles.map (cL (cI .i64)))], .nest 49 (r.map fun l => l.map (cI .i64)) false, .vec 167 2 (((Z1 m_0).2).map Gedge.cells) false, .mapN 2 (mapC Gedge.pr (cI .i64) ((Z1 m_0).1)) none]⟩)
def Z6r (m_0 : GMesh) (x_l0 : Int) (r1_l1 : (List (List Int))) : St := ⟨.agg [.sl (m_0.Places.map GVector.cells), .sl (m_0.Triangles.map (cL (cI .i64)))] :: .ptr 0 0 0 :: .nils :: .own 1 :: .mp 2 :: .own 3 :: an 5 (.agg [.sl (m_0.Places.map GVector.cells), .sl (m_0.Triangles.map (cL (cI .i64)))] :: .any :: .mp 2 :: .own 3 :: .own 3 :: .i .i64 (((Z1 m_0).2).length : Int) :: .i .i64 x_l0 :: an 37 []), [.box 38 [.sl (m_0.Places.map GVector.cells), .sl (m_0.Triangles.map (cL (cI .i64)))], .nest 49 (r1_l1.map fun l => l.map (cI .i64)) false, .mapN 2 (mapC Gedge.pr (cI .i64) ((Z1 m_0).1)) none, .vec 167 2 (((Z1 m_0).2).map Gedge.cells) false]⟩
set_option maxHeartbeats 1000000 in
theorem Z8d (m_0 : GMesh) (hp0 : m_0.Places.length ≤ 1073741824) (hp1 : m_0.Triangles.length ≤ 1073741824) (hp2 : ∀ t ∈ m_0.Triangles, t.length ≤ 1073741824) (hp3 : OkE m_0.Places.length m_0.Triangles) : ∀ (k : Nat) (x_l0 : Int) (r1_l1 : (List (List Int))) (ZR : 0 ≤ x_l0) (Z5H : (r1_l1.length : Int) ≤ x_l0) (hk : ((((Z1 m_0).2).length : Int) - x_l0).toNat < k), Lp prog 0 (sub (bodyOf f115) [1, 1, 1, 0, 1, 0, 0]) (Z6r m_0 x_l0 r1_l1) (Z4G m_0 (Zx m_0 k x_l0 r1_l1)).1 (Z4G m_0 (Zx m_0 k x_l0 r1_l1)).2 := by
 intro k
 induction k with
 | zero => intro x_l0 r1_l1 ZR Z5H hk; exact absurd hk (Nat.not_lt_zero _)
 | succ k ih =>
  intro x_l0 r1_l1 ZR Z5H hk
  cases h_0 : (decide (x_l0 < (((Z1 m_0).2).length : Int))) with
  | true =>
   have gh_0 := of_decide_eq_true h_0
   have y_0 : (0 : Int) ≤ x_l0 := (by assumption)
   have y_1 : x_l0 < (((Z1 m_0).2).length : Int) := (by assumption)
   have y_2 : x_l0.toNat < ((Z1 m_0).2).length := (by omega)
   have p {a C} (s : Scr a C) := sB h_0 <| sX Gedge.cells ((Z1 m_0).2) x_l0 y_0 y_1 <| sV Gedge.cells ((Z1 m_0).2) x_l0.toNat y_2 <| s
   cases h_1 : (mhas ((Z1 m_0).1) (((Z1 m_0).2).getD x_l0.toNat default)) with
   | true =>
    have m_8 := midx_lt h_1
    have q {a C} (s : Scr a C) := p (sA (.keep [midx ((Z1 m_0).1) (((Z1 m_0).2).getD x_l0.toNat default)]) <| sC (mget_ok (ck := Gedge.pr) (cv := (cI .i64)) h_1) <| sM (mget_len (ck := Gedge.pr) (cv := (cI .i64)) (l := (Z1 m_0).1) (j := (midx ((Z1 m_0).1) (((Z1 m_0).2).getD x_l0.toNat default)))) <| s)
    clear p
    cases h_2 : (((((Z1 m_0).1).getD (midx ((Z1 m_0).1) (((Z1 m_0).2).getD x_l0.toNat default)) default).2.length : Int) == 2) with
    | true =>
     have gh_2 := eq_of_beq h_2
     have y_3 : (0 : Int) ≤ 0 := by clear q; exact (by omega)
     have y_4 : 0 < ((((Z1 m_0).1).getD (midx ((Z1 m_0).1) (((Z1 m_0).2).getD x_l0.toNat default)) default).2.length : Int) := by clear q; exact (by omega)
     have y_5 : 0 < (((Z1 m_0).1).getD (midx ((Z1 m_0).1) (((Z1 m_0).2).getD x_l0.toNat default)) default).2.length := by clear q; exact (by omega)
     have y_6 : (0 : Int) ≤ ((((Z1 m_0).1).getD (midx ((Z1 m_0).1) (((Z1 m_0).2).getD x_l0.toNat default)) default).2.getD 0 default) := by clear q; exact (by ((have q := Z6S m_0 hp3 ZR (of_decide_eq_true (by assumption)) (by assumption); omega)))
     have y_7 : ((((Z1 m_0).1).getD (midx ((Z1 m_0).1) (((Z1 m_0).2).getD x_l0.toNat default)) default).2.getD 0 default) < (m_0.Triangles.length : Int) := by clear q; exact (by ((have q := Z6S m_0 hp3 ZR (of_decide_eq_true (by assumption)) (by assumption); omega)))
     have y_8 : (m_0.Triangles.getD ((((Z1 m_0).1).getD (midx ((Z1 m_0).1) (((Z1 m_0).2).getD x_l0.toNat default)) default).2.getD 0 default).toNat default).length ≤ 1073741824 := by clear q; exact (by (have q := Z6S m_0 hp3 ZR (of_decide_eq_true (by assumption)) (by assumption); have q1 := (hp3.tris.at q.1 q.2.1).1; have q2 := (hp3.tris.at q.2.2.1 q.2.2.2.1).1; omega))
     have y_9 : (m_0.Triangles.getD ((((Z1 m_0).1).getD (midx ((Z1 m_0).1) (((Z1 m_0).2).getD x_l0.toNat default)) default).2.getD 0 default).toNat default).length = 3 := by clear q; exact (by (have q := Z6S m_0 hp3 ZR (of_decide_eq_true (by assumption)) (by assumption); have q1 := (hp3.tris.at q.1 q.2.1).1; have q2 := (hp3.tris.at q.2.2.1 q.2.2.2.1).1; exact q1))
     have y_10 : (0 : Int) ≤ 1 := by clear q; exact (by omega)
     have y_11 : 1 < ((((Z1 m_0).1).getD (midx ((Z1 m_0).1) (((Z1 m_0).2).getD x_l0.toNat default)) default).2.length : Int) := by clear q; exact (by omega)
     have y_12 : 1 < (((Z1 m_0).1).getD (midx ((Z1 m_0).1) (((Z1 m_0).2).getD x_l0.toNat default)) default).2.length := by clear q; exact (by omega)
     have y_13 : (0 : Int) ≤ ((((Z1 m_0).1).getD (midx ((Z1 m_0).1) (((Z1 m_0).2).getD x_l0.toNat default)) default).2.getD 1 default) := by clear q; exact (by ((have q := Z6S m_0 hp3 ZR (of_decide_eq_true (by assumption)) (by assumption); omega)))
     have y_14 : ((((Z1 m_0).1).getD (midx ((Z1 m_0).1) (((Z1 m_0).2).getD x_l0.toNat default)) default).2.getD 1 default) < (m_0.Triangles.length : Int) := by clear q; exact (by ((have q := Z6S m_0 hp3 ZR (of_decide_eq_true (by assumption)) (by assumption); omega)))
     have y_15 : (m_0.Triangles.getD ((((Z1 m_0).1).getD (midx ((Z1 m_0).1) (((Z1 m_0).2).getD x_l0.toNat default)) default).2.getD 1 default).toNat default).length ≤ 1073741824 := by clear q; exact (by (have q := Z6S m_0 hp3 ZR (of_decide_eq_true (by assumption)) (by assumption); have q1 := (hp3.tris.at q.1 q.2.1).1; have q2 := (hp3.tris.at q.2.2.1 q.2.2.2.1).1; omega))
     have y_16 : (m_0.Triangles.getD ((((Z1 m_0).1).getD (midx ((Z1 m_0).1) (((Z1 m_0).2).getD x_l0.toNat default)) default).2.getD 1 default).toNat default).length = 3 := by clear q; exact (by (have q := Z6S m_0 hp3 ZR (of_decide_eq_true (by assumption)) (by assumption); have q1 := (hp3.tris.at q.1 q.2.1).1; have q2 := (hp3.tris.at q.2.2.1 q.2.2.2.1).1; exact q2))
     have y_17 : r1_l1.length + [[(((Z1 m_0).2).getD x_l0.toNat default).e0, (((Z1 m_0).2).getD x_l0.toNat default).e1, (Z28 m_0 x_l0), (Z29 m_0 x_l0)]].length ≤ 1073741824 := by clear q; exact (by ((have q := Z5q m_0 hp3 ZR (of_decide_eq_true (by assumption)); (simp only [List.length_append, List.length_cons, List.length_nil]; omega))))
     have y_18 : (-9223372036854775808 : Int) ≤ (x_l0 + 1) := by clear q; exact (by omega)
     have y_19 : (x_l0 + 1) ≤ (9223372036854775807 : Int) := by clear q; exact (by ((have q := Z5q m_0 hp3 ZR (of_decide_eq_true (by assumption)); omega)))
     have e : Zx m_0 (k + 1) x_l0 r1_l1 = (Zx m_0 k (x_l0 + 1) (r1_l1 ++ [[(((Z1 m_0).2).getD x_l0.toNat default).e0, (((Z1 m_0).2).getD x_l0.toNat default).e1, (Z28 m_0 x_l0), (Z29 m_0 x_l0)]])) := by simp only [Zx, h_0, h_1, h_2, cond_true]
     rw [e]
     exact nextS E0Ok Z3 [] (mR false [0, 6, 5, 1, 1, 5, 37]) [0, 1, 2, 3] (⟨.agg [.sl (m_0.Places.map GVector.cells), .sl (m_0.Triangles.map (cL (cI .i64)))] :: .ptr 0 0 0 :: .nils :: .own 1 :: .mp 2 :: .own 3 :: an 5 (.agg [.sl (m_0.Places.map GVector.cells), .sl (m_0.Triangles.map (cL (cI .i64)))] :: .any :: .mp 2 :: .own 3 :: .own 3 :: .i .i64 (((Z1 m_0).2).length : Int) :: .i .i64 (x_l0 + 1) :: an 37 []), [.box 38 [.sl (m_0.Places.map GVector.cells), .sl (m_0.Triangles.map (cL (cI .i64)))], .nest 49 ((r1_l1.map fun l => l.map (cI .i64)) ++ [([[.i .i64 ((((Z1 m_0).2).getD x_l0.toNat default).e0)], [.i .i64 ((((Z1 m_0).2).getD x_l0.toNat default).e1)], [.i .i64 (Z28 m_0 x_l0)], [.i .i64 (Z29 m_0 x_l0)]] : List (List AV))]) false, .mapN 2 (mapC Gedge.pr (cI .i64) ((Z1 m_0).1)) none, .vec 167 2 (((Z1 m_0).2).map Gedge.cells) false]⟩) (q (sB h_2 <| sK [25, 25] <| sC (show (0 : Int) ≤ 0 ∧ 0 < ((2 : Nat) : Int) from (by decide)) <| sC (show (0 : Int) ≤ 1 ∧ 1 < ((2 : Nat) : Int) from (by decide)) <| sC (mget_ix (ck := Gedge.pr) (cv := (cI .i64)) (l := (Z1 m_0).1) (j := (midx ((Z1 m_0).1) (((Z1 m_0).2).getD x_l0.toNat default))) (i := 0) y_3 y_4) <| sE (mget_el (ck := Gedge.pr) (cv := (cI .i64)) (l := (Z1 m_0).1) (j := (midx ((Z1 m_0).1) (((Z1 m_0).2).getD x_l0.toNat default))) (i := 0) y_5) <| sG (cL (cI .i64)) m_0.Triangles ((((Z1 m_0).1).getD (midx ((Z1 m_0).1) (((Z1 m_0).2).getD x_l0.toNat default)) default).2.getD 0 default) y_6 y_7 <| sF (Z7b (m_0.Triangles.getD ((((Z1 m_0).1).getD (midx ((Z1 m_0).1) (((Z1 m_0).2).getD x_l0.toNat default)) default).2.getD 0 default).toNat default) (((Z1 m_0).2).getD x_l0.toNat default) y_8 y_9) <| sC (mget_ix (ck := Gedge.pr) (cv := (cI .i64)) (l := (Z1 m_0).1) (j := (midx ((Z1 m_0).1) (((Z1 m_0).2).getD x_l0.toNat default))) (i := 1) y_10 y_11) <| sE (mget_el (ck := Gedge.pr) (cv := (cI .i64)) (l := (Z1 m_0).1) (j := (midx ((Z1 m_0).1) (((Z1 m_0).2).getD x_l0.toNat default))) (i := 1) y_12) <| sG (cL (cI .i64)) m_0.Triangles ((((Z1 m_0).1).getD (midx ((Z1 m_0).1) (((Z1 m_0).2).getD x_l0.toNat default)) default).2.getD 1 default) y_13 y_14 <| sF (Z7b (m_0.Triangles.getD ((((Z1 m_0).1).getD (midx ((Z1 m_0).1) (((Z1 m_0).2).getD x_l0.toNat default)) default).2.getD 1 default).toNat default) (((Z1 m_0).2).getD x_l0.toNat default) y_15 y_16) <| sC (show (r1_l1.map fun l => l.map (cI .i64)).length + [([[.i .i64 ((((Z1 m_0).2).getD x_l0.toNat default).e0)], [.i .i64 ((((Z1 m_0).2).getD x_l0.toNat default).e1)], [.i .i64 (Z28 m_0 x_l0)], [.i .i64 (Z29 m_0 x_l0)]] : List (List AV))].length ≤ 1073741824 from (by simpa using y_17)) <| sI (x_l0 + 1) y_18 y_19 <| sN)) (by kernel_rfl) (show _ = ⟨.agg [.sl (m_0.Places.map GVector.cells), .sl (m_0.Triangles.map (cL (cI .i64)))] :: .ptr 0 0 0 :: .nils :: .own 1 :: .mp 2 :: .own 3 :: an 5 (.agg [.sl (m_0.Places.map GVector.cells), .sl (m_0.Triangles.map (cL (cI .i64)))] :: .any :: .mp 2 :: .own 3 :: .own 3 :: .i .i64 (((Z1 m_0).2).length : Int) :: .i .i64 (x_l0 + 1) :: an 37 []), [.box 38 [.sl (m_0.Places.map GVector.cells), .sl (m_0.Triangles.map (cL (cI .i64)))], .nest 49 ((r1_l1 ++ [[(((Z1 m_0).2).getD x_l0.toNat default).e0, (((Z1 m_0).2).getD x_l0.toNat default).e1, (Z28 m_0 x_l0), (Z29 m_0 x_l0)]]).map fun l => l.map (cI .i64)) false, .mapN 2 (mapC Gedge.pr (cI .i64) ((Z1 m_0).1)) none, .vec 167 2 (((Z1 m_0).2).map Gedge.cells) false]⟩ from (by simp [cL, cI])) (ih (x_l0 + 1) (r1_l1 ++ [[(((Z1 m_0).2).getD x_l0.toNat default).e0, (((Z1 m_0).2).getD x_l0.toNat default).e1, (Z28 m_0 x_l0), (Z29 m_0 x_l0)]]) (show 0 ≤ (x_l0 + 1) from (by omega)) (show ((r1_l1 ++ [[(((Z1 m_0).2).getD x_l0.toNat default).e0, (((Z1 m_0).2).getD x_l0.toNat default).e1, (Z28 m_0 x_l0), (Z29 m_0 x_l0)]]).length : Int) ≤ (x_l0 + 1) from (by ((have q := Z5q m_0 hp3 ZR (of_decide_eq_true (by assumption)); (simp only [List.length_append, List.length_cons, List.length_nil]; omega))))) (by omega))
    | false =>
     have gh_2 := ne_of_beq_false h_2
     have y_3 : (-9223372036854775808 : Int) ≤ (x_l0 + 1) := by clear q; exact (by omega)
     have y_4 : (x_l0 + 1) ≤ (9223372036854775807 : Int) := by clear q; exact (by ((have q := Z5q m_0 hp3 ZR (of_decide_eq_true (by assumption)); omega)))
     have e : Zx m_0 (k + 1) x_l0 r1_l1 = (Zx m_0 k (x_l0 + 1) r1_l1) := by simp only [Zx, h_0, h_1, h_2, cond_true, cond_false]
     rw [e]
     exact nextR E0Ok Z3 [] (mR false [0, 6, 5, 1, 1, 5, 37]) [0, 1, 2, 3] (ih (x_l0 + 1) r1_l1 (show 0 ≤ (x_l0 + 1) from (by omega)) (show (r1_l1.length : Int) ≤ (x_l0 + 1) from (by omega)) (by omega)) (q (sB h_2 <| sI (x_l0 + 1) y_3 y_4 <| sN)) (by kernel_rfl)
   | false =>
    have y_3 : (-9223372036854775808 : Int) ≤ (x_l0 + 1) := by clear p; exact (by omega)
    have y_4 : (x_l0 + 1) ≤ (9223372036854775807 : Int) := by clear p; exact (by ((have q := Z5q m_0 hp3 ZR (of_decide_eq_true (by assumption)); omega)))
    have e : Zx m_0 (k + 1) x_l0 r1_l1 = (Zx m_0 k (x_l0 + 1) r1_l1) := by simp only [Zx, h_0, h_1, cond_true, cond_false]
    rw [e]
    exact nextR E0Ok Z3 [] (mR false [0, 6, 5, 1, 1, 5, 37]) [0, 1, 2, 3] (ih (x_l0 + 1) r1_l1 (show 0 ≤ (x_l0 + 1) from (by omega)) (show (r1_l1.length : Int) ≤ (x_l0 + 1) from (by omega)) (by omega)) (p (sA (.keep []) <| sC (mnot_ok (ck := Gedge.pr) (cv := (cI .i64)) Gedge.inj h_1) <| sM (show ((0 : Nat) : Int) = 0 from rfl) <| sB (show (0 == 2) = false from rfl) <| sI (x_l0 + 1) y_3 y_4 <| sN)) (by kernel_rfl)
  | false =>
   have gh_0 := of_decide_eq_false h_0
   have e : Zx m_0 (k + 1) x_l0 r1_l1 = r1_l1 := by simp only [Zx, h_0, cond_false]
   rw [e]
   exact outR (e := (.exit 0)) E0Ok Z3 [] (mR false [0, 4, 1, 1, 5, 1, 1, 3, 39]) [0, 1, 3, 2] (sB h_0 <| sN) (by kernel_rfl) (by intro h; cases h)
def Z3B (m_0 : GMesh) : (List (List Int)) := (Zx m_0 (((((Z1 m_0).2).length : Int) - 0).toNat + 1) 0 ([] : List (List Int)))
def Z5 (m_0 : GMesh) : (List (List Int)) := (Z3B m_0)
theorem Z52 (m : GMesh) (ok : OkE m.Places.length m.Triangles) : Z5 m = hgL m.Places.length m.Triangles := by
  unfold Z5 Z3B
  refine (filtm_from (a := (Z1 m).2) (p := fun e => decide ((idxP m.Triangles e.e0 e.e1).length = 2)) (f := fun e => [e.e0, e.e1] ++ (idxP m.Triangles e.e0 e.e1).map fun i => thd (m.Triangles.getD i.toNat default) e.e0 e.e1) (lo := Zx m) (fun k i r h0 hi => ?_) (fun k i r hi => ?_)).trans ?_
  · have q := Z5q m ok h0 hi
    have hm := Z8c m ok h0 hi
    obtain ⟨g1, g2⟩ := Zan m ok hm
    rw [Zx, decide_eq_true hi, cond_true, g1, cond_true, g2]
    unfold Z28 Z29
    rw [g2]
    generalize (Z1 m).2.getD i.toNat default = e at *
    by_cases h2 : (idxP m.Triangles e.e0 e.e1).length = 2
    · rw [decide_eq_true h2, show (((idxP m.Triangles e.e0 e.e1).length : Int) == 2) = true from by rw [beq_iff_eq]; omega, cond_true, cond_true]
      have hthd : ∀ k : Nat, k < 2 → Z42 (m.Triangles.getD ((idxP m.Triangles e.e0 e.e1).getD k default).toNat default) e = thd (m.Triangles.getD ((idxP m.Triangles e.e0 e.e1).getD k default).toNat default) e.e0 e.e1 := by
        intro k hk
        obtain ⟨a1, a2, a3⟩ := idxP_at (ts := m.Triangles) (a := e.e0) (b := e.e1) (k := k) (by omega)
        generalize (idxP m.Triangles e.e0 e.e1).getD k default = i' at *
        have q2 := ok.tris.at a1 a2
        generalize m.Triangles.getD i'.toNat default = t at *
        have h64 := ok.1
        unfold Z42 Z3X thd
        rw [wrap_id (n := t.getD 0 default + t.getD 1 default) (by omega) (by omega), wrap_id (n := t.getD 0 default + t.getD 1 default + t.getD 2 default) (by omega) (by omega), wrap_id (n := t.getD 0 default + t.getD 1 default + t.getD 2 default - e.e0) (by omega) (by omega), wrap_id (n := t.getD 0 default + t.getD 1 default + t.getD 2 default - e.e0 - e.e1) (by omega) (by omega)]
      rw [hthd 0 (by omega), hthd 1 (by omega)]
      generalize idxP m.Triangles e.e0 e.e1 = l at *
      match l, h2 with
      | [a, b], _ => rfl
    · rw [decide_eq_false h2, show (((idxP m.Triangles e.e0 e.e1).length : Int) == 2) = false from by rw [beq_eq_false_iff_ne]; omega, cond_false, cond_false]
  · rw [Zx, decide_eq_false (by omega), cond_false]
  · rw [Z6M m ok]; rfl
theorem Zat (m : GMesh) (ok : OkE m.Places.length m.Triangles) {i : Int} (h0 : 0 ≤ i) (hi : i < ((Z5 m).length : Int)) : ((Z5 m).getD i.toNat default).length = 4 ∧ ∀ x ∈ (Z5 m).getD i.toNat default, 0 ≤ x ∧ x < (m.Places.length : Int) := by
  refine hgL_mem ok ?_
  rw [← Z52 m ok, List.getD_eq_getElem?_getD, List.getElem?_eq_getElem (by omega)]; exact List.getElem_mem _
theorem Z4O {m : GMesh} (ok : OkE m.Places.length m.Triangles) {i : Int} (h0 : 0 ≤ i) (hi : decide (i < ((Z5 m).length : Int)) = true) : ((Z5 m).getD i.toNat default).length = 4 ∧ ∀ x ∈ (Z5 m).getD i.toNat default, 0 ≤ x ∧ x < (m.Places.length : Int) := Zat m ok h0 (of_decide_eq_true hi)
theorem Zbt {m : GMesh} (ok : OkE m.Places.length m.Triangles) {i : Int} (h0 : 0 ≤ i) (hi : decide (i < ((Z5 m).length : Int)) = true) : ((Z5 m).getD i.toNat default).length ≤ 1073741824 := by have := (Z4O ok h0 hi).1; omega
theorem Z8D (m : GMesh) (ok : OkE m.Places.length m.Triangles) : (Z5 m).length ≤ 4096 := by rw [Z52 m ok]; exact hgL_len ok
theorem Z9m (m_0 : GMesh) (hp0 : m_0.Places.length ≤ 1073741824) (hp1 : m_0.Triangles.length ≤ 1073741824) (hp2 : ∀ t ∈ m_0.Triangles, t.length ≤ 1073741824) (hp3 : OkE m_0.Places.length m_0.Triangles)  : Fn prog 115 [.agg [.sl (m_0.Places.map GVector.cells), .sl (m_0.Triangles.map (cL (cI .i64)))]] (.own 0) [.nest 49 ((Z5 m_0).map fun l => l.map (cI .i64)) false] := by
 refine fnS E0Ok Z3 (c := bodyOf f115) [] (.own 0) [.nest 49 ((Z3B m_0).map fun l => l.map (cI .i64)) false] func115 (sF (Z6W m_0 hp0 hp1 hp2 hp3) <| sZ Gedge.cells ((Z1 m_0).2) <| sL (mR false [0, 6, 5, 1, 1, 5, 37]) 4 (lp_cast (st2 := ⟨.agg [.sl (m_0.Places.map GVector.cells), .sl (m_0.Triangles.map (cL (cI .i64)))] :: .ptr 0 0 0 :: .nils :: .own 1 :: .mp 2 :: .own 3 :: an 5 (.agg [.sl (m_0.Places.map GVector.cells), .sl (m_0.Triangles.map (cL (cI .i64)))] :: .any :: .mp 2 :: .own 3 :: .own 3 :: .i .i64 (((Z1 m_0).2).length : Int) :: .i .i64 0 :: an 37 []), [.box 38 [.sl (m_0.Places.map GVector.cells), .sl (m_0.Triangles.map (cL (cI .i64)))], .nest 49 [] false, .mapN 2 (mapC Gedge.pr (cI .i64) ((Z1 m_0).1)) none, .vec 167 2 (((Z1 m_0).2).map Gedge.cells) false]⟩) (lp_val (Z4G m_0) (x := (Z3B m_0)) (Z8d m_0 hp0 hp1 hp2 hp3 (((((Z1 m_0).2).length : Int) - 0).toNat + 1) 0 ([] : List (List Int)) (show 0 ≤ 0 from (by omega)) (show (([] : List (List Int)).length : Int) ≤ 0 from (by simp)) (Nat.lt_succ_self _)) rfl) (by simp [Z6r, cL, cI])) <| sK [1] sN) rfl (by kernel_rfl) (by kernel_rfl) rfl ?_ ?_
 · rfl
 · simp [Z5]
def Z4c (m_0 : GMesh) (h_1 : (List Int)) : GVector := (Z1g (Z1N (m_0.Places.getD (h_1.getD 2 default).toNat default) (m_0.Places.getD (h_1.getD 3 default).toNat default)) (Z1N (m_0.Places.getD (h_1.getD 0 default).toNat default) (m_0.Places.getD (h_1.getD 1 default).toNat default)))
def Zi (m_0 : GMesh) (h_1 : (List Int)) : GVector := (Z4c m_0 h_1)
theorem Za0 (m_0 : GMesh) (h_1 : (List Int)) (hp0 : m_0.Places.length ≤ 1073741824) (hp1 : m_0.Triangles.length ≤ 1073741824) (hp2 : ∀ t ∈ m_0.Triangles, t.length ≤ 1073741824) (hp3 : h_1.length ≤ 1073741824) (hp4 : h_1.length = 4 ∧ ∀ x ∈ h_1, 0 ≤ x ∧ x < (m_0.Places.length : Int))  : Fn prog 116 [.agg [.sl (m_0.Places.map GVector.cells), .sl (m_0.Triangles.map (cL (cI .i64)))], .sl (h_1.map (cI .i64))] (.agg [.f .f32 ((Zi m_0 h_1).X), .f .f32 ((Zi m_0 h_1).Y), .f .f32 ((Zi m_0 h_1).Z)]) [] := by
 have y0 : (0 : Int) ≤ 2 := (by omega)
 have y1 : 2 < (h_1.length : Int) := (by omega)
 have y2 : (0 : Int) ≤ (h_1.getD 2 default) := (by have q := Okh.at hp4; omega)
 have y3 : (h_1.getD 2 default) < (m_0.Places.length : Int) := (by have q := Okh.at hp4; omega)
 have y4 : (0 : Int) ≤ 3 := (by omega)
 have y5 : 3 < (h_1.length : Int) := (by omega)
 have y6 : (0 : Int) ≤ (h_1.getD 3 default) := (by have q := Okh.at hp4; omega)
 have y7 : (h_1.getD 3 default) < (m_0.Places.length : Int) := (by have q := Okh.at hp4; omega)
 have y8 : (0 : Int) ≤ 0 := (by omega)
 have y9 : 0 < (h_1.length : Int) := (by omega)
 have y10 : (0 : Int) ≤ (h_1.getD 0 default) := (by have q := Okh.at hp4; omega)
 have y11 : (h_1.getD 0 default) < (m_0.Places.length : Int) := (by have q := Okh.at hp4; omega)
 have y12 : (0 : Int) ≤ 1 := (by omega)
 have y13 : 1 < (h_1.length : Int) := (by omega)
 have y14 : (0 : Int) ≤ (h_1.getD 1 default) := (by have q := Okh.at hp4; omega)
 have y15 : (h_1.getD 1 default) < (m_0.Places.length : Int) := (by have q := Okh.at hp4; omega)
 refine fnS E0Ok Z3 (c := bodyOf f116) [] (.agg [.f .f32 ((Z4c m_0 h_1).X), .f .f32 ((Z4c m_0 h_1).Y), .f .f32 ((Z4c m_0 h_1).Z)]) [] func116 (sK [25, 25] <| sG (cI .i64) h_1 2 y0 y1 <| sG GVector.cells m_0.Places (h_1.getD 2 default) y2 y3 <| sG (cI .i64) h_1 3 y4 y5 <| sG GVector.cells m_0.Places (h_1.getD 3 default) y6 y7 <| sF (Z4R (m_0.Places.getD (h_1.getD 2 default).toNat default) (m_0.Places.getD (h_1.getD 3 default).toNat default)) <| sG (cI .i64) h_1 0 y8 y9 <| sG GVector.cells m_0.Places (h_1.getD 0 default) y10 y11 <| sG (cI .i64) h_1 1 y12 y13 <| sG GVector.cells m_0.Places (h_1.getD 1 default) y14 y15 <| sF (Z4R (m_0.Places.getD (h_1.getD 0 default).toNat default) (m_0.Places.getD (h_1.getD 1 default).toNat default)) <| sF (Z30 (Z1N (m_0.Places.getD (h_1.getD 2 default).toNat default) (m_0.Places.getD (h_1.getD 3 default).toNat default)) (Z1N (m_0.Places.getD (h_1.getD 0 default).toNat default) (m_0.Places.getD (h_1.getD 1 default).toNat default))) <| sK [] sN) rfl (by kernel_rfl) (by kernel_rfl) rfl ?_ ?_
 · rfl
 · rfl
def Z2p (arr_0 : GBody) (x_l0 : Int) (r1_l1 : (List GVector)) : (List GVector) := (Zh ((arr_0.Springs.getD x_l0.toNat default).A) (Zf arr_0 (arr_0.Springs.getD x_l0.toNat default)) (Z2S (Zf arr_0 (arr_0.Springs.getD x_l0.toNat default)) (arr_0.Springs.getD x_l0.toNat default)) r1_l1)
@[simp] theorem Z4W (arr_0 : GBody) (x_l0 : Int) (r1_l1 : (List GVector)) : (Z2p arr_0 x_l0 r1_l1).length = r1_l1.length := by unfold Z2p; simp
def Z2q (arr_0 : GBody) (x_l0 : Int) (r1_l1 : (List GVector)) : (List GVector) := (Zh ((arr_0.Springs.getD x_l0.toNat default).B) (Zf arr_0 (arr_0.Springs.getD x_l0.toNat default)) (fneg .f32 (Z2S (Zf arr_0 (arr_0.Springs.getD x_l0.toNat default)) (arr_0.Springs.getD x_l0.toNat default))) (Z2p arr_0 x_l0 r1_l1))
@[simp] theorem Zau (arr_0 : GBody) (x_l0 : Int) (r1_l1 : (List GVector)) : (Z2q arr_0 x_l0 r1_l1).length = (Z2p arr_0 x_l0 r1_l1).length := by unfold Z2q; simp
def ZW (arr_0 : GBody) : Nat → Int → (List GVector) → (List GVector)
  | 0, _, _ => default
  | k + 1, x_l0, r1_l1 => (cond (decide (x_l0 < (arr_0.Springs.length : Int)))
    (ZW arr_0 k (x_l0 + 1) (Z2q arr_0 x_l0 r1_l1))
    r1_l1)
def Z4H (arr_0 : GBody) (r : (List GVector)) : Ex × St := ((.exit 0), ⟨.agg [.sl (arr_0.Mesh.Places.map GVector.cells), .sl (arr_0.Mesh.Triangles.map (cL (cI .i64))), .sl (arr_0.Springs.map GSpring.cells), .f .f32 arr_0.Film, .f .f32 arr_0.Bend, .sl (arr_0.Weights.map (cF .f32)), .f .f32 arr_0.Fall.X, .f .f32 arr_0.Fall.Y, .f .f32 arr_0.Fall.Z] :: .ptr 0 0 0 :: .nils :: .ptr 1 0 0 :: .fn 106 [.ptr 1 0 0] :: an 18 (.ptr 0 0 0 :: .ptr 0 0 0 :: .sl (arr_0.Mesh.Places.map GVector.cells) :: .i .i64 (arr_0.Mesh.Places.length : Int) :: .own 2 :: .fn 106 [.ptr 1 0 0] :: .ptr 0 0 2 :: .sl (arr_0.Springs.map GSpring.cells) :: an 148 []), [.box 42 [.sl (arr_0.Mesh.Places.map GVector.cells), .sl (arr_0.Mesh.Triangles.map (cL (cI .i64))), .sl (arr_0.Springs.map GSpring.cells), .f .f32 arr_0.Film, .f .f32 arr_0.Bend, .sl (arr_0.Weights.map (cF .f32)), .f .f32 arr_0.Fall.X, .f .f32 arr_0.Fall.Y, .f .f32 arr_0.Fall.Z], .box 34 [.own 2], .vec 40 3 (r.map GVector.cells) false]⟩)
def Z6s (arr_0 : GBody) (x_l0 : Int) (r1_l1 : (List GVector)) : St := ⟨.agg [.sl (arr_0.Mesh.Places.map GVector.cells), .sl (arr_0.Mesh.Triangles.map (cL (cI .i64))), .sl (arr_0.Springs.map GSpring.cells), .f .f32 arr_0.Film, .f .f32 arr_0.Bend, .sl (arr_0.Weights.map (cF .f32)), .f .f32 arr_0.Fall.X, .f .f32 arr_0.Fall.Y, .f .f32 arr_0.Fall.Z] :: .ptr 0 0 0 :: .nils :: .ptr 2 0 0 :: .fn 106 [.ptr 2 0 0] :: an 18 (.ptr 0 0 0 :: .ptr 0 0 0 :: .sl (arr_0.Mesh.Places.map GVector.cells) :: .i .i64 (arr_0.Mesh.Places.length : Int) :: .own 1 :: .fn 106 [.ptr 2 0 0] :: .ptr 0 0 2 :: .sl (arr_0.Springs.map GSpring.cells) :: .i .i64 (arr_0.Springs.length : Int) :: .i .i64 x_l0 :: an 146 []), [.box 42 [.sl (arr_0.Mesh.Places.map GVector.cells), .sl (arr_0.Mesh.Triangles.map (cL (cI .i64))), .sl (arr_0.Springs.map GSpring.cells), .f .f32 arr_0.Film, .f .f32 arr_0.Bend, .sl (arr_0.Weights.map (cF .f32)), .f .f32 arr_0.Fall.X, .f .f32 arr_0.Fall.Y, .f .f32 arr_0.Fall.Z], .vec 40 3 (r1_l1.map GVector.cells) false, .box 34 [.own 1]]⟩
theorem Z8e (arr_0 : GBody) (hp0 : arr_0.Mesh.Places.length ≤ 1073741824) (hp1 : arr_0.Mesh.Triangles.length ≤ 1073741824) (hp2 : ∀ t ∈ arr_0.Mesh.Triangles, t.length ≤ 1073741824) (hp3 : arr_0.Springs.length ≤ 1073741824) (hp4 : arr_0.Weights.length ≤ 1073741824) (hp5 : OkBd arr_0) : ∀ (k : Nat) (x_l0 : Int) (r1_l1 : (List GVector)) (Z5I : 0 ≤ x_l0) (Z5J : r1_l1.length = arr_0.Mesh.Places.length) (hk : ((arr_0.Springs.length : Int) - x_l0).toNat < k), Lp prog 0 (sub (bodyOf f57) [1, 1, 1, 0, 1, 0, 0]) (Z6s arr_0 x_l0 r1_l1) (Z4H arr_0 (ZW arr_0 k x_l0 r1_l1)).1 (Z4H arr_0 (ZW arr_0 k x_l0 r1_l1)).2 := by
 intro k
 induction k with
 | zero => intro x_l0 r1_l1 Z5I Z5J hk; exact absurd hk (Nat.not_lt_zero _)
 | succ k ih =>
  intro x_l0 r1_l1 Z5I Z5J hk
  cases h_0 : (decide (x_l0 < (arr_0.Springs.length : Int))) with
  | true =>
   have gh_0 := of_decide_eq_true h_0
   have y_0 : (0 : Int) ≤ x_l0 := (by assumption)
   have y_1 : x_l0 < (arr_0.Springs.length : Int) := (by assumption)
   have y_2 : 0 ≤ (arr_0.Springs.getD x_l0.toNat default).A := (by have q := Z3p hp5 (by assumption) h_0; omega)
   have y_3 : (arr_0.Springs.getD x_l0.toNat default).A < (arr_0.Mesh.Places.length : Int) := (by have q := Z3p hp5 (by assumption) h_0; omega)
   have y_4 : 0 ≤ (arr_0.Springs.getD x_l0.toNat default).B := (by have q := Z3p hp5 (by assumption) h_0; omega)
   have y_5 : (arr_0.Springs.getD x_l0.toNat default).B < (arr_0.Mesh.Places.length : Int) := (by have q := Z3p hp5 (by assumption) h_0; omega)
   have y_6 : r1_l1.length ≤ 1073741824 := (by omega)
   have y_7 : 0 ≤ ((arr_0.Springs.getD x_l0.toNat default).A) := (by assumption)
   have y_8 : ((arr_0.Springs.getD x_l0.toNat default).A) < (r1_l1.length : Int) := (by omega)
   have y_9 : (Z2p arr_0 x_l0 r1_l1).length ≤ 1073741824 := (by have q := Z3p hp5 (by assumption) h_0; (simp only [Z4W]; omega))
   have y_10 : 0 ≤ ((arr_0.Springs.getD x_l0.toNat default).B) := (by assumption)
   have y_11 : ((arr_0.Springs.getD x_l0.toNat default).B) < ((Z2p arr_0 x_l0 r1_l1).length : Int) := (by have q := Z3p hp5 (by assumption) h_0; (simp only [Z4W]; omega))
   have y_12 : (-9223372036854775808 : Int) ≤ (x_l0 + 1) := (by omega)
   have y_13 : (x_l0 + 1) ≤ (9223372036854775807 : Int) := (by omega)
   have e : ZW arr_0 (k + 1) x_l0 r1_l1 = (ZW arr_0 k (x_l0 + 1) (Z2q arr_0 x_l0 r1_l1)) := by simp only [ZW, h_0, cond_true]
   rw [e]
   exact nextR E0Ok Z3 [] (mR false [0, 5, 18, 10, 146]) [0, 1, 2] (ih (x_l0 + 1) (Z2q arr_0 x_l0 r1_l1) (show 0 ≤ (x_l0 + 1) from (by omega)) (show (Z2q arr_0 x_l0 r1_l1).length = arr_0.Mesh.Places.length from (by simp_all <;> omega)) (by omega)) (sB h_0 <| sG GSpring.cells arr_0.Springs x_l0 y_0 y_1 <| sF (Z8a arr_0 (arr_0.Springs.getD x_l0.toNat default) hp0 hp1 hp2 hp3 hp4 y_2 y_3 y_4 y_5) <| sF (Z9Y (Zf arr_0 (arr_0.Springs.getD x_l0.toNat default)) (arr_0.Springs.getD x_l0.toNat default)) <| sS (CallSt.frame (Z1i ((arr_0.Springs.getD x_l0.toNat default).A) (Zf arr_0 (arr_0.Springs.getD x_l0.toNat default)) (Z2S (Zf arr_0 (arr_0.Springs.getD x_l0.toNat default)) (arr_0.Springs.getD x_l0.toNat default)) r1_l1 y_6 y_7 y_8) [2, 1] (R := [.box 42 [.sl (arr_0.Mesh.Places.map GVector.cells), .sl (arr_0.Mesh.Triangles.map (cL (cI .i64))), .sl (arr_0.Springs.map GSpring.cells), .f .f32 arr_0.Film, .f .f32 arr_0.Bend, .sl (arr_0.Weights.map (cF .f32)), .f .f32 arr_0.Fall.X, .f .f32 arr_0.Fall.Y, .f .f32 arr_0.Fall.Z], .vec 40 3 (r1_l1.map GVector.cells) false, .box 34 [.own 1], .box 133 [.i .i64 ((arr_0.Springs.getD x_l0.toNat default).A), .i .i64 ((arr_0.Springs.getD x_l0.toNat default).B), .f .f32 ((arr_0.Springs.getD x_l0.toNat default).Long), .f .f32 ((arr_0.Springs.getD x_l0.toNat default).Stiff)], .box 40 [.f .f32 ((Zf arr_0 (arr_0.Springs.getD x_l0.toNat default)).X), .f .f32 ((Zf arr_0 (arr_0.Springs.getD x_l0.toNat default)).Y), .f .f32 ((Zf arr_0 (arr_0.Springs.getD x_l0.toNat default)).Z)]]) (args' := [.i .i64 ((arr_0.Springs.getD x_l0.toNat default).A), .agg [.f .f32 ((Zf arr_0 (arr_0.Springs.getD x_l0.toNat default)).X), .f .f32 ((Zf arr_0 (arr_0.Springs.getD x_l0.toNat default)).Y), .f .f32 ((Zf arr_0 (arr_0.Springs.getD x_l0.toNat default)).Z)], .f .f32 (Z2S (Zf arr_0 (arr_0.Springs.getD x_l0.toNat default)) (arr_0.Springs.getD x_l0.toNat default)), .ptr 2 0 0]) rfl rfl rfl rfl rfl rfl) <| sS (CallSt.frame (Z1i ((arr_0.Springs.getD x_l0.toNat default).B) (Zf arr_0 (arr_0.Springs.getD x_l0.toNat default)) (fneg .f32 (Z2S (Zf arr_0 (arr_0.Springs.getD x_l0.toNat default)) (arr_0.Springs.getD x_l0.toNat default))) (Z2p arr_0 x_l0 r1_l1) y_9 y_10 y_11) [2, 1] (R := [.box 42 [.sl (arr_0.Mesh.Places.map GVector.cells), .sl (arr_0.Mesh.Triangles.map (cL (cI .i64))), .sl (arr_0.Springs.map GSpring.cells), .f .f32 arr_0.Film, .f .f32 arr_0.Bend, .sl (arr_0.Weights.map (cF .f32)), .f .f32 arr_0.Fall.X, .f .f32 arr_0.Fall.Y, .f .f32 arr_0.Fall.Z], .vec 40 3 ((Z2p arr_0 x_l0 r1_l1).map GVector.cells) false, .box 34 [.own 1], .box 133 [.i .i64 ((arr_0.Springs.getD x_l0.toNat default).A), .i .i64 ((arr_0.Springs.getD x_l0.toNat default).B), .f .f32 ((arr_0.Springs.getD x_l0.toNat default).Long), .f .f32 ((arr_0.Springs.getD x_l0.toNat default).Stiff)], .box 40 [.f .f32 ((Zf arr_0 (arr_0.Springs.getD x_l0.toNat default)).X), .f .f32 ((Zf arr_0 (arr_0.Springs.getD x_l0.toNat default)).Y), .f .f32 ((Zf arr_0 (arr_0.Springs.getD x_l0.toNat default)).Z)]]) (args' := [.i .i64 ((arr_0.Springs.getD x_l0.toNat default).B), .agg [.f .f32 ((Zf arr_0 (arr_0.Springs.getD x_l0.toNat default)).X), .f .f32 ((Zf arr_0 (arr_0.Springs.getD x_l0.toNat default)).Y), .f .f32 ((Zf arr_0 (arr_0.Springs.getD x_l0.toNat default)).Z)], .f .f32 (fneg .f32 (Z2S (Zf arr_0 (arr_0.Springs.getD x_l0.toNat default)) (arr_0.Springs.getD x_l0.toNat default))), .ptr 2 0 0]) rfl rfl rfl rfl rfl rfl) <| sI (x_l0 + 1) y_12 y_13 <| sN) (by kernel_rfl)
  | false =>
   have gh_0 := of_decide_eq_false h_0
   have e : ZW arr_0 (k + 1) x_l0 r1_l1 = r1_l1 := by simp only [ZW, h_0, cond_false]
   rw [e]
   exact outR (e := (.exit 0)) E0Ok Z3 [] (mR false [0, 5, 18, 8, 148]) [0, 2, 1] (sB h_0 <| sN) (by kernel_rfl) (by intro h; cases h)
theorem Z7k (arr_0 : GBody) : ∀ (k : Nat) (x_l0 : Int) (r1_l1 : (List GVector)) (hk : ((arr_0.Springs.length : Int) - x_l0).toNat < k), (ZW arr_0 k x_l0 r1_l1).length = r1_l1.length := by
  intro k
  induction k with
  | zero => intro x_l0 r1_l1 hk; exact absurd hk (Nat.not_lt_zero _)
  | succ k ih =>
    intro x_l0 r1_l1 hk
    cases h_0 : (decide (x_l0 < (arr_0.Springs.length : Int))) with
    | true =>
      have e : ZW arr_0 (k + 1) x_l0 r1_l1 = (ZW arr_0 k (x_l0 + 1) (Z2q arr_0 x_l0 r1_l1)) := by simp only [ZW, h_0, cond_true]
      rw [e, ih (x_l0 + 1) (Z2q arr_0 x_l0 r1_l1) (by simp_all <;> omega)]; simp
    | false =>
      have e : ZW arr_0 (k + 1) x_l0 r1_l1 = r1_l1 := by simp only [ZW, h_0, cond_false]
      first | (rw [e]; done) | (rw [e]; rfl)
def Z2a (arr_0 : GBody) : (List GVector) := (ZW arr_0 (((arr_0.Springs.length : Int) - 0).toNat + 1) 0 (List.replicate (arr_0.Mesh.Places.length : Int).toNat (⟨0, 0, 0⟩ : GVector)))
@[simp] theorem Za1 (arr_0 : GBody) : (Z2a arr_0).length = ((List.replicate (arr_0.Mesh.Places.length : Int).toNat (⟨0, 0, 0⟩ : GVector)) : (List GVector)).length := Z7k arr_0 (((arr_0.Springs.length : Int) - 0).toNat + 1) 0 (List.replicate (arr_0.Mesh.Places.length : Int).toNat (⟨0, 0, 0⟩ : GVector)) (by exact Nat.lt_succ_self _)
def Z1t (arr_0 : GBody) (x_l0 : Int) (x_l0_1 : Int) : GVector := (Z1g (arr_0.Mesh.Places.getD ((arr_0.Mesh.Triangles.getD x_l0.toNat default).getD (Int.tmod (x_l0_1 + 2) 3).toNat default).toNat default) (arr_0.Mesh.Places.getD ((arr_0.Mesh.Triangles.getD x_l0.toNat default).getD (Int.tmod (x_l0_1 + 1) 3).toNat default).toNat default))
def Z2r (arr_0 : GBody) (x_l0 : Int) (x_l0_1 : Int) (r2_l1_1 : (List GVector)) : (List GVector) := (Zh ((arr_0.Mesh.Triangles.getD x_l0.toNat default).getD x_l0_1.toNat default) (Z1H (Z7 arr_0.Mesh (arr_0.Mesh.Triangles.getD x_l0.toNat default)) (Z1t arr_0 x_l0 x_l0_1)) (fop .quo .f32 (fneg .f32 (fop .mul .f32 1056964608 arr_0.Film)) (Zd (Z7 arr_0.Mesh (arr_0.Mesh.Triangles.getD x_l0.toNat default)))) r2_l1_1)
@[simp] theorem Zav (arr_0 : GBody) (x_l0 : Int) (x_l0_1 : Int) (r2_l1_1 : (List GVector)) : (Z2r arr_0 x_l0 x_l0_1 r2_l1_1).length = r2_l1_1.length := by unfold Z2r; simp
def ZM (arr_0 : GBody) (x_l0 : Int) (r2_l1 : (List GVector)) : Nat → Int → (List GVector) → (List GVector)
  | 0, _, _ => default
  | k + 1, x_l0_1, r2_l1_1 => (cond (decide (x_l0_1 < 3))
    (ZM arr_0 x_l0 r2_l1 k (x_l0_1 + 1) (Z2r arr_0 x_l0 x_l0_1 r2_l1_1))
    r2_l1_1)
def Z4I (arr_0 : GBody) (x_l0 : Int) (r2_l1 : (List GVector)) (r : (List GVector)) : Ex × St := ((.exit 4), ⟨.agg [.sl (arr_0.Mesh.Places.map GVector.cells), .sl (arr_0.Mesh.Triangles.map (cL (cI .i64))), .sl (arr_0.Springs.map GSpring.cells), .f .f32 arr_0.Film, .f .f32 arr_0.Bend, .sl (arr_0.Weights.map (cF .f32)), .f .f32 arr_0.Fall.X, .f .f32 arr_0.Fall.Y, .f .f32 arr_0.Fall.Z] :: .ptr 0 0 0 :: .nils :: .ptr 1 0 0 :: .fn 106 [.ptr 1 0 0] :: an 4 (.sl (arr_0.Mesh.Places.map GVector.cells) :: .any :: .sl ((arr_0.Mesh.Triangles.getD x_l0.toNat default).map (cI .i64)) :: .ptr 2 0 0 :: .f .f32 (fop .quo .f32 (fneg .f32 (fop .mul .f32 1056964608 arr_0.Film)) (Zd (Z7 arr_0.Mesh (arr_0.Mesh.Triangles.getD x_l0.toNat default)))) :: .f .f32 (Zd (Z7 arr_0.Mesh (arr_0.Mesh.Triangles.getD x_l0.toNat default))) :: an 8 (.ptr 0 0 0 :: .ptr 0 0 0 :: .sl (arr_0.Mesh.Places.map GVector.cells) :: .i .i64 (arr_0.Mesh.Places.length : Int) :: .own 3 :: .fn 106 [.ptr 1 0 0] :: .ptr 0 0 2 :: .sl (arr_0.Springs.map GSpring.cells) :: an 25 (.ptr 0 0 0 :: .ptr 0 0 0 :: .sl (arr_0.Mesh.Places.map GVector.cells) :: .ptr 0 0 0 :: .ptr 0 0 1 :: .sl (arr_0.Mesh.Triangles.map (cL (cI .i64))) :: .i .i64 (arr_0.Mesh.Triangles.length : Int) :: .i .i64 x_l0 :: .b (decide (x_l0 < (arr_0.Mesh.Triangles.length : Int))) :: .ref [.sl ((arr_0.Mesh.Triangles.getD x_l0.toNat default).map (cI .i64))] 0 :: .sl ((arr_0.Mesh.Triangles.getD x_l0.toNat default).map (cI .i64)) :: .ptr 0 0 0 :: .agg [.sl (arr_0.Mesh.Places.map GVector.cells), .sl (arr_0.Mesh.Triangles.map (cL (cI .i64)))] :: .sl ((arr_0.Mesh.Triangles.getD x_l0.toNat default).map (cI .i64)) :: .agg [.f .f32 ((Z7 arr_0.Mesh (arr_0.Mesh.Triangles.getD x_l0.toNat default)).X), .f .f32 ((Z7 arr_0.Mesh (arr_0.Mesh.Triangles.getD x_l0.toNat default)).Y), .f .f32 ((Z7 arr_0.Mesh (arr_0.Mesh.Triangles.getD x_l0.toNat default)).Z)] :: .agg [.f .f32 ((Z7 arr_0.Mesh (arr_0.Mesh.Triangles.getD x_l0.toNat default)).X), .f .f32 ((Z7 arr_0.Mesh (arr_0.Mesh.Triangles.getD x_l0.toNat default)).Y), .f .f32 ((Z7 arr_0.Mesh (arr_0.Mesh.Triangles.getD x_l0.toNat default)).Z)] :: .f .f32 (Zd (Z7 arr_0.Mesh (arr_0.Mesh.Triangles.getD x_l0.toNat default))) :: .f .f32 (Zd (Z7 arr_0.Mesh (arr_0.Mesh.Triangles.getD x_l0.toNat default))) :: .b (fcmp .gtr .f32 (Zd (Z7 arr_0.Mesh (arr_0.Mesh.Triangles.getD x_l0.toNat default))) 0) :: .ptr 0 0 3 :: .f .f32 arr_0.Film :: .f .f32 (fop .mul .f32 1056964608 arr_0.Film) :: .f .f32 (fneg .f32 (fop .mul .f32 1056964608 arr_0.Film)) :: .f .f32 (Zd (Z7 arr_0.Mesh (arr_0.Mesh.Triangles.getD x_l0.toNat default))) :: .f .f32 (fop .quo .f32 (fneg .f32 (fop .mul .f32 1056964608 arr_0.Film)) (Zd (Z7 arr_0.Mesh (arr_0.Mesh.Triangles.getD x_l0.toNat default)))) :: an 98 []))), [.box 42 [.sl (arr_0.Mesh.Places.map GVector.cells), .sl (arr_0.Mesh.Triangles.map (cL (cI .i64))), .sl (arr_0.Springs.map GSpring.cells), .f .f32 arr_0.Film, .f .f32 arr_0.Bend, .sl (arr_0.Weights.map (cF .f32)), .f .f32 arr_0.Fall.X, .f .f32 arr_0.Fall.Y, .f .f32 arr_0.Fall.Z], .box 34 [.own 3], .box 40 [.f .f32 ((Z7 arr_0.Mesh (arr_0.Mesh.Triangles.getD x_l0.toNat default)).X), .f .f32 ((Z7 arr_0.Mesh (arr_0.Mesh.Triangles.getD x_l0.toNat default)).Y), .f .f32 ((Z7 arr_0.Mesh (arr_0.Mesh.Triangles.getD x_l0.toNat default)).Z)], .vec 40 3 (r.map GVector.cells) false]⟩)
def Z8f (arr_0 : GBody) (x_l0 : Int) (r2_l1 : (List GVector)) (x_l0_1 : Int) (r2_l1_1 : (List GVector)) : St := ⟨.agg [.sl (arr_0.Mesh.Places.map GVector.cells), .sl (arr_0.Mesh.Triangles.map (cL (cI .i64))), .sl (arr_0.Springs.map GSpring.cells), .f .f32 arr_0.Film, .f .f32 arr_0.Bend, .sl (arr_0.Weights.map (cF .f32)), .f .f32 arr_0.Fall.X, .f .f32 arr_0.Fall.Y, .f .f32 arr_0.Fall.Z] :: .ptr 0 0 0 :: .nils :: .ptr 1 0 0 :: .fn 106 [.ptr 1 0 0] :: an 4 (.sl (arr_0.Mesh.Places.map GVector.cells) :: .any :: .sl ((arr_0.Mesh.Triangles.getD x_l0.toNat default).map (cI .i64)) :: .ptr 3 0 0 :: .f .f32 (fop .quo .f32 (fneg .f32 (fop .mul .f32 1056964608 arr_0.Film)) (Zd (Z7 arr_0.Mesh (arr_0.Mesh.Triangles.getD x_l0.toNat default)))) :: .f .f32 (Zd (Z7 arr_0.Mesh (arr_0.Mesh.Triangles.getD x_l0.toNat default))) :: an 8 (.ptr 0 0 0 :: .ptr 0 0 0 :: .sl (arr_0.Mesh.Places.map GVector.cells) :: .i .i64 (arr_0.Mesh.Places.length : Int) :: .own 2 :: .fn 106 [.ptr 1 0 0] :: .ptr 0 0 2 :: .sl (arr_0.Springs.map GSpring.cells) :: an 25 (.ptr 0 0 0 :: .ptr 0 0 0 :: .sl (arr_0.Mesh.Places.map GVector.cells) :: .ptr 0 0 0 :: .ptr 0 0 1 :: .sl (arr_0.Mesh.Triangles.map (cL (cI .i64))) :: .i .i64 (arr_0.Mesh.Triangles.length : Int) :: .i .i64 x_l0 :: .b (decide (x_l0 < (arr_0.Mesh.Triangles.length : Int))) :: .ref [.sl ((arr_0.Mesh.Triangles.getD x_l0.toNat default).map (cI .i64))] 0 :: .sl ((arr_0.Mesh.Triangles.getD x_l0.toNat default).map (cI .i64)) :: .ptr 0 0 0 :: .agg [.sl (arr_0.Mesh.Places.map GVector.cells), .sl (arr_0.Mesh.Triangles.map (cL (cI .i64)))] :: .sl ((arr_0.Mesh.Triangles.getD x_l0.toNat default).map (cI .i64)) :: .agg [.f .f32 ((Z7 arr_0.Mesh (arr_0.Mesh.Triangles.getD x_l0.toNat default)).X), .f .f32 ((Z7 arr_0.Mesh (arr_0.Mesh.Triangles.getD x_l0.toNat default)).Y), .f .f32 ((Z7 arr_0.Mesh (arr_0.Mesh.Triangles.getD x_l0.toNat default)).Z)] :: .agg [.f .f32 ((Z7 arr_0.Mesh (arr_0.Mesh.Triangles.getD x_l0.toNat default)).X), .f .f32 ((Z7 arr_0.Mesh (arr_0.Mesh.Triangles.getD x_l0.toNat default)).Y), .f .f32 ((Z7 arr_0.Mesh (arr_0.Mesh.Triangles.getD x_l0.toNat default)).Z)] :: .f .f32 (Zd (Z7 arr_0.Mesh (arr_0.Mesh.Triangles.getD x_l0.toNat default))) :: .f .f32 (Zd (Z7 arr_0.Mesh (arr_0.Mesh.Triangles.getD x_l0.toNat default))) :: .b (fcmp .gtr .f32 (Zd (Z7 arr_0.Mesh (arr_0.Mesh.Triangles.getD x_l0.toNat default))) 0) :: .ptr 0 0 3 :: .f .f32 arr_0.Film :: .f .f32 (fop .mul .f32 1056964608 arr_0.Film) :: .f .f32 (fneg .f32 (fop .mul .f32 1056964608 arr_0.Film)) :: .f .f32 (Zd (Z7 arr_0.Mesh (arr_0.Mesh.Triangles.getD x_l0.toNat default))) :: .f .f32 (fop .quo .f32 (fneg .f32 (fop .mul .f32 1056964608 arr_0.Film)) (Zd (Z7 arr_0.Mesh (arr_0.Mesh.Triangles.getD x_l0.toNat default)))) :: .i .i64 x_l0_1 :: an 97 []))), [.box 42 [.sl (arr_0.Mesh.Places.map GVector.cells), .sl (arr_0.Mesh.Triangles.map (cL (cI .i64))), .sl (arr_0.Springs.map GSpring.cells), .f .f32 arr_0.Film, .f .f32 arr_0.Bend, .sl (arr_0.Weights.map (cF .f32)), .f .f32 arr_0.Fall.X, .f .f32 arr_0.Fall.Y, .f .f32 arr_0.Fall.Z], .box 34 [.own 2], .vec 40 3 (r2_l1_1.map GVector.cells) false, .box 40 [.f .f32 ((Z7 arr_0.Mesh (arr_0.Mesh.Triangles.getD x_l0.toNat default)).X), .f .f32 ((Z7 arr_0.Mesh (arr_0.Mesh.Triangles.getD x_l0.toNat default)).Y), .f .f32 ((Z7 arr_0.Mesh (arr_0.Mesh.Triangles.getD x_l0.toNat default)).Z)]]⟩
def Z5K : List Bool := (mR false [0, 5, 4, 1, 1, 4, 8, 8, 25, 26, 97])
def Z7l : List Bool := (mR false [0, 5, 4, 1, 1, 4, 8, 8, 25, 25, 98])
theorem Z8g (arr_0 : GBody) (x_l0 : Int) (r2_l1 : (List GVector)) (hp0 : arr_0.Mesh.Places.length ≤ 1073741824) (hp1 : arr_0.Mesh.Triangles.length ≤ 1073741824) (hp2 : ∀ t ∈ arr_0.Mesh.Triangles, t.length ≤ 1073741824) (hp3 : arr_0.Springs.length ≤ 1073741824) (hp4 : arr_0.Weights.length ≤ 1073741824) (hp5 : OkBd arr_0) (Z2K : 0 ≤ x_l0) (Z2L : r2_l1.length = arr_0.Mesh.Places.length) (Z1r : (decide (x_l0 < (arr_0.Mesh.Triangles.length : Int))) = true) : ∀ (k : Nat) (x_l0_1 : Int) (r2_l1_1 : (List GVector)) (Z5L : 0 ≤ x_l0_1) (Z5M : r2_l1_1.length = r2_l1.length) (hk : ((3 : Int) - x_l0_1).toNat < k), Lp prog 0 (sub (bodyOf f57) [1, 1, 1, 1, 1, 0, 1, 0, 0, 1, 1, 0, 0, 1, 1, 1, 1, 1, 0, 0]) (Z8f arr_0 x_l0 r2_l1 x_l0_1 r2_l1_1) (Z4I arr_0 x_l0 r2_l1 (ZM arr_0 x_l0 r2_l1 k x_l0_1 r2_l1_1)).1 (Z4I arr_0 x_l0 r2_l1 (ZM arr_0 x_l0 r2_l1 k x_l0_1 r2_l1_1)).2 := by
 intro k
 induction k with
 | zero => intro x_l0_1 r2_l1_1 Z5L Z5M hk; exact absurd hk (Nat.not_lt_zero _)
 | succ k ih =>
  intro x_l0_1 r2_l1_1 Z5L Z5M hk
  cases h__0 : (decide (x_l0_1 < 3)) with
  | true =>
   have gh__0 := of_decide_eq_true h__0
   have y__0 : (-9223372036854775808 : Int) ≤ (x_l0_1 + 1) := (by omega)
   have y__1 : (x_l0_1 + 1) ≤ (9223372036854775807 : Int) := (by omega)
   have y__2 : (0 : Int) ≤ (Int.tmod (x_l0_1 + 1) 3) := (by have q := Z1F hp5.e (by assumption) (of_decide_eq_true Z1r) (by assumption) gh__0; omega)
   have y__3 : (Int.tmod (x_l0_1 + 1) 3) < ((arr_0.Mesh.Triangles.getD x_l0.toNat default).length : Int) := (by have q := Z1F hp5.e (by assumption) (of_decide_eq_true Z1r) (by assumption) gh__0; omega)
   have y__4 : (-9223372036854775808 : Int) ≤ (x_l0_1 + 2) := (by omega)
   have y__5 : (x_l0_1 + 2) ≤ (9223372036854775807 : Int) := (by omega)
   have y__6 : (0 : Int) ≤ (Int.tmod (x_l0_1 + 2) 3) := (by have q := Z1F hp5.e (by assumption) (of_decide_eq_true Z1r) (by assumption) gh__0; omega)
   have y__7 : (Int.tmod (x_l0_1 + 2) 3) < ((arr_0.Mesh.Triangles.getD x_l0.toNat default).length : Int) := (by have q := Z1F hp5.e (by assumption) (of_decide_eq_true Z1r) (by assumption) gh__0; omega)
   have y__8 : (0 : Int) ≤ x_l0_1 := (by assumption)
   have y__9 : x_l0_1 < ((arr_0.Mesh.Triangles.getD x_l0.toNat default).length : Int) := (by have q := Z1F hp5.e (by assumption) (of_decide_eq_true Z1r) (by assumption) gh__0; omega)
   have y__10 : (0 : Int) ≤ ((arr_0.Mesh.Triangles.getD x_l0.toNat default).getD (Int.tmod (x_l0_1 + 2) 3).toNat default) := (by have q := Z1F hp5.e (by assumption) (of_decide_eq_true Z1r) (by assumption) gh__0; omega)
   have y__11 : ((arr_0.Mesh.Triangles.getD x_l0.toNat default).getD (Int.tmod (x_l0_1 + 2) 3).toNat default) < (arr_0.Mesh.Places.length : Int) := (by have q := Z1F hp5.e (by assumption) (of_decide_eq_true Z1r) (by assumption) gh__0; omega)
   have y__12 : (0 : Int) ≤ ((arr_0.Mesh.Triangles.getD x_l0.toNat default).getD (Int.tmod (x_l0_1 + 1) 3).toNat default) := (by have q := Z1F hp5.e (by assumption) (of_decide_eq_true Z1r) (by assumption) gh__0; omega)
   have y__13 : ((arr_0.Mesh.Triangles.getD x_l0.toNat default).getD (Int.tmod (x_l0_1 + 1) 3).toNat default) < (arr_0.Mesh.Places.length : Int) := (by have q := Z1F hp5.e (by assumption) (of_decide_eq_true Z1r) (by assumption) gh__0; omega)
   have y__14 : r2_l1_1.length ≤ 1073741824 := (by omega)
   have y__15 : 0 ≤ ((arr_0.Mesh.Triangles.getD x_l0.toNat default).getD x_l0_1.toNat default) := (by have q := Z1F hp5.e (by assumption) (of_decide_eq_true Z1r) (by assumption) gh__0; omega)
   have y__16 : ((arr_0.Mesh.Triangles.getD x_l0.toNat default).getD x_l0_1.toNat default) < (r2_l1_1.length : Int) := (by have q := Z1F hp5.e (by assumption) (of_decide_eq_true Z1r) (by assumption) gh__0; omega)
   have e : ZM arr_0 x_l0 r2_l1 (k + 1) x_l0_1 r2_l1_1 = (ZM arr_0 x_l0 r2_l1 k (x_l0_1 + 1) (Z2r arr_0 x_l0 x_l0_1 r2_l1_1)) := by simp only [ZM, h__0, cond_true]
   rw [e]
   exact nextR E0Ok Z3 [] Z5K [0, 1, 2, 3] (ih (x_l0_1 + 1) (Z2r arr_0 x_l0 x_l0_1 r2_l1_1) (show 0 ≤ (x_l0_1 + 1) from (by omega)) (show (Z2r arr_0 x_l0 x_l0_1 r2_l1_1).length = r2_l1.length from (by simp_all <;> omega)) (by omega)) (sB h__0 <| sK [13, 13] <| sI (x_l0_1 + 1) y__0 y__1 <| sC (show (3 : Int) ≠ 0 from (by decide)) <| sQ (Int.tmod (x_l0_1 + 1) 3) <| sG (cI .i64) (arr_0.Mesh.Triangles.getD x_l0.toNat default) (Int.tmod (x_l0_1 + 1) 3) y__2 y__3 <| sI (x_l0_1 + 2) y__4 y__5 <| sC (show (3 : Int) ≠ 0 from (by decide)) <| sQ (Int.tmod (x_l0_1 + 2) 3) <| sG (cI .i64) (arr_0.Mesh.Triangles.getD x_l0.toNat default) (Int.tmod (x_l0_1 + 2) 3) y__6 y__7 <| sK [17, 17] <| sG (cI .i64) (arr_0.Mesh.Triangles.getD x_l0.toNat default) x_l0_1 y__8 y__9 <| sG GVector.cells arr_0.Mesh.Places ((arr_0.Mesh.Triangles.getD x_l0.toNat default).getD (Int.tmod (x_l0_1 + 2) 3).toNat default) y__10 y__11 <| sG GVector.cells arr_0.Mesh.Places ((arr_0.Mesh.Triangles.getD x_l0.toNat default).getD (Int.tmod (x_l0_1 + 1) 3).toNat default) y__12 y__13 <| sF (Z30 (arr_0.Mesh.Places.getD ((arr_0.Mesh.Triangles.getD x_l0.toNat default).getD (Int.tmod (x_l0_1 + 2) 3).toNat default).toNat default) (arr_0.Mesh.Places.getD ((arr_0.Mesh.Triangles.getD x_l0.toNat default).getD (Int.tmod (x_l0_1 + 1) 3).toNat default).toNat default)) <| sF (Z6i (Z7 arr_0.Mesh (arr_0.Mesh.Triangles.getD x_l0.toNat default)) (Z1t arr_0 x_l0 x_l0_1)) <| sS (CallSt.frame (Z1i ((arr_0.Mesh.Triangles.getD x_l0.toNat default).getD x_l0_1.toNat default) (Z1H (Z7 arr_0.Mesh (arr_0.Mesh.Triangles.getD x_l0.toNat default)) (Z1t arr_0 x_l0 x_l0_1)) (fop .quo .f32 (fneg .f32 (fop .mul .f32 1056964608 arr_0.Film)) (Zd (Z7 arr_0.Mesh (arr_0.Mesh.Triangles.getD x_l0.toNat default)))) r2_l1_1 y__14 y__15 y__16) [1, 2] (R := [.box 42 [.sl (arr_0.Mesh.Places.map GVector.cells), .sl (arr_0.Mesh.Triangles.map (cL (cI .i64))), .sl (arr_0.Springs.map GSpring.cells), .f .f32 arr_0.Film, .f .f32 arr_0.Bend, .sl (arr_0.Weights.map (cF .f32)), .f .f32 arr_0.Fall.X, .f .f32 arr_0.Fall.Y, .f .f32 arr_0.Fall.Z], .box 34 [.own 2], .vec 40 3 (r2_l1_1.map GVector.cells) false, .box 40 [.f .f32 ((Z7 arr_0.Mesh (arr_0.Mesh.Triangles.getD x_l0.toNat default)).X), .f .f32 ((Z7 arr_0.Mesh (arr_0.Mesh.Triangles.getD x_l0.toNat default)).Y), .f .f32 ((Z7 arr_0.Mesh (arr_0.Mesh.Triangles.getD x_l0.toNat default)).Z)]]) (args' := [.i .i64 ((arr_0.Mesh.Triangles.getD x_l0.toNat default).getD x_l0_1.toNat default), .agg [.f .f32 ((Z1H (Z7 arr_0.Mesh (arr_0.Mesh.Triangles.getD x_l0.toNat default)) (Z1t arr_0 x_l0 x_l0_1)).X), .f .f32 ((Z1H (Z7 arr_0.Mesh (arr_0.Mesh.Triangles.getD x_l0.toNat default)) (Z1t arr_0 x_l0 x_l0_1)).Y), .f .f32 ((Z1H (Z7 arr_0.Mesh (arr_0.Mesh.Triangles.getD x_l0.toNat default)) (Z1t arr_0 x_l0 x_l0_1)).Z)], .f .f32 (fop .quo .f32 (fneg .f32 (fop .mul .f32 1056964608 arr_0.Film)) (Zd (Z7 arr_0.Mesh (arr_0.Mesh.Triangles.getD x_l0.toNat default)))), .ptr 1 0 0]) rfl rfl rfl rfl rfl rfl) <| sI (x_l0_1 + 1) y__0 y__1 <| sN) (by kernel_rfl)
  | false =>
   have gh__0 := of_decide_eq_false h__0
   have e : ZM arr_0 x_l0 r2_l1 (k + 1) x_l0_1 r2_l1_1 = r2_l1_1 := by simp only [ZM, h__0, cond_false]
   rw [e]
   exact outR (e := (.exit 4)) E0Ok Z3 [] Z7l [0, 1, 3, 2] (sB h__0 <| sN) (by kernel_rfl) (by intro h; cases h)
theorem Z7m (arr_0 : GBody) (x_l0 : Int) (r2_l1 : (List GVector)) : ∀ (k : Nat) (x_l0_1 : Int) (r2_l1_1 : (List GVector)) (hk : ((3 : Int) - x_l0_1).toNat < k), (ZM arr_0 x_l0 r2_l1 k x_l0_1 r2_l1_1).length = r2_l1_1.length := by
  intro k
  induction k with
  | zero => intro x_l0_1 r2_l1_1 hk; exact absurd hk (Nat.not_lt_zero _)
  | succ k ih =>
    intro x_l0_1 r2_l1_1 hk
    cases h__0 : (decide (x_l0_1 < 3)) with
    | true =>
      have e : ZM arr_0 x_l0 r2_l1 (k + 1) x_l0_1 r2_l1_1 = (ZM arr_0 x_l0 r2_l1 k (x_l0_1 + 1) (Z2r arr_0 x_l0 x_l0_1 r2_l1_1)) := by simp only [ZM, h__0, cond_true]
      rw [e, ih (x_l0_1 + 1) (Z2r arr_0 x_l0 x_l0_1 r2_l1_1) (by simp_all <;> omega)]; simp
    | false =>
      have e : ZM arr_0 x_l0 r2_l1 (k + 1) x_l0_1 r2_l1_1 = r2_l1_1 := by simp only [ZM, h__0, cond_false]
      first | (rw [e]; done) | (rw [e]; rfl)
def Z1P (arr_0 : GBody) (x_l0 : Int) (r2_l1 : (List GVector)) : (List GVector) := (ZM arr_0 x_l0 r2_l1 (((3 : Int) - 0).toNat + 1) 0 r2_l1)
@[simp] theorem Za2 (arr_0 : GBody) (x_l0 : Int) (r2_l1 : (List GVector)) : (Z1P arr_0 x_l0 r2_l1).length = (r2_l1 : (List GVector)).length := Z7m arr_0 x_l0 r2_l1 (((3 : Int) - 0).toNat + 1) 0 r2_l1 (by exact Nat.lt_succ_self _)
def Z2s (arr_0 : GBody) (x_l0 : Int) (x_l0_1 : Int) (r2_l1_1 : (List GVector)) : (List GVector) := (Zh ((arr_0.Mesh.Triangles.getD x_l0.toNat default).getD x_l0_1.toNat default) (Z1H (Z7 arr_0.Mesh (arr_0.Mesh.Triangles.getD x_l0.toNat default)) (Z1t arr_0 x_l0 x_l0_1)) 0 r2_l1_1)
@[simp] theorem Zaw (arr_0 : GBody) (x_l0 : Int) (x_l0_1 : Int) (r2_l1_1 : (List GVector)) : (Z2s arr_0 x_l0 x_l0_1 r2_l1_1).length = r2_l1_1.length := by unfold Z2s; simp
def ZN (arr_0 : GBody) (x_l0 : Int) (r2_l1 : (List GVector)) : Nat → Int → (List GVector) → (List GVector)
  | 0, _, _ => default
  | k + 1, x_l0_1, r2_l1_1 => (cond (decide (x_l0_1 < 3))
    (ZN arr_0 x_l0 r2_l1 k (x_l0_1 + 1) (Z2s arr_0 x_l0 x_l0_1 r2_l1_1))
    r2_l1_1)
def Z4J (arr_0 : GBody) (x_l0 : Int) (r2_l1 : (List GVector)) (r : (List GVector)) : Ex × St := ((.exit 4), ⟨.agg [.sl (arr_0.Mesh.Places.map GVector.cells), .sl (arr_0.Mesh.Triangles.map (cL (cI .i64))), .sl (arr_0.Springs.map GSpring.cells), .f .f32 arr_0.Film, .f .f32 arr_0.Bend, .sl (arr_0.Weights.map (cF .f32)), .f .f32 arr_0.Fall.X, .f .f32 arr_0.Fall.Y, .f .f32 arr_0.Fall.Z] :: .ptr 0 0 0 :: .nils :: .ptr 1 0 0 :: .fn 106 [.ptr 1 0 0] :: an 4 (.sl (arr_0.Mesh.Places.map GVector.cells) :: .any :: .sl ((arr_0.Mesh.Triangles.getD x_l0.toNat default).map (cI .i64)) :: .ptr 2 0 0 :: .f .f32 0 :: .f .f32 (Zd (Z7 arr_0.Mesh (arr_0.Mesh.Triangles.getD x_l0.toNat default))) :: an 8 (.ptr 0 0 0 :: .ptr 0 0 0 :: .sl (arr_0.Mesh.Places.map GVector.cells) :: .i .i64 (arr_0.Mesh.Places.length : Int) :: .own 3 :: .fn 106 [.ptr 1 0 0] :: .ptr 0 0 2 :: .sl (arr_0.Springs.map GSpring.cells) :: an 25 (.ptr 0 0 0 :: .ptr 0 0 0 :: .sl (arr_0.Mesh.Places.map GVector.cells) :: .ptr 0 0 0 :: .ptr 0 0 1 :: .sl (arr_0.Mesh.Triangles.map (cL (cI .i64))) :: .i .i64 (arr_0.Mesh.Triangles.length : Int) :: .i .i64 x_l0 :: .b (decide (x_l0 < (arr_0.Mesh.Triangles.length : Int))) :: .ref [.sl ((arr_0.Mesh.Triangles.getD x_l0.toNat default).map (cI .i64))] 0 :: .sl ((arr_0.Mesh.Triangles.getD x_l0.toNat default).map (cI .i64)) :: .ptr 0 0 0 :: .agg [.sl (arr_0.Mesh.Places.map GVector.cells), .sl (arr_0.Mesh.Triangles.map (cL (cI .i64)))] :: .sl ((arr_0.Mesh.Triangles.getD x_l0.toNat default).map (cI .i64)) :: .agg [.f .f32 ((Z7 arr_0.Mesh (arr_0.Mesh.Triangles.getD x_l0.toNat default)).X), .f .f32 ((Z7 arr_0.Mesh (arr_0.Mesh.Triangles.getD x_l0.toNat default)).Y), .f .f32 ((Z7 arr_0.Mesh (arr_0.Mesh.Triangles.getD x_l0.toNat default)).Z)] :: .agg [.f .f32 ((Z7 arr_0.Mesh (arr_0.Mesh.Triangles.getD x_l0.toNat default)).X), .f .f32 ((Z7 arr_0.Mesh (arr_0.Mesh.Triangles.getD x_l0.toNat default)).Y), .f .f32 ((Z7 arr_0.Mesh (arr_0.Mesh.Triangles.getD x_l0.toNat default)).Z)] :: .f .f32 (Zd (Z7 arr_0.Mesh (arr_0.Mesh.Triangles.getD x_l0.toNat default))) :: .f .f32 (Zd (Z7 arr_0.Mesh (arr_0.Mesh.Triangles.getD x_l0.toNat default))) :: .b (fcmp .gtr .f32 (Zd (Z7 arr_0.Mesh (arr_0.Mesh.Triangles.getD x_l0.toNat default))) 0) :: an 104 []))), [.box 42 [.sl (arr_0.Mesh.Places.map GVector.cells), .sl (arr_0.Mesh.Triangles.map (cL (cI .i64))), .sl (arr_0.Springs.map GSpring.cells), .f .f32 arr_0.Film, .f .f32 arr_0.Bend, .sl (arr_0.Weights.map (cF .f32)), .f .f32 arr_0.Fall.X, .f .f32 arr_0.Fall.Y, .f .f32 arr_0.Fall.Z], .box 34 [.own 3], .box 40 [.f .f32 ((Z7 arr_0.Mesh (arr_0.Mesh.Triangles.getD x_l0.toNat default)).X), .f .f32 ((Z7 arr_0.Mesh (arr_0.Mesh.Triangles.getD x_l0.toNat default)).Y), .f .f32 ((Z7 arr_0.Mesh (arr_0.Mesh.Triangles.getD x_l0.toNat default)).Z)], .vec 40 3 (r.map GVector.cells) false]⟩)
def Z8h (arr_0 : GBody) (x_l0 : Int) (r2_l1 : (List GVector)) (x_l0_1 : Int) (r2_l1_1 : (List GVector)) : St := ⟨.agg [.sl (arr_0.Mesh.Places.map GVector.cells), .sl (arr_0.Mesh.Triangles.map (cL (cI .i64))), .sl (arr_0.Springs.map GSpring.cells), .f .f32 arr_0.Film, .f .f32 arr_0.Bend, .sl (arr_0.Weights.map (cF .f32)), .f .f32 arr_0.Fall.X, .f .f32 arr_0.Fall.Y, .f .f32 arr_0.Fall.Z] :: .ptr 0 0 0 :: .nils :: .ptr 1 0 0 :: .fn 106 [.ptr 1 0 0] :: an 4 (.sl (arr_0.Mesh.Places.map GVector.cells) :: .any :: .sl ((arr_0.Mesh.Triangles.getD x_l0.toNat default).map (cI .i64)) :: .ptr 3 0 0 :: .f .f32 0 :: .f .f32 (Zd (Z7 arr_0.Mesh (arr_0.Mesh.Triangles.getD x_l0.toNat default))) :: an 8 (.ptr 0 0 0 :: .ptr 0 0 0 :: .sl (arr_0.Mesh.Places.map GVector.cells) :: .i .i64 (arr_0.Mesh.Places.length : Int) :: .own 2 :: .fn 106 [.ptr 1 0 0] :: .ptr 0 0 2 :: .sl (arr_0.Springs.map GSpring.cells) :: an 25 (.ptr 0 0 0 :: .ptr 0 0 0 :: .sl (arr_0.Mesh.Places.map GVector.cells) :: .ptr 0 0 0 :: .ptr 0 0 1 :: .sl (arr_0.Mesh.Triangles.map (cL (cI .i64))) :: .i .i64 (arr_0.Mesh.Triangles.length : Int) :: .i .i64 x_l0 :: .b (decide (x_l0 < (arr_0.Mesh.Triangles.length : Int))) :: .ref [.sl ((arr_0.Mesh.Triangles.getD x_l0.toNat default).map (cI .i64))] 0 :: .sl ((arr_0.Mesh.Triangles.getD x_l0.toNat default).map (cI .i64)) :: .ptr 0 0 0 :: .agg [.sl (arr_0.Mesh.Places.map GVector.cells), .sl (arr_0.Mesh.Triangles.map (cL (cI .i64)))] :: .sl ((arr_0.Mesh.Triangles.getD x_l0.toNat default).map (cI .i64)) :: .agg [.f .f32 ((Z7 arr_0.Mesh (arr_0.Mesh.Triangles.getD x_l0.toNat default)).X), .f .f32 ((Z7 arr_0.Mesh (arr_0.Mesh.Triangles.getD x_l0.toNat default)).Y), .f .f32 ((Z7 arr_0.Mesh (arr_0.Mesh.Triangles.getD x_l0.toNat default)).Z)] :: .agg [.f .f32 ((Z7 arr_0.Mesh (arr_0.Mesh.Triangles.getD x_l0.toNat default)).X), .f .f32 ((Z7 arr_0.Mesh (arr_0.Mesh.Triangles.getD x_l0.toNat default)).Y), .f .f32 ((Z7 arr_0.Mesh (arr_0.Mesh.Triangles.getD x_l0.toNat default)).Z)] :: .f .f32 (Zd (Z7 arr_0.Mesh (arr_0.Mesh.Triangles.getD x_l0.toNat default))) :: .f .f32 (Zd (Z7 arr_0.Mesh (arr_0.Mesh.Triangles.getD x_l0.toNat default))) :: .b (fcmp .gtr .f32 (Zd (Z7 arr_0.Mesh (arr_0.Mesh.Triangles.getD x_l0.toNat default))) 0) :: an 6 (.i .i64 x_l0_1 :: an 97 [])))), [.box 42 [.sl (arr_0.Mesh.Places.map GVector.cells), .sl (arr_0.Mesh.Triangles.map (cL (cI .i64))), .sl (arr_0.Springs.map GSpring.cells), .f .f32 arr_0.Film, .f .f32 arr_0.Bend, .sl (arr_0.Weights.map (cF .f32)), .f .f32 arr_0.Fall.X, .f .f32 arr_0.Fall.Y, .f .f32 arr_0.Fall.Z], .box 34 [.own 2], .vec 40 3 (r2_l1_1.map GVector.cells) false, .box 40 [.f .f32 ((Z7 arr_0.Mesh (arr_0.Mesh.Triangles.getD x_l0.toNat default)).X), .f .f32 ((Z7 arr_0.Mesh (arr_0.Mesh.Triangles.getD x_l0.toNat default)).Y), .f .f32 ((Z7 arr_0.Mesh (arr_0.Mesh.Triangles.getD x_l0.toNat default)).Z)]]⟩
def Z5N : List Bool := (mR false [0, 5, 4, 1, 1, 4, 8, 8, 25, 19, 6, 1, 97])
def Z7n : List Bool := (mR false [0, 5, 4, 1, 1, 4, 8, 8, 25, 19, 104])
theorem Z8i (arr_0 : GBody) (x_l0 : Int) (r2_l1 : (List GVector)) (hp0 : arr_0.Mesh.Places.length ≤ 1073741824) (hp1 : arr_0.Mesh.Triangles.length ≤ 1073741824) (hp2 : ∀ t ∈ arr_0.Mesh.Triangles, t.length ≤ 1073741824) (hp3 : arr_0.Springs.length ≤ 1073741824) (hp4 : arr_0.Weights.length ≤ 1073741824) (hp5 : OkBd arr_0) (Z2K : 0 ≤ x_l0) (Z2L : r2_l1.length = arr_0.Mesh.Places.length) (Z1s : (decide (x_l0 < (arr_0.Mesh.Triangles.length : Int))) = true) : ∀ (k : Nat) (x_l0_1 : Int) (r2_l1_1 : (List GVector)) (Z5O : 0 ≤ x_l0_1) (Z5P : r2_l1_1.length = r2_l1.length) (hk : ((3 : Int) - x_l0_1).toNat < k), Lp prog 0 (sub (bodyOf f57) [1, 1, 1, 1, 1, 0, 1, 0, 0, 1, 1, 0, 0, 1, 1, 1, 1, 1, 0, 0]) (Z8h arr_0 x_l0 r2_l1 x_l0_1 r2_l1_1) (Z4J arr_0 x_l0 r2_l1 (ZN arr_0 x_l0 r2_l1 k x_l0_1 r2_l1_1)).1 (Z4J arr_0 x_l0 r2_l1 (ZN arr_0 x_l0 r2_l1 k x_l0_1 r2_l1_1)).2 := by
 intro k
 induction k with
 | zero => intro x_l0_1 r2_l1_1 Z5O Z5P hk; exact absurd hk (Nat.not_lt_zero _)
 | succ k ih =>
  intro x_l0_1 r2_l1_1 Z5O Z5P hk
  cases h__0 : (decide (x_l0_1 < 3)) with
  | true =>
   have gh__0 := of_decide_eq_true h__0
   have y__0 : (-9223372036854775808 : Int) ≤ (x_l0_1 + 1) := (by omega)
   have y__1 : (x_l0_1 + 1) ≤ (9223372036854775807 : Int) := (by omega)
   have y__2 : (0 : Int) ≤ (Int.tmod (x_l0_1 + 1) 3) := (by have q := Z1F hp5.e (by assumption) (of_decide_eq_true Z1s) (by assumption) gh__0; omega)
   have y__3 : (Int.tmod (x_l0_1 + 1) 3) < ((arr_0.Mesh.Triangles.getD x_l0.toNat default).length : Int) := (by have q := Z1F hp5.e (by assumption) (of_decide_eq_true Z1s) (by assumption) gh__0; omega)
   have y__4 : (-9223372036854775808 : Int) ≤ (x_l0_1 + 2) := (by omega)
   have y__5 : (x_l0_1 + 2) ≤ (9223372036854775807 : Int) := (by omega)
   have y__6 : (0 : Int) ≤ (Int.tmod (x_l0_1 + 2) 3) := (by have q := Z1F hp5.e (by assumption) (of_decide_eq_true Z1s) (by assumption) gh__0; omega)
   have y__7 : (Int.tmod (x_l0_1 + 2) 3) < ((arr_0.Mesh.Triangles.getD x_l0.toNat default).length : Int) := (by have q := Z1F hp5.e (by assumption) (of_decide_eq_true Z1s) (by assumption) gh__0; omega)
   have y__8 : (0 : Int) ≤ x_l0_1 := (by assumption)
   have y__9 : x_l0_1 < ((arr_0.Mesh.Triangles.getD x_l0.toNat default).length : Int) := (by have q := Z1F hp5.e (by assumption) (of_decide_eq_true Z1s) (by assumption) gh__0; omega)
   have y__10 : (0 : Int) ≤ ((arr_0.Mesh.Triangles.getD x_l0.toNat default).getD (Int.tmod (x_l0_1 + 2) 3).toNat default) := (by have q := Z1F hp5.e (by assumption) (of_decide_eq_true Z1s) (by assumption) gh__0; omega)
   have y__11 : ((arr_0.Mesh.Triangles.getD x_l0.toNat default).getD (Int.tmod (x_l0_1 + 2) 3).toNat default) < (arr_0.Mesh.Places.length : Int) := (by have q := Z1F hp5.e (by assumption) (of_decide_eq_true Z1s) (by assumption) gh__0; omega)
   have y__12 : (0 : Int) ≤ ((arr_0.Mesh.Triangles.getD x_l0.toNat default).getD (Int.tmod (x_l0_1 + 1) 3).toNat default) := (by have q := Z1F hp5.e (by assumption) (of_decide_eq_true Z1s) (by assumption) gh__0; omega)
   have y__13 : ((arr_0.Mesh.Triangles.getD x_l0.toNat default).getD (Int.tmod (x_l0_1 + 1) 3).toNat default) < (arr_0.Mesh.Places.length : Int) := (by have q := Z1F hp5.e (by assumption) (of_decide_eq_true Z1s) (by assumption) gh__0; omega)
   have y__14 : r2_l1_1.length ≤ 1073741824 := (by omega)
   have y__15 : 0 ≤ ((arr_0.Mesh.Triangles.getD x_l0.toNat default).getD x_l0_1.toNat default) := (by have q := Z1F hp5.e (by assumption) (of_decide_eq_true Z1s) (by assumption) gh__0; omega)
   have y__16 : ((arr_0.Mesh.Triangles.getD x_l0.toNat default).getD x_l0_1.toNat default) < (r2_l1_1.length : Int) := (by have q := Z1F hp5.e (by assumption) (of_decide_eq_true Z1s) (by assumption) gh__0; omega)
   have e : ZN arr_0 x_l0 r2_l1 (k + 1) x_l0_1 r2_l1_1 = (ZN arr_0 x_l0 r2_l1 k (x_l0_1 + 1) (Z2s arr_0 x_l0 x_l0_1 r2_l1_1)) := by simp only [ZN, h__0, cond_true]
   rw [e]
   exact nextR E0Ok Z3 [] Z5N [0, 1, 2, 3] (ih (x_l0_1 + 1) (Z2s arr_0 x_l0 x_l0_1 r2_l1_1) (show 0 ≤ (x_l0_1 + 1) from (by omega)) (show (Z2s arr_0 x_l0 x_l0_1 r2_l1_1).length = r2_l1.length from (by simp_all <;> omega)) (by omega)) (sB h__0 <| sK [13, 13] <| sI (x_l0_1 + 1) y__0 y__1 <| sC (show (3 : Int) ≠ 0 from (by decide)) <| sQ (Int.tmod (x_l0_1 + 1) 3) <| sG (cI .i64) (arr_0.Mesh.Triangles.getD x_l0.toNat default) (Int.tmod (x_l0_1 + 1) 3) y__2 y__3 <| sI (x_l0_1 + 2) y__4 y__5 <| sC (show (3 : Int) ≠ 0 from (by decide)) <| sQ (Int.tmod (x_l0_1 + 2) 3) <| sG (cI .i64) (arr_0.Mesh.Triangles.getD x_l0.toNat default) (Int.tmod (x_l0_1 + 2) 3) y__6 y__7 <| sK [17, 17] <| sG (cI .i64) (arr_0.Mesh.Triangles.getD x_l0.toNat default) x_l0_1 y__8 y__9 <| sG GVector.cells arr_0.Mesh.Places ((arr_0.Mesh.Triangles.getD x_l0.toNat default).getD (Int.tmod (x_l0_1 + 2) 3).toNat default) y__10 y__11 <| sG GVector.cells arr_0.Mesh.Places ((arr_0.Mesh.Triangles.getD x_l0.toNat default).getD (Int.tmod (x_l0_1 + 1) 3).toNat default) y__12 y__13 <| sF (Z30 (arr_0.Mesh.Places.getD ((arr_0.Mesh.Triangles.getD x_l0.toNat default).getD (Int.tmod (x_l0_1 + 2) 3).toNat default).toNat default) (arr_0.Mesh.Places.getD ((arr_0.Mesh.Triangles.getD x_l0.toNat default).getD (Int.tmod (x_l0_1 + 1) 3).toNat default).toNat default)) <| sF (Z6i (Z7 arr_0.Mesh (arr_0.Mesh.Triangles.getD x_l0.toNat default)) (Z1t arr_0 x_l0 x_l0_1)) <| sS (CallSt.frame (Z1i ((arr_0.Mesh.Triangles.getD x_l0.toNat default).getD x_l0_1.toNat default) (Z1H (Z7 arr_0.Mesh (arr_0.Mesh.Triangles.getD x_l0.toNat default)) (Z1t arr_0 x_l0 x_l0_1)) 0 r2_l1_1 y__14 y__15 y__16) [1, 2] (R := [.box 42 [.sl (arr_0.Mesh.Places.map GVector.cells), .sl (arr_0.Mesh.Triangles.map (cL (cI .i64))), .sl (arr_0.Springs.map GSpring.cells), .f .f32 arr_0.Film, .f .f32 arr_0.Bend, .sl (arr_0.Weights.map (cF .f32)), .f .f32 arr_0.Fall.X, .f .f32 arr_0.Fall.Y, .f .f32 arr_0.Fall.Z], .box 34 [.own 2], .vec 40 3 (r2_l1_1.map GVector.cells) false, .box 40 [.f .f32 ((Z7 arr_0.Mesh (arr_0.Mesh.Triangles.getD x_l0.toNat default)).X), .f .f32 ((Z7 arr_0.Mesh (arr_0.Mesh.Triangles.getD x_l0.toNat default)).Y), .f .f32 ((Z7 arr_0.Mesh (arr_0.Mesh.Triangles.getD x_l0.toNat default)).Z)]]) (args' := [.i .i64 ((arr_0.Mesh.Triangles.getD x_l0.toNat default).getD x_l0_1.toNat default), .agg [.f .f32 ((Z1H (Z7 arr_0.Mesh (arr_0.Mesh.Triangles.getD x_l0.toNat default)) (Z1t arr_0 x_l0 x_l0_1)).X), .f .f32 ((Z1H (Z7 arr_0.Mesh (arr_0.Mesh.Triangles.getD x_l0.toNat default)) (Z1t arr_0 x_l0 x_l0_1)).Y), .f .f32 ((Z1H (Z7 arr_0.Mesh (arr_0.Mesh.Triangles.getD x_l0.toNat default)) (Z1t arr_0 x_l0 x_l0_1)).Z)], .f .f32 0, .ptr 1 0 0]) rfl rfl rfl rfl rfl rfl) <| sI (x_l0_1 + 1) y__0 y__1 <| sN) (by kernel_rfl)
  | false =>
   have gh__0 := of_decide_eq_false h__0
   have e : ZN arr_0 x_l0 r2_l1 (k + 1) x_l0_1 r2_l1_1 = r2_l1_1 := by simp only [ZN, h__0, cond_false]
   rw [e]
   exact outR (e := (.exit 4)) E0Ok Z3 [] Z7n [0, 1, 3, 2] (sB h__0 <| sN) (by kernel_rfl) (by intro h; cases h)
theorem Z7o (arr_0 : GBody) (x_l0 : Int) (r2_l1 : (List GVector)) : ∀ (k : Nat) (x_l0_1 : Int) (r2_l1_1 : (List GVector)) (hk : ((3 : Int) - x_l0_1).toNat < k), (ZN arr_0 x_l0 r2_l1 k x_l0_1 r2_l1_1).length = r2_l1_1.length := by
  intro k
  induction k with
  | zero => intro x_l0_1 r2_l1_1 hk; exact absurd hk (Nat.not_lt_zero _)
  | succ k ih =>
    intro x_l0_1 r2_l1_1 hk
    cases h__0 : (decide (x_l0_1 < 3)) with
    | true =>
      have e : ZN arr_0 x_l0 r2_l1 (k + 1) x_l0_1 r2_l1_1 = (ZN arr_0 x_l0 r2_l1 k (x_l0_1 + 1) (Z2s arr_0 x_l0 x_l0_1 r2_l1_1)) := by simp only [ZN, h__0, cond_true]
      rw [e, ih (x_l0_1 + 1) (Z2s arr_0 x_l0 x_l0_1 r2_l1_1) (by simp_all <;> omega)]; simp
    | false =>
      have e : ZN arr_0 x_l0 r2_l1 (k + 1) x_l0_1 r2_l1_1 = r2_l1_1 := by simp only [ZN, h__0, cond_false]
      first | (rw [e]; done) | (rw [e]; rfl)
def Z1Q (arr_0 : GBody) (x_l0 : Int) (r2_l1 : (List GVector)) : (List GVector) := (ZN arr_0 x_l0 r2_l1 (((3 : Int) - 0).toNat + 1) 0 r2_l1)
@[simp] theorem Za3 (arr_0 : GBody) (x_l0 : Int) (r2_l1 : (List GVector)) : (Z1Q arr_0 x_l0 r2_l1).length = (r2_l1 : (List GVector)).length := Z7o arr_0 x_l0 r2_l1 (((3 : Int) - 0).toNat + 1) 0 r2_l1 (by exact Nat.lt_succ_self _)
def Zj (arr_0 : GBody) : Nat → Int → (List GVector) → (List GVector)
  | 0, _, _ => default
  | k + 1, x_l0, r2_l1 => (cond (decide (x_l0 < (arr_0.Mesh.Triangles.length : Int)))
    (cond (fcmp .gtr .f32 (Zd (Z7 arr_0.Mesh (arr_0.Mesh.Triangles.getD x_l0.toNat default))) 0)
      (Zj arr_0 k (x_l0 + 1) (Z1P arr_0 x_l0 r2_l1))
      (Zj arr_0 k (x_l0 + 1) (Z1Q arr_0 x_l0 r2_l1)))
    r2_l1)
def Z4K (arr_0 : GBody) (r : (List GVector)) : Ex × St := ((.exit 2), ⟨.agg [.sl (arr_0.Mesh.Places.map GVector.cells), .sl (arr_0.Mesh.Triangles.map (cL (cI .i64))), .sl (arr_0.Springs.map GSpring.cells), .f .f32 arr_0.Film, .f .f32 arr_0.Bend, .sl (arr_0.Weights.map (cF .f32)), .f .f32 arr_0.Fall.X, .f .f32 arr_0.Fall.Y, .f .f32 arr_0.Fall.Z] :: .ptr 0 0 0 :: .nils :: .ptr 1 0 0 :: .fn 106 [.ptr 1 0 0] :: an 18 (.ptr 0 0 0 :: .ptr 0 0 0 :: .sl (arr_0.Mesh.Places.map GVector.cells) :: .i .i64 (arr_0.Mesh.Places.length : Int) :: .own 2 :: .fn 106 [.ptr 1 0 0] :: .ptr 0 0 2 :: .sl (arr_0.Springs.map GSpring.cells) :: an 25 (.ptr 0 0 0 :: .ptr 0 0 0 :: .sl (arr_0.Mesh.Places.map GVector.cells) :: .ptr 0 0 0 :: .ptr 0 0 1 :: .sl (arr_0.Mesh.Triangles.map (cL (cI .i64))) :: an 117 [])), [.box 42 [.sl (arr_0.Mesh.Places.map GVector.cells), .sl (arr_0.Mesh.Triangles.map (cL (cI .i64))), .sl (arr_0.Springs.map GSpring.cells), .f .f32 arr_0.Film, .f .f32 arr_0.Bend, .sl (arr_0.Weights.map (cF .f32)), .f .f32 arr_0.Fall.X, .f .f32 arr_0.Fall.Y, .f .f32 arr_0.Fall.Z], .box 34 [.own 2], .vec 40 3 (r.map GVector.cells) false]⟩)
def Z8j (arr_0 : GBody) (x_l0 : Int) (r2_l1 : (List GVector)) : St := ⟨.agg [.sl (arr_0.Mesh.Places.map GVector.cells), .sl (arr_0.Mesh.Triangles.map (cL (cI .i64))), .sl (arr_0.Springs.map GSpring.cells), .f .f32 arr_0.Film, .f .f32 arr_0.Bend, .sl (arr_0.Weights.map (cF .f32)), .f .f32 arr_0.Fall.X, .f .f32 arr_0.Fall.Y, .f .f32 arr_0.Fall.Z] :: .ptr 0 0 0 :: .nils :: .ptr 1 0 0 :: .fn 106 [.ptr 1 0 0] :: an 4 (.sl (arr_0.Mesh.Places.map GVector.cells) :: an 13 (.ptr 0 0 0 :: .ptr 0 0 0 :: .sl (arr_0.Mesh.Places.map GVector.cells) :: .i .i64 (arr_0.Mesh.Places.length : Int) :: .own 2 :: .fn 106 [.ptr 1 0 0] :: .ptr 0 0 2 :: .sl (arr_0.Springs.map GSpring.cells) :: an 25 (.ptr 0 0 0 :: .ptr 0 0 0 :: .sl (arr_0.Mesh.Places.map GVector.cells) :: .ptr 0 0 0 :: .ptr 0 0 1 :: .sl (arr_0.Mesh.Triangles.map (cL (cI .i64))) :: .i .i64 (arr_0.Mesh.Triangles.length : Int) :: .i .i64 x_l0 :: an 115 []))), [.box 42 [.sl (arr_0.Mesh.Places.map GVector.cells), .sl (arr_0.Mesh.Triangles.map (cL (cI .i64))), .sl (arr_0.Springs.map GSpring.cells), .f .f32 arr_0.Film, .f .f32 arr_0.Bend, .sl (arr_0.Weights.map (cF .f32)), .f .f32 arr_0.Fall.X, .f .f32 arr_0.Fall.Y, .f .f32 arr_0.Fall.Z], .box 34 [.own 2], .vec 40 3 (r2_l1.map GVector.cells) false]⟩
def Z4d : List Bool := (mR false [0, 5, 4, 1, 13, 8, 25, 8, 115])
theorem Z8k (arr_0 : GBody) (hp0 : arr_0.Mesh.Places.length ≤ 1073741824) (hp1 : arr_0.Mesh.Triangles.length ≤ 1073741824) (hp2 : ∀ t ∈ arr_0.Mesh.Triangles, t.length ≤ 1073741824) (hp3 : arr_0.Springs.length ≤ 1073741824) (hp4 : arr_0.Weights.length ≤ 1073741824) (hp5 : OkBd arr_0) : ∀ (k : Nat) (x_l0 : Int) (r2_l1 : (List GVector)) (Z2K : 0 ≤ x_l0) (Z2L : r2_l1.length = arr_0.Mesh.Places.length) (hk : ((arr_0.Mesh.Triangles.length : Int) - x_l0).toNat < k), Lp prog 0 (sub (bodyOf f57) [1, 1, 1, 1, 1, 0, 1, 0, 0]) (Z8j arr_0 x_l0 r2_l1) (Z4K arr_0 (Zj arr_0 k x_l0 r2_l1)).1 (Z4K arr_0 (Zj arr_0 k x_l0 r2_l1)).2 := by
 intro k
 induction k with
 | zero => intro x_l0 r2_l1 Z2K Z2L hk; exact absurd hk (Nat.not_lt_zero _)
 | succ k ih =>
  intro x_l0 r2_l1 Z2K Z2L hk
  cases h_0 : (decide (x_l0 < (arr_0.Mesh.Triangles.length : Int))) with
  | true =>
   have gh_0 := of_decide_eq_true h_0
   have y_0 : (0 : Int) ≤ x_l0 := (by assumption)
   have y_1 : x_l0 < (arr_0.Mesh.Triangles.length : Int) := (by assumption)
   have y_2 : (arr_0.Mesh.Triangles.getD x_l0.toNat default).length ≤ 1073741824 := (by exact tri3L hp5.e (by assumption) h_0)
   have y_3 : (arr_0.Mesh.Triangles.getD x_l0.toNat default).length = 3 ∧ ∀ x ∈ (arr_0.Mesh.Triangles.getD x_l0.toNat default), 0 ≤ x ∧ x < (arr_0.Mesh.Places.length : Int) := (by exact tri3 hp5.e (by assumption) h_0)
   have p {a C} (s : Scr a C) := sB h_0 <| sG (cL (cI .i64)) arr_0.Mesh.Triangles x_l0 y_0 y_1 <| sF (Z9l arr_0.Mesh (arr_0.Mesh.Triangles.getD x_l0.toNat default) hp0 hp1 hp2 y_2 y_3) <| sF (Z6y (Z7 arr_0.Mesh (arr_0.Mesh.Triangles.getD x_l0.toNat default))) <| s
   cases h_1 : (fcmp .gtr .f32 (Zd (Z7 arr_0.Mesh (arr_0.Mesh.Triangles.getD x_l0.toNat default))) 0) with
   | true =>
    have y_4 : (-9223372036854775808 : Int) ≤ (x_l0 + 1) := by clear p; exact (by omega)
    have y_5 : (x_l0 + 1) ≤ (9223372036854775807 : Int) := by clear p; exact (by omega)
    have e : Zj arr_0 (k + 1) x_l0 r2_l1 = (Zj arr_0 k (x_l0 + 1) (Z1P arr_0 x_l0 r2_l1)) := by simp only [Zj, h_0, h_1, cond_true]
    rw [e]
    exact nextR E0Ok Z3 [] Z4d [0, 1, 3] (ih (x_l0 + 1) (Z1P arr_0 x_l0 r2_l1) (show 0 ≤ (x_l0 + 1) from (by omega)) (show (Z1P arr_0 x_l0 r2_l1).length = arr_0.Mesh.Places.length from (by simp_all <;> omega)) (by omega)) (p (sB h_1 <| sL Z5K 4 (lp_val (Z4I arr_0 x_l0 r2_l1) (x := (Z1P arr_0 x_l0 r2_l1)) (Z8g arr_0 x_l0 r2_l1 hp0 hp1 hp2 hp3 hp4 hp5 Z2K Z2L h_0 (((3 : Int) - 0).toNat + 1) 0 r2_l1 (show 0 ≤ 0 from (by omega)) (show r2_l1.length = r2_l1.length from (by omega)) (Nat.lt_succ_self _)) rfl) <| sI (x_l0 + 1) y_4 y_5 <| sN)) (by kernel_rfl)
   | false =>
    have y_4 : (-9223372036854775808 : Int) ≤ (x_l0 + 1) := by clear p; exact (by omega)
    have y_5 : (x_l0 + 1) ≤ (9223372036854775807 : Int) := by clear p; exact (by omega)
    have e : Zj arr_0 (k + 1) x_l0 r2_l1 = (Zj arr_0 k (x_l0 + 1) (Z1Q arr_0 x_l0 r2_l1)) := by simp only [Zj, h_0, h_1, cond_true, cond_false]
    rw [e]
    exact nextR E0Ok Z3 [] Z4d [0, 1, 3] (ih (x_l0 + 1) (Z1Q arr_0 x_l0 r2_l1) (show 0 ≤ (x_l0 + 1) from (by omega)) (show (Z1Q arr_0 x_l0 r2_l1).length = arr_0.Mesh.Places.length from (by simp_all <;> omega)) (by omega)) (p (sB h_1 <| sL Z5N 4 (lp_val (Z4J arr_0 x_l0 r2_l1) (x := (Z1Q arr_0 x_l0 r2_l1)) (Z8i arr_0 x_l0 r2_l1 hp0 hp1 hp2 hp3 hp4 hp5 Z2K Z2L h_0 (((3 : Int) - 0).toNat + 1) 0 r2_l1 (show 0 ≤ 0 from (by omega)) (show r2_l1.length = r2_l1.length from (by omega)) (Nat.lt_succ_self _)) rfl) <| sI (x_l0 + 1) y_4 y_5 <| sN)) (by kernel_rfl)
  | false =>
   have gh_0 := of_decide_eq_false h_0
   have e : Zj arr_0 (k + 1) x_l0 r2_l1 = r2_l1 := by simp only [Zj, h_0, cond_false]
   rw [e]
   exact outR (e := (.exit 2)) E0Ok Z3 [] (mR false [0, 5, 18, 8, 25, 6, 117]) [0, 1, 2] (sB h_0 <| sN) (by kernel_rfl) (by intro h; cases h)
end Go.Ab
