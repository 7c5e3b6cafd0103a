/- The functions of this seat as plain Lean, and that the program's are these. Printed by a program of the prover's own. -/
import Derived.Test.YtpndflbllggeiaaGreatB6
set_option linter.unusedVariables false
set_option linter.unusedSimpArgs false
set_option maxRecDepth 100000
namespace Go.Ab
open Go.RowKit Go.Proofs.Tryz
def Z6M (Y4 : GMesh) (r : (List (List Int))) : Ex × St := ((.exit 0), ⟨.agg [.sl (Y4.Places.map GVector.cells), .sl (Y4.Triangles.map (cL (cI .i64)))] :: .ptr 0 0 0 :: .nils :: .own 1 :: .any :: .own 2 :: an 5 (.agg [.sl (Y4.Places.map GVector.cells), .sl (Y4.Triangles.map (cL (cI .i64)))] :: .any :: .mp 3 :: .own 2 :: .own 2 :: an 39 []), [.box 38 [.sl (Y4.Places.map GVector.cells), .sl (Y4.Triangles.map (cL (cI .i64)))], .nest 49 (r.map fun l => l.map (cI .i64)) false, .vec 167 2 (((Z1 Y4).2).map Gedge.cells) false, .mapN 2 (mapC Gedge.pr (cI .i64) ((Z1 Y4).1)) none]⟩)
def Z9z (Y4 : GMesh) (Y1 : Int) (Y8 : (List (List Int))) : St := ⟨.agg [.sl (Y4.Places.map GVector.cells), .sl (Y4.Triangles.map (cL (cI .i64)))] :: .ptr 0 0 0 :: .nils :: .own 1 :: .mp 2 :: .own 3 :: an 5 (.agg [.sl (Y4.Places.map GVector.cells), .sl (Y4.Triangles.map (cL (cI .i64)))] :: .any :: .mp 2 :: .own 3 :: .own 3 :: .i .i64 (((Z1 Y4).2).length : Int) :: .i .i64 Y1 :: an 37 []), [.box 38 [.sl (Y4.Places.map GVector.cells), .sl (Y4.Triangles.map (cL (cI .i64)))], .nest 49 (Y8.map fun l => l.map (cI .i64)) false, .mapN 2 (mapC Gedge.pr (cI .i64) ((Z1 Y4).1)) none, .vec 167 2 (((Z1 Y4).2).map Gedge.cells) false]⟩
set_option maxHeartbeats 1000000 in
theorem Zd3 (Y4 : GMesh) (hp0 : Y4.Places.length ≤ 1073741824) (hp1 : Y4.Triangles.length ≤ 1073741824) (hp2 : ∀ t ∈ Y4.Triangles, t.length ≤ 1073741824) (hp3 : OkE Y4.Places.length Y4.Triangles) : ∀ (k : Nat) (Y1 : Int) (Y8 : (List (List Int))) (Z1k : 0 ≤ Y1) (Z8s : (Y8.length : Int) ≤ Y1) (hk : ((((Z1 Y4).2).length : Int) - Y1).toNat < k), Lp prog 0 (sub (bodyOf f115) [1, 1, 1, 0, 1, 0, 0]) (Z9z Y4 Y1 Y8) (Z6M Y4 (ZR Y4 k Y1 Y8)).1 (Z6M Y4 (ZR Y4 k Y1 Y8)).2 := by
 intro k
 induction k with
 | zero => intro Y1 Y8 Z1k Z8s hk; exact absurd hk (Nat.not_lt_zero _)
 | succ k ih =>
  intro Y1 Y8 Z1k Z8s hk
  cases Yg : (decide (Y1 < (((Z1 Y4).2).length : Int))) with
  | true =>
   have Yt := of_decide_eq_true Yg
   have YA : (0 : Int) ≤ Y1 := (by assumption)
   have YE : Y1 < (((Z1 Y4).2).length : Int) := (by assumption)
   have YG : Y1.toNat < ((Z1 Y4).2).length := (by omega)
   have p {a C} (s : Scr a C) := sB Yg <| sX Gedge.cells ((Z1 Y4).2) Y1 YA YE <| sV Gedge.cells ((Z1 Y4).2) Y1.toNat YG <| s
   cases Yq : (mhas ((Z1 Y4).1) (((Z1 Y4).2).getD Y1.toNat default)) with
   | true =>
    have m_8 := midx_lt Yq
    have q {a C} (s : Scr a C) := p (sA (.keep [midx ((Z1 Y4).1) (((Z1 Y4).2).getD Y1.toNat default)]) <| sC (mget_ok (ck := Gedge.pr) (cv := (cI .i64)) Yq) <| sM (mget_len (ck := Gedge.pr) (cv := (cI .i64)) (l := (Z1 Y4).1) (j := (midx ((Z1 Y4).1) (((Z1 Y4).2).getD Y1.toNat default)))) <| s)
    clear p
    cases YM : (((((Z1 Y4).1).getD (midx ((Z1 Y4).1) (((Z1 Y4).2).getD Y1.toNat default)) default).2.length : Int) == 2) with
    | true =>
     have Y1e := eq_of_beq YM
     have YH : (0 : Int) ≤ 0 := by clear q; exact (by omega)
     have YL : 0 < ((((Z1 Y4).1).getD (midx ((Z1 Y4).1) (((Z1 Y4).2).getD Y1.toNat default)) default).2.length : Int) := by clear q; exact (by omega)
     have YQ : 0 < (((Z1 Y4).1).getD (midx ((Z1 Y4).1) (((Z1 Y4).2).getD Y1.toNat default)) default).2.length := by clear q; exact (by omega)
     have YW : (0 : Int) ≤ ((((Z1 Y4).1).getD (midx ((Z1 Y4).1) (((Z1 Y4).2).getD Y1.toNat default)) default).2.getD 0 default) := by clear q; exact (by ((have q := ZaU Y4 hp3 Z1k (of_decide_eq_true (by assumption)) (by assumption); omega)))
     have y_7 : ((((Z1 Y4).1).getD (midx ((Z1 Y4).1) (((Z1 Y4).2).getD Y1.toNat default)) default).2.getD 0 default) < (Y4.Triangles.length : Int) := by clear q; exact (by ((have q := ZaU Y4 hp3 Z1k (of_decide_eq_true (by assumption)) (by assumption); omega)))
     have y_8 : (Y4.Triangles.getD ((((Z1 Y4).1).getD (midx ((Z1 Y4).1) (((Z1 Y4).2).getD Y1.toNat default)) default).2.getD 0 default).toNat default).length ≤ 1073741824 := by clear q; exact (by (have q := ZaU Y4 hp3 Z1k (of_decide_eq_true (by assumption)) (by assumption); have q1 := (hp3.tris.at q.1 q.2.1).1; have q2 := (hp3.tris.at q.2.2.1 q.2.2.2.1).1; omega))
     have y_9 : (Y4.Triangles.getD ((((Z1 Y4).1).getD (midx ((Z1 Y4).1) (((Z1 Y4).2).getD Y1.toNat default)) default).2.getD 0 default).toNat default).length = 3 := by clear q; exact (by (have q := ZaU Y4 hp3 Z1k (of_decide_eq_true (by assumption)) (by assumption); have q1 := (hp3.tris.at q.1 q.2.1).1; have q2 := (hp3.tris.at q.2.2.1 q.2.2.2.1).1; exact q1))
     have Y13 : (0 : Int) ≤ 1 := by clear q; exact (by omega)
     have Y1c : 1 < ((((Z1 Y4).1).getD (midx ((Z1 Y4).1) (((Z1 Y4).2).getD Y1.toNat default)) default).2.length : Int) := by clear q; exact (by omega)
     have Y1g : 1 < (((Z1 Y4).1).getD (midx ((Z1 Y4).1) (((Z1 Y4).2).getD Y1.toNat default)) default).2.length := by clear q; exact (by omega)
     have Y1h : (0 : Int) ≤ ((((Z1 Y4).1).getD (midx ((Z1 Y4).1) (((Z1 Y4).2).getD Y1.toNat default)) default).2.getD 1 default) := by clear q; exact (by ((have q := ZaU Y4 hp3 Z1k (of_decide_eq_true (by assumption)) (by assumption); omega)))
     have Y1q : ((((Z1 Y4).1).getD (midx ((Z1 Y4).1) (((Z1 Y4).2).getD Y1.toNat default)) default).2.getD 1 default) < (Y4.Triangles.length : Int) := by clear q; exact (by ((have q := ZaU Y4 hp3 Z1k (of_decide_eq_true (by assumption)) (by assumption); omega)))
     have Y1r : (Y4.Triangles.getD ((((Z1 Y4).1).getD (midx ((Z1 Y4).1) (((Z1 Y4).2).getD Y1.toNat default)) default).2.getD 1 default).toNat default).length ≤ 1073741824 := by clear q; exact (by (have q := ZaU Y4 hp3 Z1k (of_decide_eq_true (by assumption)) (by assumption); have q1 := (hp3.tris.at q.1 q.2.1).1; have q2 := (hp3.tris.at q.2.2.1 q.2.2.2.1).1; omega))
     have Y1s : (Y4.Triangles.getD ((((Z1 Y4).1).getD (midx ((Z1 Y4).1) (((Z1 Y4).2).getD Y1.toNat default)) default).2.getD 1 default).toNat default).length = 3 := by clear q; exact (by (have q := ZaU Y4 hp3 Z1k (of_decide_eq_true (by assumption)) (by assumption); have q1 := (hp3.tris.at q.1 q.2.1).1; have q2 := (hp3.tris.at q.2.2.1 q.2.2.2.1).1; exact q2))
     have Y1t : Y8.length + [[(((Z1 Y4).2).getD Y1.toNat default).e0, (((Z1 Y4).2).getD Y1.toNat default).e1, (Z37 Y4 Y1), (Z38 Y4 Y1)]].length ≤ 1073741824 := by clear q; exact (by ((have q := Z7R Y4 hp3 Z1k (of_decide_eq_true (by assumption)); (simp only [List.length_append, List.length_cons, List.length_nil]; omega))))
     have Y1u : (-9223372036854775808 : Int) ≤ (Y1 + 1) := by clear q; exact (by omega)
     have Y1v : (Y1 + 1) ≤ (9223372036854775807 : Int) := by clear q; exact (by ((have q := Z7R Y4 hp3 Z1k (of_decide_eq_true (by assumption)); omega)))
     have e : ZR Y4 (k + 1) Y1 Y8 = (ZR Y4 k (Y1 + 1) (Y8 ++ [[(((Z1 Y4).2).getD Y1.toNat default).e0, (((Z1 Y4).2).getD Y1.toNat default).e1, (Z37 Y4 Y1), (Z38 Y4 Y1)]])) := by simp only [ZR, Yg, Yq, YM, cond_true]
     rw [e]
     exact nextS E0Ok Z4 [] (mR false [0, 6, 5, 1, 1, 5, 37]) [0, 1, 2, 3] (⟨.agg [.sl (Y4.Places.map GVector.cells), .sl (Y4.Triangles.map (cL (cI .i64)))] :: .ptr 0 0 0 :: .nils :: .own 1 :: .mp 2 :: .own 3 :: an 5 (.agg [.sl (Y4.Places.map GVector.cells), .sl (Y4.Triangles.map (cL (cI .i64)))] :: .any :: .mp 2 :: .own 3 :: .own 3 :: .i .i64 (((Z1 Y4).2).length : Int) :: .i .i64 (Y1 + 1) :: an 37 []), [.box 38 [.sl (Y4.Places.map GVector.cells), .sl (Y4.Triangles.map (cL (cI .i64)))], .nest 49 ((Y8.map fun l => l.map (cI .i64)) ++ [([[.i .i64 ((((Z1 Y4).2).getD Y1.toNat default).e0)], [.i .i64 ((((Z1 Y4).2).getD Y1.toNat default).e1)], [.i .i64 (Z37 Y4 Y1)], [.i .i64 (Z38 Y4 Y1)]] : List (List AV))]) false, .mapN 2 (mapC Gedge.pr (cI .i64) ((Z1 Y4).1)) none, .vec 167 2 (((Z1 Y4).2).map Gedge.cells) false]⟩) (q (sB YM <| sK [25, 25] <| sC (show (0 : Int) ≤ 0 ∧ 0 < ((2 : Nat) : Int) from (by decide)) <| sC (show (0 : Int) ≤ 1 ∧ 1 < ((2 : Nat) : Int) from (by decide)) <| sC (mget_ix (ck := Gedge.pr) (cv := (cI .i64)) (l := (Z1 Y4).1) (j := (midx ((Z1 Y4).1) (((Z1 Y4).2).getD Y1.toNat default))) (i := 0) YH YL) <| sE (mget_el (ck := Gedge.pr) (cv := (cI .i64)) (l := (Z1 Y4).1) (j := (midx ((Z1 Y4).1) (((Z1 Y4).2).getD Y1.toNat default))) (i := 0) YQ) <| sG (cL (cI .i64)) Y4.Triangles ((((Z1 Y4).1).getD (midx ((Z1 Y4).1) (((Z1 Y4).2).getD Y1.toNat default)) default).2.getD 0 default) YW y_7 <| sF (Zbu (Y4.Triangles.getD ((((Z1 Y4).1).getD (midx ((Z1 Y4).1) (((Z1 Y4).2).getD Y1.toNat default)) default).2.getD 0 default).toNat default) (((Z1 Y4).2).getD Y1.toNat default) y_8 y_9) <| sC (mget_ix (ck := Gedge.pr) (cv := (cI .i64)) (l := (Z1 Y4).1) (j := (midx ((Z1 Y4).1) (((Z1 Y4).2).getD Y1.toNat default))) (i := 1) Y13 Y1c) <| sE (mget_el (ck := Gedge.pr) (cv := (cI .i64)) (l := (Z1 Y4).1) (j := (midx ((Z1 Y4).1) (((Z1 Y4).2).getD Y1.toNat default))) (i := 1) Y1g) <| sG (cL (cI .i64)) Y4.Triangles ((((Z1 Y4).1).getD (midx ((Z1 Y4).1) (((Z1 Y4).2).getD Y1.toNat default)) default).2.getD 1 default) Y1h Y1q <| sF (Zbu (Y4.Triangles.getD ((((Z1 Y4).1).getD (midx ((Z1 Y4).1) (((Z1 Y4).2).getD Y1.toNat default)) default).2.getD 1 default).toNat default) (((Z1 Y4).2).getD Y1.toNat default) Y1r Y1s) <| sC (show (Y8.map fun l => l.map (cI .i64)).length + [([[.i .i64 ((((Z1 Y4).2).getD Y1.toNat default).e0)], [.i .i64 ((((Z1 Y4).2).getD Y1.toNat default).e1)], [.i .i64 (Z37 Y4 Y1)], [.i .i64 (Z38 Y4 Y1)]] : List (List AV))].length ≤ 1073741824 from (by simpa using Y1t)) <| sI (Y1 + 1) Y1u Y1v <| sN)) (by kernel_rfl) (show _ = ⟨.agg [.sl (Y4.Places.map GVector.cells), .sl (Y4.Triangles.map (cL (cI .i64)))] :: .ptr 0 0 0 :: .nils :: .own 1 :: .mp 2 :: .own 3 :: an 5 (.agg [.sl (Y4.Places.map GVector.cells), .sl (Y4.Triangles.map (cL (cI .i64)))] :: .any :: .mp 2 :: .own 3 :: .own 3 :: .i .i64 (((Z1 Y4).2).length : Int) :: .i .i64 (Y1 + 1) :: an 37 []), [.box 38 [.sl (Y4.Places.map GVector.cells), .sl (Y4.Triangles.map (cL (cI .i64)))], .nest 49 ((Y8 ++ [[(((Z1 Y4).2).getD Y1.toNat default).e0, (((Z1 Y4).2).getD Y1.toNat default).e1, (Z37 Y4 Y1), (Z38 Y4 Y1)]]).map fun l => l.map (cI .i64)) false, .mapN 2 (mapC Gedge.pr (cI .i64) ((Z1 Y4).1)) none, .vec 167 2 (((Z1 Y4).2).map Gedge.cells) false]⟩ from (by simp [cL, cI])) (ih (Y1 + 1) (Y8 ++ [[(((Z1 Y4).2).getD Y1.toNat default).e0, (((Z1 Y4).2).getD Y1.toNat default).e1, (Z37 Y4 Y1), (Z38 Y4 Y1)]]) (show 0 ≤ (Y1 + 1) from (by omega)) (show ((Y8 ++ [[(((Z1 Y4).2).getD Y1.toNat default).e0, (((Z1 Y4).2).getD Y1.toNat default).e1, (Z37 Y4 Y1), (Z38 Y4 Y1)]]).length : Int) ≤ (Y1 + 1) from (by ((have q := Z7R Y4 hp3 Z1k (of_decide_eq_true (by assumption)); (simp only [List.length_append, List.length_cons, List.length_nil]; omega))))) (by omega))
    | false =>
     have Y1e := ne_of_beq_false YM
     have YH : (-9223372036854775808 : Int) ≤ (Y1 + 1) := by clear q; exact (by omega)
     have YL : (Y1 + 1) ≤ (9223372036854775807 : Int) := by clear q; exact (by ((have q := Z7R Y4 hp3 Z1k (of_decide_eq_true (by assumption)); omega)))
     have e : ZR Y4 (k + 1) Y1 Y8 = (ZR Y4 k (Y1 + 1) Y8) := by simp only [ZR, Yg, Yq, YM, cond_true, cond_false]
     rw [e]
     exact nextR E0Ok Z4 [] (mR false [0, 6, 5, 1, 1, 5, 37]) [0, 1, 2, 3] (ih (Y1 + 1) Y8 (show 0 ≤ (Y1 + 1) from (by omega)) (show (Y8.length : Int) ≤ (Y1 + 1) from (by omega)) (by omega)) (q (sB YM <| sI (Y1 + 1) YH YL <| sN)) (by kernel_rfl)
   | false =>
    have YH : (-9223372036854775808 : Int) ≤ (Y1 + 1) := by clear p; exact (by omega)
    have YL : (Y1 + 1) ≤ (9223372036854775807 : Int) := by clear p; exact (by ((have q := Z7R Y4 hp3 Z1k (of_decide_eq_true (by assumption)); omega)))
    have e : ZR Y4 (k + 1) Y1 Y8 = (ZR Y4 k (Y1 + 1) Y8) := by simp only [ZR, Yg, Yq, cond_true, cond_false]
    rw [e]
    exact nextR E0Ok Z4 [] (mR false [0, 6, 5, 1, 1, 5, 37]) [0, 1, 2, 3] (ih (Y1 + 1) Y8 (show 0 ≤ (Y1 + 1) from (by omega)) (show (Y8.length : Int) ≤ (Y1 + 1) from (by omega)) (by omega)) (p (sA (.keep []) <| sC (mnot_ok (ck := Gedge.pr) (cv := (cI .i64)) Gedge.inj Yq) <| sM (show ((0 : Nat) : Int) = 0 from rfl) <| sB (show (0 == 2) = false from rfl) <| sI (Y1 + 1) YH YL <| sN)) (by kernel_rfl)
  | false =>
   have Yt := of_decide_eq_false Yg
   have e : ZR Y4 (k + 1) Y1 Y8 = Y8 := by simp only [ZR, Yg, cond_false]
   rw [e]
   exact outR (e := (.exit 0)) E0Ok Z4 [] (mR false [0, 4, 1, 1, 5, 1, 1, 3, 39]) [0, 1, 3, 2] (sB Yg <| sN) (by kernel_rfl) (by intro h; cases h)
def Z50 (Y4 : GMesh) : (List (List Int)) := (ZR Y4 (((((Z1 Y4).2).length : Int) - 0).toNat + 1) 0 ([] : List (List Int)))
def Z6 (Y4 : GMesh) : (List (List Int)) := (Z50 Y4)
theorem Z60 (m : GMesh) (ok : OkE m.Places.length m.Triangles) : Z6 m = hgL m.Places.length m.Triangles := by
  unfold Z6 Z50
  refine (filtm_from (a := (Z1 m).2) (p := fun e => decide ((idxP m.Triangles e.e0 e.e1).length = 2)) (f := fun e => [e.e0, e.e1] ++ (idxP m.Triangles e.e0 e.e1).map fun i => thd (m.Triangles.getD i.toNat default) e.e0 e.e1) (lo := ZR m) (fun k i r h0 hi => ?_) (fun k i r hi => ?_)).trans ?_
  · have q := Z7R m ok h0 hi
    have hm := Zd2 m ok h0 hi
    obtain ⟨g1, g2⟩ := Zg6 m ok hm
    rw [ZR, decide_eq_true hi, cond_true, g1, cond_true, g2]
    unfold Z37 Z38
    rw [g2]
    generalize (Z1 m).2.getD i.toNat default = e at *
    by_cases h2 : (idxP m.Triangles e.e0 e.e1).length = 2
    · rw [decide_eq_true h2, show (((idxP m.Triangles e.e0 e.e1).length : Int) == 2) = true from by rw [beq_iff_eq]; omega, cond_true, cond_true]
      have hthd : ∀ k : Nat, k < 2 → Z5F (m.Triangles.getD ((idxP m.Triangles e.e0 e.e1).getD k default).toNat default) e = thd (m.Triangles.getD ((idxP m.Triangles e.e0 e.e1).getD k default).toNat default) e.e0 e.e1 := by
        intro k hk
        obtain ⟨a1, a2, a3⟩ := idxP_at (ts := m.Triangles) (a := e.e0) (b := e.e1) (k := k) (by omega)
        generalize (idxP m.Triangles e.e0 e.e1).getD k default = i' at *
        have q2 := ok.tris.at a1 a2
        generalize m.Triangles.getD i'.toNat default = t at *
        have h64 := ok.1
        unfold Z5F Z5B thd
        rw [wrap_id (n := t.getD 0 default + t.getD 1 default) (by omega) (by omega), wrap_id (n := t.getD 0 default + t.getD 1 default + t.getD 2 default) (by omega) (by omega), wrap_id (n := t.getD 0 default + t.getD 1 default + t.getD 2 default - e.e0) (by omega) (by omega), wrap_id (n := t.getD 0 default + t.getD 1 default + t.getD 2 default - e.e0 - e.e1) (by omega) (by omega)]
      rw [hthd 0 (by omega), hthd 1 (by omega)]
      generalize idxP m.Triangles e.e0 e.e1 = l at *
      match l, h2 with
      | [a, b], _ => rfl
    · rw [decide_eq_false h2, show (((idxP m.Triangles e.e0 e.e1).length : Int) == 2) = false from by rw [beq_eq_false_iff_ne]; omega, cond_false, cond_false]
  · rw [ZR, decide_eq_false (by omega), cond_false]
  · rw [Zaz m ok]; rfl
theorem Zgf (m : GMesh) (ok : OkE m.Places.length m.Triangles) {i : Int} (h0 : 0 ≤ i) (hi : i < ((Z6 m).length : Int)) : ((Z6 m).getD i.toNat default).length = 4 ∧ ∀ x ∈ (Z6 m).getD i.toNat default, 0 ≤ x ∧ x < (m.Places.length : Int) := by
  refine hgL_mem ok ?_
  rw [← Z60 m ok, List.getD_eq_getElem?_getD, List.getElem?_eq_getElem (by omega)]; exact List.getElem_mem _
theorem Z6z {m : GMesh} (ok : OkE m.Places.length m.Triangles) {i : Int} (h0 : 0 ≤ i) (hi : decide (i < ((Z6 m).length : Int)) = true) : ((Z6 m).getD i.toNat default).length = 4 ∧ ∀ x ∈ (Z6 m).getD i.toNat default, 0 ≤ x ∧ x < (m.Places.length : Int) := Zgf m ok h0 (of_decide_eq_true hi)
theorem Zh3 {m : GMesh} (ok : OkE m.Places.length m.Triangles) {i : Int} (h0 : 0 ≤ i) (hi : decide (i < ((Z6 m).length : Int)) = true) : ((Z6 m).getD i.toNat default).length ≤ 1073741824 := by have := (Z6z ok h0 hi).1; omega
theorem Z9X (m : GMesh) (ok : OkE m.Places.length m.Triangles) : (Z6 m).length ≤ 4096 := by rw [Z60 m ok]; exact hgL_len ok
theorem ZaV (Y4 : GMesh) (hp0 : Y4.Places.length ≤ 1073741824) (hp1 : Y4.Triangles.length ≤ 1073741824) (hp2 : ∀ t ∈ Y4.Triangles, t.length ≤ 1073741824) (hp3 : OkE Y4.Places.length Y4.Triangles)  : Fn prog 115 [.agg [.sl (Y4.Places.map GVector.cells), .sl (Y4.Triangles.map (cL (cI .i64)))]] (.own 0) [.nest 49 ((Z6 Y4).map fun l => l.map (cI .i64)) false] := by
 refine fnS E0Ok Z4 (c := bodyOf f115) [] (.own 0) [.nest 49 ((Z50 Y4).map fun l => l.map (cI .i64)) false] func115 (sF (Zb8 Y4 hp0 hp1 hp2 hp3) <| sZ Gedge.cells ((Z1 Y4).2) <| sL (mR false [0, 6, 5, 1, 1, 5, 37]) 4 (lp_cast (st2 := ⟨.agg [.sl (Y4.Places.map GVector.cells), .sl (Y4.Triangles.map (cL (cI .i64)))] :: .ptr 0 0 0 :: .nils :: .own 1 :: .mp 2 :: .own 3 :: an 5 (.agg [.sl (Y4.Places.map GVector.cells), .sl (Y4.Triangles.map (cL (cI .i64)))] :: .any :: .mp 2 :: .own 3 :: .own 3 :: .i .i64 (((Z1 Y4).2).length : Int) :: .i .i64 0 :: an 37 []), [.box 38 [.sl (Y4.Places.map GVector.cells), .sl (Y4.Triangles.map (cL (cI .i64)))], .nest 49 [] false, .mapN 2 (mapC Gedge.pr (cI .i64) ((Z1 Y4).1)) none, .vec 167 2 (((Z1 Y4).2).map Gedge.cells) false]⟩) (lp_val (Z6M Y4) (x := (Z50 Y4)) (Zd3 Y4 hp0 hp1 hp2 hp3 (((((Z1 Y4).2).length : Int) - 0).toNat + 1) 0 ([] : List (List Int)) (show 0 ≤ 0 from (by omega)) (show (([] : List (List Int)).length : Int) ≤ 0 from (by simp)) (Nat.lt_succ_self _)) rfl) (by simp [Z9z, cL, cI])) <| sK [1] sN) rfl (by kernel_rfl) (by kernel_rfl) rfl ?_ ?_
 · rfl
 · simp [Z6]
def Z61 (Y4 : GMesh) (Yq : (List Int)) : GVector := (Z1W (ZV (Y4.Places.getD (Yq.getD 2 default).toNat default) (Y4.Places.getD (Yq.getD 3 default).toNat default)) (ZV (Y4.Places.getD (Yq.getD 0 default).toNat default) (Y4.Places.getD (Yq.getD 1 default).toNat default)))
def Zp (Y4 : GMesh) (Yq : (List Int)) : GVector := (Z61 Y4 Yq)
theorem Zc8 (Y4 : GMesh) (Yq : (List Int)) (hp0 : Y4.Places.length ≤ 1073741824) (hp1 : Y4.Triangles.length ≤ 1073741824) (hp2 : ∀ t ∈ Y4.Triangles, t.length ≤ 1073741824) (hp3 : Yq.length ≤ 1073741824) (hp4 : Yq.length = 4 ∧ ∀ x ∈ Yq, 0 ≤ x ∧ x < (Y4.Places.length : Int))  : Fn prog 116 [.agg [.sl (Y4.Places.map GVector.cells), .sl (Y4.Triangles.map (cL (cI .i64)))], .sl (Yq.map (cI .i64))] (.agg [.f .f32 ((Zp Y4 Yq).X), .f .f32 ((Zp Y4 Yq).Y), .f .f32 ((Zp Y4 Yq).Z)]) [] := by
 have y0 : (0 : Int) ≤ 2 := (by omega)
 have y1 : 2 < (Yq.length : Int) := (by omega)
 have y2 : (0 : Int) ≤ (Yq.getD 2 default) := (by have q := Okh.at hp4; omega)
 have y3 : (Yq.getD 2 default) < (Y4.Places.length : Int) := (by have q := Okh.at hp4; omega)
 have y4 : (0 : Int) ≤ 3 := (by omega)
 have y5 : 3 < (Yq.length : Int) := (by omega)
 have y6 : (0 : Int) ≤ (Yq.getD 3 default) := (by have q := Okh.at hp4; omega)
 have y7 : (Yq.getD 3 default) < (Y4.Places.length : Int) := (by have q := Okh.at hp4; omega)
 have y8 : (0 : Int) ≤ 0 := (by omega)
 have y9 : 0 < (Yq.length : Int) := (by omega)
 have y10 : (0 : Int) ≤ (Yq.getD 0 default) := (by have q := Okh.at hp4; omega)
 have y11 : (Yq.getD 0 default) < (Y4.Places.length : Int) := (by have q := Okh.at hp4; omega)
 have y12 : (0 : Int) ≤ 1 := (by omega)
 have y13 : 1 < (Yq.length : Int) := (by omega)
 have y14 : (0 : Int) ≤ (Yq.getD 1 default) := (by have q := Okh.at hp4; omega)
 have y15 : (Yq.getD 1 default) < (Y4.Places.length : Int) := (by have q := Okh.at hp4; omega)
 refine fnS E0Ok Z4 (c := bodyOf f116) [] (.agg [.f .f32 ((Z61 Y4 Yq).X), .f .f32 ((Z61 Y4 Yq).Y), .f .f32 ((Z61 Y4 Yq).Z)]) [] func116 (sK [25, 25] <| sG (cI .i64) Yq 2 y0 y1 <| sG GVector.cells Y4.Places (Yq.getD 2 default) y2 y3 <| sG (cI .i64) Yq 3 y4 y5 <| sG GVector.cells Y4.Places (Yq.getD 3 default) y6 y7 <| sF (Z5A (Y4.Places.getD (Yq.getD 2 default).toNat default) (Y4.Places.getD (Yq.getD 3 default).toNat default)) <| sG (cI .i64) Yq 0 y8 y9 <| sG GVector.cells Y4.Places (Yq.getD 0 default) y10 y11 <| sG (cI .i64) Yq 1 y12 y13 <| sG GVector.cells Y4.Places (Yq.getD 1 default) y14 y15 <| sF (Z5A (Y4.Places.getD (Yq.getD 0 default).toNat default) (Y4.Places.getD (Yq.getD 1 default).toNat default)) <| sF (Z4e (ZV (Y4.Places.getD (Yq.getD 2 default).toNat default) (Y4.Places.getD (Yq.getD 3 default).toNat default)) (ZV (Y4.Places.getD (Yq.getD 0 default).toNat default) (Y4.Places.getD (Yq.getD 1 default).toNat default))) <| sK [] sN) rfl (by kernel_rfl) (by kernel_rfl) rfl ?_ ?_
 · rfl
 · rfl
def Z3s (Y0 : GBody) (Y1 : Int) (Y8 : (List GVector)) : (List GVector) := (Zu ((Y0.Springs.getD Y1.toNat default).A) (Zn Y0 (Y0.Springs.getD Y1.toNat default)) (Z45 (Zn Y0 (Y0.Springs.getD Y1.toNat default)) (Y0.Springs.getD Y1.toNat default)) Y8)
@[simp] theorem Z7g (Y0 : GBody) (Y1 : Int) (Y8 : (List GVector)) : (Z3s Y0 Y1 Y8).length = Y8.length := by unfold Z3s; simp
def Z3t (Y0 : GBody) (Y1 : Int) (Y8 : (List GVector)) : (List GVector) := (Zu ((Y0.Springs.getD Y1.toNat default).B) (Zn Y0 (Y0.Springs.getD Y1.toNat default)) (fneg .f32 (Z45 (Zn Y0 (Y0.Springs.getD Y1.toNat default)) (Y0.Springs.getD Y1.toNat default))) (Z3s Y0 Y1 Y8))
@[simp] theorem Zgg (Y0 : GBody) (Y1 : Int) (Y8 : (List GVector)) : (Z3t Y0 Y1 Y8).length = (Z3s Y0 Y1 Y8).length := by unfold Z3t; simp
def Z1t (Y0 : GBody) : Nat → Int → (List GVector) → (List GVector)
  | 0, _, _ => default
  | k + 1, Y1, Y8 => (cond (decide (Y1 < (Y0.Springs.length : Int)))
    (Z1t Y0 k (Y1 + 1) (Z3t Y0 Y1 Y8))
    Y8)
def Z6N (Y0 : GBody) (r : (List GVector)) : Ex × St := ((.exit 0), ⟨.agg [.sl (Y0.Mesh.Places.map GVector.cells), .sl (Y0.Mesh.Triangles.map (cL (cI .i64))), .sl (Y0.Springs.map GSpring.cells), .f .f32 Y0.Film, .f .f32 Y0.Bend, .sl (Y0.Weights.map (cF .f32)), .f .f32 Y0.Fall.X, .f .f32 Y0.Fall.Y, .f .f32 Y0.Fall.Z] :: .ptr 0 0 0 :: .nils :: .ptr 1 0 0 :: .fn 106 [.ptr 1 0 0] :: an 18 (.ptr 0 0 0 :: .ptr 0 0 0 :: .sl (Y0.Mesh.Places.map GVector.cells) :: .i .i64 (Y0.Mesh.Places.length : Int) :: .own 2 :: .fn 106 [.ptr 1 0 0] :: .ptr 0 0 2 :: .sl (Y0.Springs.map GSpring.cells) :: an 148 []), [.box 42 [.sl (Y0.Mesh.Places.map GVector.cells), .sl (Y0.Mesh.Triangles.map (cL (cI .i64))), .sl (Y0.Springs.map GSpring.cells), .f .f32 Y0.Film, .f .f32 Y0.Bend, .sl (Y0.Weights.map (cF .f32)), .f .f32 Y0.Fall.X, .f .f32 Y0.Fall.Y, .f .f32 Y0.Fall.Z], .box 34 [.own 2], .vec 40 3 (r.map GVector.cells) false]⟩)
def Z9A (Y0 : GBody) (Y1 : Int) (Y8 : (List GVector)) : St := ⟨.agg [.sl (Y0.Mesh.Places.map GVector.cells), .sl (Y0.Mesh.Triangles.map (cL (cI .i64))), .sl (Y0.Springs.map GSpring.cells), .f .f32 Y0.Film, .f .f32 Y0.Bend, .sl (Y0.Weights.map (cF .f32)), .f .f32 Y0.Fall.X, .f .f32 Y0.Fall.Y, .f .f32 Y0.Fall.Z] :: .ptr 0 0 0 :: .nils :: .ptr 2 0 0 :: .fn 106 [.ptr 2 0 0] :: an 18 (.ptr 0 0 0 :: .ptr 0 0 0 :: .sl (Y0.Mesh.Places.map GVector.cells) :: .i .i64 (Y0.Mesh.Places.length : Int) :: .own 1 :: .fn 106 [.ptr 2 0 0] :: .ptr 0 0 2 :: .sl (Y0.Springs.map GSpring.cells) :: .i .i64 (Y0.Springs.length : Int) :: .i .i64 Y1 :: an 146 []), [.box 42 [.sl (Y0.Mesh.Places.map GVector.cells), .sl (Y0.Mesh.Triangles.map (cL (cI .i64))), .sl (Y0.Springs.map GSpring.cells), .f .f32 Y0.Film, .f .f32 Y0.Bend, .sl (Y0.Weights.map (cF .f32)), .f .f32 Y0.Fall.X, .f .f32 Y0.Fall.Y, .f .f32 Y0.Fall.Z], .vec 40 3 (Y8.map GVector.cells) false, .box 34 [.own 1]]⟩
theorem Zd4 (Y0 : GBody) (hp0 : Y0.Mesh.Places.length ≤ 1073741824) (hp1 : Y0.Mesh.Triangles.length ≤ 1073741824) (hp2 : ∀ t ∈ Y0.Mesh.Triangles, t.length ≤ 1073741824) (hp3 : Y0.Springs.length ≤ 1073741824) (hp4 : Y0.Weights.length ≤ 1073741824) (hp5 : OkBd Y0) : ∀ (k : Nat) (Y1 : Int) (Y8 : (List GVector)) (Z8t : 0 ≤ Y1) (Z8u : Y8.length = Y0.Mesh.Places.length) (hk : ((Y0.Springs.length : Int) - Y1).toNat < k), Lp prog 0 (sub (bodyOf f57) [1, 1, 1, 0, 1, 0, 0]) (Z9A Y0 Y1 Y8) (Z6N Y0 (Z1t Y0 k Y1 Y8)).1 (Z6N Y0 (Z1t Y0 k Y1 Y8)).2 := by
 intro k
 induction k with
 | zero => intro Y1 Y8 Z8t Z8u hk; exact absurd hk (Nat.not_lt_zero _)
 | succ k ih =>
  intro Y1 Y8 Z8t Z8u hk
  cases Yg : (decide (Y1 < (Y0.Springs.length : Int))) with
  | true =>
   have Yt := of_decide_eq_true Yg
   have YA : (0 : Int) ≤ Y1 := (by assumption)
   have YE : Y1 < (Y0.Springs.length : Int) := (by assumption)
   have YG : 0 ≤ (Y0.Springs.getD Y1.toNat default).A := (by have q := Z3l hp5 (by assumption) Yg; omega)
   have YH : (Y0.Springs.getD Y1.toNat default).A < (Y0.Mesh.Places.length : Int) := (by have q := Z3l hp5 (by assumption) Yg; omega)
   have YL : 0 ≤ (Y0.Springs.getD Y1.toNat default).B := (by have q := Z3l hp5 (by assumption) Yg; omega)
   have YQ : (Y0.Springs.getD Y1.toNat default).B < (Y0.Mesh.Places.length : Int) := (by have q := Z3l hp5 (by assumption) Yg; omega)
   have YW : Y8.length ≤ 1073741824 := (by omega)
   have y_7 : 0 ≤ ((Y0.Springs.getD Y1.toNat default).A) := (by assumption)
   have y_8 : ((Y0.Springs.getD Y1.toNat default).A) < (Y8.length : Int) := (by omega)
   have y_9 : (Z3s Y0 Y1 Y8).length ≤ 1073741824 := (by have q := Z3l hp5 (by assumption) Yg; (simp only [Z7g]; omega))
   have Y13 : 0 ≤ ((Y0.Springs.getD Y1.toNat default).B) := (by assumption)
   have Y1c : ((Y0.Springs.getD Y1.toNat default).B) < ((Z3s Y0 Y1 Y8).length : Int) := (by have q := Z3l hp5 (by assumption) Yg; (simp only [Z7g]; omega))
   have Y1g : (-9223372036854775808 : Int) ≤ (Y1 + 1) := (by omega)
   have Y1h : (Y1 + 1) ≤ (9223372036854775807 : Int) := (by omega)
   have e : Z1t Y0 (k + 1) Y1 Y8 = (Z1t Y0 k (Y1 + 1) (Z3t Y0 Y1 Y8)) := by simp only [Z1t, Yg, cond_true]
   rw [e]
   exact nextR E0Ok Z4 [] (mR false [0, 5, 18, 10, 146]) [0, 1, 2] (ih (Y1 + 1) (Z3t Y0 Y1 Y8) (show 0 ≤ (Y1 + 1) from (by omega)) (show (Z3t Y0 Y1 Y8).length = Y0.Mesh.Places.length from (by simp_all <;> omega)) (by omega)) (sB Yg <| sG GSpring.cells Y0.Springs Y1 YA YE <| sF (Z9w Y0 (Y0.Springs.getD Y1.toNat default) hp0 hp1 hp2 hp3 hp4 YG YH YL YQ) <| sF (ZfK (Zn Y0 (Y0.Springs.getD Y1.toNat default)) (Y0.Springs.getD Y1.toNat default)) <| sS (CallSt.frame (Z20 ((Y0.Springs.getD Y1.toNat default).A) (Zn Y0 (Y0.Springs.getD Y1.toNat default)) (Z45 (Zn Y0 (Y0.Springs.getD Y1.toNat default)) (Y0.Springs.getD Y1.toNat default)) Y8 YW y_7 y_8) [2, 1] (R := [.box 42 [.sl (Y0.Mesh.Places.map GVector.cells), .sl (Y0.Mesh.Triangles.map (cL (cI .i64))), .sl (Y0.Springs.map GSpring.cells), .f .f32 Y0.Film, .f .f32 Y0.Bend, .sl (Y0.Weights.map (cF .f32)), .f .f32 Y0.Fall.X, .f .f32 Y0.Fall.Y, .f .f32 Y0.Fall.Z], .vec 40 3 (Y8.map GVector.cells) false, .box 34 [.own 1], .box 133 [.i .i64 ((Y0.Springs.getD Y1.toNat default).A), .i .i64 ((Y0.Springs.getD Y1.toNat default).B), .f .f32 ((Y0.Springs.getD Y1.toNat default).Long), .f .f32 ((Y0.Springs.getD Y1.toNat default).Stiff)], .box 40 [.f .f32 ((Zn Y0 (Y0.Springs.getD Y1.toNat default)).X), .f .f32 ((Zn Y0 (Y0.Springs.getD Y1.toNat default)).Y), .f .f32 ((Zn Y0 (Y0.Springs.getD Y1.toNat default)).Z)]]) (args' := [.i .i64 ((Y0.Springs.getD Y1.toNat default).A), .agg [.f .f32 ((Zn Y0 (Y0.Springs.getD Y1.toNat default)).X), .f .f32 ((Zn Y0 (Y0.Springs.getD Y1.toNat default)).Y), .f .f32 ((Zn Y0 (Y0.Springs.getD Y1.toNat default)).Z)], .f .f32 (Z45 (Zn Y0 (Y0.Springs.getD Y1.toNat default)) (Y0.Springs.getD Y1.toNat default)), .ptr 2 0 0]) rfl rfl rfl rfl rfl rfl) <| sS (CallSt.frame (Z20 ((Y0.Springs.getD Y1.toNat default).B) (Zn Y0 (Y0.Springs.getD Y1.toNat default)) (fneg .f32 (Z45 (Zn Y0 (Y0.Springs.getD Y1.toNat default)) (Y0.Springs.getD Y1.toNat default))) (Z3s Y0 Y1 Y8) y_9 Y13 Y1c) [2, 1] (R := [.box 42 [.sl (Y0.Mesh.Places.map GVector.cells), .sl (Y0.Mesh.Triangles.map (cL (cI .i64))), .sl (Y0.Springs.map GSpring.cells), .f .f32 Y0.Film, .f .f32 Y0.Bend, .sl (Y0.Weights.map (cF .f32)), .f .f32 Y0.Fall.X, .f .f32 Y0.Fall.Y, .f .f32 Y0.Fall.Z], .vec 40 3 ((Z3s Y0 Y1 Y8).map GVector.cells) false, .box 34 [.own 1], .box 133 [.i .i64 ((Y0.Springs.getD Y1.toNat default).A), .i .i64 ((Y0.Springs.getD Y1.toNat default).B), .f .f32 ((Y0.Springs.getD Y1.toNat default).Long), .f .f32 ((Y0.Springs.getD Y1.toNat default).Stiff)], .box 40 [.f .f32 ((Zn Y0 (Y0.Springs.getD Y1.toNat default)).X), .f .f32 ((Zn Y0 (Y0.Springs.getD Y1.toNat default)).Y), .f .f32 ((Zn Y0 (Y0.Springs.getD Y1.toNat default)).Z)]]) (args' := [.i .i64 ((Y0.Springs.getD Y1.toNat default).B), .agg [.f .f32 ((Zn Y0 (Y0.Springs.getD Y1.toNat default)).X), .f .f32 ((Zn Y0 (Y0.Springs.getD Y1.toNat default)).Y), .f .f32 ((Zn Y0 (Y0.Springs.getD Y1.toNat default)).Z)], .f .f32 (fneg .f32 (Z45 (Zn Y0 (Y0.Springs.getD Y1.toNat default)) (Y0.Springs.getD Y1.toNat default))), .ptr 2 0 0]) rfl rfl rfl rfl rfl rfl) <| sI (Y1 + 1) Y1g Y1h <| sN) (by kernel_rfl)
  | false =>
   have Yt := of_decide_eq_false Yg
   have e : Z1t Y0 (k + 1) Y1 Y8 = Y8 := by simp only [Z1t, Yg, cond_false]
   rw [e]
   exact outR (e := (.exit 0)) E0Ok Z4 [] (mR false [0, 5, 18, 8, 148]) [0, 2, 1] (sB Yg <| sN) (by kernel_rfl) (by intro h; cases h)
theorem ZbR (Y0 : GBody) : ∀ (k : Nat) (Y1 : Int) (Y8 : (List GVector)) (hk : ((Y0.Springs.length : Int) - Y1).toNat < k), (Z1t Y0 k Y1 Y8).length = Y8.length := by
  intro k
  induction k with
  | zero => intro Y1 Y8 hk; exact absurd hk (Nat.not_lt_zero _)
  | succ k ih =>
    intro Y1 Y8 hk
    cases Yg : (decide (Y1 < (Y0.Springs.length : Int))) with
    | true =>
      have e : Z1t Y0 (k + 1) Y1 Y8 = (Z1t Y0 k (Y1 + 1) (Z3t Y0 Y1 Y8)) := by simp only [Z1t, Yg, cond_true]
      rw [e, ih (Y1 + 1) (Z3t Y0 Y1 Y8) (by simp_all <;> omega)]; simp
    | false =>
      have e : Z1t Y0 (k + 1) Y1 Y8 = Y8 := by simp only [Z1t, Yg, cond_false]
      first | (rw [e]; done) | (rw [e]; rfl)
def Z39 (Y0 : GBody) : (List GVector) := (Z1t Y0 (((Y0.Springs.length : Int) - 0).toNat + 1) 0 (List.replicate (Y0.Mesh.Places.length : Int).toNat (⟨0, 0, 0⟩ : GVector)))
@[simp] theorem ZfM (Y0 : GBody) : (Z39 Y0).length = ((List.replicate (Y0.Mesh.Places.length : Int).toNat (⟨0, 0, 0⟩ : GVector)) : (List GVector)).length := ZbR Y0 (((Y0.Springs.length : Int) - 0).toNat + 1) 0 (List.replicate (Y0.Mesh.Places.length : Int).toNat (⟨0, 0, 0⟩ : GVector)) (by exact Nat.lt_succ_self _)
def Z2e (Y0 : GBody) (Y1 : Int) (Y6 : Int) : GVector := (Z1W (Y0.Mesh.Places.getD ((Y0.Mesh.Triangles.getD Y1.toNat default).getD (Int.tmod (Y6 + 2) 3).toNat default).toNat default) (Y0.Mesh.Places.getD ((Y0.Mesh.Triangles.getD Y1.toNat default).getD (Int.tmod (Y6 + 1) 3).toNat default).toNat default))
def Z3u (Y0 : GBody) (Y1 : Int) (Y6 : Int) (Yp : (List GVector)) : (List GVector) := (Zu ((Y0.Mesh.Triangles.getD Y1.toNat default).getD Y6.toNat default) (Z2A (Za Y0.Mesh (Y0.Mesh.Triangles.getD Y1.toNat default)) (Z2e Y0 Y1 Y6)) (fop .quo .f32 (fneg .f32 (fop .mul .f32 1056964608 Y0.Film)) (Zs (Za Y0.Mesh (Y0.Mesh.Triangles.getD Y1.toNat default)))) Yp)
@[simp] theorem Zgh (Y0 : GBody) (Y1 : Int) (Y6 : Int) (Yp : (List GVector)) : (Z3u Y0 Y1 Y6 Yp).length = Yp.length := by unfold Z3u; simp
def Z1e (Y0 : GBody) (Y1 : Int) (Yd : (List GVector)) : Nat → Int → (List GVector) → (List GVector)
  | 0, _, _ => default
  | k + 1, Y6, Yp => (cond (decide (Y6 < 3))
    (Z1e Y0 Y1 Yd k (Y6 + 1) (Z3u Y0 Y1 Y6 Yp))
    Yp)
def Z6O (Y0 : GBody) (Y1 : Int) (Yd : (List GVector)) (r : (List GVector)) : Ex × St := ((.exit 4), ⟨.agg [.sl (Y0.Mesh.Places.map GVector.cells), .sl (Y0.Mesh.Triangles.map (cL (cI .i64))), .sl (Y0.Springs.map GSpring.cells), .f .f32 Y0.Film, .f .f32 Y0.Bend, .sl (Y0.Weights.map (cF .f32)), .f .f32 Y0.Fall.X, .f .f32 Y0.Fall.Y, .f .f32 Y0.Fall.Z] :: .ptr 0 0 0 :: .nils :: .ptr 1 0 0 :: .fn 106 [.ptr 1 0 0] :: an 4 (.sl (Y0.Mesh.Places.map GVector.cells) :: .any :: .sl ((Y0.Mesh.Triangles.getD Y1.toNat default).map (cI .i64)) :: .ptr 2 0 0 :: .f .f32 (fop .quo .f32 (fneg .f32 (fop .mul .f32 1056964608 Y0.Film)) (Zs (Za Y0.Mesh (Y0.Mesh.Triangles.getD Y1.toNat default)))) :: .f .f32 (Zs (Za Y0.Mesh (Y0.Mesh.Triangles.getD Y1.toNat default))) :: an 8 (.ptr 0 0 0 :: .ptr 0 0 0 :: .sl (Y0.Mesh.Places.map GVector.cells) :: .i .i64 (Y0.Mesh.Places.length : Int) :: .own 3 :: .fn 106 [.ptr 1 0 0] :: .ptr 0 0 2 :: .sl (Y0.Springs.map GSpring.cells) :: an 25 (.ptr 0 0 0 :: .ptr 0 0 0 :: .sl (Y0.Mesh.Places.map GVector.cells) :: .ptr 0 0 0 :: .ptr 0 0 1 :: .sl (Y0.Mesh.Triangles.map (cL (cI .i64))) :: .i .i64 (Y0.Mesh.Triangles.length : Int) :: .i .i64 Y1 :: .b (decide (Y1 < (Y0.Mesh.Triangles.length : Int))) :: .ref [.sl ((Y0.Mesh.Triangles.getD Y1.toNat default).map (cI .i64))] 0 :: .sl ((Y0.Mesh.Triangles.getD Y1.toNat default).map (cI .i64)) :: .ptr 0 0 0 :: .agg [.sl (Y0.Mesh.Places.map GVector.cells), .sl (Y0.Mesh.Triangles.map (cL (cI .i64)))] :: .sl ((Y0.Mesh.Triangles.getD Y1.toNat default).map (cI .i64)) :: .agg [.f .f32 ((Za Y0.Mesh (Y0.Mesh.Triangles.getD Y1.toNat default)).X), .f .f32 ((Za Y0.Mesh (Y0.Mesh.Triangles.getD Y1.toNat default)).Y), .f .f32 ((Za Y0.Mesh (Y0.Mesh.Triangles.getD Y1.toNat default)).Z)] :: .agg [.f .f32 ((Za Y0.Mesh (Y0.Mesh.Triangles.getD Y1.toNat default)).X), .f .f32 ((Za Y0.Mesh (Y0.Mesh.Triangles.getD Y1.toNat default)).Y), .f .f32 ((Za Y0.Mesh (Y0.Mesh.Triangles.getD Y1.toNat default)).Z)] :: .f .f32 (Zs (Za Y0.Mesh (Y0.Mesh.Triangles.getD Y1.toNat default))) :: .f .f32 (Zs (Za Y0.Mesh (Y0.Mesh.Triangles.getD Y1.toNat default))) :: .b (fcmp .gtr .f32 (Zs (Za Y0.Mesh (Y0.Mesh.Triangles.getD Y1.toNat default))) 0) :: .ptr 0 0 3 :: .f .f32 Y0.Film :: .f .f32 (fop .mul .f32 1056964608 Y0.Film) :: .f .f32 (fneg .f32 (fop .mul .f32 1056964608 Y0.Film)) :: .f .f32 (Zs (Za Y0.Mesh (Y0.Mesh.Triangles.getD Y1.toNat default))) :: .f .f32 (fop .quo .f32 (fneg .f32 (fop .mul .f32 1056964608 Y0.Film)) (Zs (Za Y0.Mesh (Y0.Mesh.Triangles.getD Y1.toNat default)))) :: an 98 []))), [.box 42 [.sl (Y0.Mesh.Places.map GVector.cells), .sl (Y0.Mesh.Triangles.map (cL (cI .i64))), .sl (Y0.Springs.map GSpring.cells), .f .f32 Y0.Film, .f .f32 Y0.Bend, .sl (Y0.Weights.map (cF .f32)), .f .f32 Y0.Fall.X, .f .f32 Y0.Fall.Y, .f .f32 Y0.Fall.Z], .box 34 [.own 3], .box 40 [.f .f32 ((Za Y0.Mesh (Y0.Mesh.Triangles.getD Y1.toNat default)).X), .f .f32 ((Za Y0.Mesh (Y0.Mesh.Triangles.getD Y1.toNat default)).Y), .f .f32 ((Za Y0.Mesh (Y0.Mesh.Triangles.getD Y1.toNat default)).Z)], .vec 40 3 (r.map GVector.cells) false]⟩)
def Zd5 (Y0 : GBody) (Y1 : Int) (Yd : (List GVector)) (Y6 : Int) (Yp : (List GVector)) : St := ⟨.agg [.sl (Y0.Mesh.Places.map GVector.cells), .sl (Y0.Mesh.Triangles.map (cL (cI .i64))), .sl (Y0.Springs.map GSpring.cells), .f .f32 Y0.Film, .f .f32 Y0.Bend, .sl (Y0.Weights.map (cF .f32)), .f .f32 Y0.Fall.X, .f .f32 Y0.Fall.Y, .f .f32 Y0.Fall.Z] :: .ptr 0 0 0 :: .nils :: .ptr 1 0 0 :: .fn 106 [.ptr 1 0 0] :: an 4 (.sl (Y0.Mesh.Places.map GVector.cells) :: .any :: .sl ((Y0.Mesh.Triangles.getD Y1.toNat default).map (cI .i64)) :: .ptr 3 0 0 :: .f .f32 (fop .quo .f32 (fneg .f32 (fop .mul .f32 1056964608 Y0.Film)) (Zs (Za Y0.Mesh (Y0.Mesh.Triangles.getD Y1.toNat default)))) :: .f .f32 (Zs (Za Y0.Mesh (Y0.Mesh.Triangles.getD Y1.toNat default))) :: an 8 (.ptr 0 0 0 :: .ptr 0 0 0 :: .sl (Y0.Mesh.Places.map GVector.cells) :: .i .i64 (Y0.Mesh.Places.length : Int) :: .own 2 :: .fn 106 [.ptr 1 0 0] :: .ptr 0 0 2 :: .sl (Y0.Springs.map GSpring.cells) :: an 25 (.ptr 0 0 0 :: .ptr 0 0 0 :: .sl (Y0.Mesh.Places.map GVector.cells) :: .ptr 0 0 0 :: .ptr 0 0 1 :: .sl (Y0.Mesh.Triangles.map (cL (cI .i64))) :: .i .i64 (Y0.Mesh.Triangles.length : Int) :: .i .i64 Y1 :: .b (decide (Y1 < (Y0.Mesh.Triangles.length : Int))) :: .ref [.sl ((Y0.Mesh.Triangles.getD Y1.toNat default).map (cI .i64))] 0 :: .sl ((Y0.Mesh.Triangles.getD Y1.toNat default).map (cI .i64)) :: .ptr 0 0 0 :: .agg [.sl (Y0.Mesh.Places.map GVector.cells), .sl (Y0.Mesh.Triangles.map (cL (cI .i64)))] :: .sl ((Y0.Mesh.Triangles.getD Y1.toNat default).map (cI .i64)) :: .agg [.f .f32 ((Za Y0.Mesh (Y0.Mesh.Triangles.getD Y1.toNat default)).X), .f .f32 ((Za Y0.Mesh (Y0.Mesh.Triangles.getD Y1.toNat default)).Y), .f .f32 ((Za Y0.Mesh (Y0.Mesh.Triangles.getD Y1.toNat default)).Z)] :: .agg [.f .f32 ((Za Y0.Mesh (Y0.Mesh.Triangles.getD Y1.toNat default)).X), .f .f32 ((Za Y0.Mesh (Y0.Mesh.Triangles.getD Y1.toNat default)).Y), .f .f32 ((Za Y0.Mesh (Y0.Mesh.Triangles.getD Y1.toNat default)).Z)] :: .f .f32 (Zs (Za Y0.Mesh (Y0.Mesh.Triangles.getD Y1.toNat default))) :: .f .f32 (Zs (Za Y0.Mesh (Y0.Mesh.Triangles.getD Y1.toNat default))) :: .b (fcmp .gtr .f32 (Zs (Za Y0.Mesh (Y0.Mesh.Triangles.getD Y1.toNat default))) 0) :: .ptr 0 0 3 :: .f .f32 Y0.Film :: .f .f32 (fop .mul .f32 1056964608 Y0.Film) :: .f .f32 (fneg .f32 (fop .mul .f32 1056964608 Y0.Film)) :: .f .f32 (Zs (Za Y0.Mesh (Y0.Mesh.Triangles.getD Y1.toNat default))) :: .f .f32 (fop .quo .f32 (fneg .f32 (fop .mul .f32 1056964608 Y0.Film)) (Zs (Za Y0.Mesh (Y0.Mesh.Triangles.getD Y1.toNat default)))) :: .i .i64 Y6 :: an 97 []))), [.box 42 [.sl (Y0.Mesh.Places.map GVector.cells), .sl (Y0.Mesh.Triangles.map (cL (cI .i64))), .sl (Y0.Springs.map GSpring.cells), .f .f32 Y0.Film, .f .f32 Y0.Bend, .sl (Y0.Weights.map (cF .f32)), .f .f32 Y0.Fall.X, .f .f32 Y0.Fall.Y, .f .f32 Y0.Fall.Z], .box 34 [.own 2], .vec 40 3 (Yp.map GVector.cells) false, .box 40 [.f .f32 ((Za Y0.Mesh (Y0.Mesh.Triangles.getD Y1.toNat default)).X), .f .f32 ((Za Y0.Mesh (Y0.Mesh.Triangles.getD Y1.toNat default)).Y), .f .f32 ((Za Y0.Mesh (Y0.Mesh.Triangles.getD Y1.toNat default)).Z)]]⟩
def Z8v : List Bool := (mR false [0, 5, 4, 1, 1, 4, 8, 8, 25, 26, 97])
def ZbS : List Bool := (mR false [0, 5, 4, 1, 1, 4, 8, 8, 25, 25, 98])
theorem Zd6 (Y0 : GBody) (Y1 : Int) (Yd : (List GVector)) (hp0 : Y0.Mesh.Places.length ≤ 1073741824) (hp1 : Y0.Mesh.Triangles.length ≤ 1073741824) (hp2 : ∀ t ∈ Y0.Mesh.Triangles, t.length ≤ 1073741824) (hp3 : Y0.Springs.length ≤ 1073741824) (hp4 : Y0.Weights.length ≤ 1073741824) (hp5 : OkBd Y0) (Z3U : 0 ≤ Y1) (Z3V : Yd.length = Y0.Mesh.Places.length) (Z2c : (decide (Y1 < (Y0.Mesh.Triangles.length : Int))) = true) : ∀ (k : Nat) (Y6 : Int) (Yp : (List GVector)) (Z8w : 0 ≤ Y6) (Z8x : Yp.length = Yd.length) (hk : ((3 : Int) - Y6).toNat < k), Lp prog 0 (sub (bodyOf f57) [1, 1, 1, 1, 1, 0, 1, 0, 0, 1, 1, 0, 0, 1, 1, 1, 1, 1, 0, 0]) (Zd5 Y0 Y1 Yd Y6 Yp) (Z6O Y0 Y1 Yd (Z1e Y0 Y1 Yd k Y6 Yp)).1 (Z6O Y0 Y1 Yd (Z1e Y0 Y1 Yd k Y6 Yp)).2 := by
 intro k
 induction k with
 | zero => intro Y6 Yp Z8w Z8x hk; exact absurd hk (Nat.not_lt_zero _)
 | succ k ih =>
  intro Y6 Yp Z8w Z8x hk
  cases YD : (decide (Y6 < 3)) with
  | true =>
   have YB := of_decide_eq_true YD
   have Y15 : (-9223372036854775808 : Int) ≤ (Y6 + 1) := (by omega)
   have Y16 : (Y6 + 1) ≤ (9223372036854775807 : Int) := (by omega)
   have Y12 : (0 : Int) ≤ (Int.tmod (Y6 + 1) 3) := (by have q := Z2y hp5.e (by assumption) (of_decide_eq_true Z2c) (by assumption) YB; omega)
   have Y10 : (Int.tmod (Y6 + 1) 3) < ((Y0.Mesh.Triangles.getD Y1.toNat default).length : Int) := (by have q := Z2y hp5.e (by assumption) (of_decide_eq_true Z2c) (by assumption) YB; omega)
   have Y17 : (-9223372036854775808 : Int) ≤ (Y6 + 2) := (by omega)
   have Y1a : (Y6 + 2) ≤ (9223372036854775807 : Int) := (by omega)
   have Y19 : (0 : Int) ≤ (Int.tmod (Y6 + 2) 3) := (by have q := Z2y hp5.e (by assumption) (of_decide_eq_true Z2c) (by assumption) YB; omega)
   have Y1b : (Int.tmod (Y6 + 2) 3) < ((Y0.Mesh.Triangles.getD Y1.toNat default).length : Int) := (by have q := Z2y hp5.e (by assumption) (of_decide_eq_true Z2c) (by assumption) YB; omega)
   have Y1n : (0 : Int) ≤ Y6 := (by assumption)
   have Y1y : Y6 < ((Y0.Mesh.Triangles.getD Y1.toNat default).length : Int) := (by have q := Z2y hp5.e (by assumption) (of_decide_eq_true Z2c) (by assumption) YB; omega)
   have Y1o : (0 : Int) ≤ ((Y0.Mesh.Triangles.getD Y1.toNat default).getD (Int.tmod (Y6 + 2) 3).toNat default) := (by have q := Z2y hp5.e (by assumption) (of_decide_eq_true Z2c) (by assumption) YB; omega)
   have Y1p : ((Y0.Mesh.Triangles.getD Y1.toNat default).getD (Int.tmod (Y6 + 2) 3).toNat default) < (Y0.Mesh.Places.length : Int) := (by have q := Z2y hp5.e (by assumption) (of_decide_eq_true Z2c) (by assumption) YB; omega)
   have Y1i : (0 : Int) ≤ ((Y0.Mesh.Triangles.getD Y1.toNat default).getD (Int.tmod (Y6 + 1) 3).toNat default) := (by have q := Z2y hp5.e (by assumption) (of_decide_eq_true Z2c) (by assumption) YB; omega)
   have Y1j : ((Y0.Mesh.Triangles.getD Y1.toNat default).getD (Int.tmod (Y6 + 1) 3).toNat default) < (Y0.Mesh.Places.length : Int) := (by have q := Z2y hp5.e (by assumption) (of_decide_eq_true Z2c) (by assumption) YB; omega)
   have Y1k : Yp.length ≤ 1073741824 := (by omega)
   have Y1l : 0 ≤ ((Y0.Mesh.Triangles.getD Y1.toNat default).getD Y6.toNat default) := (by have q := Z2y hp5.e (by assumption) (of_decide_eq_true Z2c) (by assumption) YB; omega)
   have Y1m : ((Y0.Mesh.Triangles.getD Y1.toNat default).getD Y6.toNat default) < (Yp.length : Int) := (by have q := Z2y hp5.e (by assumption) (of_decide_eq_true Z2c) (by assumption) YB; omega)
   have e : Z1e Y0 Y1 Yd (k + 1) Y6 Yp = (Z1e Y0 Y1 Yd k (Y6 + 1) (Z3u Y0 Y1 Y6 Yp)) := by simp only [Z1e, YD, cond_true]
   rw [e]
   exact nextR E0Ok Z4 [] Z8v [0, 1, 2, 3] (ih (Y6 + 1) (Z3u Y0 Y1 Y6 Yp) (show 0 ≤ (Y6 + 1) from (by omega)) (show (Z3u Y0 Y1 Y6 Yp).length = Yd.length from (by simp_all <;> omega)) (by omega)) (sB YD <| sK [13, 13] <| sI (Y6 + 1) Y15 Y16 <| sC (show (3 : Int) ≠ 0 from (by decide)) <| sQ (Int.tmod (Y6 + 1) 3) <| sG (cI .i64) (Y0.Mesh.Triangles.getD Y1.toNat default) (Int.tmod (Y6 + 1) 3) Y12 Y10 <| sI (Y6 + 2) Y17 Y1a <| sC (show (3 : Int) ≠ 0 from (by decide)) <| sQ (Int.tmod (Y6 + 2) 3) <| sG (cI .i64) (Y0.Mesh.Triangles.getD Y1.toNat default) (Int.tmod (Y6 + 2) 3) Y19 Y1b <| sK [17, 17] <| sG (cI .i64) (Y0.Mesh.Triangles.getD Y1.toNat default) Y6 Y1n Y1y <| sG GVector.cells Y0.Mesh.Places ((Y0.Mesh.Triangles.getD Y1.toNat default).getD (Int.tmod (Y6 + 2) 3).toNat default) Y1o Y1p <| sG GVector.cells Y0.Mesh.Places ((Y0.Mesh.Triangles.getD Y1.toNat default).getD (Int.tmod (Y6 + 1) 3).toNat default) Y1i Y1j <| sF (Z4e (Y0.Mesh.Places.getD ((Y0.Mesh.Triangles.getD Y1.toNat default).getD (Int.tmod (Y6 + 2) 3).toNat default).toNat default) (Y0.Mesh.Places.getD ((Y0.Mesh.Triangles.getD Y1.toNat default).getD (Int.tmod (Y6 + 1) 3).toNat default).toNat default)) <| sF (Z9i (Za Y0.Mesh (Y0.Mesh.Triangles.getD Y1.toNat default)) (Z2e Y0 Y1 Y6)) <| sS (CallSt.frame (Z20 ((Y0.Mesh.Triangles.getD Y1.toNat default).getD Y6.toNat default) (Z2A (Za Y0.Mesh (Y0.Mesh.Triangles.getD Y1.toNat default)) (Z2e Y0 Y1 Y6)) (fop .quo .f32 (fneg .f32 (fop .mul .f32 1056964608 Y0.Film)) (Zs (Za Y0.Mesh (Y0.Mesh.Triangles.getD Y1.toNat default)))) Yp Y1k Y1l Y1m) [1, 2] (R := [.box 42 [.sl (Y0.Mesh.Places.map GVector.cells), .sl (Y0.Mesh.Triangles.map (cL (cI .i64))), .sl (Y0.Springs.map GSpring.cells), .f .f32 Y0.Film, .f .f32 Y0.Bend, .sl (Y0.Weights.map (cF .f32)), .f .f32 Y0.Fall.X, .f .f32 Y0.Fall.Y, .f .f32 Y0.Fall.Z], .box 34 [.own 2], .vec 40 3 (Yp.map GVector.cells) false, .box 40 [.f .f32 ((Za Y0.Mesh (Y0.Mesh.Triangles.getD Y1.toNat default)).X), .f .f32 ((Za Y0.Mesh (Y0.Mesh.Triangles.getD Y1.toNat default)).Y), .f .f32 ((Za Y0.Mesh (Y0.Mesh.Triangles.getD Y1.toNat default)).Z)]]) (args' := [.i .i64 ((Y0.Mesh.Triangles.getD Y1.toNat default).getD Y6.toNat default), .agg [.f .f32 ((Z2A (Za Y0.Mesh (Y0.Mesh.Triangles.getD Y1.toNat default)) (Z2e Y0 Y1 Y6)).X), .f .f32 ((Z2A (Za Y0.Mesh (Y0.Mesh.Triangles.getD Y1.toNat default)) (Z2e Y0 Y1 Y6)).Y), .f .f32 ((Z2A (Za Y0.Mesh (Y0.Mesh.Triangles.getD Y1.toNat default)) (Z2e Y0 Y1 Y6)).Z)], .f .f32 (fop .quo .f32 (fneg .f32 (fop .mul .f32 1056964608 Y0.Film)) (Zs (Za Y0.Mesh (Y0.Mesh.Triangles.getD Y1.toNat default)))), .ptr 1 0 0]) rfl rfl rfl rfl rfl rfl) <| sI (Y6 + 1) Y15 Y16 <| sN) (by kernel_rfl)
  | false =>
   have YB := of_decide_eq_false YD
   have e : Z1e Y0 Y1 Yd (k + 1) Y6 Yp = Yp := by simp only [Z1e, YD, cond_false]
   rw [e]
   exact outR (e := (.exit 4)) E0Ok Z4 [] ZbS [0, 1, 3, 2] (sB YD <| sN) (by kernel_rfl) (by intro h; cases h)
theorem ZbT (Y0 : GBody) (Y1 : Int) (Yd : (List GVector)) : ∀ (k : Nat) (Y6 : Int) (Yp : (List GVector)) (hk : ((3 : Int) - Y6).toNat < k), (Z1e Y0 Y1 Yd k Y6 Yp).length = Yp.length := by
  intro k
  induction k with
  | zero => intro Y6 Yp hk; exact absurd hk (Nat.not_lt_zero _)
  | succ k ih =>
    intro Y6 Yp hk
    cases YD : (decide (Y6 < 3)) with
    | true =>
      have e : Z1e Y0 Y1 Yd (k + 1) Y6 Yp = (Z1e Y0 Y1 Yd k (Y6 + 1) (Z3u Y0 Y1 Y6 Yp)) := by simp only [Z1e, YD, cond_true]
      rw [e, ih (Y6 + 1) (Z3u Y0 Y1 Y6 Yp) (by simp_all <;> omega)]; simp
    | false =>
      have e : Z1e Y0 Y1 Yd (k + 1) Y6 Yp = Yp := by simp only [Z1e, YD, cond_false]
      first | (rw [e]; done) | (rw [e]; rfl)
def Z2J (Y0 : GBody) (Y1 : Int) (Yd : (List GVector)) : (List GVector) := (Z1e Y0 Y1 Yd (((3 : Int) - 0).toNat + 1) 0 Yd)
@[simp] theorem ZfN (Y0 : GBody) (Y1 : Int) (Yd : (List GVector)) : (Z2J Y0 Y1 Yd).length = (Yd : (List GVector)).length := ZbT Y0 Y1 Yd (((3 : Int) - 0).toNat + 1) 0 Yd (by exact Nat.lt_succ_self _)
def Z3v (Y0 : GBody) (Y1 : Int) (Y6 : Int) (Yp : (List GVector)) : (List GVector) := (Zu ((Y0.Mesh.Triangles.getD Y1.toNat default).getD Y6.toNat default) (Z2A (Za Y0.Mesh (Y0.Mesh.Triangles.getD Y1.toNat default)) (Z2e Y0 Y1 Y6)) 0 Yp)
@[simp] theorem Zgi (Y0 : GBody) (Y1 : Int) (Y6 : Int) (Yp : (List GVector)) : (Z3v Y0 Y1 Y6 Yp).length = Yp.length := by unfold Z3v; simp
def Z1f (Y0 : GBody) (Y1 : Int) (Yd : (List GVector)) : Nat → Int → (List GVector) → (List GVector)
  | 0, _, _ => default
  | k + 1, Y6, Yp => (cond (decide (Y6 < 3))
    (Z1f Y0 Y1 Yd k (Y6 + 1) (Z3v Y0 Y1 Y6 Yp))
    Yp)
def Z6P (Y0 : GBody) (Y1 : Int) (Yd : (List GVector)) (r : (List GVector)) : Ex × St := ((.exit 4), ⟨.agg [.sl (Y0.Mesh.Places.map GVector.cells), .sl (Y0.Mesh.Triangles.map (cL (cI .i64))), .sl (Y0.Springs.map GSpring.cells), .f .f32 Y0.Film, .f .f32 Y0.Bend, .sl (Y0.Weights.map (cF .f32)), .f .f32 Y0.Fall.X, .f .f32 Y0.Fall.Y, .f .f32 Y0.Fall.Z] :: .ptr 0 0 0 :: .nils :: .ptr 1 0 0 :: .fn 106 [.ptr 1 0 0] :: an 4 (.sl (Y0.Mesh.Places.map GVector.cells) :: .any :: .sl ((Y0.Mesh.Triangles.getD Y1.toNat default).map (cI .i64)) :: .ptr 2 0 0 :: .f .f32 0 :: .f .f32 (Zs (Za Y0.Mesh (Y0.Mesh.Triangles.getD Y1.toNat default))) :: an 8 (.ptr 0 0 0 :: .ptr 0 0 0 :: .sl (Y0.Mesh.Places.map GVector.cells) :: .i .i64 (Y0.Mesh.Places.length : Int) :: .own 3 :: .fn 106 [.ptr 1 0 0] :: .ptr 0 0 2 :: .sl (Y0.Springs.map GSpring.cells) :: an 25 (.ptr 0 0 0 :: .ptr 0 0 0 :: .sl (Y0.Mesh.Places.map GVector.cells) :: .ptr 0 0 0 :: .ptr 0 0 1 :: .sl (Y0.Mesh.Triangles.map (cL (cI .i64))) :: .i .i64 (Y0.Mesh.Triangles.length : Int) :: .i .i64 Y1 :: .b (decide (Y1 < (Y0.Mesh.Triangles.length : Int))) :: .ref [.sl ((Y0.Mesh.Triangles.getD Y1.toNat default).map (cI .i64))] 0 :: .sl ((Y0.Mesh.Triangles.getD Y1.toNat default).map (cI .i64)) :: .ptr 0 0 0 :: .agg [.sl (Y0.Mesh.Places.map GVector.cells), .sl (Y0.Mesh.Triangles.map (cL (cI .i64)))] :: .sl ((Y0.Mesh.Triangles.getD Y1.toNat default).map (cI .i64)) :: .agg [.f .f32 ((Za Y0.Mesh (Y0.Mesh.Triangles.getD Y1.toNat default)).X), .f .f32 ((Za Y0.Mesh (Y0.Mesh.Triangles.getD Y1.toNat default)).Y), .f .f32 ((Za Y0.Mesh (Y0.Mesh.Triangles.getD Y1.toNat default)).Z)] :: .agg [.f .f32 ((Za Y0.Mesh (Y0.Mesh.Triangles.getD Y1.toNat default)).X), .f .f32 ((Za Y0.Mesh (Y0.Mesh.Triangles.getD Y1.toNat default)).Y), .f .f32 ((Za Y0.Mesh (Y0.Mesh.Triangles.getD Y1.toNat default)).Z)] :: .f .f32 (Zs (Za Y0.Mesh (Y0.Mesh.Triangles.getD Y1.toNat default))) :: .f .f32 (Zs (Za Y0.Mesh (Y0.Mesh.Triangles.getD Y1.toNat default))) :: .b (fcmp .gtr .f32 (Zs (Za Y0.Mesh (Y0.Mesh.Triangles.getD Y1.toNat default))) 0) :: an 104 []))), [.box 42 [.sl (Y0.Mesh.Places.map GVector.cells), .sl (Y0.Mesh.Triangles.map (cL (cI .i64))), .sl (Y0.Springs.map GSpring.cells), .f .f32 Y0.Film, .f .f32 Y0.Bend, .sl (Y0.Weights.map (cF .f32)), .f .f32 Y0.Fall.X, .f .f32 Y0.Fall.Y, .f .f32 Y0.Fall.Z], .box 34 [.own 3], .box 40 [.f .f32 ((Za Y0.Mesh (Y0.Mesh.Triangles.getD Y1.toNat default)).X), .f .f32 ((Za Y0.Mesh (Y0.Mesh.Triangles.getD Y1.toNat default)).Y), .f .f32 ((Za Y0.Mesh (Y0.Mesh.Triangles.getD Y1.toNat default)).Z)], .vec 40 3 (r.map GVector.cells) false]⟩)
def Zd7 (Y0 : GBody) (Y1 : Int) (Yd : (List GVector)) (Y6 : Int) (Yp : (List GVector)) : St := ⟨.agg [.sl (Y0.Mesh.Places.map GVector.cells), .sl (Y0.Mesh.Triangles.map (cL (cI .i64))), .sl (Y0.Springs.map GSpring.cells), .f .f32 Y0.Film, .f .f32 Y0.Bend, .sl (Y0.Weights.map (cF .f32)), .f .f32 Y0.Fall.X, .f .f32 Y0.Fall.Y, .f .f32 Y0.Fall.Z] :: .ptr 0 0 0 :: .nils :: .ptr 1 0 0 :: .fn 106 [.ptr 1 0 0] :: an 4 (.sl (Y0.Mesh.Places.map GVector.cells) :: .any :: .sl ((Y0.Mesh.Triangles.getD Y1.toNat default).map (cI .i64)) :: .ptr 3 0 0 :: .f .f32 0 :: .f .f32 (Zs (Za Y0.Mesh (Y0.Mesh.Triangles.getD Y1.toNat default))) :: an 8 (.ptr 0 0 0 :: .ptr 0 0 0 :: .sl (Y0.Mesh.Places.map GVector.cells) :: .i .i64 (Y0.Mesh.Places.length : Int) :: .own 2 :: .fn 106 [.ptr 1 0 0] :: .ptr 0 0 2 :: .sl (Y0.Springs.map GSpring.cells) :: an 25 (.ptr 0 0 0 :: .ptr 0 0 0 :: .sl (Y0.Mesh.Places.map GVector.cells) :: .ptr 0 0 0 :: .ptr 0 0 1 :: .sl (Y0.Mesh.Triangles.map (cL (cI .i64))) :: .i .i64 (Y0.Mesh.Triangles.length : Int) :: .i .i64 Y1 :: .b (decide (Y1 < (Y0.Mesh.Triangles.length : Int))) :: .ref [.sl ((Y0.Mesh.Triangles.getD Y1.toNat default).map (cI .i64))] 0 :: .sl ((Y0.Mesh.Triangles.getD Y1.toNat default).map (cI .i64)) :: .ptr 0 0 0 :: .agg [.sl (Y0.Mesh.Places.map GVector.cells), .sl (Y0.Mesh.Triangles.map (cL (cI .i64)))] :: .sl ((Y0.Mesh.Triangles.getD Y1.toNat default).map (cI .i64)) :: .agg [.f .f32 ((Za Y0.Mesh (Y0.Mesh.Triangles.getD Y1.toNat default)).X), .f .f32 ((Za Y0.Mesh (Y0.Mesh.Triangles.getD Y1.toNat default)).Y), .f .f32 ((Za Y0.Mesh (Y0.Mesh.Triangles.getD Y1.toNat default)).Z)] :: .agg [.f .f32 ((Za Y0.Mesh (Y0.Mesh.Triangles.getD Y1.toNat default)).X), .f .f32 ((Za Y0.Mesh (Y0.Mesh.Triangles.getD Y1.toNat default)).Y), .f .f32 ((Za Y0.Mesh (Y0.Mesh.Triangles.getD Y1.toNat default)).Z)] :: .f .f32 (Zs (Za Y0.Mesh (Y0.Mesh.Triangles.getD Y1.toNat default))) :: .f .f32 (Zs (Za Y0.Mesh (Y0.Mesh.Triangles.getD Y1.toNat default))) :: .b (fcmp .gtr .f32 (Zs (Za Y0.Mesh (Y0.Mesh.Triangles.getD Y1.toNat default))) 0) :: an 6 (.i .i64 Y6 :: an 97 [])))), [.box 42 [.sl (Y0.Mesh.Places.map GVector.cells), .sl (Y0.Mesh.Triangles.map (cL (cI .i64))), .sl (Y0.Springs.map GSpring.cells), .f .f32 Y0.Film, .f .f32 Y0.Bend, .sl (Y0.Weights.map (cF .f32)), .f .f32 Y0.Fall.X, .f .f32 Y0.Fall.Y, .f .f32 Y0.Fall.Z], .box 34 [.own 2], .vec 40 3 (Yp.map GVector.cells) false, .box 40 [.f .f32 ((Za Y0.Mesh (Y0.Mesh.Triangles.getD Y1.toNat default)).X), .f .f32 ((Za Y0.Mesh (Y0.Mesh.Triangles.getD Y1.toNat default)).Y), .f .f32 ((Za Y0.Mesh (Y0.Mesh.Triangles.getD Y1.toNat default)).Z)]]⟩
def Z8y : List Bool := (mR false [0, 5, 4, 1, 1, 4, 8, 8, 25, 19, 6, 1, 97])
def ZbU : List Bool := (mR false [0, 5, 4, 1, 1, 4, 8, 8, 25, 19, 104])
theorem Zd8 (Y0 : GBody) (Y1 : Int) (Yd : (List GVector)) (hp0 : Y0.Mesh.Places.length ≤ 1073741824) (hp1 : Y0.Mesh.Triangles.length ≤ 1073741824) (hp2 : ∀ t ∈ Y0.Mesh.Triangles, t.length ≤ 1073741824) (hp3 : Y0.Springs.length ≤ 1073741824) (hp4 : Y0.Weights.length ≤ 1073741824) (hp5 : OkBd Y0) (Z3U : 0 ≤ Y1) (Z3V : Yd.length = Y0.Mesh.Places.length) (Z2d : (decide (Y1 < (Y0.Mesh.Triangles.length : Int))) = true) : ∀ (k : Nat) (Y6 : Int) (Yp : (List GVector)) (Z8z : 0 ≤ Y6) (Z8A : Yp.length = Yd.length) (hk : ((3 : Int) - Y6).toNat < k), Lp prog 0 (sub (bodyOf f57) [1, 1, 1, 1, 1, 0, 1, 0, 0, 1, 1, 0, 0, 1, 1, 1, 1, 1, 0, 0]) (Zd7 Y0 Y1 Yd Y6 Yp) (Z6P Y0 Y1 Yd (Z1f Y0 Y1 Yd k Y6 Yp)).1 (Z6P Y0 Y1 Yd (Z1f Y0 Y1 Yd k Y6 Yp)).2 := by
 intro k
 induction k with
 | zero => intro Y6 Yp Z8z Z8A hk; exact absurd hk (Nat.not_lt_zero _)
 | succ k ih =>
  intro Y6 Yp Z8z Z8A hk
  cases YD : (decide (Y6 < 3)) with
  | true =>
   have YB := of_decide_eq_true YD
   have Y15 : (-9223372036854775808 : Int) ≤ (Y6 + 1) := (by omega)
   have Y16 : (Y6 + 1) ≤ (9223372036854775807 : Int) := (by omega)
   have Y12 : (0 : Int) ≤ (Int.tmod (Y6 + 1) 3) := (by have q := Z2y hp5.e (by assumption) (of_decide_eq_true Z2d) (by assumption) YB; omega)
   have Y10 : (Int.tmod (Y6 + 1) 3) < ((Y0.Mesh.Triangles.getD Y1.toNat default).length : Int) := (by have q := Z2y hp5.e (by assumption) (of_decide_eq_true Z2d) (by assumption) YB; omega)
   have Y17 : (-9223372036854775808 : Int) ≤ (Y6 + 2) := (by omega)
   have Y1a : (Y6 + 2) ≤ (9223372036854775807 : Int) := (by omega)
   have Y19 : (0 : Int) ≤ (Int.tmod (Y6 + 2) 3) := (by have q := Z2y hp5.e (by assumption) (of_decide_eq_true Z2d) (by assumption) YB; omega)
   have Y1b : (Int.tmod (Y6 + 2) 3) < ((Y0.Mesh.Triangles.getD Y1.toNat default).length : Int) := (by have q := Z2y hp5.e (by assumption) (of_decide_eq_true Z2d) (by assumption) YB; omega)
   have Y1n : (0 : Int) ≤ Y6 := (by assumption)
   have Y1y : Y6 < ((Y0.Mesh.Triangles.getD Y1.toNat default).length : Int) := (by have q := Z2y hp5.e (by assumption) (of_decide_eq_true Z2d) (by assumption) YB; omega)
   have Y1o : (0 : Int) ≤ ((Y0.Mesh.Triangles.getD Y1.toNat default).getD (Int.tmod (Y6 + 2) 3).toNat default) := (by have q := Z2y hp5.e (by assumption) (of_decide_eq_true Z2d) (by assumption) YB; omega)
   have Y1p : ((Y0.Mesh.Triangles.getD Y1.toNat default).getD (Int.tmod (Y6 + 2) 3).toNat default) < (Y0.Mesh.Places.length : Int) := (by have q := Z2y hp5.e (by assumption) (of_decide_eq_true Z2d) (by assumption) YB; omega)
   have Y1i : (0 : Int) ≤ ((Y0.Mesh.Triangles.getD Y1.toNat default).getD (Int.tmod (Y6 + 1) 3).toNat default) := (by have q := Z2y hp5.e (by assumption) (of_decide_eq_true Z2d) (by assumption) YB; omega)
   have Y1j : ((Y0.Mesh.Triangles.getD Y1.toNat default).getD (Int.tmod (Y6 + 1) 3).toNat default) < (Y0.Mesh.Places.length : Int) := (by have q := Z2y hp5.e (by assumption) (of_decide_eq_true Z2d) (by assumption) YB; omega)
   have Y1k : Yp.length ≤ 1073741824 := (by omega)
   have Y1l : 0 ≤ ((Y0.Mesh.Triangles.getD Y1.toNat default).getD Y6.toNat default) := (by have q := Z2y hp5.e (by assumption) (of_decide_eq_true Z2d) (by assumption) YB; omega)
   have Y1m : ((Y0.Mesh.Triangles.getD Y1.toNat default).getD Y6.toNat default) < (Yp.length : Int) := (by have q := Z2y hp5.e (by assumption) (of_decide_eq_true Z2d) (by assumption) YB; omega)
   have e : Z1f Y0 Y1 Yd (k + 1) Y6 Yp = (Z1f Y0 Y1 Yd k (Y6 + 1) (Z3v Y0 Y1 Y6 Yp)) := by simp only [Z1f, YD, cond_true]
   rw [e]
   exact nextR E0Ok Z4 [] Z8y [0, 1, 2, 3] (ih (Y6 + 1) (Z3v Y0 Y1 Y6 Yp) (show 0 ≤ (Y6 + 1) from (by omega)) (show (Z3v Y0 Y1 Y6 Yp).length = Yd.length from (by simp_all <;> omega)) (by omega)) (sB YD <| sK [13, 13] <| sI (Y6 + 1) Y15 Y16 <| sC (show (3 : Int) ≠ 0 from (by decide)) <| sQ (Int.tmod (Y6 + 1) 3) <| sG (cI .i64) (Y0.Mesh.Triangles.getD Y1.toNat default) (Int.tmod (Y6 + 1) 3) Y12 Y10 <| sI (Y6 + 2) Y17 Y1a <| sC (show (3 : Int) ≠ 0 from (by decide)) <| sQ (Int.tmod (Y6 + 2) 3) <| sG (cI .i64) (Y0.Mesh.Triangles.getD Y1.toNat default) (Int.tmod (Y6 + 2) 3) Y19 Y1b <| sK [17, 17] <| sG (cI .i64) (Y0.Mesh.Triangles.getD Y1.toNat default) Y6 Y1n Y1y <| sG GVector.cells Y0.Mesh.Places ((Y0.Mesh.Triangles.getD Y1.toNat default).getD (Int.tmod (Y6 + 2) 3).toNat default) Y1o Y1p <| sG GVector.cells Y0.Mesh.Places ((Y0.Mesh.Triangles.getD Y1.toNat default).getD (Int.tmod (Y6 + 1) 3).toNat default) Y1i Y1j <| sF (Z4e (Y0.Mesh.Places.getD ((Y0.Mesh.Triangles.getD Y1.toNat default).getD (Int.tmod (Y6 + 2) 3).toNat default).toNat default) (Y0.Mesh.Places.getD ((Y0.Mesh.Triangles.getD Y1.toNat default).getD (Int.tmod (Y6 + 1) 3).toNat default).toNat default)) <| sF (Z9i (Za Y0.Mesh (Y0.Mesh.Triangles.getD Y1.toNat default)) (Z2e Y0 Y1 Y6)) <| sS (CallSt.frame (Z20 ((Y0.Mesh.Triangles.getD Y1.toNat default).getD Y6.toNat default) (Z2A (Za Y0.Mesh (Y0.Mesh.Triangles.getD Y1.toNat default)) (Z2e Y0 Y1 Y6)) 0 Yp Y1k Y1l Y1m) [1, 2] (R := [.box 42 [.sl (Y0.Mesh.Places.map GVector.cells), .sl (Y0.Mesh.Triangles.map (cL (cI .i64))), .sl (Y0.Springs.map GSpring.cells), .f .f32 Y0.Film, .f .f32 Y0.Bend, .sl (Y0.Weights.map (cF .f32)), .f .f32 Y0.Fall.X, .f .f32 Y0.Fall.Y, .f .f32 Y0.Fall.Z], .box 34 [.own 2], .vec 40 3 (Yp.map GVector.cells) false, .box 40 [.f .f32 ((Za Y0.Mesh (Y0.Mesh.Triangles.getD Y1.toNat default)).X), .f .f32 ((Za Y0.Mesh (Y0.Mesh.Triangles.getD Y1.toNat default)).Y), .f .f32 ((Za Y0.Mesh (Y0.Mesh.Triangles.getD Y1.toNat default)).Z)]]) (args' := [.i .i64 ((Y0.Mesh.Triangles.getD Y1.toNat default).getD Y6.toNat default), .agg [.f .f32 ((Z2A (Za Y0.Mesh (Y0.Mesh.Triangles.getD Y1.toNat default)) (Z2e Y0 Y1 Y6)).X), .f .f32 ((Z2A (Za Y0.Mesh (Y0.Mesh.Triangles.getD Y1.toNat default)) (Z2e Y0 Y1 Y6)).Y), .f .f32 ((Z2A (Za Y0.Mesh (Y0.Mesh.Triangles.getD Y1.toNat default)) (Z2e Y0 Y1 Y6)).Z)], .f .f32 0, .ptr 1 0 0]) rfl rfl rfl rfl rfl rfl) <| sI (Y6 + 1) Y15 Y16 <| sN) (by kernel_rfl)
  | false =>
   have YB := of_decide_eq_false YD
   have e : Z1f Y0 Y1 Yd (k + 1) Y6 Yp = Yp := by simp only [Z1f, YD, cond_false]
   rw [e]
   exact outR (e := (.exit 4)) E0Ok Z4 [] ZbU [0, 1, 3, 2] (sB YD <| sN) (by kernel_rfl) (by intro h; cases h)
theorem ZbV (Y0 : GBody) (Y1 : Int) (Yd : (List GVector)) : ∀ (k : Nat) (Y6 : Int) (Yp : (List GVector)) (hk : ((3 : Int) - Y6).toNat < k), (Z1f Y0 Y1 Yd k Y6 Yp).length = Yp.length := by
  intro k
  induction k with
  | zero => intro Y6 Yp hk; exact absurd hk (Nat.not_lt_zero _)
  | succ k ih =>
    intro Y6 Yp hk
    cases YD : (decide (Y6 < 3)) with
    | true =>
      have e : Z1f Y0 Y1 Yd (k + 1) Y6 Yp = (Z1f Y0 Y1 Yd k (Y6 + 1) (Z3v Y0 Y1 Y6 Yp)) := by simp only [Z1f, YD, cond_true]
      rw [e, ih (Y6 + 1) (Z3v Y0 Y1 Y6 Yp) (by simp_all <;> omega)]; simp
    | false =>
      have e : Z1f Y0 Y1 Yd (k + 1) Y6 Yp = Yp := by simp only [Z1f, YD, cond_false]
      first | (rw [e]; done) | (rw [e]; rfl)
def Z2K (Y0 : GBody) (Y1 : Int) (Yd : (List GVector)) : (List GVector) := (Z1f Y0 Y1 Yd (((3 : Int) - 0).toNat + 1) 0 Yd)
@[simp] theorem ZfO (Y0 : GBody) (Y1 : Int) (Yd : (List GVector)) : (Z2K Y0 Y1 Yd).length = (Yd : (List GVector)).length := ZbV Y0 Y1 Yd (((3 : Int) - 0).toNat + 1) 0 Yd (by exact Nat.lt_succ_self _)
def Zv (Y0 : GBody) : Nat → Int → (List GVector) → (List GVector)
  | 0, _, _ => default
  | k + 1, Y1, Yd => (cond (decide (Y1 < (Y0.Mesh.Triangles.length : Int)))
    (cond (fcmp .gtr .f32 (Zs (Za Y0.Mesh (Y0.Mesh.Triangles.getD Y1.toNat default))) 0)
      (Zv Y0 k (Y1 + 1) (Z2J Y0 Y1 Yd))
      (Zv Y0 k (Y1 + 1) (Z2K Y0 Y1 Yd)))
    Yd)
def Z6Q (Y0 : GBody) (r : (List GVector)) : Ex × St := ((.exit 2), ⟨.agg [.sl (Y0.Mesh.Places.map GVector.cells), .sl (Y0.Mesh.Triangles.map (cL (cI .i64))), .sl (Y0.Springs.map GSpring.cells), .f .f32 Y0.Film, .f .f32 Y0.Bend, .sl (Y0.Weights.map (cF .f32)), .f .f32 Y0.Fall.X, .f .f32 Y0.Fall.Y, .f .f32 Y0.Fall.Z] :: .ptr 0 0 0 :: .nils :: .ptr 1 0 0 :: .fn 106 [.ptr 1 0 0] :: an 18 (.ptr 0 0 0 :: .ptr 0 0 0 :: .sl (Y0.Mesh.Places.map GVector.cells) :: .i .i64 (Y0.Mesh.Places.length : Int) :: .own 2 :: .fn 106 [.ptr 1 0 0] :: .ptr 0 0 2 :: .sl (Y0.Springs.map GSpring.cells) :: an 25 (.ptr 0 0 0 :: .ptr 0 0 0 :: .sl (Y0.Mesh.Places.map GVector.cells) :: .ptr 0 0 0 :: .ptr 0 0 1 :: .sl (Y0.Mesh.Triangles.map (cL (cI .i64))) :: an 117 [])), [.box 42 [.sl (Y0.Mesh.Places.map GVector.cells), .sl (Y0.Mesh.Triangles.map (cL (cI .i64))), .sl (Y0.Springs.map GSpring.cells), .f .f32 Y0.Film, .f .f32 Y0.Bend, .sl (Y0.Weights.map (cF .f32)), .f .f32 Y0.Fall.X, .f .f32 Y0.Fall.Y, .f .f32 Y0.Fall.Z], .box 34 [.own 2], .vec 40 3 (r.map GVector.cells) false]⟩)
def Zd9 (Y0 : GBody) (Y1 : Int) (Yd : (List GVector)) : St := ⟨.agg [.sl (Y0.Mesh.Places.map GVector.cells), .sl (Y0.Mesh.Triangles.map (cL (cI .i64))), .sl (Y0.Springs.map GSpring.cells), .f .f32 Y0.Film, .f .f32 Y0.Bend, .sl (Y0.Weights.map (cF .f32)), .f .f32 Y0.Fall.X, .f .f32 Y0.Fall.Y, .f .f32 Y0.Fall.Z] :: .ptr 0 0 0 :: .nils :: .ptr 1 0 0 :: .fn 106 [.ptr 1 0 0] :: an 4 (.sl (Y0.Mesh.Places.map GVector.cells) :: an 13 (.ptr 0 0 0 :: .ptr 0 0 0 :: .sl (Y0.Mesh.Places.map GVector.cells) :: .i .i64 (Y0.Mesh.Places.length : Int) :: .own 2 :: .fn 106 [.ptr 1 0 0] :: .ptr 0 0 2 :: .sl (Y0.Springs.map GSpring.cells) :: an 25 (.ptr 0 0 0 :: .ptr 0 0 0 :: .sl (Y0.Mesh.Places.map GVector.cells) :: .ptr 0 0 0 :: .ptr 0 0 1 :: .sl (Y0.Mesh.Triangles.map (cL (cI .i64))) :: .i .i64 (Y0.Mesh.Triangles.length : Int) :: .i .i64 Y1 :: an 115 []))), [.box 42 [.sl (Y0.Mesh.Places.map GVector.cells), .sl (Y0.Mesh.Triangles.map (cL (cI .i64))), .sl (Y0.Springs.map GSpring.cells), .f .f32 Y0.Film, .f .f32 Y0.Bend, .sl (Y0.Weights.map (cF .f32)), .f .f32 Y0.Fall.X, .f .f32 Y0.Fall.Y, .f .f32 Y0.Fall.Z], .box 34 [.own 2], .vec 40 3 (Yd.map GVector.cells) false]⟩
def Z62 : List Bool := (mR false [0, 5, 4, 1, 13, 8, 25, 8, 115])
theorem Zda (Y0 : GBody) (hp0 : Y0.Mesh.Places.length ≤ 1073741824) (hp1 : Y0.Mesh.Triangles.length ≤ 1073741824) (hp2 : ∀ t ∈ Y0.Mesh.Triangles, t.length ≤ 1073741824) (hp3 : Y0.Springs.length ≤ 1073741824) (hp4 : Y0.Weights.length ≤ 1073741824) (hp5 : OkBd Y0) : ∀ (k : Nat) (Y1 : Int) (Yd : (List GVector)) (Z3U : 0 ≤ Y1) (Z3V : Yd.length = Y0.Mesh.Places.length) (hk : ((Y0.Mesh.Triangles.length : Int) - Y1).toNat < k), Lp prog 0 (sub (bodyOf f57) [1, 1, 1, 1, 1, 0, 1, 0, 0]) (Zd9 Y0 Y1 Yd) (Z6Q Y0 (Zv Y0 k Y1 Yd)).1 (Z6Q Y0 (Zv Y0 k Y1 Yd)).2 := by
 intro k
 induction k with
 | zero => intro Y1 Yd Z3U Z3V hk; exact absurd hk (Nat.not_lt_zero _)
 | succ k ih =>
  intro Y1 Yd Z3U Z3V hk
  cases Yg : (decide (Y1 < (Y0.Mesh.Triangles.length : Int))) with
  | true =>
   have Yt := of_decide_eq_true Yg
   have YA : (0 : Int) ≤ Y1 := (by assumption)
   have YE : Y1 < (Y0.Mesh.Triangles.length : Int) := (by assumption)
   have YG : (Y0.Mesh.Triangles.getD Y1.toNat default).length ≤ 1073741824 := (by exact tri3L hp5.e (by assumption) Yg)
   have YH : (Y0.Mesh.Triangles.getD Y1.toNat default).length = 3 ∧ ∀ x ∈ (Y0.Mesh.Triangles.getD Y1.toNat default), 0 ≤ x ∧ x < (Y0.Mesh.Places.length : Int) := (by exact tri3 hp5.e (by assumption) Yg)
   have p {a C} (s : Scr a C) := sB Yg <| sG (cL (cI .i64)) Y0.Mesh.Triangles Y1 YA YE <| sF (ZaT Y0.Mesh (Y0.Mesh.Triangles.getD Y1.toNat default) hp0 hp1 hp2 YG YH) <| sF (Z7p (Za Y0.Mesh (Y0.Mesh.Triangles.getD Y1.toNat default))) <| s
   cases Yq : (fcmp .gtr .f32 (Zs (Za Y0.Mesh (Y0.Mesh.Triangles.getD Y1.toNat default))) 0) with
   | true =>
    have YL : (-9223372036854775808 : Int) ≤ (Y1 + 1) := by clear p; exact (by omega)
    have YQ : (Y1 + 1) ≤ (9223372036854775807 : Int) := by clear p; exact (by omega)
    have e : Zv Y0 (k + 1) Y1 Yd = (Zv Y0 k (Y1 + 1) (Z2J Y0 Y1 Yd)) := by simp only [Zv, Yg, Yq, cond_true]
    rw [e]
    exact nextR E0Ok Z4 [] Z62 [0, 1, 3] (ih (Y1 + 1) (Z2J Y0 Y1 Yd) (show 0 ≤ (Y1 + 1) from (by omega)) (show (Z2J Y0 Y1 Yd).length = Y0.Mesh.Places.length from (by simp_all <;> omega)) (by omega)) (p (sB Yq <| sL Z8v 4 (lp_val (Z6O Y0 Y1 Yd) (x := (Z2J Y0 Y1 Yd)) (Zd6 Y0 Y1 Yd hp0 hp1 hp2 hp3 hp4 hp5 Z3U Z3V Yg (((3 : Int) - 0).toNat + 1) 0 Yd (show 0 ≤ 0 from (by omega)) (show Yd.length = Yd.length from (by omega)) (Nat.lt_succ_self _)) rfl) <| sI (Y1 + 1) YL YQ <| sN)) (by kernel_rfl)
   | false =>
    have YL : (-9223372036854775808 : Int) ≤ (Y1 + 1) := by clear p; exact (by omega)
    have YQ : (Y1 + 1) ≤ (9223372036854775807 : Int) := by clear p; exact (by omega)
    have e : Zv Y0 (k + 1) Y1 Yd = (Zv Y0 k (Y1 + 1) (Z2K Y0 Y1 Yd)) := by simp only [Zv, Yg, Yq, cond_true, cond_false]
    rw [e]
    exact nextR E0Ok Z4 [] Z62 [0, 1, 3] (ih (Y1 + 1) (Z2K Y0 Y1 Yd) (show 0 ≤ (Y1 + 1) from (by omega)) (show (Z2K Y0 Y1 Yd).length = Y0.Mesh.Places.length from (by simp_all <;> omega)) (by omega)) (p (sB Yq <| sL Z8y 4 (lp_val (Z6P Y0 Y1 Yd) (x := (Z2K Y0 Y1 Yd)) (Zd8 Y0 Y1 Yd hp0 hp1 hp2 hp3 hp4 hp5 Z3U Z3V Yg (((3 : Int) - 0).toNat + 1) 0 Yd (show 0 ≤ 0 from (by omega)) (show Yd.length = Yd.length from (by omega)) (Nat.lt_succ_self _)) rfl) <| sI (Y1 + 1) YL YQ <| sN)) (by kernel_rfl)
  | false =>
   have Yt := of_decide_eq_false Yg
   have e : Zv Y0 (k + 1) Y1 Yd = Yd := by simp only [Zv, Yg, cond_false]
   rw [e]
   exact outR (e := (.exit 2)) E0Ok Z4 [] (mR false [0, 5, 18, 8, 25, 6, 117]) [0, 1, 2] (sB Yg <| sN) (by kernel_rfl) (by intro h; cases h)
theorem ZbW (Y0 : GBody) : ∀ (k : Nat) (Y1 : Int) (Yd : (List GVector)) (hk : ((Y0.Mesh.Triangles.length : Int) - Y1).toNat < k), (Zv Y0 k Y1 Yd).length = Yd.length := by
  intro k
  induction k with
  | zero => intro Y1 Yd hk; exact absurd hk (Nat.not_lt_zero _)
  | succ k ih =>
    intro Y1 Yd hk
    cases Yg : (decide (Y1 < (Y0.Mesh.Triangles.length : Int))) with
    | true =>
      cases Yq : (fcmp .gtr .f32 (Zs (Za Y0.Mesh (Y0.Mesh.Triangles.getD Y1.toNat default))) 0) with
      | true =>
        have e : Zv Y0 (k + 1) Y1 Yd = (Zv Y0 k (Y1 + 1) (Z2J Y0 Y1 Yd)) := by simp only [Zv, Yg, Yq, cond_true]
        rw [e, ih (Y1 + 1) (Z2J Y0 Y1 Yd) (by simp_all <;> omega)]; simp
      | false =>
        have e : Zv Y0 (k + 1) Y1 Yd = (Zv Y0 k (Y1 + 1) (Z2K Y0 Y1 Yd)) := by simp only [Zv, Yg, Yq, cond_true, cond_false]
        rw [e, ih (Y1 + 1) (Z2K Y0 Y1 Yd) (by simp_all <;> omega)]; simp
    | false =>
      have e : Zv Y0 (k + 1) Y1 Yd = Yd := by simp only [Zv, Yg, cond_false]
      first | (rw [e]; done) | (rw [e]; rfl)
def Z3a (Y0 : GBody) : (List GVector) := (Zv Y0 (((Y0.Mesh.Triangles.length : Int) - 0).toNat + 1) 0 (Z39 Y0))
@[simp] theorem ZfP (Y0 : GBody) : (Z3a Y0).length = ((Z39 Y0) : (List GVector)).length := ZbW Y0 (((Y0.Mesh.Triangles.length : Int) - 0).toNat + 1) 0 (Z39 Y0) (by exact Nat.lt_succ_self _)
def Z3b (Y0 : GBody) (Y1 : Int) (Yd : (List GVector)) : (List GVector) := (Zu (((Z6 Y0.Mesh).getD Y1.toNat default).getD 0 default) (Zp Y0.Mesh ((Z6 Y0.Mesh).getD Y1.toNat default)) Y0.Bend Yd)
@[simp] theorem Z3C (Y0 : GBody) (Y1 : Int) (Yd : (List GVector)) : (Z3b Y0 Y1 Yd).length = Yd.length := by unfold Z3b; simp
def Z2Y (Y0 : GBody) (Y1 : Int) (Yd : (List GVector)) : (List GVector) := (Zu (((Z6 Y0.Mesh).getD Y1.toNat default).getD 1 default) (Zp Y0.Mesh ((Z6 Y0.Mesh).getD Y1.toNat default)) Y0.Bend (Z3b Y0 Y1 Yd))
@[simp] theorem Z3x (Y0 : GBody) (Y1 : Int) (Yd : (List GVector)) : (Z2Y Y0 Y1 Yd).length = (Z3b Y0 Y1 Yd).length := by unfold Z2Y; simp
def Z2Z (Y0 : GBody) (Y1 : Int) (Yd : (List GVector)) : (List GVector) := (Zu (((Z6 Y0.Mesh).getD Y1.toNat default).getD 2 default) (Zp Y0.Mesh ((Z6 Y0.Mesh).getD Y1.toNat default)) (fneg .f32 Y0.Bend) (Z2Y Y0 Y1 Yd))
@[simp] theorem Z3y (Y0 : GBody) (Y1 : Int) (Yd : (List GVector)) : (Z2Z Y0 Y1 Yd).length = (Z2Y Y0 Y1 Yd).length := by unfold Z2Z; simp
def Z30 (Y0 : GBody) (Y1 : Int) (Yd : (List GVector)) : (List GVector) := (Zu (((Z6 Y0.Mesh).getD Y1.toNat default).getD 3 default) (Zp Y0.Mesh ((Z6 Y0.Mesh).getD Y1.toNat default)) (fneg .f32 Y0.Bend) (Z2Z Y0 Y1 Yd))
@[simp] theorem Zgb (Y0 : GBody) (Y1 : Int) (Yd : (List GVector)) : (Z30 Y0 Y1 Yd).length = (Z2Z Y0 Y1 Yd).length := by unfold Z30; simp
def Z14 (Y0 : GBody) : Nat → Int → (List GVector) → (List GVector)
  | 0, _, _ => default
  | k + 1, Y1, Yd => (cond (decide (Y1 < ((Z6 Y0.Mesh).length : Int)))
    (Z14 Y0 k (Y1 + 1) (Z30 Y0 Y1 Yd))
    Yd)
def Z6R (Y0 : GBody) (r : (List GVector)) : Ex × St := ((.exit 6), ⟨.agg [.sl (Y0.Mesh.Places.map GVector.cells), .sl (Y0.Mesh.Triangles.map (cL (cI .i64))), .sl (Y0.Springs.map GSpring.cells), .f .f32 Y0.Film, .f .f32 Y0.Bend, .sl (Y0.Weights.map (cF .f32)), .f .f32 Y0.Fall.X, .f .f32 Y0.Fall.Y, .f .f32 Y0.Fall.Z] :: .ptr 0 0 0 :: .nils :: .ptr 1 0 0 :: .fn 106 [.ptr 1 0 0] :: an 18 (.ptr 0 0 0 :: .ptr 0 0 0 :: .sl (Y0.Mesh.Places.map GVector.cells) :: .i .i64 (Y0.Mesh.Places.length : Int) :: .own 2 :: .fn 106 [.ptr 1 0 0] :: .ptr 0 0 2 :: .sl (Y0.Springs.map GSpring.cells) :: an 25 (.ptr 0 0 0 :: .ptr 0 0 0 :: .sl (Y0.Mesh.Places.map GVector.cells) :: .ptr 0 0 0 :: .ptr 0 0 1 :: .sl (Y0.Mesh.Triangles.map (cL (cI .i64))) :: an 54 (.ptr 0 0 0 :: .agg [.sl (Y0.Mesh.Places.map GVector.cells), .sl (Y0.Mesh.Triangles.map (cL (cI .i64)))] :: .own 3 :: an 60 []))), [.box 42 [.sl (Y0.Mesh.Places.map GVector.cells), .sl (Y0.Mesh.Triangles.map (cL (cI .i64))), .sl (Y0.Springs.map GSpring.cells), .f .f32 Y0.Film, .f .f32 Y0.Bend, .sl (Y0.Weights.map (cF .f32)), .f .f32 Y0.Fall.X, .f .f32 Y0.Fall.Y, .f .f32 Y0.Fall.Z], .box 34 [.own 2], .vec 40 3 (r.map GVector.cells) false, .nest 49 ((Z6 Y0.Mesh).map fun l => l.map (cI .i64)) false]⟩)
def Zdb (Y0 : GBody) (Y1 : Int) (Yd : (List GVector)) : St := ⟨.agg [.sl (Y0.Mesh.Places.map GVector.cells), .sl (Y0.Mesh.Triangles.map (cL (cI .i64))), .sl (Y0.Springs.map GSpring.cells), .f .f32 Y0.Film, .f .f32 Y0.Bend, .sl (Y0.Weights.map (cF .f32)), .f .f32 Y0.Fall.X, .f .f32 Y0.Fall.Y, .f .f32 Y0.Fall.Z] :: .ptr 0 0 0 :: .nils :: .ptr 1 0 0 :: .fn 106 [.ptr 1 0 0] :: an 18 (.ptr 0 0 0 :: .ptr 0 0 0 :: .sl (Y0.Mesh.Places.map GVector.cells) :: .i .i64 (Y0.Mesh.Places.length : Int) :: .own 2 :: .fn 106 [.ptr 1 0 0] :: .ptr 0 0 2 :: .sl (Y0.Springs.map GSpring.cells) :: an 25 (.ptr 0 0 0 :: .ptr 0 0 0 :: .sl (Y0.Mesh.Places.map GVector.cells) :: .ptr 0 0 0 :: .ptr 0 0 1 :: .sl (Y0.Mesh.Triangles.map (cL (cI .i64))) :: an 54 (.ptr 0 0 0 :: .agg [.sl (Y0.Mesh.Places.map GVector.cells), .sl (Y0.Mesh.Triangles.map (cL (cI .i64)))] :: .own 3 :: .i .i64 ((Z6 Y0.Mesh).length : Int) :: .i .i64 Y1 :: an 58 []))), [.box 42 [.sl (Y0.Mesh.Places.map GVector.cells), .sl (Y0.Mesh.Triangles.map (cL (cI .i64))), .sl (Y0.Springs.map GSpring.cells), .f .f32 Y0.Film, .f .f32 Y0.Bend, .sl (Y0.Weights.map (cF .f32)), .f .f32 Y0.Fall.X, .f .f32 Y0.Fall.Y, .f .f32 Y0.Fall.Z], .box 34 [.own 2], .vec 40 3 (Yd.map GVector.cells) false, .nest 49 ((Z6 Y0.Mesh).map fun l => l.map (cI .i64)) false]⟩
def Z8B : List Bool := (mR false [0, 5, 18, 8, 25, 6, 54, 5, 58])
def ZbX : List Bool := (mR false [0, 5, 18, 8, 25, 6, 54, 3, 60])
set_option maxHeartbeats 1000000 in
theorem Zdc (Y0 : GBody) (hp0 : Y0.Mesh.Places.length ≤ 1073741824) (hp1 : Y0.Mesh.Triangles.length ≤ 1073741824) (hp2 : ∀ t ∈ Y0.Mesh.Triangles, t.length ≤ 1073741824) (hp3 : Y0.Springs.length ≤ 1073741824) (hp4 : Y0.Weights.length ≤ 1073741824) (hp5 : OkBd Y0) : ∀ (k : Nat) (Y1 : Int) (Yd : (List GVector)) (Z8C : 0 ≤ Y1) (Z8D : Yd.length = Y0.Mesh.Places.length) (hk : (((Z6 Y0.Mesh).length : Int) - Y1).toNat < k), Lp prog 0 (sub (bodyOf f57) [1, 1, 1, 1, 1, 1, 0, 1, 0, 0]) (Zdb Y0 Y1 Yd) (Z6R Y0 (Z14 Y0 k Y1 Yd)).1 (Z6R Y0 (Z14 Y0 k Y1 Yd)).2 := by
 intro k
 induction k with
 | zero => intro Y1 Yd Z8C Z8D hk; exact absurd hk (Nat.not_lt_zero _)
 | succ k ih =>
  intro Y1 Yd Z8C Z8D hk
  cases Yg : (decide (Y1 < ((Z6 Y0.Mesh).length : Int))) with
  | true =>
   have Yt := of_decide_eq_true Yg
   have YA : (0 : Int) ≤ Y1 := (by assumption)
   have YE : Int.toNat Y1 < (Z6 Y0.Mesh).length := (by omega)
   have YG : Y1.toNat < (Z6 Y0.Mesh).length := (by assumption)
   have YH : ((Z6 Y0.Mesh).getD Y1.toNat default).length ≤ 1073741824 := (by exact Zh3 hp5.e (by assumption) Yg)
   have YL : ((Z6 Y0.Mesh).getD Y1.toNat default).length = 4 ∧ ∀ x ∈ ((Z6 Y0.Mesh).getD Y1.toNat default), 0 ≤ x ∧ x < (Y0.Mesh.Places.length : Int) := (by exact Z6z hp5.e (by assumption) Yg)
   have YQ : (0 : Int) ≤ 0 := (by omega)
   have YW : 0 < (((Z6 Y0.Mesh).getD Y1.toNat default).length : Int) := (by omega)
   have y_7 : 0 < ((Z6 Y0.Mesh).getD Y1.toNat default).length := (by omega)
   have y_8 : Yd.length ≤ 1073741824 := (by omega)
   have y_9 : 0 ≤ (((Z6 Y0.Mesh).getD Y1.toNat default).getD 0 default) := (by (have q := Okh.at (Z6z hp5.e (by assumption) Yg); omega))
   have Y13 : (((Z6 Y0.Mesh).getD Y1.toNat default).getD 0 default) < (Yd.length : Int) := (by (have q := Okh.at (Z6z hp5.e (by assumption) Yg); omega))
   have Y1c : (0 : Int) ≤ 1 := (by omega)
   have Y1g : 1 < (((Z6 Y0.Mesh).getD Y1.toNat default).length : Int) := (by omega)
   have Y1h : 1 < ((Z6 Y0.Mesh).getD Y1.toNat default).length := (by omega)
   have Y1q : (Z3b Y0 Y1 Yd).length ≤ 1073741824 := (by (have q := Okh.at (Z6z hp5.e (by assumption) Yg); (simp only [Z3C, Z3x, Z3y]; omega)))
   have Y1r : 0 ≤ (((Z6 Y0.Mesh).getD Y1.toNat default).getD 1 default) := (by (have q := Okh.at (Z6z hp5.e (by assumption) Yg); omega))
   have Y1s : (((Z6 Y0.Mesh).getD Y1.toNat default).getD 1 default) < ((Z3b Y0 Y1 Yd).length : Int) := (by (have q := Okh.at (Z6z hp5.e (by assumption) Yg); (simp only [Z3C, Z3x, Z3y]; omega)))
   have Y1t : (0 : Int) ≤ 2 := (by omega)
   have Y1u : 2 < (((Z6 Y0.Mesh).getD Y1.toNat default).length : Int) := (by omega)
   have Y1v : 2 < ((Z6 Y0.Mesh).getD Y1.toNat default).length := (by omega)
   have Y1z : (Z2Y Y0 Y1 Yd).length ≤ 1073741824 := (by (have q := Okh.at (Z6z hp5.e (by assumption) Yg); (simp only [Z3C, Z3x, Z3y]; omega)))
   have Y1A : 0 ≤ (((Z6 Y0.Mesh).getD Y1.toNat default).getD 2 default) := (by (have q := Okh.at (Z6z hp5.e (by assumption) Yg); omega))
   have Y1B : (((Z6 Y0.Mesh).getD Y1.toNat default).getD 2 default) < ((Z2Y Y0 Y1 Yd).length : Int) := (by (have q := Okh.at (Z6z hp5.e (by assumption) Yg); (simp only [Z3C, Z3x, Z3y]; omega)))
   have Y1C : (0 : Int) ≤ 3 := (by omega)
   have Y1D : 3 < (((Z6 Y0.Mesh).getD Y1.toNat default).length : Int) := (by omega)
   have Y1E : 3 < ((Z6 Y0.Mesh).getD Y1.toNat default).length := (by omega)
   have Y1F : (Z2Z Y0 Y1 Yd).length ≤ 1073741824 := (by (have q := Okh.at (Z6z hp5.e (by assumption) Yg); (simp only [Z3C, Z3x, Z3y]; omega)))
   have Y1G : 0 ≤ (((Z6 Y0.Mesh).getD Y1.toNat default).getD 3 default) := (by (have q := Okh.at (Z6z hp5.e (by assumption) Yg); omega))
   have Y1H : (((Z6 Y0.Mesh).getD Y1.toNat default).getD 3 default) < ((Z2Z Y0 Y1 Yd).length : Int) := (by (have q := Okh.at (Z6z hp5.e (by assumption) Yg); (simp only [Z3C, Z3x, Z3y]; omega)))
   have Y1J : (-9223372036854775808 : Int) ≤ (Y1 + 1) := (by omega)
   have Y1K : (Y1 + 1) ≤ (9223372036854775807 : Int) := (by have q := Z9X _ hp5.e; omega)
   have e : Z14 Y0 (k + 1) Y1 Yd = (Z14 Y0 k (Y1 + 1) (Z30 Y0 Y1 Yd)) := by simp only [Z14, Yg, cond_true]
   rw [e]
   exact nextR E0Ok Z4 [] Z8B [0, 1, 2, 3] (ih (Y1 + 1) (Z30 Y0 Y1 Yd) (show 0 ≤ (Y1 + 1) from (by omega)) (show (Z30 Y0 Y1 Yd).length = Y0.Mesh.Places.length from (by simp_all <;> omega)) (by omega)) (sB Yg <| sC (nestix (c := (cI .i64)) (l := (Z6 Y0.Mesh)) (i := Y1) YA YE) <| sC (nestlt (c := (cI .i64)) (l := (Z6 Y0.Mesh)) YG) <| sF (Fn.castA (args' := [.agg [.sl (Y0.Mesh.Places.map GVector.cells), .sl (Y0.Mesh.Triangles.map (cL (cI .i64)))], .sl (((Z6 Y0.Mesh).map fun l => l.map (cI .i64)).getD Y1.toNat [])]) (Zc8 Y0.Mesh ((Z6 Y0.Mesh).getD Y1.toNat default) hp0 hp1 hp2 YH YL) (by simp [cI]; done)) <| sK [7, 7] <| sC (iidx_ok (c := (cI .i64)) (l := (Z6 Y0.Mesh)) (j := Y1.toNat) (i := 0) YQ YW) <| sE (iget_ok (c := (cI .i64)) (l := (Z6 Y0.Mesh)) (j := Y1.toNat) (k := 0) y_7) <| sS (CallSt.frame (Z20 (((Z6 Y0.Mesh).getD Y1.toNat default).getD 0 default) (Zp Y0.Mesh ((Z6 Y0.Mesh).getD Y1.toNat default)) Y0.Bend Yd y_8 y_9 Y13) [1, 2] (R := [.box 42 [.sl (Y0.Mesh.Places.map GVector.cells), .sl (Y0.Mesh.Triangles.map (cL (cI .i64))), .sl (Y0.Springs.map GSpring.cells), .f .f32 Y0.Film, .f .f32 Y0.Bend, .sl (Y0.Weights.map (cF .f32)), .f .f32 Y0.Fall.X, .f .f32 Y0.Fall.Y, .f .f32 Y0.Fall.Z], .box 34 [.own 2], .vec 40 3 (Yd.map GVector.cells) false, .nest 49 ((Z6 Y0.Mesh).map fun l => l.map (cI .i64)) false, .box 40 [.f .f32 ((Zp Y0.Mesh ((Z6 Y0.Mesh).getD Y1.toNat default)).X), .f .f32 ((Zp Y0.Mesh ((Z6 Y0.Mesh).getD Y1.toNat default)).Y), .f .f32 ((Zp Y0.Mesh ((Z6 Y0.Mesh).getD Y1.toNat default)).Z)]]) (args' := [.i .i64 (((Z6 Y0.Mesh).getD Y1.toNat default).getD 0 default), .agg [.f .f32 ((Zp Y0.Mesh ((Z6 Y0.Mesh).getD Y1.toNat default)).X), .f .f32 ((Zp Y0.Mesh ((Z6 Y0.Mesh).getD Y1.toNat default)).Y), .f .f32 ((Zp Y0.Mesh ((Z6 Y0.Mesh).getD Y1.toNat default)).Z)], .f .f32 Y0.Bend, .ptr 1 0 0]) rfl rfl rfl rfl rfl rfl) <| sK [7, 7] <| sC (iidx_ok (c := (cI .i64)) (l := (Z6 Y0.Mesh)) (j := Y1.toNat) (i := 1) Y1c Y1g) <| sE (iget_ok (c := (cI .i64)) (l := (Z6 Y0.Mesh)) (j := Y1.toNat) (k := 1) Y1h) <| sS (CallSt.frame (Z20 (((Z6 Y0.Mesh).getD Y1.toNat default).getD 1 default) (Zp Y0.Mesh ((Z6 Y0.Mesh).getD Y1.toNat default)) Y0.Bend (Z3b Y0 Y1 Yd) Y1q Y1r Y1s) [1, 2] (R := [.box 42 [.sl (Y0.Mesh.Places.map GVector.cells), .sl (Y0.Mesh.Triangles.map (cL (cI .i64))), .sl (Y0.Springs.map GSpring.cells), .f .f32 Y0.Film, .f .f32 Y0.Bend, .sl (Y0.Weights.map (cF .f32)), .f .f32 Y0.Fall.X, .f .f32 Y0.Fall.Y, .f .f32 Y0.Fall.Z], .box 34 [.own 2], .vec 40 3 ((Z3b Y0 Y1 Yd).map GVector.cells) false, .nest 49 ((Z6 Y0.Mesh).map fun l => l.map (cI .i64)) false, .box 40 [.f .f32 ((Zp Y0.Mesh ((Z6 Y0.Mesh).getD Y1.toNat default)).X), .f .f32 ((Zp Y0.Mesh ((Z6 Y0.Mesh).getD Y1.toNat default)).Y), .f .f32 ((Zp Y0.Mesh ((Z6 Y0.Mesh).getD Y1.toNat default)).Z)]]) (args' := [.i .i64 (((Z6 Y0.Mesh).getD Y1.toNat default).getD 1 default), .agg [.f .f32 ((Zp Y0.Mesh ((Z6 Y0.Mesh).getD Y1.toNat default)).X), .f .f32 ((Zp Y0.Mesh ((Z6 Y0.Mesh).getD Y1.toNat default)).Y), .f .f32 ((Zp Y0.Mesh ((Z6 Y0.Mesh).getD Y1.toNat default)).Z)], .f .f32 Y0.Bend, .ptr 1 0 0]) rfl rfl rfl rfl rfl rfl) <| sK [8, 8] <| sC (iidx_ok (c := (cI .i64)) (l := (Z6 Y0.Mesh)) (j := Y1.toNat) (i := 2) Y1t Y1u) <| sE (iget_ok (c := (cI .i64)) (l := (Z6 Y0.Mesh)) (j := Y1.toNat) (k := 2) Y1v) <| sS (CallSt.frame (Z20 (((Z6 Y0.Mesh).getD Y1.toNat default).getD 2 default) (Zp Y0.Mesh ((Z6 Y0.Mesh).getD Y1.toNat default)) (fneg .f32 Y0.Bend) (Z2Y Y0 Y1 Yd) Y1z Y1A Y1B) [1, 2] (R := [.box 42 [.sl (Y0.Mesh.Places.map GVector.cells), .sl (Y0.Mesh.Triangles.map (cL (cI .i64))), .sl (Y0.Springs.map GSpring.cells), .f .f32 Y0.Film, .f .f32 Y0.Bend, .sl (Y0.Weights.map (cF .f32)), .f .f32 Y0.Fall.X, .f .f32 Y0.Fall.Y, .f .f32 Y0.Fall.Z], .box 34 [.own 2], .vec 40 3 ((Z2Y Y0 Y1 Yd).map GVector.cells) false, .nest 49 ((Z6 Y0.Mesh).map fun l => l.map (cI .i64)) false, .box 40 [.f .f32 ((Zp Y0.Mesh ((Z6 Y0.Mesh).getD Y1.toNat default)).X), .f .f32 ((Zp Y0.Mesh ((Z6 Y0.Mesh).getD Y1.toNat default)).Y), .f .f32 ((Zp Y0.Mesh ((Z6 Y0.Mesh).getD Y1.toNat default)).Z)]]) (args' := [.i .i64 (((Z6 Y0.Mesh).getD Y1.toNat default).getD 2 default), .agg [.f .f32 ((Zp Y0.Mesh ((Z6 Y0.Mesh).getD Y1.toNat default)).X), .f .f32 ((Zp Y0.Mesh ((Z6 Y0.Mesh).getD Y1.toNat default)).Y), .f .f32 ((Zp Y0.Mesh ((Z6 Y0.Mesh).getD Y1.toNat default)).Z)], .f .f32 (fneg .f32 Y0.Bend), .ptr 1 0 0]) rfl rfl rfl rfl rfl rfl) <| sK [8, 8] <| sC (iidx_ok (c := (cI .i64)) (l := (Z6 Y0.Mesh)) (j := Y1.toNat) (i := 3) Y1C Y1D) <| sE (iget_ok (c := (cI .i64)) (l := (Z6 Y0.Mesh)) (j := Y1.toNat) (k := 3) Y1E) <| sS (CallSt.frame (Z20 (((Z6 Y0.Mesh).getD Y1.toNat default).getD 3 default) (Zp Y0.Mesh ((Z6 Y0.Mesh).getD Y1.toNat default)) (fneg .f32 Y0.Bend) (Z2Z Y0 Y1 Yd) Y1F Y1G Y1H) [1, 2] (R := [.box 42 [.sl (Y0.Mesh.Places.map GVector.cells), .sl (Y0.Mesh.Triangles.map (cL (cI .i64))), .sl (Y0.Springs.map GSpring.cells), .f .f32 Y0.Film, .f .f32 Y0.Bend, .sl (Y0.Weights.map (cF .f32)), .f .f32 Y0.Fall.X, .f .f32 Y0.Fall.Y, .f .f32 Y0.Fall.Z], .box 34 [.own 2], .vec 40 3 ((Z2Z Y0 Y1 Yd).map GVector.cells) false, .nest 49 ((Z6 Y0.Mesh).map fun l => l.map (cI .i64)) false, .box 40 [.f .f32 ((Zp Y0.Mesh ((Z6 Y0.Mesh).getD Y1.toNat default)).X), .f .f32 ((Zp Y0.Mesh ((Z6 Y0.Mesh).getD Y1.toNat default)).Y), .f .f32 ((Zp Y0.Mesh ((Z6 Y0.Mesh).getD Y1.toNat default)).Z)]]) (args' := [.i .i64 (((Z6 Y0.Mesh).getD Y1.toNat default).getD 3 default), .agg [.f .f32 ((Zp Y0.Mesh ((Z6 Y0.Mesh).getD Y1.toNat default)).X), .f .f32 ((Zp Y0.Mesh ((Z6 Y0.Mesh).getD Y1.toNat default)).Y), .f .f32 ((Zp Y0.Mesh ((Z6 Y0.Mesh).getD Y1.toNat default)).Z)], .f .f32 (fneg .f32 Y0.Bend), .ptr 1 0 0]) rfl rfl rfl rfl rfl rfl) <| sI (Y1 + 1) Y1J Y1K <| sN) (by kernel_rfl)
  | false =>
   have Yt := of_decide_eq_false Yg
   have e : Z14 Y0 (k + 1) Y1 Yd = Yd := by simp only [Z14, Yg, cond_false]
   rw [e]
   exact outR (e := (.exit 6)) E0Ok Z4 [] ZbX [0, 1, 2, 3] (sB Yg <| sN) (by kernel_rfl) (by intro h; cases h)
end Go.Ab
