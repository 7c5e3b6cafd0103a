/- The functions of this seat as plain Lean, and that the program's are these. Printed by a program of the prover's own. -/
import Derived.Test.YtiihcpcabmamiaaGreatB2
set_option linter.unusedVariables false
set_option linter.unusedSimpArgs false
set_option maxRecDepth 100000
namespace Go.Ab
open Go.RowKit Go.Proofs.Tryz

def lr_spec_l02Edges_4_2 (m_0 : GMesh) (a_l0 : Int) (r1_l1 : (List (List Int))) : (List (List Int)) := (lo_spec_l02Edges_4 m_0 a_l0 r1_l1 (((m_0.Places.length : Int) - (a_l0 + 1)).toNat + 1) (a_l0 + 1) r1_l1)

theorem lo4_len (m : GMesh) (a : Int) (r1 : List (List Int)) : ∀ (k : Nat) (b : Int) (r : List (List Int)), (lo_spec_l02Edges_4 m a r1 k b r).length ≤ r.length + k := by
  intro k
  induction k with
  | zero => intro b r; exact Nat.zero_le _
  | succ k ih =>
    intro b r
    rw [lo_spec_l02Edges_4]
    cases decide (b < (m.Places.length : Int)) with
    | false => rw [cond_false]; omega
    | true =>
      rw [cond_true]
      cases ((lr_spec_l02Edges_1_1 m).getD ((IntKind.wrap .i64 ((IntKind.wrap .i64 (a * (m.Places.length : Int))) + b)).toNat) default) with
      | true => rw [cond_true]; have := ih (b + 1) (r ++ [[a, b]]); simp only [List.length_append, List.length_cons, List.length_nil] at this; omega
      | false => rw [cond_false]; have := ih (b + 1) r; omega

def lo_spec_l02Edges_3 (m_0 : GMesh) : Nat → Int → (List (List Int)) → (List (List Int))
  | 0, _, _ => default
  | k + 1, a_l0, r1_l1 => (cond (decide (a_l0 < (m_0.Places.length : Int)))
    (lo_spec_l02Edges_3 m_0 k (a_l0 + 1) (lr_spec_l02Edges_4_2 m_0 a_l0 r1_l1))
    r1_l1)

def ls_spec_l02Edges_3 (m_0 : GMesh) (r : (List (List Int))) : Ex × St := ((.exit 4), ⟨[.ref (GMesh.cells m_0) 0, .any, .nils, .i .i64 (m_0.Places.length : Int), .own 0, .any, .any, .any, .any, .any, .own 1, .any, .any, .ref (GMesh.cells m_0) 0, .ref (GMesh.cells m_0) 0, .ref (GMesh.cells m_0) 0, .sl (m_0.Places.map GVector.cells), .i .i64 (m_0.Places.length : Int), .i .i64 (m_0.Places.length : Int), .i .i64 (m_0.Places.length : Int), .i .i64 (IntKind.wrap .i64 ((m_0.Places.length : Int) * (m_0.Places.length : Int))), .own 0, .any, .any, .any, .any, .any, .any, .any, .any, .any, .any, .any, .any, .any, .any, .any, .any, .any, .any, .any, .any, .any, .any, .any, .any, .any, .any, .any, .any, .any, .any, .any, .any, .any, .any, .any, .any, .any, .any, .any, .any, .any, .any, .any, .any, .any, .any, .any, .any, .any, .any, .any, .any, .any, .any, .any, .any, .any, .any, .any, .any, .any, .any, .any, .any, .any, .any, .any, .any, .any], [.vec 4 1 ((lr_spec_l02Edges_1_1 m_0).map cB) false, .nest 54 (r.map fun l => l.map (cI .i64)) false]⟩)

def hd_spec_l02Edges_3 (m_0 : GMesh) (a_l0 : Int) (r1_l1 : (List (List Int))) : St := ⟨[.ref (GMesh.cells m_0) 0, .any, .nils, .i .i64 (m_0.Places.length : Int), .own 0, .any, .any, .any, .any, .any, .own 1, .i .i64 a_l0, .any, .ref (GMesh.cells m_0) 0, .ref (GMesh.cells m_0) 0, .ref (GMesh.cells m_0) 0, .sl (m_0.Places.map GVector.cells), .i .i64 (m_0.Places.length : Int), .i .i64 (m_0.Places.length : Int), .i .i64 (m_0.Places.length : Int), .i .i64 (IntKind.wrap .i64 ((m_0.Places.length : Int) * (m_0.Places.length : Int))), .own 0, .any, .any, .any, .any, .any, .any, .any, .any, .any, .any, .any, .any, .any, .any, .any, .any, .any, .any, .any, .any, .any, .any, .any, .any, .any, .any, .any, .any, .any, .any, .any, .any, .any, .any, .any, .any, .any, .any, .any, .any, .any, .any, .any, .any, .any, .any, .any, .any, .any, .any, .any, .any, .any, .any, .any, .any, .any, .any, .any, .any, .any, .any, .any, .any, .any, .any, .any, .any, .any], [.vec 4 1 ((lr_spec_l02Edges_1_1 m_0).map cB) false, .nest 54 (r1_l1.map fun l => l.map (cI .i64)) false]⟩

def mk_spec_l02Edges_3_0 : List Bool := [true, false, true, true, true, false, false, false, false, false, true, true, false, true, true, true, true, true, true, true, true, true, false, false, false, false, false, false, false, false, false, false, false, false, false, false, false, false, false, false, false, false, false, false, false, false, false, false, false, false, false, false, false, false, false, false, false, false, false, false, false, false, false, false, false, false, false, false, false, false, false, false, false, false, false, false, false, false, false, false, false, false, false, false, false, false, false, false, false, false, false]

def mk_spec_l02Edges_3_1 : List Bool := [true, false, true, true, true, false, false, false, false, false, true, false, false, true, true, true, true, true, true, true, true, true, false, false, false, false, false, false, false, false, false, false, false, false, false, false, false, false, false, false, false, false, false, false, false, false, false, false, false, false, false, false, false, false, false, false, false, false, false, false, false, false, false, false, false, false, false, false, false, false, false, false, false, false, false, false, false, false, false, false, false, false, false, false, false, false, false, false, false, false, false]

theorem lp_spec_l02Edges_3 (m_0 : GMesh) (hp0 : m_0.Places.length ≤ 1073741824) (hp1 : m_0.Triangles.length ≤ 1073741824) (hp2 : ∀ t ∈ m_0.Triangles, t.length ≤ 1073741824) (hp3 : OkE m_0.Places.length m_0.Triangles) : ∀ (k : Nat) (a_l0 : Int) (r1_l1 : (List (List Int))) (hv_spec_l02Edges_3_0 : 0 ≤ a_l0) (hv_spec_l02Edges_3_1 : (r1_l1.length : Int) ≤ 64 * a_l0) (hk : ((m_0.Places.length : Int) - a_l0).toNat < k), Lp prog 0 (sub (bodyOf f103) [1, 1, 1, 1, 1, 0, 1, 0, 0]) (hd_spec_l02Edges_3 m_0 a_l0 r1_l1) (ls_spec_l02Edges_3 m_0 (lo_spec_l02Edges_3 m_0 k a_l0 r1_l1)).1 (ls_spec_l02Edges_3 m_0 (lo_spec_l02Edges_3 m_0 k a_l0 r1_l1)).2 := by
 intro k
 induction k with
 | zero => intro a_l0 r1_l1 hv_spec_l02Edges_3_0 hv_spec_l02Edges_3_1 hk; exact absurd hk (Nat.not_lt_zero _)
 | succ k ih =>
  intro a_l0 r1_l1 hv_spec_l02Edges_3_0 hv_spec_l02Edges_3_1 hk
  cases h_0 : (decide (a_l0 < (m_0.Places.length : Int))) with
  | true =>
   have gh_0 := of_decide_eq_true h_0
   have y_0 : (-9223372036854775808 : Int) ≤ (a_l0 + 1) := (by first | assumption | omega)
   have y_1 : (a_l0 + 1) ≤ (9223372036854775807 : Int) := (by first | assumption | omega)
   have e : lo_spec_l02Edges_3 m_0 (k + 1) a_l0 r1_l1 = (lo_spec_l02Edges_3 m_0 k (a_l0 + 1) (lr_spec_l02Edges_4_2 m_0 a_l0 r1_l1)) := by simp only [lo_spec_l02Edges_3, h_0, cond_true]
   rw [e]
   exact nextR E0Ok hMixed [] mk_spec_l02Edges_3_0 [0, 1] (ih (a_l0 + 1) (lr_spec_l02Edges_4_2 m_0 a_l0 r1_l1) (show 0 ≤ (a_l0 + 1) from (by first | assumption | omega)) (show ((lr_spec_l02Edges_4_2 m_0 a_l0 r1_l1).length : Int) ≤ 64 * (a_l0 + 1) from (by first | assumption | omega | (first | (have q := OkE.at (by assumption) hv_spec_l02Edges_1_0 (of_decide_eq_true (by assumption)) hv_spec_l02Edges_2_0 (of_decide_eq_true (by assumption)); have q2 := ix2F q.2.2.2.2.2.1 (min_bd q.2.2.2.1 q.2.2.2.2.1).1 (min_bd q.2.2.2.1 q.2.2.2.2.1).2 (max_bd q.2.2.2.1 q.2.2.2.2.1).1 (max_bd q.2.2.2.1 q.2.2.2.2.1).2; unfold nd_spec_l02Edges_0 nd_spec_l02Edges_1; omega) | (have q := OkE.at (by assumption) hv_spec_l02Edges_1_0 (of_decide_eq_true (by assumption)) hv_spec_l02Edges_2_0 (of_decide_eq_true (by assumption)); omega) | (have := hp3.1; have g4 := of_decide_eq_true hf_spec_l02Edges_4_0; first | omega | (have q2 := ix2F (n := (m_0.Places.length : Int)) (a := a_l0) (b := b_l0) (by omega) (by omega) (by omega) (by omega) (by omega); first | omega | (simp only [len_lr_spec_l02Edges_1_1_0, List.length_replicate]; omega)) | (simp only [List.length_append, List.length_cons, List.length_nil]; omega)) | (have := hp3.1; have g4 := of_decide_eq_true h_0; have q := lo4_len m_0 a_l0 r1_l1 (((m_0.Places.length : Int) - (a_l0 + 1)).toNat + 1) (a_l0 + 1) r1_l1; unfold lr_spec_l02Edges_4_2; omega) | (have q2 := ixN hp3.1; omega)) | (simp_all <;> omega))) (by first | assumption | omega)) (sB h_0 <| sI (a_l0 + 1) y_0 y_1 <| sL mk_spec_l02Edges_4_0 2 (lp_val (ls_spec_l02Edges_4 m_0 a_l0 r1_l1) (x := (lr_spec_l02Edges_4_2 m_0 a_l0 r1_l1)) (lp_spec_l02Edges_4 m_0 a_l0 r1_l1 hp0 hp1 hp2 hp3 hv_spec_l02Edges_3_0 hv_spec_l02Edges_3_1 h_0 (((m_0.Places.length : Int) - (a_l0 + 1)).toNat + 1) (a_l0 + 1) r1_l1 (show a_l0 < (a_l0 + 1) from (by first | omega | simp)) (show (r1_l1.length : Int) ≤ (r1_l1.length : Int) + (a_l0 + 1) from (by first | omega | simp)) (Nat.lt_succ_self _)) rfl) <| sI (a_l0 + 1) y_0 y_1 <| sN) (by kernel_rfl)
  | false =>
   have gh_0 := of_decide_eq_false h_0
   have e : lo_spec_l02Edges_3 m_0 (k + 1) a_l0 r1_l1 = r1_l1 := by simp only [lo_spec_l02Edges_3, h_0, cond_false]
   rw [e]
   exact outR (e := (.exit 4)) E0Ok hMixed [] mk_spec_l02Edges_3_1 [0, 1] (sB h_0 <| sN) (by kernel_rfl) (by intro h; cases h)

def lr_spec_l02Edges_3_3 (m_0 : GMesh) : (List (List Int)) := (lo_spec_l02Edges_3 m_0 (((m_0.Places.length : Int) - 0).toNat + 1) 0 ([] : List (List Int)))

def v_spec_l02Edges (m_0 : GMesh) : (List (List Int)) := (lr_spec_l02Edges_3_3 m_0)

theorem seen2_eq (m : GMesh) (i : Int) (r : List Bool) : lr_spec_l02Edges_2_0 m i r = ((r.set (IntKind.wrap .i64 (IntKind.wrap .i64 (v_spec_l00Min ((m.Triangles.getD i.toNat default).getD 0 default) ((m.Triangles.getD i.toNat default).getD 1 default) * (m.Places.length : Int)) + v_spec_l00Max ((m.Triangles.getD i.toNat default).getD 0 default) ((m.Triangles.getD i.toNat default).getD 1 default))).toNat true).set (IntKind.wrap .i64 (IntKind.wrap .i64 (v_spec_l00Min ((m.Triangles.getD i.toNat default).getD 1 default) ((m.Triangles.getD i.toNat default).getD 2 default) * (m.Places.length : Int)) + v_spec_l00Max ((m.Triangles.getD i.toNat default).getD 1 default) ((m.Triangles.getD i.toNat default).getD 2 default))).toNat true).set (IntKind.wrap .i64 (IntKind.wrap .i64 (v_spec_l00Min ((m.Triangles.getD i.toNat default).getD 2 default) ((m.Triangles.getD i.toNat default).getD 0 default) * (m.Places.length : Int)) + v_spec_l00Max ((m.Triangles.getD i.toNat default).getD 2 default) ((m.Triangles.getD i.toNat default).getD 0 default))).toNat true := by
  have one : ∀ (r0 : List Bool) (k : Nat) (x : Int) (s : List Bool), x < 3 → lo_spec_l02Edges_2 m i r0 (k + 1) x s = lo_spec_l02Edges_2 m i r0 k (x + 1) (s.set (IntKind.wrap .i64 (IntKind.wrap .i64 (nd_spec_l02Edges_0 m i x * (m.Places.length : Int)) + nd_spec_l02Edges_1 m i x)).toNat true) := by
    intro r0 k x s hx
    rw [lo_spec_l02Edges_2, decide_eq_true hx, cond_true]
  unfold lr_spec_l02Edges_2_0
  show lo_spec_l02Edges_2 m i r 4 0 r = _
  rw [one r 3 0 r (by omega), one r 2 (0 + 1) _ (by omega), one r 1 (0 + 1 + 1) _ (by omega), lo_spec_l02Edges_2]
  show cond (decide ((3 : Int) < 3)) _ _ = _
  rw [decide_eq_false (by omega), cond_false]
  rfl
theorem seen1_eq (m : GMesh) (ok : OkE m.Places.length m.Triangles) {a b : Int} (ha : 0 ≤ a) (hab : a < b) (hb : b < (m.Places.length : Int)) : ∀ (k : Nat) (i : Nat) (r : List Bool), i ≤ m.Triangles.length → ((m.Triangles.length : Int) - i).toNat < k → r.length = (IntKind.wrap .i64 ((m.Places.length : Int) * (m.Places.length : Int))).toNat →
    (lo_spec_l02Edges_1 m k i r).getD (IntKind.wrap .i64 (IntKind.wrap .i64 (a * (m.Places.length : Int)) + b)).toNat default = (r.getD (IntKind.wrap .i64 (IntKind.wrap .i64 (a * (m.Places.length : Int)) + b)).toNat default || (m.Triangles.drop i).any fun t => tHas t a b) := by
  intro k
  induction k with
  | zero => intro i r _ hk; exact absurd hk (Nat.not_lt_zero _)
  | succ k ih =>
    intro i r hle hk hr
    rw [lo_spec_l02Edges_1]
    by_cases hi : (i : Int) < (m.Triangles.length : Int)
    · have hn : i < m.Triangles.length := by omega
      rw [decide_eq_true hi, cond_true]
      have := ih (i + 1) (lr_spec_l02Edges_2_0 m i r) (by omega) (by omega) (by rw [len_lr_spec_l02Edges_2_0_0]; exact hr)
      rw [show ((i : Int) + 1) = ((i + 1 : Nat) : Int) from by omega, this, seen2_eq, List.drop_eq_getElem_cons hn, List.any_cons]
      have hg : m.Triangles.getD ((i : Nat) : Int).toNat default = m.Triangles[i] := by rw [show ((i : Nat) : Int).toNat = i from by omega, List.getD_eq_getElem?_getD, List.getElem?_eq_getElem hn]; rfl
      obtain ⟨x, y, z, ht, r1, r2, r3, n1, n2, n3⟩ := ok.2.2 _ (List.getElem_mem hn)
      have h64 : (m.Places.length : Int) ≤ 64 := by have := ok.1; omega
      rw [hg, ht]
      simp only [List.getD_cons_zero, List.getD_cons_succ]
      rw [seen_set h64 (mkE_minmax z x) (min_bd r3 r1) (max_bd r3 r1) ha hab hb (by simpa using hr), seen_set h64 (mkE_minmax y z) (min_bd r2 r3) (max_bd r2 r3) ha hab hb (by simpa using hr), seen_set h64 (mkE_minmax x y) (min_bd r1 r2) (max_bd r1 r2) ha hab hb hr]
      have hT := mem_tE n1 n2 n3 hab
      unfold tE at hT
      simp only [List.getD_cons_zero, List.getD_cons_succ, List.mem_cons, List.not_mem_nil, or_false] at hT
      generalize r.getD (IntKind.wrap .i64 (IntKind.wrap .i64 (a * (m.Places.length : Int)) + b)).toNat default = q
      generalize ((m.Triangles.drop (i + 1)).any fun t => tHas t a b) = q2
      have hB : tHas [x, y, z] a b = (decide ((⟨a, b⟩ : Gedge) = mkE x y) || (decide ((⟨a, b⟩ : Gedge) = mkE y z) || decide ((⟨a, b⟩ : Gedge) = mkE z x))) := by
        rw [Bool.eq_iff_iff, ← hT]; simp only [Bool.or_eq_true, decide_eq_true_eq]
      rw [hB]
      cases decide ((⟨a, b⟩ : Gedge) = mkE x y) <;> cases decide ((⟨a, b⟩ : Gedge) = mkE y z) <;> cases decide ((⟨a, b⟩ : Gedge) = mkE z x) <;> cases q <;> cases q2 <;> rfl
    · rw [decide_eq_false hi, cond_false, List.drop_eq_nil_of_le (by omega)]; simp
theorem seen_eq (m : GMesh) (ok : OkE m.Places.length m.Triangles) {a b : Int} (ha : 0 ≤ a) (hab : a < b) (hb : b < (m.Places.length : Int)) :
    (lr_spec_l02Edges_1_1 m).getD (IntKind.wrap .i64 (IntKind.wrap .i64 (a * (m.Places.length : Int)) + b)).toNat default = m.Triangles.any fun t => tHas t a b := by
  unfold lr_spec_l02Edges_1_1
  have := seen1_eq m ok ha hab hb (((m.Triangles.length : Int) - 0).toNat + 1) 0 (List.replicate (IntKind.wrap .i64 ((m.Places.length : Int) * (m.Places.length : Int))).toNat false) (Nat.zero_le _) (by omega) (by simp)
  rw [List.drop_zero] at this
  refine this.trans ?_
  rw [List.getD_eq_getElem?_getD, List.getElem?_replicate]
  split <;> simp
theorem l02Edges_eq (m : GMesh) (ok : OkE m.Places.length m.Triangles) : v_spec_l02Edges m = (edgL m.Places.length m.Triangles).map e2 := by
  rw [edgL_map]
  unfold v_spec_l02Edges lr_spec_l02Edges_3_3
  refine pair_loop (n := m.Places.length) (p := fun a b => m.Triangles.any fun t => tHas t a b) (g := fun a b => e2 ⟨a, b⟩) (lo := lo_spec_l02Edges_3 m) (li := lr_spec_l02Edges_4_2 m) (fun k a r => rfl) (fun a r ha => ?_) _ 0 (Nat.zero_le _) (by omega)
  unfold lr_spec_l02Edges_4_2
  have hf := filt_loop (n := (m.Places.length : Int)) (f := fun b => !((lr_spec_l02Edges_1_1 m).getD ((IntKind.wrap .i64 ((IntKind.wrap .i64 ((a : Int) * (m.Places.length : Int))) + b)).toNat) default)) (g := fun b => [(a : Int), b]) (lo := lo_spec_l02Edges_4 m a r) (fun k i r' => by
    rw [lo_spec_l02Edges_4]
    cases ((lr_spec_l02Edges_1_1 m).getD ((IntKind.wrap .i64 ((IntKind.wrap .i64 ((a : Int) * (m.Places.length : Int))) + i)).toNat) default) <;> rfl) (((m.Places.length : Int) - ((a : Int) + 1)).toNat + 1) ((a : Int) + 1) r (Nat.lt_succ_self _)
  rw [hf, show ((m.Places.length : Int) - ((a : Int) + 1)).toNat = m.Places.length - (a + 1) from by omega]
  congr 1
  have hfc : ((List.range (m.Places.length - (a + 1))).filter fun (j : Nat) => !(!((lr_spec_l02Edges_1_1 m).getD ((IntKind.wrap .i64 ((IntKind.wrap .i64 ((a : Int) * (m.Places.length : Int))) + ((a : Int) + 1 + (j : Int)))).toNat) default))) = (List.range (m.Places.length - (a + 1))).filter fun (j : Nat) => m.Triangles.any fun t => tHas t a ((a : Int) + 1 + j) := by
    refine List.filter_congr fun j hj => ?_
    rw [List.mem_range] at hj
    rw [Bool.not_not, seen_eq m ok (by omega) (by omega) (by omega)]
  rw [hfc]
  rfl
theorem l02Edges_len (m : GMesh) (ok : OkE m.Places.length m.Triangles) : (v_spec_l02Edges m).length ≤ 4096 := by
  rw [l02Edges_eq m ok, List.length_map]; exact edgL_len ok
theorem l02Edges_at (m : GMesh) (ok : OkE m.Places.length m.Triangles) {i : Int} (h0 : 0 ≤ i) (hi : i < ((v_spec_l02Edges m).length : Int)) :
    ((v_spec_l02Edges m).getD i.toNat default).length = 2 ∧ 0 ≤ ((v_spec_l02Edges m).getD i.toNat default).getD 0 default ∧ ((v_spec_l02Edges m).getD i.toNat default).getD 0 default < ((v_spec_l02Edges m).getD i.toNat default).getD 1 default ∧ ((v_spec_l02Edges m).getD i.toNat default).getD 1 default < (m.Places.length : Int) ∧ (m.Places.length : Int) ≤ 64 ∧ ((v_spec_l02Edges m).length : Int) ≤ 4096 := by
  have hl := l02Edges_len m ok
  have h64 := ok.1
  rw [l02Edges_eq m ok] at hi hl ⊢
  rw [List.length_map] at hi hl
  have hn : i.toNat < (edgL m.Places.length m.Triangles).length := by omega
  have hg : ((edgL m.Places.length m.Triangles).map e2).getD i.toNat default = e2 (edgL m.Places.length m.Triangles)[i.toNat] := by rw [List.getD_eq_getElem?_getD, List.getElem?_map, List.getElem?_eq_getElem hn]; rfl
  have hb := edgL_at (List.getElem_mem hn)
  rw [hg, List.length_map]
  exact ⟨rfl, hb.1, hb.2.1, hb.2.2, by omega, by omega⟩
theorem l02Edges_2 (m : GMesh) (ok : OkE m.Places.length m.Triangles) : ∀ t ∈ v_spec_l02Edges m, t.length ≤ 2 := by
  rw [l02Edges_eq m ok]
  intro t ht
  rw [List.mem_map] at ht
  obtain ⟨e, -, rfl⟩ := ht
  exact Nat.le_refl _

theorem t_spec_l02Edges (m_0 : GMesh) (hp0 : m_0.Places.length ≤ 1073741824) (hp1 : m_0.Triangles.length ≤ 1073741824) (hp2 : ∀ t ∈ m_0.Triangles, t.length ≤ 1073741824) (hp3 : OkE m_0.Places.length m_0.Triangles)  : Fn prog 103 [.ref (GMesh.cells m_0) 0] (.own 0) [.nest 54 ((v_spec_l02Edges m_0).map fun l => l.map (cI .i64)) false] := by
 have y0 : (0 : Int) ≤ (IntKind.wrap .i64 ((m_0.Places.length : Int) * (m_0.Places.length : Int))) := (by first | assumption | omega | (first | (have q := OkE.at (by assumption) hv_spec_l02Edges_1_0 (of_decide_eq_true (by assumption)) hv_spec_l02Edges_2_0 (of_decide_eq_true (by assumption)); have q2 := ix2F q.2.2.2.2.2.1 (min_bd q.2.2.2.1 q.2.2.2.2.1).1 (min_bd q.2.2.2.1 q.2.2.2.2.1).2 (max_bd q.2.2.2.1 q.2.2.2.2.1).1 (max_bd q.2.2.2.1 q.2.2.2.2.1).2; unfold nd_spec_l02Edges_0 nd_spec_l02Edges_1; omega) | (have q := OkE.at (by assumption) hv_spec_l02Edges_1_0 (of_decide_eq_true (by assumption)) hv_spec_l02Edges_2_0 (of_decide_eq_true (by assumption)); omega) | (have := hp3.1; have g4 := of_decide_eq_true hf_spec_l02Edges_4_0; first | omega | (have q2 := ix2F (n := (m_0.Places.length : Int)) (a := a_l0) (b := b_l0) (by omega) (by omega) (by omega) (by omega) (by omega); first | omega | (simp only [len_lr_spec_l02Edges_1_1_0, List.length_replicate]; omega)) | (simp only [List.length_append, List.length_cons, List.length_nil]; omega)) | (have := hp3.1; have g4 := of_decide_eq_true h_0; have q := lo4_len m_0 a_l0 r1_l1 (((m_0.Places.length : Int) - (a_l0 + 1)).toNat + 1) (a_l0 + 1) r1_l1; unfold lr_spec_l02Edges_4_2; omega) | (have q2 := ixN hp3.1; omega)) | (simp_all <;> omega))
 have y1 : ((IntKind.wrap .i64 ((m_0.Places.length : Int) * (m_0.Places.length : Int))) : Int) ≤ 2147483648 := (by first | assumption | omega | (first | (have q := OkE.at (by assumption) hv_spec_l02Edges_1_0 (of_decide_eq_true (by assumption)) hv_spec_l02Edges_2_0 (of_decide_eq_true (by assumption)); have q2 := ix2F q.2.2.2.2.2.1 (min_bd q.2.2.2.1 q.2.2.2.2.1).1 (min_bd q.2.2.2.1 q.2.2.2.2.1).2 (max_bd q.2.2.2.1 q.2.2.2.2.1).1 (max_bd q.2.2.2.1 q.2.2.2.2.1).2; unfold nd_spec_l02Edges_0 nd_spec_l02Edges_1; omega) | (have q := OkE.at (by assumption) hv_spec_l02Edges_1_0 (of_decide_eq_true (by assumption)) hv_spec_l02Edges_2_0 (of_decide_eq_true (by assumption)); omega) | (have := hp3.1; have g4 := of_decide_eq_true hf_spec_l02Edges_4_0; first | omega | (have q2 := ix2F (n := (m_0.Places.length : Int)) (a := a_l0) (b := b_l0) (by omega) (by omega) (by omega) (by omega) (by omega); first | omega | (simp only [len_lr_spec_l02Edges_1_1_0, List.length_replicate]; omega)) | (simp only [List.length_append, List.length_cons, List.length_nil]; omega)) | (have := hp3.1; have g4 := of_decide_eq_true h_0; have q := lo4_len m_0 a_l0 r1_l1 (((m_0.Places.length : Int) - (a_l0 + 1)).toNat + 1) (a_l0 + 1) r1_l1; unfold lr_spec_l02Edges_4_2; omega) | (have q2 := ixN hp3.1; omega)) | (simp_all <;> omega))
 refine fnS E0Ok hMixed (c := bodyOf f103) [] (.own 0) [.nest 54 ((lr_spec_l02Edges_3_3 m_0).map fun l => l.map (cI .i64)) false] func103 (sZ GVector.cells m_0.Places <| sW .i64 ((m_0.Places.length : Int) * (m_0.Places.length : Int)) <| sC (show (IntKind.wrap .i64 ((m_0.Places.length : Int) * (m_0.Places.length : Int))) = (IntKind.wrap .i64 ((m_0.Places.length : Int) * (m_0.Places.length : Int))) from rfl) <| sC y0 <| sC y1 <| sL mk_spec_l02Edges_1_0 1 (lp_cast (st2 := ⟨[.ref (GMesh.cells m_0) 0, .any, .nils, .i .i64 (m_0.Places.length : Int), .own 0, .i .i64 0, .any, .any, .any, .any, .any, .any, .any, .ref (GMesh.cells m_0) 0, .ref (GMesh.cells m_0) 0, .ref (GMesh.cells m_0) 0, .sl (m_0.Places.map GVector.cells), .i .i64 (m_0.Places.length : Int), .i .i64 (m_0.Places.length : Int), .i .i64 (m_0.Places.length : Int), .i .i64 (IntKind.wrap .i64 ((m_0.Places.length : Int) * (m_0.Places.length : Int))), .own 0, .any, .any, .any, .any, .any, .any, .any, .any, .any, .any, .any, .any, .any, .any, .any, .any, .any, .any, .any, .any, .any, .any, .any, .any, .any, .any, .any, .any, .any, .any, .any, .any, .any, .any, .any, .any, .any, .any, .any, .any, .any, .any, .any, .any, .any, .any, .any, .any, .any, .any, .any, .any, .any, .any, .any, .any, .any, .any, .any, .any, .any, .any, .any, .any, .any, .any, .any, .any, .any], [.vec 4 1 (List.replicate (Int.toNat (IntKind.wrap .i64 ((m_0.Places.length : Int) * (m_0.Places.length : Int)))) [.b false]) false]⟩) (lp_val (ls_spec_l02Edges_1 m_0) (x := (lr_spec_l02Edges_1_1 m_0)) (lp_spec_l02Edges_1 m_0 hp0 hp1 hp2 hp3 (((m_0.Triangles.length : Int) - 0).toNat + 1) 0 (List.replicate (IntKind.wrap .i64 ((m_0.Places.length : Int) * (m_0.Places.length : Int))).toNat false) (show 0 ≤ 0 from (by first | omega | simp)) (show (List.replicate (IntKind.wrap .i64 ((m_0.Places.length : Int) * (m_0.Places.length : Int))).toNat false).length = (IntKind.wrap .i64 ((m_0.Places.length : Int) * (m_0.Places.length : Int))).toNat from (by first | omega | simp)) (Nat.lt_succ_self _)) rfl) (by simp [hd_spec_l02Edges_1, cB])) <| sL mk_spec_l02Edges_3_0 2 (lp_cast (st2 := ⟨[.ref (GMesh.cells m_0) 0, .any, .nils, .i .i64 (m_0.Places.length : Int), .own 0, .any, .any, .any, .any, .any, .own 1, .i .i64 0, .any, .ref (GMesh.cells m_0) 0, .ref (GMesh.cells m_0) 0, .ref (GMesh.cells m_0) 0, .sl (m_0.Places.map GVector.cells), .i .i64 (m_0.Places.length : Int), .i .i64 (m_0.Places.length : Int), .i .i64 (m_0.Places.length : Int), .i .i64 (IntKind.wrap .i64 ((m_0.Places.length : Int) * (m_0.Places.length : Int))), .own 0, .any, .any, .any, .any, .any, .any, .any, .any, .any, .any, .any, .any, .any, .any, .any, .any, .any, .any, .any, .any, .any, .any, .any, .any, .any, .any, .any, .any, .any, .any, .any, .any, .any, .any, .any, .any, .any, .any, .any, .any, .any, .any, .any, .any, .any, .any, .any, .any, .any, .any, .any, .any, .any, .any, .any, .any, .any, .any, .any, .any, .any, .any, .any, .any, .any, .any, .any, .any, .any], [.vec 4 1 ((lr_spec_l02Edges_1_1 m_0).map cB) false, .nest 54 [] false]⟩) (lp_val (ls_spec_l02Edges_3 m_0) (x := (lr_spec_l02Edges_3_3 m_0)) (lp_spec_l02Edges_3 m_0 hp0 hp1 hp2 hp3 (((m_0.Places.length : Int) - 0).toNat + 1) 0 ([] : List (List Int)) (show 0 ≤ 0 from (by first | omega | simp)) (show (([] : List (List Int)).length : Int) ≤ 64 * 0 from (by first | omega | simp)) (Nat.lt_succ_self _)) rfl) (by simp [hd_spec_l02Edges_3, cL, cI])) <| sK [1] sN) rfl (by kernel_rfl) (by kernel_rfl) rfl ?_ ?_
 · rfl
 · simp [v_spec_l02Edges]

def lo_spec_l00Has_1 (list_0 : (List Int)) (n_1 : Int) : Nat → Int → (Unit) ⊕ (Unit)
  | 0, _ => .inl default
  | k + 1, i_l0 => (cond (decide (i_l0 < (list_0.length : Int)))
    (cond ((list_0.getD i_l0.toNat default) == n_1)
      (.inl ())
      (lo_spec_l00Has_1 list_0 n_1 k (i_l0 + 1)))
    (.inr ()))

def ls_spec_l00Has_1 (list_0 : (List Int)) (n_1 : Int) : (Unit) ⊕ (Unit) → Ex × St
  | .inl r => (.ret, ⟨[.any, .any, .any, .any, .b true, .any, .any, .any, .any, .any, .any, .any, .any, .any, .any, .any, .any, .any], []⟩)
  | .inr r => ((.exit 0), ⟨[.any, .any, .any, .any, .any, .any, .any, .any, .any, .any, .any, .any, .any, .any, .any, .any, .any, .any], []⟩)

def hd_spec_l00Has_1 (list_0 : (List Int)) (n_1 : Int) (i_l0 : Int) : St := ⟨[.sl (list_0.map (cI .i64)), .i .i64 n_1, .any, .any, .any, .i .i64 i_l0, .any, .any, .any, .any, .any, .any, .any, .any, .any, .any, .any, .any], []⟩

def mk_spec_l00Has_1_0 : List Bool := [true, true, false, false, false, true, false, false, false, false, false, false, false, false, false, false, false, false]

def mk_spec_l00Has_1_1 : List Bool := [false, false, false, false, true, false, false, false, false, false, false, false, false, false, false, false, false, false]

def mk_spec_l00Has_1_2 : List Bool := [false, false, false, false, false, false, false, false, false, false, false, false, false, false, false, false, false, false]

theorem lp_spec_l00Has_1 (list_0 : (List Int)) (n_1 : Int) (hp0 : list_0.length ≤ 1073741824) : ∀ (k : Nat) (i_l0 : Int) (hv_spec_l00Has_1_0 : 0 ≤ i_l0) (hk : ((list_0.length : Int) - i_l0).toNat < k), Lp prog 0 (sub (bodyOf f114) [1, 0, 1, 0, 0]) (hd_spec_l00Has_1 list_0 n_1 i_l0) (ls_spec_l00Has_1 list_0 n_1 (lo_spec_l00Has_1 list_0 n_1 k i_l0)).1 (ls_spec_l00Has_1 list_0 n_1 (lo_spec_l00Has_1 list_0 n_1 k i_l0)).2 := by
 intro k
 induction k with
 | zero => intro i_l0 hv_spec_l00Has_1_0 hk; exact absurd hk (Nat.not_lt_zero _)
 | succ k ih =>
  intro i_l0 hv_spec_l00Has_1_0 hk
  have p {a C} (s : Scr a C) := sZ (cI .i64) list_0 <| s
  cases h_0 : (decide (i_l0 < (list_0.length : Int))) with
  | true =>
   have gh_0 := of_decide_eq_true h_0
   have y_0 : (0 : Int) ≤ i_l0 := by clear p; exact (by first | assumption | omega)
   have y_1 : i_l0 < (list_0.length : Int) := by clear p; exact (by first | assumption | omega)
   have q {a C} (s : Scr a C) := p (sB h_0 <| sG (cI .i64) list_0 i_l0 y_0 y_1 <| s)
   clear p
   cases h_1 : ((list_0.getD i_l0.toNat default) == n_1) with
   | true =>
    have gh_1 := eq_of_beq h_1
    have e : lo_spec_l00Has_1 list_0 n_1 (k + 1) i_l0 = (.inl ()) := by simp only [lo_spec_l00Has_1, h_0, h_1, cond_true]
    rw [e]
    exact outR (e := .ret) E0Ok hMixed [] mk_spec_l00Has_1_1 [] (q (sB h_1 <| sN)) (by kernel_rfl) (by intro h; cases h)
   | false =>
    have gh_1 := ne_of_beq_false h_1
    have y_2 : (-9223372036854775808 : Int) ≤ (i_l0 + 1) := by clear q; exact (by first | assumption | omega)
    have y_3 : (i_l0 + 1) ≤ (9223372036854775807 : Int) := by clear q; exact (by first | assumption | omega)
    have e : lo_spec_l00Has_1 list_0 n_1 (k + 1) i_l0 = (lo_spec_l00Has_1 list_0 n_1 k (i_l0 + 1)) := by simp only [lo_spec_l00Has_1, h_0, h_1, cond_true, cond_false]
    rw [e]
    exact nextR E0Ok hMixed [] mk_spec_l00Has_1_0 [] (ih (i_l0 + 1) (show 0 ≤ (i_l0 + 1) from (by first | assumption | omega)) (by first | assumption | omega)) (q (sB h_1 <| sI (i_l0 + 1) y_2 y_3 <| sN)) (by kernel_rfl)
  | false =>
   have gh_0 := of_decide_eq_false h_0
   have e : lo_spec_l00Has_1 list_0 n_1 (k + 1) i_l0 = (.inr ()) := by simp only [lo_spec_l00Has_1, h_0, cond_false]
   rw [e]
   exact outR (e := (.exit 0)) E0Ok hMixed [] mk_spec_l00Has_1_2 [] (p (sB h_0 <| sN)) (by kernel_rfl) (by intro h; cases h)

def lr_spec_l00Has_1_0 (list_0 : (List Int)) (n_1 : Int) : (Unit) ⊕ (Unit) := (lo_spec_l00Has_1 list_0 n_1 (((list_0.length : Int) - 0).toNat + 1) 0)

def v_spec_l00Has (list_0 : (List Int)) (n_1 : Int) : Bool := (match (lr_spec_l00Has_1_0 list_0 n_1) with
  | .inl r1 => true
  | .inr r1 => false)

theorem t_spec_l00Has (list_0 : (List Int)) (n_1 : Int) (hp0 : list_0.length ≤ 1073741824)  : Fn prog 114 [.sl (list_0.map (cI .i64)), .i .i64 n_1] (.b (v_spec_l00Has list_0 n_1)) [] := by
 cases h0 : (lr_spec_l00Has_1_0 list_0 n_1) with
 | inl r1 =>
  refine fnS E0Ok hMixed (c := bodyOf f114) [] (.b true) [] func114 (sL mk_spec_l00Has_1_0 0 (lp_val (ls_spec_l00Has_1 list_0 n_1) (x := (lr_spec_l00Has_1_0 list_0 n_1)) (lp_spec_l00Has_1 list_0 n_1 hp0 (((list_0.length : Int) - 0).toNat + 1) 0 (show 0 ≤ 0 from (by first | assumption | omega)) (Nat.lt_succ_self _)) h0) <| sK [] sN) rfl (by kernel_rfl) (by kernel_rfl) rfl ?_ ?_
  · simp only [v_spec_l00Has, h0]
  · rfl
 | inr r1 =>
  refine fnS E0Ok hMixed (c := bodyOf f114) [] (.b false) [] func114 (sL mk_spec_l00Has_1_0 0 (lp_val (ls_spec_l00Has_1 list_0 n_1) (x := (lr_spec_l00Has_1_0 list_0 n_1)) (lp_spec_l00Has_1 list_0 n_1 hp0 (((list_0.length : Int) - 0).toNat + 1) 0 (show 0 ≤ 0 from (by first | assumption | omega)) (Nat.lt_succ_self _)) h0) <| sK [] sN) rfl (by kernel_rfl) (by kernel_rfl) rfl ?_ ?_
  · simp only [v_spec_l00Has, h0]
  · rfl

theorem eq_l00Has (l : List Int) (n : Int) : v_spec_l00Has l n = l.any fun v => v == n := by
  unfold v_spec_l00Has lr_spec_l00Has_1_0
  rw [any_loop (a := l) (p := fun v => v == n) (lo := lo_spec_l00Has_1 l n) (x := ()) (y := ()) (fun k i => rfl)]
  cases (l.any fun v => v == n) <;> rfl

def lo_spec_l03Third_1 (t_0 : (List Int)) (i_1 : Int) (j_2 : Int) : Nat → Int → (Int) ⊕ (Unit)
  | 0, _ => .inl default
  | k + 1, x_l0 => (cond (decide (x_l0 < (t_0.length : Int)))
    (cond ((t_0.getD x_l0.toNat default) != i_1)
      (cond ((t_0.getD x_l0.toNat default) != j_2)
        (.inl (t_0.getD x_l0.toNat default))
        (lo_spec_l03Third_1 t_0 i_1 j_2 k (x_l0 + 1)))
      (lo_spec_l03Third_1 t_0 i_1 j_2 k (x_l0 + 1)))
    (.inr ()))

def ls_spec_l03Third_1 (t_0 : (List Int)) (i_1 : Int) (j_2 : Int) : (Int) ⊕ (Unit) → Ex × St
  | .inl r => (.ret, ⟨[.any, .any, .any, .any, .any, .any, .i .i64 r, .any, .any, .any, .any, .any, .any, .any, .any, .any, .any, .any, .any, .any, .any, .any, .any, .any, .any, .any, .any, .any, .any, .any, .any, .any, .any, .any, .any, .any, .any, .any, .any, .any, .any, .any], []⟩)
  | .inr r => ((.exit 0), ⟨[.sl (t_0.map (cI .i64)), .i .i64 i_1, .i .i64 j_2, .any, .any, .any, .any, .any, .sl (t_0.map (cI .i64)), .i .i64 i_1, .b (v_spec_l00Has t_0 i_1), .b (!(v_spec_l00Has t_0 i_1)), .b (!(v_spec_l00Has t_0 i_1)), .sl (t_0.map (cI .i64)), .i .i64 j_2, .b (v_spec_l00Has t_0 j_2), .b (!(v_spec_l00Has t_0 j_2)), .b (!(v_spec_l00Has t_0 j_2)), .sl (t_0.map (cI .i64)), .any, .any, .any, .any, .any, .any, .any, .any, .any, .any, .any, .any, .any, .any, .any, .any, .any, .any, .any, .any, .any, .any, .any], []⟩)

def hd_spec_l03Third_1 (t_0 : (List Int)) (i_1 : Int) (j_2 : Int) (x_l0 : Int) : St := ⟨[.sl (t_0.map (cI .i64)), .i .i64 i_1, .i .i64 j_2, .any, .any, .any, .any, .any, .sl (t_0.map (cI .i64)), .i .i64 i_1, .b (v_spec_l00Has t_0 i_1), .b (!(v_spec_l00Has t_0 i_1)), .b (!(v_spec_l00Has t_0 i_1)), .sl (t_0.map (cI .i64)), .i .i64 j_2, .b (v_spec_l00Has t_0 j_2), .b (!(v_spec_l00Has t_0 j_2)), .b (!(v_spec_l00Has t_0 j_2)), .sl (t_0.map (cI .i64)), .i .i64 (t_0.length : Int), .i .i64 x_l0, .any, .any, .any, .any, .any, .any, .any, .any, .any, .any, .any, .any, .any, .any, .any, .any, .any, .any, .any, .any, .any], []⟩

def mk_spec_l03Third_1_0 : List Bool := [true, true, true, false, false, false, false, false, true, true, true, true, true, true, true, true, true, true, true, true, true, false, false, false, false, false, false, false, false, false, false, false, false, false, false, false, false, false, false, false, false, false]

def mk_spec_l03Third_1_1 : List Bool := [false, false, false, false, false, false, true, false, false, false, false, false, false, false, false, false, false, false, false, false, false, false, false, false, false, false, false, false, false, false, false, false, false, false, false, false, false, false, false, false, false, false]

def mk_spec_l03Third_1_2 : List Bool := [true, true, true, false, false, false, false, false, true, true, true, true, true, true, true, true, true, true, true, false, false, false, false, false, false, false, false, false, false, false, false, false, false, false, false, false, false, false, false, false, false, false]

theorem lp_spec_l03Third_1 (t_0 : (List Int)) (i_1 : Int) (j_2 : Int) (hp0 : t_0.length ≤ 1073741824) : ∀ (k : Nat) (x_l0 : Int) (hv_spec_l03Third_1_0 : 0 ≤ x_l0) (hk : ((t_0.length : Int) - x_l0).toNat < k), Lp prog 0 (sub (bodyOf f104) [1, 1, 0, 1, 0, 0]) (hd_spec_l03Third_1 t_0 i_1 j_2 x_l0) (ls_spec_l03Third_1 t_0 i_1 j_2 (lo_spec_l03Third_1 t_0 i_1 j_2 k x_l0)).1 (ls_spec_l03Third_1 t_0 i_1 j_2 (lo_spec_l03Third_1 t_0 i_1 j_2 k x_l0)).2 := by
 intro k
 induction k with
 | zero => intro x_l0 hv_spec_l03Third_1_0 hk; exact absurd hk (Nat.not_lt_zero _)
 | succ k ih =>
  intro x_l0 hv_spec_l03Third_1_0 hk
  cases h_0 : (decide (x_l0 < (t_0.length : Int))) with
  | true =>
   have gh_0 := of_decide_eq_true h_0
   have y_0 : (0 : Int) ≤ x_l0 := (by first | assumption | omega)
   have y_1 : x_l0 < (t_0.length : Int) := (by first | assumption | omega)
   have p {a C} (s : Scr a C) := sB h_0 <| sG (cI .i64) t_0 x_l0 y_0 y_1 <| s
   cases h_1 : ((t_0.getD x_l0.toNat default) != i_1) with
   | true =>
    have gh_1 := bne_iff_ne.1 h_1
    have q {a C} (s : Scr a C) := p (sB h_1 <| sB h_1 <| sB h_1 <| sG (cI .i64) t_0 x_l0 y_0 y_1 <| sB h_1 <| sB h_1 <| sB h_1 <| sB h_1 <| s)
    clear p
    cases h_2 : ((t_0.getD x_l0.toNat default) != j_2) with
    | true =>
     have gh_2 := bne_iff_ne.1 h_2
     have e : lo_spec_l03Third_1 t_0 i_1 j_2 (k + 1) x_l0 = (.inl (t_0.getD x_l0.toNat default)) := by simp only [lo_spec_l03Third_1, h_0, h_1, h_2, cond_true]
     rw [e]
     exact outR (e := .ret) E0Ok hMixed [] mk_spec_l03Third_1_1 [] (q (sB h_2 <| sG (cI .i64) t_0 x_l0 y_0 y_1 <| sN)) (by kernel_rfl) (by intro h; cases h)
    | false =>
     have gh_2 := bne_eq_false_iff_eq.1 h_2
     have y_2 : (-9223372036854775808 : Int) ≤ (x_l0 + 1) := by clear q; exact (by first | assumption | omega)
     have y_3 : (x_l0 + 1) ≤ (9223372036854775807 : Int) := by clear q; exact (by first | assumption | omega)
     have e : lo_spec_l03Third_1 t_0 i_1 j_2 (k + 1) x_l0 = (lo_spec_l03Third_1 t_0 i_1 j_2 k (x_l0 + 1)) := by simp only [lo_spec_l03Third_1, h_0, h_1, h_2, cond_true, cond_false]
     rw [e]
     exact nextR E0Ok hMixed [] mk_spec_l03Third_1_0 [] (ih (x_l0 + 1) (show 0 ≤ (x_l0 + 1) from (by first | assumption | omega)) (by first | assumption | omega)) (q (sB h_2 <| sI (x_l0 + 1) y_2 y_3 <| sN)) (by kernel_rfl)
   | false =>
    have gh_1 := bne_eq_false_iff_eq.1 h_1
    have y_2 : (-9223372036854775808 : Int) ≤ (x_l0 + 1) := by clear p; exact (by first | assumption | omega)
    have y_3 : (x_l0 + 1) ≤ (9223372036854775807 : Int) := by clear p; exact (by first | assumption | omega)
    have e : lo_spec_l03Third_1 t_0 i_1 j_2 (k + 1) x_l0 = (lo_spec_l03Third_1 t_0 i_1 j_2 k (x_l0 + 1)) := by simp only [lo_spec_l03Third_1, h_0, h_1, cond_true, cond_false]
    rw [e]
    exact nextR E0Ok hMixed [] mk_spec_l03Third_1_0 [] (ih (x_l0 + 1) (show 0 ≤ (x_l0 + 1) from (by first | assumption | omega)) (by first | assumption | omega)) (p (sB h_1 <| sB h_1 <| sB h_1 <| sB h_1 <| sB h_1 <| sB h_1 <| sB h_1 <| sB (show false = false from rfl) <| sI (x_l0 + 1) y_2 y_3 <| sN)) (by kernel_rfl)
  | false =>
   have gh_0 := of_decide_eq_false h_0
   have e : lo_spec_l03Third_1 t_0 i_1 j_2 (k + 1) x_l0 = (.inr ()) := by simp only [lo_spec_l03Third_1, h_0, cond_false]
   rw [e]
   exact outR (e := (.exit 0)) E0Ok hMixed [] mk_spec_l03Third_1_2 [] (sB h_0 <| sN) (by kernel_rfl) (by intro h; cases h)

def lr_spec_l03Third_1_0 (t_0 : (List Int)) (i_1 : Int) (j_2 : Int) : (Int) ⊕ (Unit) := (lo_spec_l03Third_1 t_0 i_1 j_2 (((t_0.length : Int) - 0).toNat + 1) 0)

def v_spec_l03Third (t_0 : (List Int)) (i_1 : Int) (j_2 : Int) : Int := (cond (v_spec_l00Has t_0 i_1)
  (cond (v_spec_l00Has t_0 j_2)
    (match (lr_spec_l03Third_1_0 t_0 i_1 j_2) with
      | .inl r3 => r3
      | .inr r3 => (-1))
    (-1))
  (-1))

theorem l03Third_eq {x y z a b : Int} (n1 : x ≠ y) (n2 : y ≠ z) (n3 : x ≠ z) (hab : a ≠ b) : v_spec_l03Third [x, y, z] a b = if tHas [x, y, z] a b = true then thd [x, y, z] a b else -1 := by
  have hs : ∀ c : Int, v_spec_l00Has [x, y, z] c = (x == c || (y == c || z == c)) := by
    intro c
    unfold v_spec_l00Has lr_spec_l00Has_1_0
    show (match lo_spec_l00Has_1 [x, y, z] c 4 0 with | .inl r1 => true | .inr r1 => false) = _
    simp only [lo_spec_l00Has_1, List.length_cons, List.length_nil]
    cases h1 : (x == c) <;> cases h2 : (y == c) <;> cases h3 : (z == c) <;> simp [h1, h2, h3]
  unfold v_spec_l03Third
  rw [hs, hs]
  by_cases hh : tHas [x, y, z] a b = true
  · rw [if_pos hh]
    have hq := hh
    unfold tHas at hq
    simp only [List.getD_cons_zero, List.getD_cons_succ, Bool.and_eq_true] at hq
    rw [hq.1, hq.2, cond_true, cond_true]
    unfold lr_spec_l03Third_1_0
    show (match lo_spec_l03Third_1 [x, y, z] a b 4 0 with | .inl r3 => r3 | .inr r3 => (-1)) = _
    simp only [lo_spec_l03Third_1, List.length_cons, List.length_nil]
    rcases tHas_eq n1 n2 n3 hab hh with ⟨h0, h1, h2, h3, h4⟩ | ⟨h0, h1, h2, h3, h4⟩ | ⟨h0, h1, h2, h3, h4⟩
    · rw [h0]; simp [bne_iff_ne.2 h1, bne_iff_ne.2 h2]
    · rw [h0]
      rcases h3 with rfl | rfl
      · simp [bne_iff_ne.2 h1, bne_iff_ne.2 h2]
      · simp [bne_iff_ne.2 h1, bne_iff_ne.2 h2]
    · rw [h0]
      rcases h3 with rfl | rfl <;> rcases h4 with rfl | rfl <;> first | exact absurd rfl n1 | simp [bne_iff_ne.2 h1, bne_iff_ne.2 h2]
  · rw [if_neg hh]
    unfold tHas at hh
    simp only [List.getD_cons_zero, List.getD_cons_succ, Bool.and_eq_true, not_and, Bool.not_eq_true] at hh
    cases h1 : (x == a || (y == a || z == a)) with
    | false => rfl
    | true => rw [hh h1]; rfl

theorem t_spec_l03Third (t_0 : (List Int)) (i_1 : Int) (j_2 : Int) (hp0 : t_0.length ≤ 1073741824)  : Fn prog 104 [.sl (t_0.map (cI .i64)), .i .i64 i_1, .i .i64 j_2] (.i .i64 (v_spec_l03Third t_0 i_1 j_2)) [] := by
 have p {a C} (s : Scr a C) := sF (t_spec_l00Has t_0 i_1 hp0) <| s
 cases h0 : (v_spec_l00Has t_0 i_1) with
 | true =>
  have q {a C} (s : Scr a C) := p (sB' h0 <| sB' h0 <| sB' h0 <| sF (t_spec_l00Has t_0 j_2 hp0) <| sB' h0 <| sB' h0 <| s)
  clear p
  cases h1 : (v_spec_l00Has t_0 j_2) with
  | true =>
   have p {a C} (s : Scr a C) := q (sB' h1 <| sZ (cI .i64) t_0 <| s)
   clear q
   cases h2 : (lr_spec_l03Third_1_0 t_0 i_1 j_2) with
   | inl r3 =>
    refine fnS E0Ok hMixed (c := bodyOf f104) [] (.i .i64 r3) [] func104 (p (sL mk_spec_l03Third_1_0 0 (lp_val (ls_spec_l03Third_1 t_0 i_1 j_2) (x := (lr_spec_l03Third_1_0 t_0 i_1 j_2)) (lp_spec_l03Third_1 t_0 i_1 j_2 hp0 (((t_0.length : Int) - 0).toNat + 1) 0 (show 0 ≤ 0 from (by first | assumption | omega)) (Nat.lt_succ_self _)) h2) <| sK [] sN)) rfl (by kernel_rfl) (by kernel_rfl) rfl ?_ ?_
    · simp only [v_spec_l03Third, h0, h1, h2, cond_true]
    · rfl
   | inr r3 =>
    refine fnS E0Ok hMixed (c := bodyOf f104) [] (.i .i64 (-1)) [] func104 (p (sL mk_spec_l03Third_1_0 0 (lp_val (ls_spec_l03Third_1 t_0 i_1 j_2) (x := (lr_spec_l03Third_1_0 t_0 i_1 j_2)) (lp_spec_l03Third_1 t_0 i_1 j_2 hp0 (((t_0.length : Int) - 0).toNat + 1) 0 (show 0 ≤ 0 from (by first | assumption | omega)) (Nat.lt_succ_self _)) h2) <| sK [] sN)) rfl (by kernel_rfl) (by kernel_rfl) rfl ?_ ?_
    · simp only [v_spec_l03Third, h0, h1, h2, cond_true]
    · rfl
  | false =>
   refine fnS E0Ok hMixed (c := bodyOf f104) [] (.i .i64 (-1)) [] func104 (q (sB' h1 <| sK [] sN)) rfl (by kernel_rfl) (by kernel_rfl) rfl ?_ ?_
   · simp only [v_spec_l03Third, h0, h1, cond_true, cond_false]
   · rfl
 | false =>
  refine fnS E0Ok hMixed (c := bodyOf f104) [] (.i .i64 (-1)) [] func104 (p (sB' h0 <| sB' h0 <| sB' h0 <| sB' h0 <| sB' h0 <| sB (show true = true from rfl) <| sK [] sN)) rfl (by kernel_rfl) (by kernel_rfl) rfl ?_ ?_
  · simp only [v_spec_l03Third, h0, cond_false]
  · rfl

def nd_spec_l03Hinges_0 (m_0 : GMesh) (x_l0 : Int) (x_l0_1 : Int) : Int := (v_spec_l03Third (m_0.Triangles.getD x_l0_1.toNat default) (((v_spec_l02Edges m_0).getD x_l0.toNat default).getD 0 default) (((v_spec_l02Edges m_0).getD x_l0.toNat default).getD 1 default))

def lo_spec_l03Hinges_2 (m_0 : GMesh) (x_l0 : Int) (r0_l1 : (List (List Int))) : Nat → Int → (List Int) → (List Int)
  | 0, _, _ => default
  | k + 1, x_l0_1, r2_l1 => (cond (decide (x_l0_1 < (m_0.Triangles.length : Int)))
    (cond (decide ((nd_spec_l03Hinges_0 m_0 x_l0 x_l0_1) ≥ 0))
      (lo_spec_l03Hinges_2 m_0 x_l0 r0_l1 k (x_l0_1 + 1) (r2_l1 ++ [(nd_spec_l03Hinges_0 m_0 x_l0 x_l0_1)]))
      (lo_spec_l03Hinges_2 m_0 x_l0 r0_l1 k (x_l0_1 + 1) r2_l1))
    r2_l1)

def ls_spec_l03Hinges_2 (m_0 : GMesh) (x_l0 : Int) (r0_l1 : (List (List Int))) (r : (List Int)) : Ex × St := ((.exit 2), ⟨[.ref (GMesh.cells m_0) 0, .any, .nils, .own 0, .own 1, .i .i64 x_l0, .i .i64 (((v_spec_l02Edges m_0).getD x_l0.toNat default).getD 0 default), .i .i64 (((v_spec_l02Edges m_0).getD x_l0.toNat default).getD 1 default), .own 2, .any, .any, .any, .ref (GMesh.cells m_0) 0, .own 1, .own 1, .i .i64 ((v_spec_l02Edges m_0).length : Int), .i .i64 x_l0, .b (decide (x_l0 < ((v_spec_l02Edges m_0).length : Int))), .i .i64 x_l0, .own 1, .i .i64 x_l0, .ptr 1 x_l0.toNat 0, .inn 1 x_l0.toNat, .ipt 1 x_l0.toNat 0, .i .i64 (((v_spec_l02Edges m_0).getD x_l0.toNat default).getD 0 default), .own 1, .i .i64 x_l0, .ptr 1 x_l0.toNat 0, .inn 1 x_l0.toNat, .ipt 1 x_l0.toNat 1, .i .i64 (((v_spec_l02Edges m_0).getD x_l0.toNat default).getD 1 default), .i .i64 (((v_spec_l02Edges m_0).getD x_l0.toNat default).getD 0 default), .i .i64 (((v_spec_l02Edges m_0).getD x_l0.toNat default).getD 1 default), .any, .ref (GMesh.cells m_0) 0, .ref (GMesh.cells m_0) 0, .ref (GMesh.cells m_0) 1, .sl (m_0.Triangles.map (cL (cI .i64))), .any, .any, .any, .any, .any, .any, .any, .any, .any, .any, .any, .any, .any, .any, .any, .any, .any, .any, .any, .any, .any, .any, .any, .any, .any, .any, .any, .any, .any, .any], [.nest 54 (r0_l1.map fun l => l.map (cI .i64)) false, .nest 54 ((v_spec_l02Edges m_0).map fun l => l.map (cI .i64)) false, .vec 2 1 (r.map (cI .i64)) false]⟩)

def hd_spec_l03Hinges_2 (m_0 : GMesh) (x_l0 : Int) (r0_l1 : (List (List Int))) (x_l0_1 : Int) (r2_l1 : (List Int)) : St := ⟨[.ref (GMesh.cells m_0) 0, .any, .nils, .own 0, .own 1, .i .i64 x_l0, .i .i64 (((v_spec_l02Edges m_0).getD x_l0.toNat default).getD 0 default), .i .i64 (((v_spec_l02Edges m_0).getD x_l0.toNat default).getD 1 default), .own 2, .any, .any, .any, .ref (GMesh.cells m_0) 0, .own 1, .own 1, .i .i64 ((v_spec_l02Edges m_0).length : Int), .i .i64 x_l0, .b (decide (x_l0 < ((v_spec_l02Edges m_0).length : Int))), .i .i64 x_l0, .own 1, .i .i64 x_l0, .ptr 1 x_l0.toNat 0, .inn 1 x_l0.toNat, .ipt 1 x_l0.toNat 0, .i .i64 (((v_spec_l02Edges m_0).getD x_l0.toNat default).getD 0 default), .own 1, .i .i64 x_l0, .ptr 1 x_l0.toNat 0, .inn 1 x_l0.toNat, .ipt 1 x_l0.toNat 1, .i .i64 (((v_spec_l02Edges m_0).getD x_l0.toNat default).getD 1 default), .i .i64 (((v_spec_l02Edges m_0).getD x_l0.toNat default).getD 0 default), .i .i64 (((v_spec_l02Edges m_0).getD x_l0.toNat default).getD 1 default), .any, .ref (GMesh.cells m_0) 0, .ref (GMesh.cells m_0) 0, .ref (GMesh.cells m_0) 1, .sl (m_0.Triangles.map (cL (cI .i64))), .i .i64 (m_0.Triangles.length : Int), .i .i64 x_l0_1, .any, .any, .any, .any, .any, .any, .any, .any, .any, .any, .any, .any, .any, .any, .any, .any, .any, .any, .any, .any, .any, .any, .any, .any, .any, .any, .any, .any], [.nest 54 (r0_l1.map fun l => l.map (cI .i64)) false, .nest 54 ((v_spec_l02Edges m_0).map fun l => l.map (cI .i64)) false, .vec 2 1 (r2_l1.map (cI .i64)) false]⟩

def mk_spec_l03Hinges_2_0 : List Bool := [true, false, true, true, true, true, true, true, true, false, false, false, true, true, true, true, true, true, true, true, true, true, true, true, true, true, true, true, true, true, true, true, true, false, true, true, true, true, true, true, false, false, false, false, false, false, false, false, false, false, false, false, false, false, false, false, false, false, false, false, false, false, false, false, false, false, false, false]

def mk_spec_l03Hinges_2_1 : List Bool := [true, false, true, true, true, true, true, true, true, false, false, false, true, true, true, true, true, true, true, true, true, true, true, true, true, true, true, true, true, true, true, true, true, false, true, true, true, true, false, false, false, false, false, false, false, false, false, false, false, false, false, false, false, false, false, false, false, false, false, false, false, false, false, false, false, false, false, false]

theorem lp_spec_l03Hinges_2 (m_0 : GMesh) (x_l0 : Int) (r0_l1 : (List (List Int))) (hp0 : m_0.Places.length ≤ 1073741824) (hp1 : m_0.Triangles.length ≤ 1073741824) (hp2 : ∀ t ∈ m_0.Triangles, t.length ≤ 1073741824) (hp3 : OkE m_0.Places.length m_0.Triangles) (hv_spec_l03Hinges_1_0 : 0 ≤ x_l0) (hv_spec_l03Hinges_1_1 : (r0_l1.length : Int) ≤ x_l0) (hf_spec_l03Hinges_2_0 : (decide (x_l0 < ((v_spec_l02Edges m_0).length : Int))) = true) : ∀ (k : Nat) (x_l0_1 : Int) (r2_l1 : (List Int)) (hv_spec_l03Hinges_2_0 : 0 ≤ x_l0_1) (hv_spec_l03Hinges_2_1 : (r2_l1.length : Int) ≤ 2 + x_l0_1) (hk : ((m_0.Triangles.length : Int) - x_l0_1).toNat < k), Lp prog 0 (sub (bodyOf f81) [1, 1, 1, 0, 1, 0, 0, 1, 1, 0, 0, 1, 1, 1, 1, 0, 1, 0, 0]) (hd_spec_l03Hinges_2 m_0 x_l0 r0_l1 x_l0_1 r2_l1) (ls_spec_l03Hinges_2 m_0 x_l0 r0_l1 (lo_spec_l03Hinges_2 m_0 x_l0 r0_l1 k x_l0_1 r2_l1)).1 (ls_spec_l03Hinges_2 m_0 x_l0 r0_l1 (lo_spec_l03Hinges_2 m_0 x_l0 r0_l1 k x_l0_1 r2_l1)).2 := by
 intro k
 induction k with
 | zero => intro x_l0_1 r2_l1 hv_spec_l03Hinges_2_0 hv_spec_l03Hinges_2_1 hk; exact absurd hk (Nat.not_lt_zero _)
 | succ k ih =>
  intro x_l0_1 r2_l1 hv_spec_l03Hinges_2_0 hv_spec_l03Hinges_2_1 hk
  cases h__0 : (decide (x_l0_1 < (m_0.Triangles.length : Int))) with
  | true =>
   have gh__0 := of_decide_eq_true h__0
   have y__0 : (0 : Int) ≤ x_l0_1 := (by first | assumption | omega)
   have y__1 : x_l0_1 < (m_0.Triangles.length : Int) := (by first | assumption | omega)
   have y__2 : (m_0.Triangles.getD x_l0_1.toNat default).length ≤ 1073741824 := (by first | assumption | omega | (first | (have q := l02Edges_at m_0 hp3 hv_spec_l03Hinges_1_0 (of_decide_eq_true (by assumption)); first | omega | (simp only [List.length_append, List.length_cons, List.length_nil]; omega)) | (have := hp3.2.1; have g4 := of_decide_eq_true h__0; first | omega | (simp only [List.length_append, List.length_cons, List.length_nil]; omega)) | (have := hp3.2.1; have q := lh2_len m_0 x_l0 r0_l1; first | omega | (have q2 := l02Edges_len m_0 hp3; have g4 := of_decide_eq_true h_0; first | omega | (simp only [List.length_append, List.length_cons, List.length_nil]; omega))) | (have q := l02Edges_len m_0 hp3; omega)) | (simp_all <;> omega))
   have p {a C} (s : Scr a C) := sB h__0 <| sG (cL (cI .i64)) m_0.Triangles x_l0_1 y__0 y__1 <| sF (t_spec_l03Third (m_0.Triangles.getD x_l0_1.toNat default) (((v_spec_l02Edges m_0).getD x_l0.toNat default).getD 0 default) (((v_spec_l02Edges m_0).getD x_l0.toNat default).getD 1 default) y__2) <| s
   cases h__1 : (decide ((nd_spec_l03Hinges_0 m_0 x_l0 x_l0_1) ≥ 0)) with
   | true =>
    have gh__1 := of_decide_eq_true h__1
    have y__3 : r2_l1.length + ([(nd_spec_l03Hinges_0 m_0 x_l0 x_l0_1)]).length ≤ 1073741824 := by clear p; exact (by first | assumption | omega | (first | (have q := l02Edges_at m_0 hp3 hv_spec_l03Hinges_1_0 (of_decide_eq_true (by assumption)); first | omega | (simp only [List.length_append, List.length_cons, List.length_nil]; omega)) | (have := hp3.2.1; have g4 := of_decide_eq_true h__0; first | omega | (simp only [List.length_append, List.length_cons, List.length_nil]; omega)) | (have := hp3.2.1; have q := lh2_len m_0 x_l0 r0_l1; first | omega | (have q2 := l02Edges_len m_0 hp3; have g4 := of_decide_eq_true h_0; first | omega | (simp only [List.length_append, List.length_cons, List.length_nil]; omega))) | (have q := l02Edges_len m_0 hp3; omega)) | (simp_all <;> omega))
    have y__4 : (-9223372036854775808 : Int) ≤ (x_l0_1 + 1) := by clear p; exact (by first | assumption | omega)
    have y__5 : (x_l0_1 + 1) ≤ (9223372036854775807 : Int) := by clear p; exact (by first | assumption | omega)
    have e : lo_spec_l03Hinges_2 m_0 x_l0 r0_l1 (k + 1) x_l0_1 r2_l1 = (lo_spec_l03Hinges_2 m_0 x_l0 r0_l1 k (x_l0_1 + 1) (r2_l1 ++ [(nd_spec_l03Hinges_0 m_0 x_l0 x_l0_1)])) := by simp only [lo_spec_l03Hinges_2, h__0, h__1, cond_true]
    rw [e]
    exact nextS E0Ok hMixed [] mk_spec_l03Hinges_2_0 [0, 1, 2] (⟨[.ref (GMesh.cells m_0) 0, .any, .nils, .own 0, .own 1, .i .i64 x_l0, .i .i64 (((v_spec_l02Edges m_0).getD x_l0.toNat default).getD 0 default), .i .i64 (((v_spec_l02Edges m_0).getD x_l0.toNat default).getD 1 default), .own 2, .any, .any, .any, .ref (GMesh.cells m_0) 0, .own 1, .own 1, .i .i64 ((v_spec_l02Edges m_0).length : Int), .i .i64 x_l0, .b (decide (x_l0 < ((v_spec_l02Edges m_0).length : Int))), .i .i64 x_l0, .own 1, .i .i64 x_l0, .ptr 1 x_l0.toNat 0, .inn 1 x_l0.toNat, .ipt 1 x_l0.toNat 0, .i .i64 (((v_spec_l02Edges m_0).getD x_l0.toNat default).getD 0 default), .own 1, .i .i64 x_l0, .ptr 1 x_l0.toNat 0, .inn 1 x_l0.toNat, .ipt 1 x_l0.toNat 1, .i .i64 (((v_spec_l02Edges m_0).getD x_l0.toNat default).getD 1 default), .i .i64 (((v_spec_l02Edges m_0).getD x_l0.toNat default).getD 0 default), .i .i64 (((v_spec_l02Edges m_0).getD x_l0.toNat default).getD 1 default), .any, .ref (GMesh.cells m_0) 0, .ref (GMesh.cells m_0) 0, .ref (GMesh.cells m_0) 1, .sl (m_0.Triangles.map (cL (cI .i64))), .i .i64 (m_0.Triangles.length : Int), .i .i64 (x_l0_1 + 1), .any, .any, .any, .any, .any, .any, .any, .any, .any, .any, .any, .any, .any, .any, .any, .any, .any, .any, .any, .any, .any, .any, .any, .any, .any, .any, .any, .any], [.nest 54 (r0_l1.map fun l => l.map (cI .i64)) false, .nest 54 ((v_spec_l02Edges m_0).map fun l => l.map (cI .i64)) false, .vec 2 1 ((r2_l1.map (cI .i64)) ++ ([[.i .i64 (nd_spec_l03Hinges_0 m_0 x_l0 x_l0_1)]] : List (List AV))) false]⟩) (p (sB h__1 <| sC (show (r2_l1.map (cI .i64)).length + ([[.i .i64 (nd_spec_l03Hinges_0 m_0 x_l0 x_l0_1)]] : List (List AV)).length ≤ 1073741824 from (by simpa using y__3)) <| sI (x_l0_1 + 1) y__4 y__5 <| sN)) (by kernel_rfl) (show _ = ⟨[.ref (GMesh.cells m_0) 0, .any, .nils, .own 0, .own 1, .i .i64 x_l0, .i .i64 (((v_spec_l02Edges m_0).getD x_l0.toNat default).getD 0 default), .i .i64 (((v_spec_l02Edges m_0).getD x_l0.toNat default).getD 1 default), .own 2, .any, .any, .any, .ref (GMesh.cells m_0) 0, .own 1, .own 1, .i .i64 ((v_spec_l02Edges m_0).length : Int), .i .i64 x_l0, .b (decide (x_l0 < ((v_spec_l02Edges m_0).length : Int))), .i .i64 x_l0, .own 1, .i .i64 x_l0, .ptr 1 x_l0.toNat 0, .inn 1 x_l0.toNat, .ipt 1 x_l0.toNat 0, .i .i64 (((v_spec_l02Edges m_0).getD x_l0.toNat default).getD 0 default), .own 1, .i .i64 x_l0, .ptr 1 x_l0.toNat 0, .inn 1 x_l0.toNat, .ipt 1 x_l0.toNat 1, .i .i64 (((v_spec_l02Edges m_0).getD x_l0.toNat default).getD 1 default), .i .i64 (((v_spec_l02Edges m_0).getD x_l0.toNat default).getD 0 default), .i .i64 (((v_spec_l02Edges m_0).getD x_l0.toNat default).getD 1 default), .any, .ref (GMesh.cells m_0) 0, .ref (GMesh.cells m_0) 0, .ref (GMesh.cells m_0) 1, .sl (m_0.Triangles.map (cL (cI .i64))), .i .i64 (m_0.Triangles.length : Int), .i .i64 (x_l0_1 + 1), .any, .any, .any, .any, .any, .any, .any, .any, .any, .any, .any, .any, .any, .any, .any, .any, .any, .any, .any, .any, .any, .any, .any, .any, .any, .any, .any, .any], [.nest 54 (r0_l1.map fun l => l.map (cI .i64)) false, .nest 54 ((v_spec_l02Edges m_0).map fun l => l.map (cI .i64)) false, .vec 2 1 ((r2_l1 ++ [(nd_spec_l03Hinges_0 m_0 x_l0 x_l0_1)]).map (cI .i64)) false]⟩ from (by simp [cL, cI])) (ih (x_l0_1 + 1) (r2_l1 ++ [(nd_spec_l03Hinges_0 m_0 x_l0 x_l0_1)]) (show 0 ≤ (x_l0_1 + 1) from (by first | assumption | omega)) (show ((r2_l1 ++ [(nd_spec_l03Hinges_0 m_0 x_l0 x_l0_1)]).length : Int) ≤ 2 + (x_l0_1 + 1) from (by first | assumption | omega | (first | (have q := l02Edges_at m_0 hp3 hv_spec_l03Hinges_1_0 (of_decide_eq_true (by assumption)); first | omega | (simp only [List.length_append, List.length_cons, List.length_nil]; omega)) | (have := hp3.2.1; have g4 := of_decide_eq_true h__0; first | omega | (simp only [List.length_append, List.length_cons, List.length_nil]; omega)) | (have := hp3.2.1; have q := lh2_len m_0 x_l0 r0_l1; first | omega | (have q2 := l02Edges_len m_0 hp3; have g4 := of_decide_eq_true h_0; first | omega | (simp only [List.length_append, List.length_cons, List.length_nil]; omega))) | (have q := l02Edges_len m_0 hp3; omega)) | (simp_all <;> omega))) (by first | assumption | omega))
   | false =>
    have gh__1 := of_decide_eq_false h__1
    have y__3 : (-9223372036854775808 : Int) ≤ (x_l0_1 + 1) := by clear p; exact (by first | assumption | omega)
    have y__4 : (x_l0_1 + 1) ≤ (9223372036854775807 : Int) := by clear p; exact (by first | assumption | omega)
    have e : lo_spec_l03Hinges_2 m_0 x_l0 r0_l1 (k + 1) x_l0_1 r2_l1 = (lo_spec_l03Hinges_2 m_0 x_l0 r0_l1 k (x_l0_1 + 1) r2_l1) := by simp only [lo_spec_l03Hinges_2, h__0, h__1, cond_true, cond_false]
    rw [e]
    exact nextR E0Ok hMixed [] mk_spec_l03Hinges_2_0 [0, 1, 2] (ih (x_l0_1 + 1) r2_l1 (show 0 ≤ (x_l0_1 + 1) from (by first | assumption | omega)) (show (r2_l1.length : Int) ≤ 2 + (x_l0_1 + 1) from (by first | assumption | omega)) (by first | assumption | omega)) (p (sB h__1 <| sI (x_l0_1 + 1) y__3 y__4 <| sN)) (by kernel_rfl)
  | false =>
   have gh__0 := of_decide_eq_false h__0
   have e : lo_spec_l03Hinges_2 m_0 x_l0 r0_l1 (k + 1) x_l0_1 r2_l1 = r2_l1 := by simp only [lo_spec_l03Hinges_2, h__0, cond_false]
   rw [e]
   exact outR (e := (.exit 2)) E0Ok hMixed [] mk_spec_l03Hinges_2_1 [0, 1, 2] (sB h__0 <| sN) (by kernel_rfl) (by intro h; cases h)

def lr_spec_l03Hinges_2_0 (m_0 : GMesh) (x_l0 : Int) (r0_l1 : (List (List Int))) : (List Int) := (lo_spec_l03Hinges_2 m_0 x_l0 r0_l1 (((m_0.Triangles.length : Int) - 0).toNat + 1) 0 ([(((v_spec_l02Edges m_0).getD x_l0.toNat default).getD 0 default), (((v_spec_l02Edges m_0).getD x_l0.toNat default).getD 1 default)]))

theorem lh2_len (m : GMesh) (x : Int) (r0 : List (List Int)) : (lr_spec_l03Hinges_2_0 m x r0).length ≤ 3 + m.Triangles.length := by
  have h : ∀ (k : Nat) (i : Int) (r : List Int), (lo_spec_l03Hinges_2 m x r0 k i r).length ≤ r.length + k := by
    intro k
    induction k with
    | zero => intro i r; exact Nat.zero_le _
    | succ k ih =>
      intro i r
      rw [lo_spec_l03Hinges_2]
      cases decide (i < (m.Triangles.length : Int)) with
      | false => rw [cond_false]; omega
      | true =>
        rw [cond_true]
        cases decide ((nd_spec_l03Hinges_0 m x i) ≥ 0) with
        | true => rw [cond_true]; have := ih (i + 1) (r ++ [nd_spec_l03Hinges_0 m x i]); simp only [List.length_append, List.length_cons, List.length_nil] at this; omega
        | false => rw [cond_false]; have := ih (i + 1) r; omega
  have := h (((m.Triangles.length : Int) - 0).toNat + 1) 0 [((v_spec_l02Edges m).getD x.toNat default).getD 0 default, ((v_spec_l02Edges m).getD x.toNat default).getD 1 default]
  unfold lr_spec_l03Hinges_2_0
  simp only [List.length_cons, List.length_nil] at this
  omega

def lo_spec_l03Hinges_1 (m_0 : GMesh) : Nat → Int → (List (List Int)) → (List (List Int))
  | 0, _, _ => default
  | k + 1, x_l0, r0_l1 => (cond (decide (x_l0 < ((v_spec_l02Edges m_0).length : Int)))
    (cond (((lr_spec_l03Hinges_2_0 m_0 x_l0 r0_l1).length : Int) == 4)
      (lo_spec_l03Hinges_1 m_0 k (x_l0 + 1) (r0_l1 ++ [(lr_spec_l03Hinges_2_0 m_0 x_l0 r0_l1)]))
      (lo_spec_l03Hinges_1 m_0 k (x_l0 + 1) r0_l1))
    r0_l1)

def ls_spec_l03Hinges_1 (m_0 : GMesh) (r : (List (List Int))) : Ex × St := ((.exit 0), ⟨[.ref (GMesh.cells m_0) 0, .any, .nils, .own 0, .own 1, .any, .any, .any, .any, .any, .any, .any, .ref (GMesh.cells m_0) 0, .own 1, .own 1, .any, .any, .any, .any, .any, .any, .any, .any, .any, .any, .any, .any, .any, .any, .any, .any, .any, .any, .any, .any, .any, .any, .any, .any, .any, .any, .any, .any, .any, .any, .any, .any, .any, .any, .any, .any, .any, .any, .any, .any, .any, .any, .any, .any, .any, .any, .any, .any, .any, .any, .any, .any, .any], [.nest 54 (r.map fun l => l.map (cI .i64)) false, .nest 54 ((v_spec_l02Edges m_0).map fun l => l.map (cI .i64)) false]⟩)

def hd_spec_l03Hinges_1 (m_0 : GMesh) (x_l0 : Int) (r0_l1 : (List (List Int))) : St := ⟨[.ref (GMesh.cells m_0) 0, .any, .nils, .own 0, .own 1, .any, .any, .any, .any, .any, .any, .any, .ref (GMesh.cells m_0) 0, .own 1, .own 1, .i .i64 ((v_spec_l02Edges m_0).length : Int), .i .i64 x_l0, .any, .any, .any, .any, .any, .any, .any, .any, .any, .any, .any, .any, .any, .any, .any, .any, .any, .any, .any, .any, .any, .any, .any, .any, .any, .any, .any, .any, .any, .any, .any, .any, .any, .any, .any, .any, .any, .any, .any, .any, .any, .any, .any, .any, .any, .any, .any, .any, .any, .any, .any], [.nest 54 (r0_l1.map fun l => l.map (cI .i64)) false, .nest 54 ((v_spec_l02Edges m_0).map fun l => l.map (cI .i64)) false]⟩

def mk_spec_l03Hinges_1_0 : List Bool := [true, false, true, true, true, false, false, false, false, false, false, false, true, true, true, true, true, false, false, false, false, false, false, false, false, false, false, false, false, false, false, false, false, false, false, false, false, false, false, false, false, false, false, false, false, false, false, false, false, false, false, false, false, false, false, false, false, false, false, false, false, false, false, false, false, false, false, false]

def mk_spec_l03Hinges_1_1 : List Bool := [true, false, true, true, true, false, false, false, false, false, false, false, true, true, true, false, false, false, false, false, false, false, false, false, false, false, false, false, false, false, false, false, false, false, false, false, false, false, false, false, false, false, false, false, false, false, false, false, false, false, false, false, false, false, false, false, false, false, false, false, false, false, false, false, false, false, false, false]

theorem lp_spec_l03Hinges_1 (m_0 : GMesh) (hp0 : m_0.Places.length ≤ 1073741824) (hp1 : m_0.Triangles.length ≤ 1073741824) (hp2 : ∀ t ∈ m_0.Triangles, t.length ≤ 1073741824) (hp3 : OkE m_0.Places.length m_0.Triangles) : ∀ (k : Nat) (x_l0 : Int) (r0_l1 : (List (List Int))) (hv_spec_l03Hinges_1_0 : 0 ≤ x_l0) (hv_spec_l03Hinges_1_1 : (r0_l1.length : Int) ≤ x_l0) (hk : (((v_spec_l02Edges m_0).length : Int) - x_l0).toNat < k), Lp prog 0 (sub (bodyOf f81) [1, 1, 1, 0, 1, 0, 0]) (hd_spec_l03Hinges_1 m_0 x_l0 r0_l1) (ls_spec_l03Hinges_1 m_0 (lo_spec_l03Hinges_1 m_0 k x_l0 r0_l1)).1 (ls_spec_l03Hinges_1 m_0 (lo_spec_l03Hinges_1 m_0 k x_l0 r0_l1)).2 := by
 intro k
 induction k with
 | zero => intro x_l0 r0_l1 hv_spec_l03Hinges_1_0 hv_spec_l03Hinges_1_1 hk; exact absurd hk (Nat.not_lt_zero _)
 | succ k ih =>
  intro x_l0 r0_l1 hv_spec_l03Hinges_1_0 hv_spec_l03Hinges_1_1 hk
  cases h_0 : (decide (x_l0 < ((v_spec_l02Edges m_0).length : Int))) with
  | true =>
   have gh_0 := of_decide_eq_true h_0
   have y_0 : (0 : Int) ≤ x_l0 := (by first | assumption | omega)
   have y_1 : Int.toNat x_l0 < (v_spec_l02Edges m_0).length := (by first | assumption | omega)
   have y_2 : x_l0.toNat < (v_spec_l02Edges m_0).length := (by first | assumption | omega)
   have y_3 : (0 : Int) ≤ 0 := (by first | assumption | omega)
   have y_4 : 0 < (((v_spec_l02Edges m_0).getD x_l0.toNat default).length : Int) := (by first | assumption | omega | (first | (have q := l02Edges_at m_0 hp3 hv_spec_l03Hinges_1_0 (of_decide_eq_true (by assumption)); first | omega | (simp only [List.length_append, List.length_cons, List.length_nil]; omega)) | (have := hp3.2.1; have g4 := of_decide_eq_true h__0; first | omega | (simp only [List.length_append, List.length_cons, List.length_nil]; omega)) | (have := hp3.2.1; have q := lh2_len m_0 x_l0 r0_l1; first | omega | (have q2 := l02Edges_len m_0 hp3; have g4 := of_decide_eq_true h_0; first | omega | (simp only [List.length_append, List.length_cons, List.length_nil]; omega))) | (have q := l02Edges_len m_0 hp3; omega)) | (simp_all <;> omega))
   have y_5 : 0 < ((v_spec_l02Edges m_0).getD x_l0.toNat default).length := (by first | assumption | omega)
   have y_6 : (0 : Int) ≤ 1 := (by first | assumption | omega)
   have y_7 : 1 < (((v_spec_l02Edges m_0).getD x_l0.toNat default).length : Int) := (by first | assumption | omega | (first | (have q := l02Edges_at m_0 hp3 hv_spec_l03Hinges_1_0 (of_decide_eq_true (by assumption)); first | omega | (simp only [List.length_append, List.length_cons, List.length_nil]; omega)) | (have := hp3.2.1; have g4 := of_decide_eq_true h__0; first | omega | (simp only [List.length_append, List.length_cons, List.length_nil]; omega)) | (have := hp3.2.1; have q := lh2_len m_0 x_l0 r0_l1; first | omega | (have q2 := l02Edges_len m_0 hp3; have g4 := of_decide_eq_true h_0; first | omega | (simp only [List.length_append, List.length_cons, List.length_nil]; omega))) | (have q := l02Edges_len m_0 hp3; omega)) | (simp_all <;> omega))
   have y_8 : 1 < ((v_spec_l02Edges m_0).getD x_l0.toNat default).length := (by first | assumption | omega)
   have p {a C} (s : Scr a C) := sB h_0 <| sC (nestix (c := (cI .i64)) (l := (v_spec_l02Edges m_0)) (i := x_l0) y_0 y_1) <| sC (nestlt (c := (cI .i64)) (l := (v_spec_l02Edges m_0)) y_2) <| sC (iidx_ok (c := (cI .i64)) (l := (v_spec_l02Edges m_0)) (j := x_l0.toNat) (i := 0) y_3 y_4) <| sE (iget_ok (c := (cI .i64)) (l := (v_spec_l02Edges m_0)) (j := x_l0.toNat) (k := 0) y_5) <| sC (nestix (c := (cI .i64)) (l := (v_spec_l02Edges m_0)) (i := x_l0) y_0 y_1) <| sC (nestlt (c := (cI .i64)) (l := (v_spec_l02Edges m_0)) y_2) <| sC (iidx_ok (c := (cI .i64)) (l := (v_spec_l02Edges m_0)) (j := x_l0.toNat) (i := 1) y_6 y_7) <| sE (iget_ok (c := (cI .i64)) (l := (v_spec_l02Edges m_0)) (j := x_l0.toNat) (k := 1) y_8) <| sZ (cL (cI .i64)) m_0.Triangles <| sL mk_spec_l03Hinges_2_0 3 (lp_cast (st2 := ⟨[.ref (GMesh.cells m_0) 0, .any, .nils, .own 0, .own 1, .i .i64 x_l0, .i .i64 (((v_spec_l02Edges m_0).getD x_l0.toNat default).getD 0 default), .i .i64 (((v_spec_l02Edges m_0).getD x_l0.toNat default).getD 1 default), .own 2, .any, .any, .any, .ref (GMesh.cells m_0) 0, .own 1, .own 1, .i .i64 ((v_spec_l02Edges m_0).length : Int), .i .i64 x_l0, .b (decide (x_l0 < ((v_spec_l02Edges m_0).length : Int))), .i .i64 x_l0, .own 1, .i .i64 x_l0, .ptr 1 x_l0.toNat 0, .inn 1 x_l0.toNat, .ipt 1 x_l0.toNat 0, .i .i64 (((v_spec_l02Edges m_0).getD x_l0.toNat default).getD 0 default), .own 1, .i .i64 x_l0, .ptr 1 x_l0.toNat 0, .inn 1 x_l0.toNat, .ipt 1 x_l0.toNat 1, .i .i64 (((v_spec_l02Edges m_0).getD x_l0.toNat default).getD 1 default), .i .i64 (((v_spec_l02Edges m_0).getD x_l0.toNat default).getD 0 default), .i .i64 (((v_spec_l02Edges m_0).getD x_l0.toNat default).getD 1 default), .any, .ref (GMesh.cells m_0) 0, .ref (GMesh.cells m_0) 0, .ref (GMesh.cells m_0) 1, .sl (m_0.Triangles.map (cL (cI .i64))), .i .i64 (m_0.Triangles.length : Int), .i .i64 0, .any, .any, .any, .any, .any, .any, .any, .any, .any, .any, .any, .any, .any, .any, .any, .any, .any, .any, .any, .any, .any, .any, .any, .any, .any, .any, .any, .any], [.nest 54 (r0_l1.map fun l => l.map (cI .i64)) false, .nest 54 ((v_spec_l02Edges m_0).map fun l => l.map (cI .i64)) false, .vec 2 1 ([[.i .i64 (((v_spec_l02Edges m_0).getD x_l0.toNat default).getD 0 default)], [.i .i64 (((v_spec_l02Edges m_0).getD x_l0.toNat default).getD 1 default)]] : List (List AV)) false]⟩) (lp_val (ls_spec_l03Hinges_2 m_0 x_l0 r0_l1) (x := (lr_spec_l03Hinges_2_0 m_0 x_l0 r0_l1)) (lp_spec_l03Hinges_2 m_0 x_l0 r0_l1 hp0 hp1 hp2 hp3 hv_spec_l03Hinges_1_0 hv_spec_l03Hinges_1_1 h_0 (((m_0.Triangles.length : Int) - 0).toNat + 1) 0 ([(((v_spec_l02Edges m_0).getD x_l0.toNat default).getD 0 default), (((v_spec_l02Edges m_0).getD x_l0.toNat default).getD 1 default)]) (show 0 ≤ 0 from (by first | omega | simp)) (show (([(((v_spec_l02Edges m_0).getD x_l0.toNat default).getD 0 default), (((v_spec_l02Edges m_0).getD x_l0.toNat default).getD 1 default)]).length : Int) ≤ 2 + 0 from (by first | omega | simp)) (Nat.lt_succ_self _)) rfl) (by simp [hd_spec_l03Hinges_2, cI])) <| sZ (cI .i64) (lr_spec_l03Hinges_2_0 m_0 x_l0 r0_l1) <| s
   cases h_1 : (((lr_spec_l03Hinges_2_0 m_0 x_l0 r0_l1).length : Int) == 4) with
   | true =>
    have gh_1 := eq_of_beq h_1
    have y_9 : r0_l1.length + [(lr_spec_l03Hinges_2_0 m_0 x_l0 r0_l1)].length ≤ 1073741824 := by clear p; exact (by first | assumption | omega | (first | (have q := l02Edges_at m_0 hp3 hv_spec_l03Hinges_1_0 (of_decide_eq_true (by assumption)); first | omega | (simp only [List.length_append, List.length_cons, List.length_nil]; omega)) | (have := hp3.2.1; have g4 := of_decide_eq_true h__0; first | omega | (simp only [List.length_append, List.length_cons, List.length_nil]; omega)) | (have := hp3.2.1; have q := lh2_len m_0 x_l0 r0_l1; first | omega | (have q2 := l02Edges_len m_0 hp3; have g4 := of_decide_eq_true h_0; first | omega | (simp only [List.length_append, List.length_cons, List.length_nil]; omega))) | (have q := l02Edges_len m_0 hp3; omega)) | (simp_all <;> omega))
    have y_10 : (-9223372036854775808 : Int) ≤ (x_l0 + 1) := by clear p; exact (by first | assumption | omega)
    have y_11 : (x_l0 + 1) ≤ (9223372036854775807 : Int) := by clear p; exact (by first | assumption | omega | (first | (have q := l02Edges_at m_0 hp3 hv_spec_l03Hinges_1_0 (of_decide_eq_true (by assumption)); first | omega | (simp only [List.length_append, List.length_cons, List.length_nil]; omega)) | (have := hp3.2.1; have g4 := of_decide_eq_true h__0; first | omega | (simp only [List.length_append, List.length_cons, List.length_nil]; omega)) | (have := hp3.2.1; have q := lh2_len m_0 x_l0 r0_l1; first | omega | (have q2 := l02Edges_len m_0 hp3; have g4 := of_decide_eq_true h_0; first | omega | (simp only [List.length_append, List.length_cons, List.length_nil]; omega))) | (have q := l02Edges_len m_0 hp3; omega)) | (simp_all <;> omega))
    have e : lo_spec_l03Hinges_1 m_0 (k + 1) x_l0 r0_l1 = (lo_spec_l03Hinges_1 m_0 k (x_l0 + 1) (r0_l1 ++ [(lr_spec_l03Hinges_2_0 m_0 x_l0 r0_l1)])) := by simp only [lo_spec_l03Hinges_1, h_0, h_1, cond_true]
    rw [e]
    exact nextS E0Ok hMixed [] mk_spec_l03Hinges_1_0 [0, 1] (⟨[.ref (GMesh.cells m_0) 0, .any, .nils, .own 0, .own 1, .any, .any, .any, .any, .any, .any, .any, .ref (GMesh.cells m_0) 0, .own 1, .own 1, .i .i64 ((v_spec_l02Edges m_0).length : Int), .i .i64 (x_l0 + 1), .any, .any, .any, .any, .any, .any, .any, .any, .any, .any, .any, .any, .any, .any, .any, .any, .any, .any, .any, .any, .any, .any, .any, .any, .any, .any, .any, .any, .any, .any, .any, .any, .any, .any, .any, .any, .any, .any, .any, .any, .any, .any, .any, .any, .any, .any, .any, .any, .any, .any, .any], [.nest 54 ((r0_l1.map fun l => l.map (cI .i64)) ++ [((lr_spec_l03Hinges_2_0 m_0 x_l0 r0_l1).map (cI .i64))]) false, .nest 54 ((v_spec_l02Edges m_0).map fun l => l.map (cI .i64)) false]⟩) (p (sB h_1 <| sC (show (r0_l1.map fun l => l.map (cI .i64)).length + [((lr_spec_l03Hinges_2_0 m_0 x_l0 r0_l1).map (cI .i64))].length ≤ 1073741824 from (by simpa using y_9)) <| sI (x_l0 + 1) y_10 y_11 <| sN)) (by kernel_rfl) (show _ = ⟨[.ref (GMesh.cells m_0) 0, .any, .nils, .own 0, .own 1, .any, .any, .any, .any, .any, .any, .any, .ref (GMesh.cells m_0) 0, .own 1, .own 1, .i .i64 ((v_spec_l02Edges m_0).length : Int), .i .i64 (x_l0 + 1), .any, .any, .any, .any, .any, .any, .any, .any, .any, .any, .any, .any, .any, .any, .any, .any, .any, .any, .any, .any, .any, .any, .any, .any, .any, .any, .any, .any, .any, .any, .any, .any, .any, .any, .any, .any, .any, .any, .any, .any, .any, .any, .any, .any, .any, .any, .any, .any, .any, .any, .any], [.nest 54 ((r0_l1 ++ [(lr_spec_l03Hinges_2_0 m_0 x_l0 r0_l1)]).map fun l => l.map (cI .i64)) false, .nest 54 ((v_spec_l02Edges m_0).map fun l => l.map (cI .i64)) false]⟩ from (by simp [cL, cI])) (ih (x_l0 + 1) (r0_l1 ++ [(lr_spec_l03Hinges_2_0 m_0 x_l0 r0_l1)]) (show 0 ≤ (x_l0 + 1) from (by first | assumption | omega)) (show ((r0_l1 ++ [(lr_spec_l03Hinges_2_0 m_0 x_l0 r0_l1)]).length : Int) ≤ (x_l0 + 1) from (by first | assumption | omega | (first | (have q := l02Edges_at m_0 hp3 hv_spec_l03Hinges_1_0 (of_decide_eq_true (by assumption)); first | omega | (simp only [List.length_append, List.length_cons, List.length_nil]; omega)) | (have := hp3.2.1; have g4 := of_decide_eq_true h__0; first | omega | (simp only [List.length_append, List.length_cons, List.length_nil]; omega)) | (have := hp3.2.1; have q := lh2_len m_0 x_l0 r0_l1; first | omega | (have q2 := l02Edges_len m_0 hp3; have g4 := of_decide_eq_true h_0; first | omega | (simp only [List.length_append, List.length_cons, List.length_nil]; omega))) | (have q := l02Edges_len m_0 hp3; omega)) | (simp_all <;> omega))) (by first | assumption | omega))
   | false =>
    have gh_1 := ne_of_beq_false h_1
    have y_9 : (-9223372036854775808 : Int) ≤ (x_l0 + 1) := by clear p; exact (by first | assumption | omega)
    have y_10 : (x_l0 + 1) ≤ (9223372036854775807 : Int) := by clear p; exact (by first | assumption | omega | (first | (have q := l02Edges_at m_0 hp3 hv_spec_l03Hinges_1_0 (of_decide_eq_true (by assumption)); first | omega | (simp only [List.length_append, List.length_cons, List.length_nil]; omega)) | (have := hp3.2.1; have g4 := of_decide_eq_true h__0; first | omega | (simp only [List.length_append, List.length_cons, List.length_nil]; omega)) | (have := hp3.2.1; have q := lh2_len m_0 x_l0 r0_l1; first | omega | (have q2 := l02Edges_len m_0 hp3; have g4 := of_decide_eq_true h_0; first | omega | (simp only [List.length_append, List.length_cons, List.length_nil]; omega))) | (have q := l02Edges_len m_0 hp3; omega)) | (simp_all <;> omega))
    have e : lo_spec_l03Hinges_1 m_0 (k + 1) x_l0 r0_l1 = (lo_spec_l03Hinges_1 m_0 k (x_l0 + 1) r0_l1) := by simp only [lo_spec_l03Hinges_1, h_0, h_1, cond_true, cond_false]
    rw [e]
    exact nextR E0Ok hMixed [] mk_spec_l03Hinges_1_0 [0, 1] (ih (x_l0 + 1) r0_l1 (show 0 ≤ (x_l0 + 1) from (by first | assumption | omega)) (show (r0_l1.length : Int) ≤ (x_l0 + 1) from (by first | assumption | omega)) (by first | assumption | omega)) (p (sB h_1 <| sI (x_l0 + 1) y_9 y_10 <| sN)) (by kernel_rfl)
  | false =>
   have gh_0 := of_decide_eq_false h_0
   have e : lo_spec_l03Hinges_1 m_0 (k + 1) x_l0 r0_l1 = r0_l1 := by simp only [lo_spec_l03Hinges_1, h_0, cond_false]
   rw [e]
   exact outR (e := (.exit 0)) E0Ok hMixed [] mk_spec_l03Hinges_1_1 [0, 1] (sB h_0 <| sN) (by kernel_rfl) (by intro h; cases h)

def lr_spec_l03Hinges_1_1 (m_0 : GMesh) : (List (List Int)) := (lo_spec_l03Hinges_1 m_0 ((((v_spec_l02Edges m_0).length : Int) - 0).toNat + 1) 0 ([] : List (List Int)))

def v_spec_l03Hinges (m_0 : GMesh) : (List (List Int)) := (lr_spec_l03Hinges_1_1 m_0)

theorem l03Row_eq (m : GMesh) (ok : OkE m.Places.length m.Triangles) (x : Int) (r0 : List (List Int)) (hab : ((v_spec_l02Edges m).getD x.toNat default).getD 0 default ≠ ((v_spec_l02Edges m).getD x.toNat default).getD 1 default) :
    lr_spec_l03Hinges_2_0 m x r0 = [((v_spec_l02Edges m).getD x.toNat default).getD 0 default, ((v_spec_l02Edges m).getD x.toNat default).getD 1 default] ++ (idxP m.Triangles (((v_spec_l02Edges m).getD x.toNat default).getD 0 default) (((v_spec_l02Edges m).getD x.toNat default).getD 1 default)).map fun i => thd (m.Triangles.getD i.toNat default) (((v_spec_l02Edges m).getD x.toNat default).getD 0 default) (((v_spec_l02Edges m).getD x.toNat default).getD 1 default) := by
  unfold lr_spec_l03Hinges_2_0
  have hf := filt_loop (n := (m.Triangles.length : Int)) (f := fun i => !(decide (nd_spec_l03Hinges_0 m x i ≥ 0))) (g := fun i => nd_spec_l03Hinges_0 m x i) (lo := lo_spec_l03Hinges_2 m x r0) (fun k i r' => by
    rw [lo_spec_l03Hinges_2]
    cases decide (nd_spec_l03Hinges_0 m x i ≥ 0) <;> rfl) (((m.Triangles.length : Int) - 0).toNat + 1) 0 [((v_spec_l02Edges m).getD x.toNat default).getD 0 default, ((v_spec_l02Edges m).getD x.toNat default).getD 1 default] (Nat.lt_succ_self _)
  rw [hf]
  congr 1
  unfold nd_spec_l03Hinges_0 idxP
  generalize ((v_spec_l02Edges m).getD x.toNat default).getD 0 default = a at *
  generalize ((v_spec_l02Edges m).getD x.toNat default).getD 1 default = b at *
  rw [List.map_map, show ((m.Triangles.length : Int) - 0).toNat = m.Triangles.length from by omega]
  have key : ∀ j : Nat, j < m.Triangles.length → v_spec_l03Third (m.Triangles.getD ((0 : Int) + (j : Int)).toNat default) a b = if tHas (m.Triangles.getD j default) a b = true then thd (m.Triangles.getD j default) a b else -1 := by
    intro j hj
    rw [show ((0 : Int) + (j : Int)).toNat = j from by omega]
    have hm : m.Triangles.getD j default ∈ m.Triangles := by rw [List.getD_eq_getElem?_getD, List.getElem?_eq_getElem hj]; exact List.getElem_mem _
    obtain ⟨x, y, z, ht, r1, r2, r3, n1, n2, n3⟩ := ok.2.2 _ hm
    rw [ht]; exact l03Third_eq n1 n2 n3 hab
  have hfl : ((List.range m.Triangles.length).filter fun (j : Nat) => !(!(decide (v_spec_l03Third (m.Triangles.getD ((0 : Int) + (j : Int)).toNat default) a b ≥ 0)))) = (List.range m.Triangles.length).filter fun j => tHas (m.Triangles.getD j default) a b := by
    refine List.filter_congr fun j hj => ?_
    rw [List.mem_range] at hj
    rw [Bool.not_not, key j hj]
    cases hh : tHas (m.Triangles.getD j default) a b with
    | false => rfl
    | true =>
      have hi : (j : Int) ∈ idxP m.Triangles a b := by
        unfold idxP; rw [List.mem_map]; exact ⟨j, List.mem_filter.2 ⟨List.mem_range.2 hj, hh⟩, rfl⟩
      have := (thd_bd ok hab hi).1
      rw [show ((j : Nat) : Int).toNat = j from by omega] at this
      rw [if_pos rfl]; exact decide_eq_true this
  rw [hfl]
  refine List.map_congr_left fun j hj => ?_
  rw [List.mem_filter, List.mem_range] at hj
  rw [key j hj.1, if_pos hj.2]
  show _ = thd (m.Triangles.getD ((j : Nat) : Int).toNat default) a b
  rw [show ((j : Nat) : Int).toNat = j from by omega]
theorem l03Hinges_eq (m : GMesh) (ok : OkE m.Places.length m.Triangles) : v_spec_l03Hinges m = hgL m.Places.length m.Triangles := by
  unfold v_spec_l03Hinges lr_spec_l03Hinges_1_1
  refine (filtm_from (a := v_spec_l02Edges m) (p := fun x => decide ((idxP m.Triangles (x.getD 0 default) (x.getD 1 default)).length = 2)) (f := fun x => [x.getD 0 default, x.getD 1 default] ++ (idxP m.Triangles (x.getD 0 default) (x.getD 1 default)).map fun i => thd (m.Triangles.getD i.toNat default) (x.getD 0 default) (x.getD 1 default)) (lo := lo_spec_l03Hinges_1 m) (fun k i r h0 hi => ?_) (fun k i r hi => ?_)).trans ?_
  · have q := l02Edges_at m ok h0 hi
    rw [lo_spec_l03Hinges_1, decide_eq_true hi, cond_true, l03Row_eq m ok i r (by omega)]
    have hc : ((([((v_spec_l02Edges m).getD i.toNat default).getD 0 default, ((v_spec_l02Edges m).getD i.toNat default).getD 1 default] ++ (idxP m.Triangles (((v_spec_l02Edges m).getD i.toNat default).getD 0 default) (((v_spec_l02Edges m).getD i.toNat default).getD 1 default)).map fun i_1 => thd (m.Triangles.getD i_1.toNat default) (((v_spec_l02Edges m).getD i.toNat default).getD 0 default) (((v_spec_l02Edges m).getD i.toNat default).getD 1 default)).length : Int) == 4) = decide ((idxP m.Triangles (((v_spec_l02Edges m).getD i.toNat default).getD 0 default) (((v_spec_l02Edges m).getD i.toNat default).getD 1 default)).length = 2) := by
      rw [List.length_append, List.length_map, Bool.eq_iff_iff, beq_iff_eq, decide_eq_true_iff]
      simp only [List.length_cons, List.length_nil]; omega
    rw [hc]
  · rw [lo_spec_l03Hinges_1, decide_eq_false (by omega), cond_false]
  · rw [l02Edges_eq m ok]
    unfold hgL
    rw [List.filter_map, List.map_map]
    rfl
theorem l03Hinges_len (m : GMesh) (ok : OkE m.Places.length m.Triangles) : (v_spec_l03Hinges m).length ≤ 4096 := by rw [l03Hinges_eq m ok]; exact hgL_len ok
theorem l03Hinges_at (m : GMesh) (ok : OkE m.Places.length m.Triangles) {i : Int} (h0 : 0 ≤ i) (hi : i < ((v_spec_l03Hinges m).length : Int)) : ((v_spec_l03Hinges m).getD i.toNat default).length = 4 ∧ ∀ x ∈ (v_spec_l03Hinges m).getD i.toNat default, 0 ≤ x ∧ x < (m.Places.length : Int) := by
  refine hgL_mem ok ?_
  rw [← l03Hinges_eq m ok, List.getD_eq_getElem?_getD, List.getElem?_eq_getElem (by omega)]; exact List.getElem_mem _
theorem hin4 {m : GMesh} (ok : OkE m.Places.length m.Triangles) {i : Int} (h0 : 0 ≤ i) (hi : decide (i < ((v_spec_l03Hinges m).length : Int)) = true) : ((v_spec_l03Hinges m).getD i.toNat default).length = 4 ∧ ∀ x ∈ (v_spec_l03Hinges m).getD i.toNat default, 0 ≤ x ∧ x < (m.Places.length : Int) := l03Hinges_at m ok h0 (of_decide_eq_true hi)
theorem hin4L {m : GMesh} (ok : OkE m.Places.length m.Triangles) {i : Int} (h0 : 0 ≤ i) (hi : decide (i < ((v_spec_l03Hinges m).length : Int)) = true) : ((v_spec_l03Hinges m).getD i.toNat default).length ≤ 1073741824 := by have := (hin4 ok h0 hi).1; omega
theorem l03Hinges_4 (m : GMesh) (ok : OkE m.Places.length m.Triangles) : ∀ t ∈ v_spec_l03Hinges m, t.length ≤ 4 := by
  rw [l03Hinges_eq m ok]; intro t ht; exact Nat.le_of_eq (hgL_mem ok ht).1

theorem t_spec_l03Hinges (m_0 : GMesh) (hp0 : m_0.Places.length ≤ 1073741824) (hp1 : m_0.Triangles.length ≤ 1073741824) (hp2 : ∀ t ∈ m_0.Triangles, t.length ≤ 1073741824) (hp3 : OkE m_0.Places.length m_0.Triangles)  : Fn prog 81 [.ref (GMesh.cells m_0) 0] (.own 0) [.nest 54 ((v_spec_l03Hinges m_0).map fun l => l.map (cI .i64)) false] := by
 refine fnS E0Ok hMixed (c := bodyOf f81) [] (.own 0) [.nest 54 ((lr_spec_l03Hinges_1_1 m_0).map fun l => l.map (cI .i64)) false] func81 (sF (t_spec_l02Edges m_0 hp0 hp1 hp2 hp3) <| sM (nlen_ok (l := (v_spec_l02Edges m_0)) (f := fun l => l.map (cI .i64))) <| sL mk_spec_l03Hinges_1_0 2 (lp_cast (st2 := ⟨[.ref (GMesh.cells m_0) 0, .any, .nils, .own 0, .own 1, .any, .any, .any, .any, .any, .any, .any, .ref (GMesh.cells m_0) 0, .own 1, .own 1, .i .i64 ((v_spec_l02Edges m_0).length : Int), .i .i64 0, .any, .any, .any, .any, .any, .any, .any, .any, .any, .any, .any, .any, .any, .any, .any, .any, .any, .any, .any, .any, .any, .any, .any, .any, .any, .any, .any, .any, .any, .any, .any, .any, .any, .any, .any, .any, .any, .any, .any, .any, .any, .any, .any, .any, .any, .any, .any, .any, .any, .any, .any], [.nest 54 [] false, .nest 54 ((v_spec_l02Edges m_0).map fun l => l.map (cI .i64)) false]⟩) (lp_val (ls_spec_l03Hinges_1 m_0) (x := (lr_spec_l03Hinges_1_1 m_0)) (lp_spec_l03Hinges_1 m_0 hp0 hp1 hp2 hp3 ((((v_spec_l02Edges m_0).length : Int) - 0).toNat + 1) 0 ([] : List (List Int)) (show 0 ≤ 0 from (by first | omega | simp)) (show (([] : List (List Int)).length : Int) ≤ 0 from (by first | omega | simp)) (Nat.lt_succ_self _)) rfl) (by simp [hd_spec_l03Hinges_1, cL, cI])) <| sK [0] sN) rfl (by kernel_rfl) (by kernel_rfl) rfl ?_ ?_
 · rfl
 · simp [v_spec_l03Hinges]

def v_spec_l01Add (a_0 : GVector) (b_1 : GVector) : GVector := (⟨(fop .add .f32 a_0.X b_1.X), (fop .add .f32 a_0.Y b_1.Y), (fop .add .f32 a_0.Z b_1.Z)⟩ : GVector)

theorem t_spec_l01Add (a_0 : GVector) (b_1 : GVector)   : Fn prog 74 [.agg [.f .f32 a_0.X, .f .f32 a_0.Y, .f .f32 a_0.Z], .agg [.f .f32 b_1.X, .f .f32 b_1.Y, .f .f32 b_1.Z]] (.agg [.f .f32 ((v_spec_l01Add a_0 b_1).X), .f .f32 ((v_spec_l01Add a_0 b_1).Y), .f .f32 ((v_spec_l01Add a_0 b_1).Z)]) [] := by
 refine fnS E0Ok hMixed (c := bodyOf f74) [] (.agg [.f .f32 (fop .add .f32 a_0.X b_1.X), .f .f32 (fop .add .f32 a_0.Y b_1.Y), .f .f32 (fop .add .f32 a_0.Z b_1.Z)]) [] func74 (sK [] sN) rfl (by kernel_rfl) (by kernel_rfl) rfl ?_ ?_
 · rfl
 · rfl

def nd_spec_l03Bent_0 (m_0 : GMesh) (h_1 : (List Int)) : GVector := (v_spec_l01Less (v_spec_l01Add (m_0.Places.getD (h_1.getD 2 default).toNat default) (m_0.Places.getD (h_1.getD 3 default).toNat default)) (v_spec_l01Add (m_0.Places.getD (h_1.getD 0 default).toNat default) (m_0.Places.getD (h_1.getD 1 default).toNat default)))

def v_spec_l03Bent (m_0 : GMesh) (h_1 : (List Int)) : GVector := (nd_spec_l03Bent_0 m_0 h_1)

theorem t_spec_l03Bent (m_0 : GMesh) (h_1 : (List Int)) (hp0 : m_0.Places.length ≤ 1073741824) (hp1 : m_0.Triangles.length ≤ 1073741824) (hp2 : ∀ t ∈ m_0.Triangles, t.length ≤ 1073741824) (hp3 : h_1.length ≤ 1073741824) (hp4 : h_1.length = 4 ∧ ∀ x ∈ h_1, 0 ≤ x ∧ x < (m_0.Places.length : Int))  : Fn prog 82 [.ref (GMesh.cells m_0) 0, .sl (h_1.map (cI .i64))] (.agg [.f .f32 ((v_spec_l03Bent m_0 h_1).X), .f .f32 ((v_spec_l03Bent m_0 h_1).Y), .f .f32 ((v_spec_l03Bent m_0 h_1).Z)]) [] := by
 have y0 : (0 : Int) ≤ 2 := (by first | assumption | omega)
 have y1 : 2 < (h_1.length : Int) := (by first | assumption | omega)
 have y2 : (0 : Int) ≤ (h_1.getD 2 default) := (by first | assumption | omega | (have q := Okh.at hp4; omega) | (simp_all <;> omega))
 have y3 : (h_1.getD 2 default) < (m_0.Places.length : Int) := (by first | assumption | omega | (have q := Okh.at hp4; omega) | (simp_all <;> omega))
 have y4 : (0 : Int) ≤ 3 := (by first | assumption | omega)
 have y5 : 3 < (h_1.length : Int) := (by first | assumption | omega)
 have y6 : (0 : Int) ≤ (h_1.getD 3 default) := (by first | assumption | omega | (have q := Okh.at hp4; omega) | (simp_all <;> omega))
 have y7 : (h_1.getD 3 default) < (m_0.Places.length : Int) := (by first | assumption | omega | (have q := Okh.at hp4; omega) | (simp_all <;> omega))
 have y8 : (0 : Int) ≤ 0 := (by first | assumption | omega)
 have y9 : 0 < (h_1.length : Int) := (by first | assumption | omega)
 have y10 : (0 : Int) ≤ (h_1.getD 0 default) := (by first | assumption | omega | (have q := Okh.at hp4; omega) | (simp_all <;> omega))
 have y11 : (h_1.getD 0 default) < (m_0.Places.length : Int) := (by first | assumption | omega | (have q := Okh.at hp4; omega) | (simp_all <;> omega))
 have y12 : (0 : Int) ≤ 1 := (by first | assumption | omega)
 have y13 : 1 < (h_1.length : Int) := (by first | assumption | omega)
 have y14 : (0 : Int) ≤ (h_1.getD 1 default) := (by first | assumption | omega | (have q := Okh.at hp4; omega) | (simp_all <;> omega))
 have y15 : (h_1.getD 1 default) < (m_0.Places.length : Int) := (by first | assumption | omega | (have q := Okh.at hp4; omega) | (simp_all <;> omega))
 refine fnS E0Ok hMixed (c := bodyOf f82) [] (.agg [.f .f32 ((nd_spec_l03Bent_0 m_0 h_1).X), .f .f32 ((nd_spec_l03Bent_0 m_0 h_1).Y), .f .f32 ((nd_spec_l03Bent_0 m_0 h_1).Z)]) [] func82 (sK [37, 37] <| sG (cI .i64) h_1 2 y0 y1 <| sG GVector.cells m_0.Places (h_1.getD 2 default) y2 y3 <| sG (cI .i64) h_1 3 y4 y5 <| sG GVector.cells m_0.Places (h_1.getD 3 default) y6 y7 <| sF (t_spec_l01Add (m_0.Places.getD (h_1.getD 2 default).toNat default) (m_0.Places.getD (h_1.getD 3 default).toNat default)) <| sG (cI .i64) h_1 0 y8 y9 <| sG GVector.cells m_0.Places (h_1.getD 0 default) y10 y11 <| sG (cI .i64) h_1 1 y12 y13 <| sG GVector.cells m_0.Places (h_1.getD 1 default) y14 y15 <| sF (t_spec_l01Add (m_0.Places.getD (h_1.getD 0 default).toNat default) (m_0.Places.getD (h_1.getD 1 default).toNat default)) <| sF (t_spec_l01Less (v_spec_l01Add (m_0.Places.getD (h_1.getD 2 default).toNat default) (m_0.Places.getD (h_1.getD 3 default).toNat default)) (v_spec_l01Add (m_0.Places.getD (h_1.getD 0 default).toNat default) (m_0.Places.getD (h_1.getD 1 default).toNat default))) <| sK [] sN) rfl (by kernel_rfl) (by kernel_rfl) rfl ?_ ?_
 · rfl
 · rfl

def nd_spec_l03Parts_0 (arr_0 : GBody) (x_l0 : Int) : GVector := (v_spec_l01Less (arr_0.Mesh.Places.getD ((arr_0.Springs.getD x_l0.toNat default).B).toNat default) (arr_0.Mesh.Places.getD ((arr_0.Springs.getD x_l0.toNat default).A).toNat default))

def nd_spec_l03Parts_1 (arr_0 : GBody) (x_l0 : Int) : Nat := (fop .mul .f32 (fop .sub .f32 (v_spec_l01Long (nd_spec_l03Parts_0 arr_0 x_l0)) ((arr_0.Springs.getD x_l0.toNat default).Long)) (fop .sub .f32 (v_spec_l01Long (nd_spec_l03Parts_0 arr_0 x_l0)) ((arr_0.Springs.getD x_l0.toNat default).Long)))

def nd_spec_l03Parts_2 (arr_0 : GBody) (x_l0 : Int) (r0_l1 : (List Nat)) : Nat := (fop .add .f32 (r0_l1.getD 0 default) (fop .mul .f32 (fop .mul .f32 1056964608 ((arr_0.Springs.getD x_l0.toNat default).Stiff)) (nd_spec_l03Parts_1 arr_0 x_l0)))

def lo_spec_l03Parts_1 (arr_0 : GBody) : Nat → Int → (List Nat) → (List Nat)
  | 0, _, _ => default
  | k + 1, x_l0, r0_l1 => (cond (decide (x_l0 < (arr_0.Springs.length : Int)))
    (lo_spec_l03Parts_1 arr_0 k (x_l0 + 1) (r0_l1.set 0 (nd_spec_l03Parts_2 arr_0 x_l0 r0_l1)))
    r0_l1)

def ls_spec_l03Parts_1 (arr_0 : GBody) (r : (List Nat)) : Ex × St := ((.exit 0), ⟨[.ref (GBody.cells arr_0) 0, .any, .nils, .own 0, .ref (GBody.cells arr_0) 0, .any, .any, .any, .any, .any, .any, .any, .any, .own 0, .ref (GBody.cells arr_0) 0, .ref (GBody.cells arr_0) 0, .ref (GBody.cells arr_0) 0, .ref (GBody.cells arr_0) 0, .ref (GBody.cells arr_0) 0, .ref (GBody.cells arr_0) 2, .sl (arr_0.Springs.map GSpring.cells), .any, .any, .any, .any, .any, .any, .any, .any, .any, .any, .any, .any, .any, .any, .any, .any, .any, .any, .any, .any, .any, .any, .any, .any, .any, .any, .any, .any, .any, .any, .any, .any, .any, .any, .any, .any, .any, .any, .any, .any, .any, .any, .any, .any, .any, .any, .any, .any, .any, .any, .any, .any, .any, .any, .any, .any, .any, .any, .any, .any, .any, .any, .any, .any, .any, .any, .any, .any, .any, .any, .any, .any, .any, .any, .any, .any, .any, .any, .any, .any, .any, .any, .any, .any, .any, .any, .any, .any, .any, .any, .any, .any, .any, .any, .any, .any, .any, .any, .any, .any, .any, .any, .any, .any, .any, .any, .any, .any, .any, .any, .any, .any, .any, .any, .any, .any, .any, .any, .any, .any, .any, .any, .any, .any, .any, .any, .any, .any, .any, .any, .any, .any, .any, .any, .any, .any, .any, .any, .any], [.vec 27 1 (r.map (cF .f32)) false]⟩)

def hd_spec_l03Parts_1 (arr_0 : GBody) (x_l0 : Int) (r0_l1 : (List Nat)) : St := ⟨[.ref (GBody.cells arr_0) 0, .any, .nils, .own 0, .ref (GBody.cells arr_0) 0, .any, .any, .any, .any, .any, .any, .any, .any, .own 0, .ref (GBody.cells arr_0) 0, .ref (GBody.cells arr_0) 0, .ref (GBody.cells arr_0) 0, .ref (GBody.cells arr_0) 0, .ref (GBody.cells arr_0) 0, .ref (GBody.cells arr_0) 2, .sl (arr_0.Springs.map GSpring.cells), .i .i64 (arr_0.Springs.length : Int), .i .i64 x_l0, .any, .any, .any, .any, .any, .any, .any, .any, .any, .any, .any, .any, .any, .any, .any, .any, .any, .any, .any, .any, .any, .any, .any, .any, .any, .any, .any, .any, .any, .any, .any, .any, .any, .any, .any, .any, .any, .any, .any, .any, .any, .any, .any, .any, .any, .any, .any, .any, .any, .any, .any, .any, .any, .any, .any, .any, .any, .any, .any, .any, .any, .any, .any, .any, .any, .any, .any, .any, .any, .any, .any, .any, .any, .any, .any, .any, .any, .any, .any, .any, .any, .any, .any, .any, .any, .any, .any, .any, .any, .any, .any, .any, .any, .any, .any, .any, .any, .any, .any, .any, .any, .any, .any, .any, .any, .any, .any, .any, .any, .any, .any, .any, .any, .any, .any, .any, .any, .any, .any, .any, .any, .any, .any, .any, .any, .any, .any, .any, .any, .any, .any, .any, .any, .any, .any, .any, .any], [.vec 27 1 (r0_l1.map (cF .f32)) false]⟩

def mk_spec_l03Parts_1_0 : List Bool := [true, false, true, true, true, false, false, false, false, false, false, false, false, true, true, true, true, true, true, true, true, true, true, false, false, false, false, false, false, false, false, false, false, false, false, false, false, false, false, false, false, false, false, false, false, false, false, false, false, false, false, false, false, false, false, false, false, false, false, false, false, false, false, false, false, false, false, false, false, false, false, false, false, false, false, false, false, false, false, false, false, false, false, false, false, false, false, false, false, false, false, false, false, false, false, false, false, false, false, false, false, false, false, false, false, false, false, false, false, false, false, false, false, false, false, false, false, false, false, false, false, false, false, false, false, false, false, false, false, false, false, false, false, false, false, false, false, false, false, false, false, false, false, false, false, false, false, false, false, false, false, false, false, false, false, false, false, false, false, false]

def mk_spec_l03Parts_1_1 : List Bool := [true, false, true, true, true, false, false, false, false, false, false, false, false, true, true, true, true, true, true, true, true, false, false, false, false, false, false, false, false, false, false, false, false, false, false, false, false, false, false, false, false, false, false, false, false, false, false, false, false, false, false, false, false, false, false, false, false, false, false, false, false, false, false, false, false, false, false, false, false, false, false, false, false, false, false, false, false, false, false, false, false, false, false, false, false, false, false, false, false, false, false, false, false, false, false, false, false, false, false, false, false, false, false, false, false, false, false, false, false, false, false, false, false, false, false, false, false, false, false, false, false, false, false, false, false, false, false, false, false, false, false, false, false, false, false, false, false, false, false, false, false, false, false, false, false, false, false, false, false, false, false, false, false, false, false, false, false, false, false, false]

end Go.Ab
