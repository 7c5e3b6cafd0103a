/- The functions of this seat as plain Lean, and that the program's are these. Printed by a program of the prover's own. -/
import Derived.Test.YtiddhiepmakopaaB1
set_option linter.unusedVariables false
set_option linter.unusedSimpArgs false
set_option maxRecDepth 100000
namespace Go.Ab
open Go.RowKit Go.Proofs.Try
def Z1k (Y0 : Gm) (Yg : Int) (Y9 : (List (List Int))) : (List (List Int)) := (Zw Y0 Yg Y9 (((Y0.Pq.length : Int) - (Yg + 1)).toNat + 1) (Yg + 1) Y9)
theorem Z7c (m : Gm) (a : Int) (r1 : List (List Int)) : ∀ (k : Nat) (b : Int) (r : List (List Int)), (Zw m a r1 k b r).length ≤ r.length + k := by
  intro k
  induction k with
  | zero => intro b r; exact Nat.zero_le _
  | succ k ih =>
    intro b r
    rw [Zw]
    cases decide (b < (m.Pq.length : Int)) with
    | false => rw [cond_false]; omega
    | true =>
      rw [cond_true]
      cases ((Zg m).getD ((IntKind.wrap .i64 ((IntKind.wrap .i64 (a * (m.Pq.length : Int))) + b)).toNat) default) with
      | true => rw [cond_true]; have := ih (b + 1) (r ++ [[a, b]]); simp only [List.length_append, List.length_cons, List.length_nil] at this; omega
      | false => rw [cond_false]; have := ih (b + 1) r; omega
def Z1d (Y0 : Gm) : Nat → Int → (List (List Int)) → (List (List Int))
  | 0, _, _ => default
  | k + 1, Yg, Y9 => (cond (decide (Yg < (Y0.Pq.length : Int)))
    (Z1d Y0 k (Yg + 1) (Z1k Y0 Yg Y9))
    Y9)
def Z3c (Y0 : Gm) (r : (List (List Int))) : Ex × St := ((.exit 4), ⟨.ref (Gm.c Y0) 0 :: .any :: .nils :: .i .i64 (Y0.Pq.length : Int) :: .own 0 :: an 5 (.own 1 :: .any :: .any :: .ref (Gm.c Y0) 0 :: .ref (Gm.c Y0) 0 :: .ref (Gm.c Y0) 0 :: .sl (Y0.Pq.map Gv.c) :: .i .i64 (Y0.Pq.length : Int) :: .i .i64 (Y0.Pq.length : Int) :: .i .i64 (Y0.Pq.length : Int) :: .i .i64 (IntKind.wrap .i64 ((Y0.Pq.length : Int) * (Y0.Pq.length : Int))) :: .own 0 :: an 69 []), [.vec 4 1 ((Zg Y0).map cB) false, .nest 79 (r.map fun l => l.map (cI .i64)) false]⟩)
def Z4a (Y0 : Gm) (Yg : Int) (Y9 : (List (List Int))) : St := ⟨.ref (Gm.c Y0) 0 :: .any :: .nils :: .i .i64 (Y0.Pq.length : Int) :: .own 0 :: an 5 (.own 1 :: .i .i64 Yg :: .any :: .ref (Gm.c Y0) 0 :: .ref (Gm.c Y0) 0 :: .ref (Gm.c Y0) 0 :: .sl (Y0.Pq.map Gv.c) :: .i .i64 (Y0.Pq.length : Int) :: .i .i64 (Y0.Pq.length : Int) :: .i .i64 (Y0.Pq.length : Int) :: .i .i64 (IntKind.wrap .i64 ((Y0.Pq.length : Int) * (Y0.Pq.length : Int))) :: .own 0 :: an 69 []), [.vec 4 1 ((Zg Y0).map cB) false, .nest 79 (Y9.map fun l => l.map (cI .i64)) false]⟩
theorem Z5q (Y0 : Gm) (hp0 : Y0.Pq.length ≤ 1073741824) (hp1 : Y0.Tr.length ≤ 1073741824) (hp2 : ∀ t ∈ Y0.Tr, t.length ≤ 1073741824) (hp3 : OkE Y0.Pq.length Y0.Tr) : ∀ (k : Nat) (Yg : Int) (Y9 : (List (List Int))) (Z27 : 0 ≤ Yg) (Z28 : (Y9.length : Int) ≤ 64 * Yg) (hk : ((Y0.Pq.length : Int) - Yg).toNat < k), Lp prog 0 (sub (bodyOf f66) [1, 1, 1, 1, 1, 0, 1, 0, 0]) (Z4a Y0 Yg Y9) (Z3c Y0 (Z1d Y0 k Yg Y9)).1 (Z3c Y0 (Z1d Y0 k Yg Y9)).2 := by
 intro k
 induction k with
 | zero => intro Yg Y9 Z27 Z28 hk; exact absurd hk (Nat.not_lt_zero _)
 | succ k ih =>
  intro Yg Y9 Z27 Z28 hk
  cases Ye : (decide (Yg < (Y0.Pq.length : Int))) with
  | true =>
   have Yo := odt Ye
   have Yt : (-9223372036854775808 : Int) ≤ (Yg + 1) := (by omega)
   have Yu : (Yg + 1) ≤ (9223372036854775807 : Int) := (by omega)
   have e : Z1d Y0 (k + 1) Yg Y9 = (Z1d Y0 k (Yg + 1) (Z1k Y0 Yg Y9)) := by simp only [Z1d, Ye, cond_true]
   rw [e]
   exact nextR E0Ok Z3 [] (mR false [0, 1, 1, 3, 5, 2, 1, 9, 69]) [0, 1] (ih (Yg + 1) (Z1k Y0 Yg Y9) (show 0 ≤ (Yg + 1) from (by omega)) (show ((Z1k Y0 Yg Y9).length : Int) ≤ 64 * (Yg + 1) from (by ((have := hp3.1; have g4 := odt Ye; have q := Z7c Y0 Yg Y9 (((Y0.Pq.length : Int) - (Yg + 1)).toNat + 1) (Yg + 1) Y9; unfold Z1k; omega)))) (by omega)) (sB Ye <| sI (Yg + 1) Yt Yu <| sL Z2H 2 (lp_val (Z3b Y0 Yg Y9) (x := (Z1k Y0 Yg Y9)) (Z5p Y0 Yg Y9 hp0 hp1 hp2 hp3 Z27 Z28 Ye (((Y0.Pq.length : Int) - (Yg + 1)).toNat + 1) (Yg + 1) Y9 (show Yg < (Yg + 1) from (by omega)) (show (Y9.length : Int) ≤ (Y9.length : Int) + (Yg + 1) from (by omega)) (Nat.lt_succ_self _)) rfl) <| sI (Yg + 1) Yt Yu <| sN) (by kernel_rfl)
  | false =>
   have Yo := odf Ye
   have e : Z1d Y0 (k + 1) Yg Y9 = Y9 := by simp only [Z1d, Ye, cond_false]
   rw [e]
   exact outR (e := (.exit 4)) E0Ok Z3 [] (mR false [0, 1, 1, 3, 5, 1, 2, 9, 69]) [0, 1] (sB Ye <| sN) (by kernel_rfl) (by intro h; cases h)
def Z2a (Y0 : Gm) : (List (List Int)) := (Z1d Y0 (((Y0.Pq.length : Int) - 0).toNat + 1) 0 ([] : List (List Int)))
def Z5 (Y0 : Gm) : (List (List Int)) := (Z2a Y0)
theorem Z75 (m : Gm) (i : Int) (r : List Bool) : ZV m i r = ((r.set (IntKind.wrap .i64 (IntKind.wrap .i64 (Z1n ((m.Tr.getD i.toNat default).getD 0 default) ((m.Tr.getD i.toNat default).getD 1 default) * (m.Pq.length : Int)) + Z1o ((m.Tr.getD i.toNat default).getD 0 default) ((m.Tr.getD i.toNat default).getD 1 default))).toNat true).set (IntKind.wrap .i64 (IntKind.wrap .i64 (Z1n ((m.Tr.getD i.toNat default).getD 1 default) ((m.Tr.getD i.toNat default).getD 2 default) * (m.Pq.length : Int)) + Z1o ((m.Tr.getD i.toNat default).getD 1 default) ((m.Tr.getD i.toNat default).getD 2 default))).toNat true).set (IntKind.wrap .i64 (IntKind.wrap .i64 (Z1n ((m.Tr.getD i.toNat default).getD 2 default) ((m.Tr.getD i.toNat default).getD 0 default) * (m.Pq.length : Int)) + Z1o ((m.Tr.getD i.toNat default).getD 2 default) ((m.Tr.getD i.toNat default).getD 0 default))).toNat true := by
  have one : ∀ (r0 : List Bool) (k : Nat) (x : Int) (s : List Bool), x < 3 → Zo m i r0 (k + 1) x s = Zo m i r0 k (x + 1) (s.set (IntKind.wrap .i64 (IntKind.wrap .i64 (Zz m i x * (m.Pq.length : Int)) + ZD m i x)).toNat true) := by
    intro r0 k x s hx
    rw [Zo, decide_eq_true hx, cond_true]
  unfold ZV
  show Zo m i r 4 0 r = _
  rw [one r 3 0 r (by omega), one r 2 (0 + 1) _ (by omega), one r 1 (0 + 1 + 1) _ (by omega), Zo]
  show cond (decide ((3 : Int) < 3)) _ _ = _
  rw [decide_eq_false (by omega), cond_false]
  rfl
theorem Z76 (m : Gm) (ok : OkE m.Pq.length m.Tr) {a b : Int} (ha : 0 ≤ a) (hab : a < b) (hb : b < (m.Pq.length : Int)) : ∀ (k : Nat) (i : Nat) (r : List Bool), i ≤ m.Tr.length → ((m.Tr.length : Int) - i).toNat < k → r.length = (IntKind.wrap .i64 ((m.Pq.length : Int) * (m.Pq.length : Int))).toNat →
    (Zv m k i r).getD (IntKind.wrap .i64 (IntKind.wrap .i64 (a * (m.Pq.length : Int)) + b)).toNat default = (r.getD (IntKind.wrap .i64 (IntKind.wrap .i64 (a * (m.Pq.length : Int)) + b)).toNat default || (m.Tr.drop i).any fun t => tHas t a b) := by
  intro k
  induction k with
  | zero => intro i r _ hk; exact absurd hk (Nat.not_lt_zero _)
  | succ k ih =>
    intro i r hle hk hr
    rw [Zv]
    by_cases hi : (i : Int) < (m.Tr.length : Int)
    · have hn : i < m.Tr.length := by omega
      rw [decide_eq_true hi, cond_true]
      have := ih (i + 1) (ZV m i r) (by omega) (by omega) (by rw [Z4m]; exact hr)
      rw [show ((i : Int) + 1) = ((i + 1 : Nat) : Int) from by omega, this, Z75, List.drop_eq_getElem_cons hn, List.any_cons]
      have hg : m.Tr.getD ((i : Nat) : Int).toNat default = m.Tr[i] := by rw [show ((i : Nat) : Int).toNat = i from by omega, List.getD_eq_getElem?_getD, List.getElem?_eq_getElem hn]; rfl
      obtain ⟨x, y, z, ht, r1, r2, r3, n1, n2, n3⟩ := ok.2.2 _ (List.getElem_mem hn)
      have h64 : (m.Pq.length : Int) ≤ 64 := by have := ok.1; omega
      rw [hg, ht]
      simp only [List.getD_cons_zero, List.getD_cons_succ]
      rw [seen_set h64 (Z4X z x) (Z4C r3 r1) (Z4D r3 r1) ha hab hb (by simpa using hr), seen_set h64 (Z4X y z) (Z4C r2 r3) (Z4D r2 r3) ha hab hb (by simpa using hr), seen_set h64 (Z4X x y) (Z4C r1 r2) (Z4D r1 r2) ha hab hb hr]
      have hT := mem_tE n1 n2 n3 hab
      unfold tE at hT
      simp only [List.getD_cons_zero, List.getD_cons_succ, List.mem_cons, List.not_mem_nil, or_false] at hT
      generalize r.getD (IntKind.wrap .i64 (IntKind.wrap .i64 (a * (m.Pq.length : Int)) + b)).toNat default = q
      generalize ((m.Tr.drop (i + 1)).any fun t => tHas t a b) = q2
      have hB : tHas [x, y, z] a b = (decide ((⟨a, b⟩ : Gedge) = mkE x y) || (decide ((⟨a, b⟩ : Gedge) = mkE y z) || decide ((⟨a, b⟩ : Gedge) = mkE z x))) := by
        rw [Bool.eq_iff_iff, ← hT]; simp only [Bool.or_eq_true, decide_eq_true_eq]
      rw [hB]
      cases decide ((⟨a, b⟩ : Gedge) = mkE x y) <;> cases decide ((⟨a, b⟩ : Gedge) = mkE y z) <;> cases decide ((⟨a, b⟩ : Gedge) = mkE z x) <;> cases q <;> cases q2 <;> rfl
    · rw [decide_eq_false hi, cond_false, List.drop_eq_nil_of_le (by omega)]; simp
theorem Z7d (m : Gm) (ok : OkE m.Pq.length m.Tr) {a b : Int} (ha : 0 ≤ a) (hab : a < b) (hb : b < (m.Pq.length : Int)) :
    (Zg m).getD (IntKind.wrap .i64 (IntKind.wrap .i64 (a * (m.Pq.length : Int)) + b)).toNat default = m.Tr.any fun t => tHas t a b := by
  unfold Zg
  have := Z76 m ok ha hab hb (((m.Tr.length : Int) - 0).toNat + 1) 0 (List.replicate (IntKind.wrap .i64 ((m.Pq.length : Int) * (m.Pq.length : Int))).toNat false) (Nat.zero_le _) (by omega) (by simp)
  rw [List.drop_zero] at this
  refine this.trans ?_
  rw [List.getD_eq_getElem?_getD, List.getElem?_replicate]
  split <;> simp
theorem Z45 (m : Gm) (ok : OkE m.Pq.length m.Tr) : Z5 m = (edgL m.Pq.length m.Tr).map e2 := by
  rw [edgL_map]
  unfold Z5 Z2a
  refine pair_loop (n := m.Pq.length) (p := fun a b => m.Tr.any fun t => tHas t a b) (g := fun a b => e2 ⟨a, b⟩) (lo := Z1d m) (li := Z1k m) (fun k a r => rfl) (fun a r ha => ?_) _ 0 (Nat.zero_le _) (by omega)
  unfold Z1k
  have hf := filt_loop (n := (m.Pq.length : Int)) (f := fun b => !((Zg m).getD ((IntKind.wrap .i64 ((IntKind.wrap .i64 ((a : Int) * (m.Pq.length : Int))) + b)).toNat) default)) (g := fun b => [(a : Int), b]) (lo := Zw m a r) (fun k i r' => by
    rw [Zw]
    cases ((Zg m).getD ((IntKind.wrap .i64 ((IntKind.wrap .i64 ((a : Int) * (m.Pq.length : Int))) + i)).toNat) default) <;> rfl) (((m.Pq.length : Int) - ((a : Int) + 1)).toNat + 1) ((a : Int) + 1) r (Nat.lt_succ_self _)
  rw [hf, show ((m.Pq.length : Int) - ((a : Int) + 1)).toNat = m.Pq.length - (a + 1) from by omega]
  congr 1
  have hfc : ((List.range (m.Pq.length - (a + 1))).filter fun (j : Nat) => !(!((Zg m).getD ((IntKind.wrap .i64 ((IntKind.wrap .i64 ((a : Int) * (m.Pq.length : Int))) + ((a : Int) + 1 + (j : Int)))).toNat) default))) = (List.range (m.Pq.length - (a + 1))).filter fun (j : Nat) => m.Tr.any fun t => tHas t a ((a : Int) + 1 + j) := by
    refine List.filter_congr fun j hj => ?_
    rw [List.mem_range] at hj
    rw [Bool.not_not, Z7d m ok (by omega) (by omega) (by omega)]
  rw [hfc]
  rfl
theorem Z6x (m : Gm) (ok : OkE m.Pq.length m.Tr) : (Z5 m).length ≤ 4096 := by
  rw [Z45 m ok, List.length_map]; exact edgL_len ok
theorem Z1X (m : Gm) (ok : OkE m.Pq.length m.Tr) {i : Int} (h0 : 0 ≤ i) (hi : i < ((Z5 m).length : Int)) :
    ((Z5 m).getD i.toNat default).length = 2 ∧ 0 ≤ ((Z5 m).getD i.toNat default).getD 0 default ∧ ((Z5 m).getD i.toNat default).getD 0 default < ((Z5 m).getD i.toNat default).getD 1 default ∧ ((Z5 m).getD i.toNat default).getD 1 default < (m.Pq.length : Int) ∧ (m.Pq.length : Int) ≤ 64 ∧ ((Z5 m).length : Int) ≤ 4096 := by
  have hl := Z6x m ok
  have h64 := ok.1
  rw [Z45 m ok] at hi hl ⊢
  rw [List.length_map] at hi hl
  have hn : i.toNat < (edgL m.Pq.length m.Tr).length := by omega
  have hg : ((edgL m.Pq.length m.Tr).map e2).getD i.toNat default = e2 (edgL m.Pq.length m.Tr)[i.toNat] := by rw [List.getD_eq_getElem?_getD, List.getElem?_map, List.getElem?_eq_getElem hn]; rfl
  have hb := edgL_at (List.getElem_mem hn)
  rw [hg, List.length_map]
  exact ⟨rfl, hb.1, hb.2.1, hb.2.2, by omega, by omega⟩
theorem Z63 (Y0 : Gm) (hp0 : Y0.Pq.length ≤ 1073741824) (hp1 : Y0.Tr.length ≤ 1073741824) (hp2 : ∀ t ∈ Y0.Tr, t.length ≤ 1073741824) (hp3 : OkE Y0.Pq.length Y0.Tr)  : Fn prog 66 [.ref (Gm.c Y0) 0] (.own 0) [.nest 79 ((Z5 Y0).map fun l => l.map (cI .i64)) false] := by
 have y0 : (0 : Int) ≤ (IntKind.wrap .i64 ((Y0.Pq.length : Int) * (Y0.Pq.length : Int))) := (by (have q2 := ixN hp3.1; omega))
 have y1 : ((IntKind.wrap .i64 ((Y0.Pq.length : Int) * (Y0.Pq.length : Int))) : Int) ≤ 2147483648 := (by (have q2 := ixN hp3.1; omega))
 refine fnS E0Ok Z3 (c := bodyOf f66) [] (.own 0) [.nest 79 ((Z2a Y0).map fun l => l.map (cI .i64)) false] func66 (sZ Gv.c Y0.Pq <| sW .i64 ((Y0.Pq.length : Int) * (Y0.Pq.length : Int)) <| sC (show (IntKind.wrap .i64 ((Y0.Pq.length : Int) * (Y0.Pq.length : Int))) = (IntKind.wrap .i64 ((Y0.Pq.length : Int) * (Y0.Pq.length : Int))) from rfl) <| sC y0 <| sC y1 <| sL (mR false [0, 1, 1, 4, 7, 9, 69]) 1 (lp_cast (st2 := ⟨.ref (Gm.c Y0) 0 :: .any :: .nils :: .i .i64 (Y0.Pq.length : Int) :: .own 0 :: .i .i64 0 :: an 7 (.ref (Gm.c Y0) 0 :: .ref (Gm.c Y0) 0 :: .ref (Gm.c Y0) 0 :: .sl (Y0.Pq.map Gv.c) :: .i .i64 (Y0.Pq.length : Int) :: .i .i64 (Y0.Pq.length : Int) :: .i .i64 (Y0.Pq.length : Int) :: .i .i64 (IntKind.wrap .i64 ((Y0.Pq.length : Int) * (Y0.Pq.length : Int))) :: .own 0 :: an 69 []), [.vec 4 1 (List.replicate (Int.toNat (IntKind.wrap .i64 ((Y0.Pq.length : Int) * (Y0.Pq.length : Int)))) [.b false]) false]⟩) (lp_val (Z3a Y0) (x := (Zg Y0)) (Z5o Y0 hp0 hp1 hp2 hp3 (((Y0.Tr.length : Int) - 0).toNat + 1) 0 (List.replicate (IntKind.wrap .i64 ((Y0.Pq.length : Int) * (Y0.Pq.length : Int))).toNat false) (show 0 ≤ 0 from (by omega)) (show (List.replicate (IntKind.wrap .i64 ((Y0.Pq.length : Int) * (Y0.Pq.length : Int))).toNat false).length = (IntKind.wrap .i64 ((Y0.Pq.length : Int) * (Y0.Pq.length : Int))).toNat from (by simp)) (Nat.lt_succ_self _)) rfl) (by simp [Z48, cB])) <| sL (mR false [0, 1, 1, 3, 5, 2, 1, 9, 69]) 2 (lp_cast (st2 := ⟨.ref (Gm.c Y0) 0 :: .any :: .nils :: .i .i64 (Y0.Pq.length : Int) :: .own 0 :: an 5 (.own 1 :: .i .i64 0 :: .any :: .ref (Gm.c Y0) 0 :: .ref (Gm.c Y0) 0 :: .ref (Gm.c Y0) 0 :: .sl (Y0.Pq.map Gv.c) :: .i .i64 (Y0.Pq.length : Int) :: .i .i64 (Y0.Pq.length : Int) :: .i .i64 (Y0.Pq.length : Int) :: .i .i64 (IntKind.wrap .i64 ((Y0.Pq.length : Int) * (Y0.Pq.length : Int))) :: .own 0 :: an 69 []), [.vec 4 1 ((Zg Y0).map cB) false, .nest 79 [] false]⟩) (lp_val (Z3c Y0) (x := (Z2a Y0)) (Z5q Y0 hp0 hp1 hp2 hp3 (((Y0.Pq.length : Int) - 0).toNat + 1) 0 ([] : List (List Int)) (show 0 ≤ 0 from (by omega)) (show (([] : List (List Int)).length : Int) ≤ 64 * 0 from (by simp)) (Nat.lt_succ_self _)) rfl) (by simp [Z4a, cL, cI])) <| sK [1] sN) rfl (by kernel_rfl) (by kernel_rfl) rfl ?_ ?_
 · rfl
 · simp [Z5]
def Z1G (YF : (List Int)) (YG : Int) : Bool := (cond ((YF.getD 0 default) == YG)
  true
  (cond ((YF.getD 1 default) == YG)
    true
    ((YF.getD 2 default) == YG)))
theorem Z56 (YF : (List Int)) (YG : Int) (hp0 : YF.length ≤ 1073741824) (hp1 : YF.length = 3)  : Fn prog 108 [.sl (YF.map (cI .i64)), .i .i64 YG] (.b (Z1G YF YG)) [] := by
 have y0 : (0 : Int) ≤ 0 := (by omega)
 have y1 : 0 < (YF.length : Int) := (by omega)
 have p {a C} (s : Scr a C) := sG (cI .i64) YF 0 y0 y1 <| s
 cases h0 : ((YF.getD 0 default) == YG) with
 | true =>
  have gh0 := eq_of_beq h0
  refine fnS E0Ok Z3 (c := bodyOf f108) [] (.b true) [] func108 (p (sB h0 <| sB h0 <| sB h0 <| sB h0 <| sB h0 <| sB h0 <| sB (show true = true from rfl) <| sB (show true = true from rfl) <| sB (show true = true from rfl) <| sB (show true = true from rfl) <| sB (show true = true from rfl) <| sB (show true = true from rfl) <| sK [] sN)) rfl (by kernel_rfl) (by kernel_rfl) rfl ?_ ?_
  · simp only [Z1G, h0, cond_true]
  · rfl
 | false =>
  have gh0 := ne_of_beq_false h0
  have y2 : (0 : Int) ≤ 1 := by clear p; exact (by omega)
  have y3 : 1 < (YF.length : Int) := by clear p; exact (by omega)
  have q {a C} (s : Scr a C) := p (sB h0 <| sB h0 <| sG (cI .i64) YF 1 y2 y3 <| sB h0 <| sB h0 <| sB h0 <| sB h0 <| s)
  clear p
  cases h1 : ((YF.getD 1 default) == YG) with
  | true =>
   have gh1 := eq_of_beq h1
   refine fnS E0Ok Z3 (c := bodyOf f108) [] (.b true) [] func108 (q (sB h1 <| sB h1 <| sB h1 <| sB h1 <| sB h1 <| sB h1 <| sK [] sN)) rfl (by kernel_rfl) (by kernel_rfl) rfl ?_ ?_
   · simp only [Z1G, h0, h1, cond_true, cond_false]
   · rfl
  | false =>
   have gh1 := ne_of_beq_false h1
   have y4 : (0 : Int) ≤ 2 := by clear q; exact (by omega)
   have y5 : 2 < (YF.length : Int) := by clear q; exact (by omega)
   refine fnS E0Ok Z3 (c := bodyOf f108) [] (.b ((YF.getD 2 default) == YG)) [] func108 (q (sB h1 <| sB h1 <| sG (cI .i64) YF 2 y4 y5 <| sB h1 <| sB h1 <| sB h1 <| sB h1 <| sK [] sN)) rfl (by kernel_rfl) (by kernel_rfl) rfl ?_ ?_
   · simp only [Z1G, h0, h1, cond_false]
   · rfl
def ZB (Y0 : Gm) (YN : Int) (YO : Int) : Nat → Int → (List Int) → (List Int)
  | 0, _, _ => default
  | k + 1, Y4, Ya => (cond (decide (Y4 < (Y0.Tr.length : Int)))
    (cond (Z1G (Y0.Tr.getD Y4.toNat default) YN)
      (cond (Z1G (Y0.Tr.getD Y4.toNat default) YO)
        (ZB Y0 YN YO k (Y4 + 1) (Ya ++ [Y4]))
        (ZB Y0 YN YO k (Y4 + 1) Ya))
      (ZB Y0 YN YO k (Y4 + 1) Ya))
    Ya)
def Z3L (Y0 : Gm) (YN : Int) (YO : Int) (r : (List Int)) : Ex × St := ((.exit 0), ⟨an 6 (.nils :: .own 0 :: an 36 []), [.vec 2 1 (r.map (cI .i64)) false]⟩)
def Z3M (Y0 : Gm) (YN : Int) (YO : Int) (Y4 : Int) (Ya : (List Int)) : St := ⟨.ref (Gm.c Y0) 0 :: .i .i64 YN :: .i .i64 YO :: .any :: .any :: .any :: .nils :: .own 0 :: .i .i64 Y4 :: an 35 [], [.vec 2 1 (Ya.map (cI .i64)) false]⟩
theorem Z64 (Y0 : Gm) (YN : Int) (YO : Int) (hp0 : Y0.Pq.length ≤ 1073741824) (hp1 : Y0.Tr.length ≤ 1073741824) (hp2 : ∀ t ∈ Y0.Tr, t.length ≤ 1073741824) (hp3 : OkE Y0.Pq.length Y0.Tr) : ∀ (k : Nat) (Y4 : Int) (Ya : (List Int)) (Z4r : 0 ≤ Y4) (Z4s : (Ya.length : Int) ≤ Y4) (hk : ((Y0.Tr.length : Int) - Y4).toNat < k), Lp prog 0 (sub (bodyOf f67) [1, 1, 0, 1, 0, 0]) (Z3M Y0 YN YO Y4 Ya) (Z3L Y0 YN YO (ZB Y0 YN YO k Y4 Ya)).1 (Z3L Y0 YN YO (ZB Y0 YN YO k Y4 Ya)).2 := by
 intro k
 induction k with
 | zero => intro Y4 Ya Z4r Z4s hk; exact absurd hk (Nat.not_lt_zero _)
 | succ k ih =>
  intro Y4 Ya Z4r Z4s hk
  have p {a C} (s : Scr a C) := sZ (cL (cI .i64)) Y0.Tr <| s
  cases Ye : (decide (Y4 < (Y0.Tr.length : Int))) with
  | true =>
   have Yo := odt Ye
   have Yt : (0 : Int) ≤ Y4 := by clear p; exact (by assumption)
   have Yu : Y4 < (Y0.Tr.length : Int) := by clear p; exact (by assumption)
   have Yy : (Y0.Tr.getD Y4.toNat default).length ≤ 1073741824 := by clear p; exact (by exact tri3L hp3 (by assumption) Ye)
   have YC : (Y0.Tr.getD Y4.toNat default).length = 3 := by clear p; exact (by exact (tri3 hp3 (by assumption) Ye).1)
   have q {a C} (s : Scr a C) := p (sB Ye <| sG (cL (cI .i64)) Y0.Tr Y4 Yt Yu <| sF (Z56 (Y0.Tr.getD Y4.toNat default) YN Yy YC) <| s)
   clear p
   cases Yk : (Z1G (Y0.Tr.getD Y4.toNat default) YN) with
   | true =>
    have p {a C} (s : Scr a C) := q (sB Yk <| sB Yk <| sB Yk <| sB Yk <| sB Yk <| sB Yk <| sG (cL (cI .i64)) Y0.Tr Y4 Yt Yu <| sB Yk <| sB Yk <| sB Yk <| sF (Z56 (Y0.Tr.getD Y4.toNat default) YO Yy YC) <| sB Yk <| s)
    clear q
    cases YB : (Z1G (Y0.Tr.getD Y4.toNat default) YO) with
    | true =>
     have YE : Ya.length + ([Y4]).length ≤ 1073741824 := by clear p; exact (by have q := hp3.2.1; (simp only [List.length_cons, List.length_nil]; omega))
     have YL : (-9223372036854775808 : Int) ≤ (Y4 + 1) := by clear p; exact (by omega)
     have YU : (Y4 + 1) ≤ (9223372036854775807 : Int) := by clear p; exact (by omega)
     have e : ZB Y0 YN YO (k + 1) Y4 Ya = (ZB Y0 YN YO k (Y4 + 1) (Ya ++ [Y4])) := by simp only [ZB, Ye, Yk, YB, cond_true]
     rw [e]
     exact nextS E0Ok Z3 [] (mR false [0, 3, 3, 3, 35]) [0] (⟨.ref (Gm.c Y0) 0 :: .i .i64 YN :: .i .i64 YO :: .any :: .any :: .any :: .nils :: .own 0 :: .i .i64 (Y4 + 1) :: an 35 [], [.vec 2 1 ((Ya.map (cI .i64)) ++ ([[.i .i64 Y4]] : List (List AV))) false]⟩) (p (sB YB <| sC (show (Ya.map (cI .i64)).length + ([[.i .i64 Y4]] : List (List AV)).length ≤ 1073741824 from (by simpa using YE)) <| sI (Y4 + 1) YL YU <| sN)) (by kernel_rfl) (by simp [Z3M, cI]) (ih (Y4 + 1) (Ya ++ [Y4]) (show 0 ≤ (Y4 + 1) from (by omega)) (show ((Ya ++ [Y4]).length : Int) ≤ (Y4 + 1) from (by simp_all <;> omega)) (by omega))
    | false =>
     have YE : (-9223372036854775808 : Int) ≤ (Y4 + 1) := by clear p; exact (by omega)
     have YL : (Y4 + 1) ≤ (9223372036854775807 : Int) := by clear p; exact (by omega)
     have e : ZB Y0 YN YO (k + 1) Y4 Ya = (ZB Y0 YN YO k (Y4 + 1) Ya) := by simp only [ZB, Ye, Yk, YB, cond_true, cond_false]
     rw [e]
     exact nextR E0Ok Z3 [] (mR false [0, 3, 3, 3, 35]) [0] (ih (Y4 + 1) Ya (show 0 ≤ (Y4 + 1) from (by omega)) (show (Ya.length : Int) ≤ (Y4 + 1) from (by omega)) (by omega)) (p (sB YB <| sI (Y4 + 1) YE YL <| sN)) (by kernel_rfl)
   | false =>
    have YE : (-9223372036854775808 : Int) ≤ (Y4 + 1) := by clear q; exact (by omega)
    have YL : (Y4 + 1) ≤ (9223372036854775807 : Int) := by clear q; exact (by omega)
    have e : ZB Y0 YN YO (k + 1) Y4 Ya = (ZB Y0 YN YO k (Y4 + 1) Ya) := by simp only [ZB, Ye, Yk, cond_true, cond_false]
    rw [e]
    exact nextR E0Ok Z3 [] (mR false [0, 3, 3, 3, 35]) [0] (ih (Y4 + 1) Ya (show 0 ≤ (Y4 + 1) from (by omega)) (show (Ya.length : Int) ≤ (Y4 + 1) from (by omega)) (by omega)) (q (sB Yk <| sB Yk <| sB Yk <| sB Yk <| sB Yk <| sB Yk <| sB Yk <| sB Yk <| sB Yk <| sB Yk <| sB (show false = false from rfl) <| sI (Y4 + 1) YE YL <| sN)) (by kernel_rfl)
  | false =>
   have Yo := odf Ye
   have e : ZB Y0 YN YO (k + 1) Y4 Ya = Ya := by simp only [ZB, Ye, cond_false]
   rw [e]
   exact outR (e := (.exit 0)) E0Ok Z3 [] (mR false [6, 2, 36]) [0] (p (sB Ye <| sN)) (by kernel_rfl) (by intro h; cases h)
def Z2w (Y0 : Gm) (YN : Int) (YO : Int) : (List Int) := (ZB Y0 YN YO (((Y0.Tr.length : Int) - 0).toNat + 1) 0 ([] : List Int))
def Z2j (Y0 : Gm) (YN : Int) (YO : Int) : (List Int) := (Z2w Y0 YN YO)
theorem Z77 (m : Gm) (a b : Int) : Z2j m a b = idxP m.Tr a b := by
  unfold Z2j Z2w
  rw [filt_loop (n := (m.Tr.length : Int)) (f := fun i => !(tHas (m.Tr.getD i.toNat default) a b)) (g := fun i => i) (lo := ZB m a b) (fun k i r => by
    rw [ZB]
    unfold Z1G tHas
    generalize m.Tr.getD i.toNat default = t
    cases decide (i < (m.Tr.length : Int)) <;> cases (t.getD 0 default == a) <;> cases (t.getD 1 default == a) <;> cases (t.getD 2 default == a) <;> cases (t.getD 0 default == b) <;> cases (t.getD 1 default == b) <;> cases (t.getD 2 default == b) <;> rfl) _ _ _ (Nat.lt_succ_self _)]
  unfold idxP
  rw [List.nil_append, show ((m.Tr.length : Int) - 0).toNat = m.Tr.length from by omega]
  have h1 : ∀ j : Nat, ((0 : Int) + (j : Int)).toNat = j := fun j => by omega
  have h2 : ∀ j : Nat, ((0 : Int) + (j : Int)) = (j : Int) := fun j => by omega
  simp only [Bool.not_not, h1, h2, Int.toNat_natCast]
theorem Z6y (Y0 : Gm) (YN : Int) (YO : Int) (hp0 : Y0.Pq.length ≤ 1073741824) (hp1 : Y0.Tr.length ≤ 1073741824) (hp2 : ∀ t ∈ Y0.Tr, t.length ≤ 1073741824) (hp3 : OkE Y0.Pq.length Y0.Tr)  : Fn prog 67 [.ref (Gm.c Y0) 0, .i .i64 YN, .i .i64 YO] (.own 0) [.vec 2 1 ((Z2j Y0 YN YO).map (cI .i64)) false] := by
 refine fnS E0Ok Z3 (c := bodyOf f67) [] (.own 0) [.vec 2 1 ((Z2w Y0 YN YO).map (cI .i64)) false] func67 (sL (mR false [0, 3, 3, 3, 35]) 1 (lp_cast (st2 := ⟨.ref (Gm.c Y0) 0 :: .i .i64 YN :: .i .i64 YO :: .any :: .any :: .any :: .nils :: .own 0 :: .i .i64 0 :: an 35 [], [.vec 2 1 ([] : List (List AV)) false]⟩) (lp_val (Z3L Y0 YN YO) (x := (Z2w Y0 YN YO)) (Z64 Y0 YN YO hp0 hp1 hp2 hp3 (((Y0.Tr.length : Int) - 0).toNat + 1) 0 ([] : List Int) (show 0 ≤ 0 from (by omega)) (show (([] : List Int).length : Int) ≤ 0 from (by simp)) (Nat.lt_succ_self _)) rfl) (by simp [Z3M, cI])) <| sK [0] sN) rfl (by kernel_rfl) (by kernel_rfl) rfl ?_ ?_
 · rfl
 · simp [Z2j]
def Zf (Yb : (List Int)) (Yw : Int) : Nat → Bool → Int → (List Int) → Bool × (List Int)
  | 0, _, _, _ => default
  | k + 1, Yn, Y2, Y1 => (cond (decide (Y2 < (Yb.length : Int)))
    (cond Yn
      (Zf Yb Yw k Yn (Y2 + 1) (Y1 ++ [(Yb.getD Y2.toNat default)]))
      (cond (decide ((Yb.getD Y2.toNat default) ≥ Yw))
        (cond (decide ((Yb.getD Y2.toNat default) > Yw))
          (Zf Yb Yw k true (Y2 + 1) ((Y1 ++ [Yw]) ++ [(Yb.getD Y2.toNat default)]))
          (Zf Yb Yw k true (Y2 + 1) (Y1 ++ [(Yb.getD Y2.toNat default)])))
        (Zf Yb Yw k Yn (Y2 + 1) (Y1 ++ [(Yb.getD Y2.toNat default)]))))
    (Yn, Y1))
def Z3q (Yb : (List Int)) (Yw : Int) (r : Bool × (List Int)) : Ex × St := ((.exit 0), ⟨.any :: .i .i64 Yw :: .any :: .any :: .nils :: .own 0 :: .b r.1 :: an 42 [], [.vec 2 1 (r.2.map (cI .i64)) false]⟩)
def Z1W (Yb : (List Int)) (Yw : Int) (Yn : Bool) (Y2 : Int) (Y1 : (List Int)) : St := ⟨.sl (Yb.map (cI .i64)) :: .i .i64 Yw :: .any :: .any :: .nils :: .own 0 :: .b Yn :: .i .i64 Y2 :: an 41 [], [.vec 2 1 (Y1.map (cI .i64)) false]⟩
set_option maxHeartbeats 1000000 in
theorem Z5Q (Yb : (List Int)) (Yw : Int) (hp0 : Yb.length ≤ 1073741824) (hp1 : Yb.length ≤ 100000) : ∀ (k : Nat) (Yn : Bool) (Y2 : Int) (Y1 : (List Int)) (Z4b : 0 ≤ Y2) (Z4c : (Y1.length : Int) ≤ 2 * Y2) (hk : ((Yb.length : Int) - Y2).toNat < k), Lp prog 0 (sub (bodyOf f114) [1, 1, 1, 0, 1, 0, 0]) (Z1W Yb Yw Yn Y2 Y1) (Z3q Yb Yw (Zf Yb Yw k Yn Y2 Y1)).1 (Z3q Yb Yw (Zf Yb Yw k Yn Y2 Y1)).2 := by
 intro k
 induction k with
 | zero => intro Yn Y2 Y1 Z4b Z4c hk; exact absurd hk (Nat.not_lt_zero _)
 | succ k ih =>
  intro Yn Y2 Y1 Z4b Z4c hk
  have p {a C} (s : Scr a C) := sZ (cI .i64) Yb <| s
  cases Ye : (decide (Y2 < (Yb.length : Int))) with
  | true =>
   have Yo := odt Ye
   have q {a C} (s : Scr a C) := p (sB Ye <| s)
   clear p
   rcases Bool.eq_false_or_eq_true Yn with Yk | Yk
   ·
    have Yt : (0 : Int) ≤ Y2 := by clear q; exact (by assumption)
    have Yu : Y2 < (Yb.length : Int) := by clear q; exact (by assumption)
    have Yy : Y1.length + ([(Yb.getD Y2.toNat default)]).length ≤ 1073741824 := by clear q; exact (by (simp only [List.length_append, List.length_cons, List.length_nil]; omega))
    have YC : (-9223372036854775808 : Int) ≤ (Y2 + 1) := by clear q; exact (by omega)
    have YE : (Y2 + 1) ≤ (9223372036854775807 : Int) := by clear q; exact (by omega)
    have e : Zf Yb Yw (k + 1) Yn Y2 Y1 = (Zf Yb Yw k Yn (Y2 + 1) (Y1 ++ [(Yb.getD Y2.toNat default)])) := by simp only [Zf, Ye, Yk, cond_true]
    rw [e]
    exact nextS E0Ok Z3 [] (mR false [0, 2, 2, 4, 41]) [0] (⟨.sl (Yb.map (cI .i64)) :: .i .i64 Yw :: .any :: .any :: .nils :: .own 0 :: .b Yn :: .i .i64 (Y2 + 1) :: an 41 [], [.vec 2 1 ((Y1.map (cI .i64)) ++ ([[.i .i64 (Yb.getD Y2.toNat default)]] : List (List AV))) false]⟩) (q (sB' Yk <| sB' Yk <| sB' Yk <| sB' Yk <| sB' Yk <| sB' Yk <| sB' Yk <| sB (show false = false from rfl) <| sG (cI .i64) Yb Y2 Yt Yu <| sC (show (Y1.map (cI .i64)).length + ([[.i .i64 (Yb.getD Y2.toNat default)]] : List (List AV)).length ≤ 1073741824 from (by simpa using Yy)) <| sI (Y2 + 1) YC YE <| sN)) (by kernel_rfl) (by simp [Z1W, cI]) (ih Yn (Y2 + 1) (Y1 ++ [(Yb.getD Y2.toNat default)]) (show 0 ≤ (Y2 + 1) from (by omega)) (show ((Y1 ++ [(Yb.getD Y2.toNat default)]).length : Int) ≤ 2 * (Y2 + 1) from (by (simp only [List.length_append, List.length_cons, List.length_nil]; omega))) (by omega))
   ·
    have Yt : (0 : Int) ≤ Y2 := by clear q; exact (by assumption)
    have Yu : Y2 < (Yb.length : Int) := by clear q; exact (by assumption)
    have p {a C} (s : Scr a C) := q (sB' Yk <| sB' Yk <| sB' Yk <| sG (cI .i64) Yb Y2 Yt Yu <| sB' Yk <| sB' Yk <| sB' Yk <| sB' Yk <| s)
    clear q
    cases YB : (decide ((Yb.getD Y2.toNat default) ≥ Yw)) with
    | true =>
     have YV := odt YB
     have q {a C} (s : Scr a C) := p (sB YB <| sG (cI .i64) Yb Y2 Yt Yu <| s)
     clear p
     cases YK : (decide ((Yb.getD Y2.toNat default) > Yw)) with
     | true =>
      have Y18 := odt YK
      have Yy : Y1.length + ([Yw]).length ≤ 1073741824 := by clear q; exact (by (simp only [List.length_append, List.length_cons, List.length_nil]; omega))
      have YC : (Y1 ++ [Yw]).length + ([(Yb.getD Y2.toNat default)]).length ≤ 1073741824 := by clear q; exact (by (simp only [List.length_append, List.length_cons, List.length_nil]; omega))
      have YE : (-9223372036854775808 : Int) ≤ (Y2 + 1) := by clear q; exact (by omega)
      have YL : (Y2 + 1) ≤ (9223372036854775807 : Int) := by clear q; exact (by omega)
      have e : Zf Yb Yw (k + 1) Yn Y2 Y1 = (Zf Yb Yw k true (Y2 + 1) ((Y1 ++ [Yw]) ++ [(Yb.getD Y2.toNat default)])) := by simp only [Zf, Ye, Yk, YB, YK, cond_true, cond_false]
      rw [e]
      exact nextS E0Ok Z3 [] (mR false [0, 2, 2, 4, 41]) [0] (⟨.sl (Yb.map (cI .i64)) :: .i .i64 Yw :: .any :: .any :: .nils :: .own 0 :: .b true :: .i .i64 (Y2 + 1) :: an 41 [], [.vec 2 1 (((Y1.map (cI .i64)) ++ ([[.i .i64 Yw]] : List (List AV))) ++ ([[.i .i64 (Yb.getD Y2.toNat default)]] : List (List AV))) false]⟩) (q (sB YK <| sC (show (Y1.map (cI .i64)).length + ([[.i .i64 Yw]] : List (List AV)).length ≤ 1073741824 from (by simpa using Yy)) <| sG (cI .i64) Yb Y2 Yt Yu <| sC (show ((Y1.map (cI .i64)) ++ ([[.i .i64 Yw]] : List (List AV))).length + ([[.i .i64 (Yb.getD Y2.toNat default)]] : List (List AV)).length ≤ 1073741824 from (by simpa using YC)) <| sI (Y2 + 1) YE YL <| sN)) (by kernel_rfl) (by simp [Z1W, cI]) (ih true (Y2 + 1) ((Y1 ++ [Yw]) ++ [(Yb.getD Y2.toNat default)]) (show 0 ≤ (Y2 + 1) from (by omega)) (show (((Y1 ++ [Yw]) ++ [(Yb.getD Y2.toNat default)]).length : Int) ≤ 2 * (Y2 + 1) from (by (simp only [List.length_append, List.length_cons, List.length_nil]; omega))) (by omega))
     | false =>
      have Y18 := odf YK
      have Yy : Y1.length + ([(Yb.getD Y2.toNat default)]).length ≤ 1073741824 := by clear q; exact (by (simp only [List.length_append, List.length_cons, List.length_nil]; omega))
      have YC : (-9223372036854775808 : Int) ≤ (Y2 + 1) := by clear q; exact (by omega)
      have YE : (Y2 + 1) ≤ (9223372036854775807 : Int) := by clear q; exact (by omega)
      have e : Zf Yb Yw (k + 1) Yn Y2 Y1 = (Zf Yb Yw k true (Y2 + 1) (Y1 ++ [(Yb.getD Y2.toNat default)])) := by simp only [Zf, Ye, Yk, YB, YK, cond_true, cond_false]
      rw [e]
      exact nextS E0Ok Z3 [] (mR false [0, 2, 2, 4, 41]) [0] (⟨.sl (Yb.map (cI .i64)) :: .i .i64 Yw :: .any :: .any :: .nils :: .own 0 :: .b true :: .i .i64 (Y2 + 1) :: an 41 [], [.vec 2 1 ((Y1.map (cI .i64)) ++ ([[.i .i64 (Yb.getD Y2.toNat default)]] : List (List AV))) false]⟩) (q (sB YK <| sG (cI .i64) Yb Y2 Yt Yu <| sC (show (Y1.map (cI .i64)).length + ([[.i .i64 (Yb.getD Y2.toNat default)]] : List (List AV)).length ≤ 1073741824 from (by simpa using Yy)) <| sI (Y2 + 1) YC YE <| sN)) (by kernel_rfl) (by simp [Z1W, cI]) (ih true (Y2 + 1) (Y1 ++ [(Yb.getD Y2.toNat default)]) (show 0 ≤ (Y2 + 1) from (by omega)) (show ((Y1 ++ [(Yb.getD Y2.toNat default)]).length : Int) ≤ 2 * (Y2 + 1) from (by (simp only [List.length_append, List.length_cons, List.length_nil]; omega))) (by omega))
    | false =>
     have YV := odf YB
     have Yy : Y1.length + ([(Yb.getD Y2.toNat default)]).length ≤ 1073741824 := by clear p; exact (by (simp only [List.length_append, List.length_cons, List.length_nil]; omega))
     have YC : (-9223372036854775808 : Int) ≤ (Y2 + 1) := by clear p; exact (by omega)
     have YE : (Y2 + 1) ≤ (9223372036854775807 : Int) := by clear p; exact (by omega)
     have e : Zf Yb Yw (k + 1) Yn Y2 Y1 = (Zf Yb Yw k Yn (Y2 + 1) (Y1 ++ [(Yb.getD Y2.toNat default)])) := by simp only [Zf, Ye, Yk, YB, cond_true, cond_false]
     rw [e]
     exact nextS E0Ok Z3 [] (mR false [0, 2, 2, 4, 41]) [0] (⟨.sl (Yb.map (cI .i64)) :: .i .i64 Yw :: .any :: .any :: .nils :: .own 0 :: .b Yn :: .i .i64 (Y2 + 1) :: an 41 [], [.vec 2 1 ((Y1.map (cI .i64)) ++ ([[.i .i64 (Yb.getD Y2.toNat default)]] : List (List AV))) false]⟩) (p (sB YB <| sG (cI .i64) Yb Y2 Yt Yu <| sC (show (Y1.map (cI .i64)).length + ([[.i .i64 (Yb.getD Y2.toNat default)]] : List (List AV)).length ≤ 1073741824 from (by simpa using Yy)) <| sI (Y2 + 1) YC YE <| sN)) (by kernel_rfl) (by simp [Z1W, cI]) (ih Yn (Y2 + 1) (Y1 ++ [(Yb.getD Y2.toNat default)]) (show 0 ≤ (Y2 + 1) from (by omega)) (show ((Y1 ++ [(Yb.getD Y2.toNat default)]).length : Int) ≤ 2 * (Y2 + 1) from (by (simp only [List.length_append, List.length_cons, List.length_nil]; omega))) (by omega))
  | false =>
   have Yo := odf Ye
   have e : Zf Yb Yw (k + 1) Yn Y2 Y1 = (Yn, Y1) := by simp only [Zf, Ye, cond_false]
   rw [e]
   exact outR (e := (.exit 0)) E0Ok Z3 [] (mR false [1, 1, 2, 3, 42]) [0] (p (sB Ye <| sN)) (by kernel_rfl) (by intro h; cases h)
def ZX (Yb : (List Int)) (Yw : Int) : Bool × (List Int) := (Zf Yb Yw (((Yb.length : Int) - 0).toNat + 1) false 0 ([] : List Int))
theorem Z6X (l : List Int) (n : Int) : ∀ (k : Nat) (i : Int) (d : Bool) (r : List Int), 0 ≤ i → ((l.length : Int) - i).toNat < k →
    (cond (Zf l n k d i r).1 (Zf l n k d i r).2 ((Zf l n k d i r).2 ++ [n])) = r ++ cond d (l.drop i.toNat) (putP (l.drop i.toNat) n) := by
  intro k
  induction k with
  | zero => intro i d r _ hk; exact absurd hk (Nat.not_lt_zero _)
  | succ k ih =>
    intro i d r h0 hk
    rw [Zf]
    by_cases hi : i < (l.length : Int)
    · have hn : i.toNat < l.length := by omega
      have hg : l.getD i.toNat default = l[i.toNat] := by rw [List.getD_eq_getElem?_getD, List.getElem?_eq_getElem hn]; rfl
      rw [decide_eq_true hi, cond_true, hg, List.drop_eq_getElem_cons hn, ← show (i + 1).toNat = i.toNat + 1 from by omega]
      cases d with
      | true => rw [cond_true, ih _ _ _ (by omega) (by omega), cond_true, cond_true, List.append_assoc]; rfl
      | false =>
        rw [cond_false]
        unfold putP
        by_cases h1 : l[i.toNat] < n
        · rw [decide_eq_false (by omega), cond_false, ih _ _ _ (by omega) (by omega), cond_false, cond_false, if_pos h1, List.append_assoc]; rfl
        · rw [decide_eq_true (by omega), cond_true, if_neg h1]
          by_cases h2 : l[i.toNat] = n
          · rw [decide_eq_false (by omega), cond_false, ih _ _ _ (by omega) (by omega), cond_true, if_pos h2, List.append_assoc]; rfl
          · rw [decide_eq_true (by omega), cond_true, ih _ _ _ (by omega) (by omega), cond_true, if_neg h2, List.append_assoc, List.append_assoc]; rfl
    · rw [decide_eq_false hi, cond_false, List.drop_eq_nil_of_le (by omega)]
      cases d <;> simp [putP]
theorem Z6S (l : List Int) (n : Int) : (ZX l n).2.length ≤ l.length + 1 := by
  have h := congrArg List.length (Z6X l n (((l.length : Int) - 0).toNat + 1) 0 false [] (Int.le_refl 0) (Nat.lt_succ_self _))
  have h2 := putP_len l n
  rw [List.nil_append, cond_false] at h
  simp only [Int.toNat_zero, List.drop_zero] at h
  unfold ZX
  cases hc : (Zf l n (((l.length : Int) - 0).toNat + 1) false 0 []).1 with
  | true => rw [hc, cond_true] at h; omega
  | false => rw [hc, cond_false, List.length_append] at h; omega
def Z1g (Yb : (List Int)) (Yw : Int) : (List Int) := (cond (ZX Yb Yw).1
  (ZX Yb Yw).2
  ((ZX Yb Yw).2 ++ [Yw]))
theorem Z6z (l : List Int) (n : Int) : Z1g l n = putP l n := by
  unfold Z1g ZX
  have h := Z6X l n (((l.length : Int) - 0).toNat + 1) 0 false [] (Int.le_refl 0) (Nat.lt_succ_self _)
  rw [List.nil_append, cond_false] at h
  exact h
theorem Z5w (l : List Int) (n : Int) : (Z1g l n).length ≤ l.length + 1 := by rw [Z6z]; exact putP_len l n
theorem Z57 (Yb : (List Int)) (Yw : Int) (hp0 : Yb.length ≤ 1073741824) (hp1 : Yb.length ≤ 100000)  : Fn prog 114 [.sl (Yb.map (cI .i64)), .i .i64 Yw] (.own 0) [.vec 2 1 ((Z1g Yb Yw).map (cI .i64)) false] := by
 have p {a C} (s : Scr a C) := sL (mR false [0, 2, 2, 4, 41]) 1 (lp_cast (st2 := ⟨.sl (Yb.map (cI .i64)) :: .i .i64 Yw :: .any :: .any :: .nils :: .own 0 :: .b false :: .i .i64 0 :: an 41 [], [.vec 2 1 ([] : List (List AV)) false]⟩) (lp_val (Z3q Yb Yw) (x := (ZX Yb Yw)) (Z5Q Yb Yw hp0 hp1 (((Yb.length : Int) - 0).toNat + 1) false 0 ([] : List Int) (show 0 ≤ 0 from (by omega)) (show (([] : List Int).length : Int) ≤ 2 * 0 from (by simp)) (Nat.lt_succ_self _)) rfl) (by simp [Z1W, cI])) <| s
 cases h0 : (ZX Yb Yw).1 with
 | true =>
  refine fnS E0Ok Z3 (c := bodyOf f114) [] (.own 0) [.vec 2 1 (((ZX Yb Yw).2).map (cI .i64)) false] func114 (p (sB' h0 <| sK [0] sN)) rfl (by kernel_rfl) (by kernel_rfl) rfl ?_ ?_
  · simp only [Z1g, h0, cond_true]
  · simp [Z1g, h0]
 | false =>
  have y0 : ((ZX Yb Yw).2).length + ([Yw]).length ≤ 1073741824 := by clear p; exact (by (have q := Z6S Yb Yw; simp only [List.length_append, List.length_cons, List.length_nil]; omega))
  refine fnS E0Ok Z3 (c := bodyOf f114) [] (.own 0) [.vec 2 1 ((((ZX Yb Yw).2).map (cI .i64)) ++ ([[.i .i64 Yw]] : List (List AV))) false] func114 (p (sB' h0 <| sC (show (((ZX Yb Yw).2).map (cI .i64)).length + ([[.i .i64 Yw]] : List (List AV)).length ≤ 1073741824 from (by simpa using y0)) <| sK [0] sN)) rfl (by kernel_rfl) (by kernel_rfl) rfl ?_ ?_
  · simp only [Z1g, h0, cond_false]
  · simp [Z1g, h0, cI]
def Z1D (Y0 : Gm) (Y4 : Int) (Y9 : (List Int)) : (List Int) := (Z1g (Z1g Y9 (((Z5 Y0).getD Y4.toNat default).getD 0 default)) (((Z5 Y0).getD Y4.toNat default).getD 1 default))
def Zx (Y0 : Gm) : Nat → Int → (List Int) → (List Int)
  | 0, _, _ => default
  | k + 1, Y4, Y9 => (cond (decide (Y4 < ((Z5 Y0).length : Int)))
    (cond (((Z2j Y0 (((Z5 Y0).getD Y4.toNat default).getD 0 default) (((Z5 Y0).getD Y4.toNat default).getD 1 default)).length : Int) == 1)
      (Zx Y0 k (Y4 + 1) (Z1D Y0 Y4 Y9))
      (Zx Y0 k (Y4 + 1) Y9))
    Y9)
def Z2W (Y0 : Gm) (r : (List Int)) : Ex × St := ((.exit 0), ⟨.ref (Gm.c Y0) 0 :: .any :: .nils :: .any :: .own 0 :: .any :: .ref (Gm.c Y0) 0 :: .own 1 :: an 39 [], [.vec 2 1 (r.map (cI .i64)) false, .nest 79 ((Z5 Y0).map fun l => l.map (cI .i64)) false]⟩)
def Z3W (Y0 : Gm) (Y4 : Int) (Y9 : (List Int)) : St := ⟨.ref (Gm.c Y0) 0 :: .any :: .nils :: .own 0 :: .own 1 :: .i .i64 Y4 :: .ref (Gm.c Y0) 0 :: .own 0 :: an 39 [], [.nest 79 ((Z5 Y0).map fun l => l.map (cI .i64)) false, .vec 2 1 (Y9.map (cI .i64)) false]⟩
set_option maxHeartbeats 1000000 in
theorem Z5f (Y0 : Gm) (hp0 : Y0.Pq.length ≤ 1073741824) (hp1 : Y0.Tr.length ≤ 1073741824) (hp2 : ∀ t ∈ Y0.Tr, t.length ≤ 1073741824) (hp3 : OkE Y0.Pq.length Y0.Tr) : ∀ (k : Nat) (Y4 : Int) (Y9 : (List Int)) (ZP : 0 ≤ Y4) (Z3y : (Y9.length : Int) ≤ 2 * Y4) (hk : (((Z5 Y0).length : Int) - Y4).toNat < k), Lp prog 0 (sub (bodyOf f81) [1, 1, 1, 0, 1, 0, 0]) (Z3W Y0 Y4 Y9) (Z2W Y0 (Zx Y0 k Y4 Y9)).1 (Z2W Y0 (Zx Y0 k Y4 Y9)).2 := by
 intro k
 induction k with
 | zero => intro Y4 Y9 ZP Z3y hk; exact absurd hk (Nat.not_lt_zero _)
 | succ k ih =>
  intro Y4 Y9 ZP Z3y hk
  have p {a C} (s : Scr a C) := sM (nlen_ok (l := (Z5 Y0)) (f := fun l => l.map (cI .i64))) <| s
  cases Ye : (decide (Y4 < ((Z5 Y0).length : Int))) with
  | true =>
   have Yo := odt Ye
   have Yt : (0 : Int) ≤ Y4 := by clear p; exact (by assumption)
   have Yu : Int.toNat Y4 < (Z5 Y0).length := by clear p; exact (by omega)
   have Yy : Y4.toNat < (Z5 Y0).length := by clear p; exact (by assumption)
   have YC : (0 : Int) ≤ 0 := by clear p; exact (by omega)
   have YE : 0 < (((Z5 Y0).getD Y4.toNat default).length : Int) := by clear p; exact (by ((have q := Z1X Y0 hp3 ZP (odt Ye); omega)))
   have YL : 0 < ((Z5 Y0).getD Y4.toNat default).length := by clear p; exact (by omega)
   have YU : (0 : Int) ≤ 1 := by clear p; exact (by omega)
   have y_7 : 1 < (((Z5 Y0).getD Y4.toNat default).length : Int) := by clear p; exact (by ((have q := Z1X Y0 hp3 ZP (odt Ye); omega)))
   have y_8 : 1 < ((Z5 Y0).getD Y4.toNat default).length := by clear p; exact (by omega)
   have q {a C} (s : Scr a C) := p (sB Ye <| sK [13, 13] <| sC (nestix (c := (cI .i64)) (l := (Z5 Y0)) (i := Y4) Yt Yu) <| sC (nestlt (c := (cI .i64)) (l := (Z5 Y0)) Yy) <| sC (iidx_ok (c := (cI .i64)) (l := (Z5 Y0)) (j := Y4.toNat) (i := 0) YC YE) <| sE (iget_ok (c := (cI .i64)) (l := (Z5 Y0)) (j := Y4.toNat) (k := 0) YL) <| sC (nestix (c := (cI .i64)) (l := (Z5 Y0)) (i := Y4) Yt Yu) <| sC (nestlt (c := (cI .i64)) (l := (Z5 Y0)) Yy) <| sC (iidx_ok (c := (cI .i64)) (l := (Z5 Y0)) (j := Y4.toNat) (i := 1) YU y_7) <| sE (iget_ok (c := (cI .i64)) (l := (Z5 Y0)) (j := Y4.toNat) (k := 1) y_8) <| sF (Z6y Y0 (((Z5 Y0).getD Y4.toNat default).getD 0 default) (((Z5 Y0).getD Y4.toNat default).getD 1 default) hp0 hp1 hp2 hp3) <| sZ (cI .i64) (Z2j Y0 (((Z5 Y0).getD Y4.toNat default).getD 0 default) (((Z5 Y0).getD Y4.toNat default).getD 1 default)) <| s)
   clear p
   cases Yk : (((Z2j Y0 (((Z5 Y0).getD Y4.toNat default).getD 0 default) (((Z5 Y0).getD Y4.toNat default).getD 1 default)).length : Int) == 1) with
   | true =>
    have YR := eq_of_beq Yk
    have y_9 : Y9.length ≤ 1073741824 := by clear q; exact (by have q := Z1X Y0 hp3 ZP (odt Ye); omega)
    have Y12 : Y9.length ≤ 100000 := by clear q; exact (by have q := Z1X Y0 hp3 ZP (odt Ye); omega)
    have Y19 : (Z1g Y9 (((Z5 Y0).getD Y4.toNat default).getD 0 default)).length ≤ 1073741824 := by clear q; exact (by (have q := Z1X Y0 hp3 ZP (odt Ye); (have q2 := Z5w Y9 (((Z5 Y0).getD Y4.toNat default).getD 0 default); omega)))
    have y_12 : (Z1g Y9 (((Z5 Y0).getD Y4.toNat default).getD 0 default)).length ≤ 100000 := by clear q; exact (by (have q := Z1X Y0 hp3 ZP (odt Ye); (have q2 := Z5w Y9 (((Z5 Y0).getD Y4.toNat default).getD 0 default); omega)))
    have y_13 : (-9223372036854775808 : Int) ≤ (Y4 + 1) := by clear q; exact (by omega)
    have y_14 : (Y4 + 1) ≤ (9223372036854775807 : Int) := by clear q; exact (by ((have q := Z1X Y0 hp3 ZP (odt Ye); omega)))
    have e : Zx Y0 (k + 1) Y4 Y9 = (Zx Y0 k (Y4 + 1) (Z1D Y0 Y4 Y9)) := by simp only [Zx, Ye, Yk, cond_true]
    rw [e]
    exact nextR E0Ok Z3 [] (mR false [0, 1, 1, 6, 39]) [0, 4] (ih (Y4 + 1) (Z1D Y0 Y4 Y9) (show 0 ≤ (Y4 + 1) from (by omega)) (show ((Z1D Y0 Y4 Y9).length : Int) ≤ 2 * (Y4 + 1) from (by ((have q := Z1X Y0 hp3 ZP (odt Ye); (unfold Z1D; have q2 := Z5w Y9 (((Z5 Y0).getD Y4.toNat default).getD 0 default); have q3 := Z5w (Z1g Y9 (((Z5 Y0).getD Y4.toNat default).getD 0 default)) (((Z5 Y0).getD Y4.toNat default).getD 1 default); omega))))) (by omega)) (q (sB Yk <| sK [14, 14] <| sC (nestix (c := (cI .i64)) (l := (Z5 Y0)) (i := Y4) Yt Yu) <| sC (nestlt (c := (cI .i64)) (l := (Z5 Y0)) Yy) <| sC (iidx_ok (c := (cI .i64)) (l := (Z5 Y0)) (j := Y4.toNat) (i := 0) YC YE) <| sE (iget_ok (c := (cI .i64)) (l := (Z5 Y0)) (j := Y4.toNat) (k := 0) YL) <| sF (Z57 Y9 (((Z5 Y0).getD Y4.toNat default).getD 0 default) y_9 Y12) <| sC (nestix (c := (cI .i64)) (l := (Z5 Y0)) (i := Y4) Yt Yu) <| sC (nestlt (c := (cI .i64)) (l := (Z5 Y0)) Yy) <| sC (iidx_ok (c := (cI .i64)) (l := (Z5 Y0)) (j := Y4.toNat) (i := 1) YU y_7) <| sE (iget_ok (c := (cI .i64)) (l := (Z5 Y0)) (j := Y4.toNat) (k := 1) y_8) <| sF (Z57 (Z1g Y9 (((Z5 Y0).getD Y4.toNat default).getD 0 default)) (((Z5 Y0).getD Y4.toNat default).getD 1 default) Y19 y_12) <| sI (Y4 + 1) y_13 y_14 <| sN)) (by kernel_rfl)
   | false =>
    have YR := ne_of_beq_false Yk
    have y_9 : (-9223372036854775808 : Int) ≤ (Y4 + 1) := by clear q; exact (by omega)
    have Y12 : (Y4 + 1) ≤ (9223372036854775807 : Int) := by clear q; exact (by ((have q := Z1X Y0 hp3 ZP (odt Ye); omega)))
    have e : Zx Y0 (k + 1) Y4 Y9 = (Zx Y0 k (Y4 + 1) Y9) := by simp only [Zx, Ye, Yk, cond_true, cond_false]
    rw [e]
    exact nextR E0Ok Z3 [] (mR false [0, 1, 1, 6, 39]) [0, 1] (ih (Y4 + 1) Y9 (show 0 ≤ (Y4 + 1) from (by omega)) (show (Y9.length : Int) ≤ 2 * (Y4 + 1) from (by omega)) (by omega)) (q (sB Yk <| sI (Y4 + 1) y_9 Y12 <| sN)) (by kernel_rfl)
  | false =>
   have Yo := odf Ye
   have e : Zx Y0 (k + 1) Y4 Y9 = Y9 := by simp only [Zx, Ye, cond_false]
   rw [e]
   exact outR (e := (.exit 0)) E0Ok Z3 [] (mR false [0, 1, 1, 1, 1, 1, 1, 2, 39]) [1, 0] (p (sB Ye <| sN)) (by kernel_rfl) (by intro h; cases h)
def Z22 (Y0 : Gm) : (List Int) := (Zx Y0 ((((Z5 Y0).length : Int) - 0).toNat + 1) 0 ([] : List Int))
def Z4 (Y0 : Gm) : (List Int) := (Z22 Y0)
theorem Z3N (m : Gm) (ok : OkE m.Pq.length m.Tr) : Z4 m = bpL m.Pq.length m.Tr := by
  unfold Z4 Z22
  have hl : (Z5 m).length = (edgL m.Pq.length m.Tr).length := by rw [Z45 m ok, List.length_map]
  have hx : ∀ i : Int, 0 ≤ i → i < ((edgL m.Pq.length m.Tr).length : Int) → (Z5 m).getD i.toNat default = e2 ((edgL m.Pq.length m.Tr).getD i.toNat default) := by
    intro i h0 hi
    rw [Z45 m ok, List.getD_eq_getElem?_getD, List.getD_eq_getElem?_getD, List.getElem?_map, List.getElem?_eq_getElem (by omega)]; rfl
  obtain ⟨g1, g2⟩ := put_loop (ts := m.Tr) (a := edgL m.Pq.length m.Tr) (p := fun e => decide ((idxP m.Tr e.e0 e.e1).length = 1)) (lo := Zx m) (fun k i r h0 hi => by
    rw [Zx, hl, decide_eq_true hi, cond_true]
    unfold Z1D
    rw [hx i h0 hi, Z77, Z6z, Z6z]
    have hc : (((idxP m.Tr ((e2 ((edgL m.Pq.length m.Tr).getD i.toNat default)).getD 0 default) ((e2 ((edgL m.Pq.length m.Tr).getD i.toNat default)).getD 1 default)).length : Int) == 1) = decide ((idxP m.Tr ((edgL m.Pq.length m.Tr).getD i.toNat default).e0 ((edgL m.Pq.length m.Tr).getD i.toNat default).e1).length = 1) := by
      rw [Bool.eq_iff_iff, beq_iff_eq, decide_eq_true_iff]
      unfold e2
      simp only [List.getD_cons_zero, List.getD_cons_succ]
      omega
    rw [hc]
    rfl) (fun k i r hi => by rw [Zx, hl, decide_eq_false (by omega), cond_false]) (((Z5 m).length : Int) - 0).toNat.succ 0 [] (Int.le_refl 0) (by omega) List.Pairwise.nil
  refine sorted_ext g1 (bpL_sorted _ _) fun x => ?_
  have := g2 x
  rw [Int.toNat_zero, List.drop_zero] at this
  refine this.trans ?_
  rw [bpL_mem]
  simp only [List.not_mem_nil, false_or]
  rfl
theorem Z58 (m : Gm) (ok : OkE m.Pq.length m.Tr) : (Z4 m).length ≤ 64 := by
  rw [Z3N m ok]; exact Nat.le_trans (bpL_len _ _) ok.1
theorem Z3O (m : Gm) (ok : OkE m.Pq.length m.Tr) {i : Int} (h0 : 0 ≤ i) (hi : i < ((Z4 m).length : Int)) : 0 ≤ (Z4 m).getD i.toNat default ∧ (Z4 m).getD i.toNat default < (m.Pq.length : Int) ∧ ((Z4 m).length : Int) ≤ 64 := by
  have hl := Z58 m ok
  have hm : (Z4 m).getD i.toNat default ∈ Z4 m := by rw [List.getD_eq_getElem?_getD, List.getElem?_eq_getElem (by omega)]; exact List.getElem_mem _
  have hm2 := hm
  rw [Z3N m ok, bpL_mem] at hm2
  obtain ⟨e, he, h⟩ := hm2
  have := brL_at he
  rw [← Z3N m ok] at h
  omega
theorem Z5R (Y0 : Gm) (hp0 : Y0.Pq.length ≤ 1073741824) (hp1 : Y0.Tr.length ≤ 1073741824) (hp2 : ∀ t ∈ Y0.Tr, t.length ≤ 1073741824) (hp3 : OkE Y0.Pq.length Y0.Tr)  : Fn prog 81 [.ref (Gm.c Y0) 0] (.own 0) [.vec 2 1 ((Z4 Y0).map (cI .i64)) false] := by
 refine fnS E0Ok Z3 (c := bodyOf f81) [] (.own 0) [.vec 2 1 ((Z22 Y0).map (cI .i64)) false] func81 (sF (Z63 Y0 hp0 hp1 hp2 hp3) <| sL (mR false [0, 1, 1, 6, 39]) 2 (lp_cast (st2 := ⟨.ref (Gm.c Y0) 0 :: .any :: .nils :: .own 0 :: .own 1 :: .i .i64 0 :: .ref (Gm.c Y0) 0 :: .own 0 :: an 39 [], [.nest 79 ((Z5 Y0).map fun l => l.map (cI .i64)) false, .vec 2 1 ([] : List (List AV)) false]⟩) (lp_val (Z2W Y0) (x := (Z22 Y0)) (Z5f Y0 hp0 hp1 hp2 hp3 ((((Z5 Y0).length : Int) - 0).toNat + 1) 0 ([] : List Int) (show 0 ≤ 0 from (by omega)) (show (([] : List Int).length : Int) ≤ 2 * 0 from (by simp)) (Nat.lt_succ_self _)) rfl) (by simp [Z3W, cI])) <| sK [0] sN) rfl (by kernel_rfl) (by kernel_rfl) rfl ?_ ?_
 · rfl
 · simp [Z4]
def Z1H (YJ : Nat) : Bool := (fcmp .eql .f32 (fop .sub .f32 YJ YJ) 0)
theorem Z3r (YJ : Nat)   : Fn prog 44 [.f .f32 YJ] (.b (Z1H YJ)) [] := by
 refine fnS E0Ok Z3 (c := bodyOf f44) [] (.b (fcmp .eql .f32 (fop .sub .f32 YJ YJ) 0)) [] func44 (sK [] sN) rfl (by kernel_rfl) (by kernel_rfl) rfl ?_ ?_
 · rfl
 · rfl
def ZA (YP : Gv) : Bool := (cond (Z1H YP.X)
  (cond (Z1H YP.Y)
    (Z1H YP.Z)
    false)
  false)
theorem Z5C (YP : Gv)   : Fn prog 82 [.agg [.f .f32 YP.X, .f .f32 YP.Y, .f .f32 YP.Z]] (.b (ZA YP)) [] := by
 have p {a C} (s : Scr a C) := sF (Z3r YP.X) <| s
 cases h0 : (Z1H YP.X) with
 | true =>
  have q {a C} (s : Scr a C) := p (sB h0 <| sB h0 <| sB h0 <| sF (Z3r YP.Y) <| sB h0 <| s)
  clear p
  cases h1 : (Z1H YP.Y) with
  | true =>
   refine fnS E0Ok Z3 (c := bodyOf f82) [] (.b (Z1H YP.Z)) [] func82 (q (sB h1 <| sB h1 <| sB h1 <| sF (Z3r YP.Z) <| sB h1 <| sK [] sN)) rfl (by kernel_rfl) (by kernel_rfl) rfl ?_ ?_
   · simp only [ZA, h0, h1, cond_true]
   · rfl
  | false =>
   refine fnS E0Ok Z3 (c := bodyOf f82) [] (.b false) [] func82 (q (sB h1 <| sB h1 <| sB h1 <| sB h1 <| sK [] sN)) rfl (by kernel_rfl) (by kernel_rfl) rfl ?_ ?_
   · simp only [ZA, h0, h1, cond_true, cond_false]
   · rfl
 | false =>
  refine fnS E0Ok Z3 (c := bodyOf f82) [] (.b false) [] func82 (p (sB h0 <| sB h0 <| sB h0 <| sB h0 <| sB (show false = false from rfl) <| sB (show false = false from rfl) <| sB (show false = false from rfl) <| sB (show false = false from rfl) <| sK [] sN)) rfl (by kernel_rfl) (by kernel_rfl) rfl ?_ ?_
  · simp only [ZA, h0, cond_false]
  · rfl
def ZH (Y0 : Gm) : Nat → Int → (List Gh) → (Unit) ⊕ ((List Gh))
  | 0, _, _ => .inl default
  | k + 1, Y4, YD => (cond (decide (Y4 < ((Z4 Y0).length : Int)))
    (cond (ZA (Y0.Pq.getD ((Z4 Y0).getD Y4.toNat default).toNat default))
      (ZH Y0 k (Y4 + 1) (YD ++ [(⟨((Z4 Y0).getD Y4.toNat default), 0, (Y0.Pq.getD ((Z4 Y0).getD Y4.toNat default).toNat default), (⟨0, 0, 0⟩ : Gv)⟩ : Gh)]))
      (.inl ()))
    (.inr YD))
def Z2b (Y0 : Gm) : (Unit) ⊕ ((List Gh)) → Ex × St
  | .inl r => (.ret, ⟨.any :: .any :: .nils :: .b false :: an 35 [], []⟩)
  | .inr r => ((.exit 0), ⟨.agg [.sl (Y0.Pq.map Gv.c), .sl (Y0.Tr.map (cL (cI .i64)))] :: .ptr 0 0 0 :: .any :: .any :: .any :: .own 1 :: .any :: .any :: .b (Zt Y0) :: .b (!(Zt Y0)) :: .own 2 :: an 28 [], [.box 35 [.sl (Y0.Pq.map Gv.c), .sl (Y0.Tr.map (cL (cI .i64)))], .vec 99 8 (r.map Gh.c) false, .vec 2 1 ((Z4 Y0).map (cI .i64)) false]⟩)
def Z2c (Y0 : Gm) (Y4 : Int) (YD : (List Gh)) : St := ⟨.agg [.sl (Y0.Pq.map Gv.c), .sl (Y0.Tr.map (cL (cI .i64)))] :: .ptr 0 0 0 :: .any :: .any :: .own 1 :: .own 2 :: .i .i64 Y4 :: .any :: .b (Zt Y0) :: .b (!(Zt Y0)) :: .own 1 :: an 28 [], [.box 35 [.sl (Y0.Pq.map Gv.c), .sl (Y0.Tr.map (cL (cI .i64)))], .vec 2 1 ((Z4 Y0).map (cI .i64)) false, .vec 99 8 (YD.map Gh.c) false]⟩
theorem Z3P (Y0 : Gm) (hp0 : Y0.Pq.length ≤ 1073741824) (hp1 : Y0.Tr.length ≤ 1073741824) (hp2 : ∀ t ∈ Y0.Tr, t.length ≤ 1073741824) (Z1Y : (Zt Y0) = true) : ∀ (k : Nat) (Y4 : Int) (YD : (List Gh)) (Z1x : 0 ≤ Y4) (Z3j : (YD.length : Int) ≤ Y4) (hk : (((Z4 Y0).length : Int) - Y4).toNat < k), Lp prog 0 (sub (bodyOf f28) [1, 1, 1, 1, 0, 1, 0, 0]) (Z2c Y0 Y4 YD) (Z2b Y0 (ZH Y0 k Y4 YD)).1 (Z2b Y0 (ZH Y0 k Y4 YD)).2 := by
 intro k
 induction k with
 | zero => intro Y4 YD Z1x Z3j hk; exact absurd hk (Nat.not_lt_zero _)
 | succ k ih =>
  intro Y4 YD Z1x Z3j hk
  have p {a C} (s : Scr a C) := sZ (cI .i64) (Z4 Y0) <| s
  cases Ye : (decide (Y4 < ((Z4 Y0).length : Int))) with
  | true =>
   have Yo := odt Ye
   have Yt : (0 : Int) ≤ Y4 := by clear p; exact (by assumption)
   have Yu : Y4 < ((Z4 Y0).length : Int) := by clear p; exact (by assumption)
   have Yy : Y4.toNat < (Z4 Y0).length := by clear p; exact (by omega)
   have YC : (0 : Int) ≤ ((Z4 Y0).getD Y4.toNat default) := by clear p; exact (by ((have q := Z3O Y0 (Z2i Y0 Z1Y) Z1x (odt (by assumption)); omega)))
   have YE : ((Z4 Y0).getD Y4.toNat default) < (Y0.Pq.length : Int) := by clear p; exact (by ((have q := Z3O Y0 (Z2i Y0 Z1Y) Z1x (odt (by assumption)); omega)))
   have q {a C} (s : Scr a C) := p (sB Ye <| sK [9, 9] <| sX (cI .i64) (Z4 Y0) Y4 Yt Yu <| sV (cI .i64) (Z4 Y0) Y4.toNat Yy <| sG Gv.c Y0.Pq ((Z4 Y0).getD Y4.toNat default) YC YE <| sF (Z5C (Y0.Pq.getD ((Z4 Y0).getD Y4.toNat default).toNat default)) <| s)
   clear p
   cases Yk : (ZA (Y0.Pq.getD ((Z4 Y0).getD Y4.toNat default).toNat default)) with
   | true =>
    have YL : YD.length + ([(⟨((Z4 Y0).getD Y4.toNat default), 0, (Y0.Pq.getD ((Z4 Y0).getD Y4.toNat default).toNat default), (⟨0, 0, 0⟩ : Gv)⟩ : Gh)]).length ≤ 1073741824 := by clear q; exact (by ((have q := Z3O Y0 (Z2i Y0 Z1Y) Z1x (odt (by assumption)); (simp only [List.length_cons, List.length_nil]; omega))))
    have YU : (-9223372036854775808 : Int) ≤ (Y4 + 1) := by clear q; exact (by omega)
    have y_7 : (Y4 + 1) ≤ (9223372036854775807 : Int) := by clear q; exact (by ((have q := Z3O Y0 (Z2i Y0 Z1Y) Z1x (odt (by assumption)); omega)))
    have e : ZH Y0 (k + 1) Y4 YD = (ZH Y0 k (Y4 + 1) (YD ++ [(⟨((Z4 Y0).getD Y4.toNat default), 0, (Y0.Pq.getD ((Z4 Y0).getD Y4.toNat default).toNat default), (⟨0, 0, 0⟩ : Gv)⟩ : Gh)])) := by simp only [ZH, Ye, Yk, cond_true]
    rw [e]
    exact nextS E0Ok Z3 [] (mR false [0, 2, 2, 3, 1, 3, 28]) [0, 1, 2] (⟨.agg [.sl (Y0.Pq.map Gv.c), .sl (Y0.Tr.map (cL (cI .i64)))] :: .ptr 0 0 0 :: .any :: .any :: .own 1 :: .own 2 :: .i .i64 (Y4 + 1) :: .any :: .b (Zt Y0) :: .b (!(Zt Y0)) :: .own 1 :: an 28 [], [.box 35 [.sl (Y0.Pq.map Gv.c), .sl (Y0.Tr.map (cL (cI .i64)))], .vec 2 1 ((Z4 Y0).map (cI .i64)) false, .vec 99 8 ((YD.map Gh.c) ++ ([[.i .i64 ((Z4 Y0).getD Y4.toNat default), .i .i64 0, .f .f32 ((Y0.Pq.getD ((Z4 Y0).getD Y4.toNat default).toNat default).X), .f .f32 ((Y0.Pq.getD ((Z4 Y0).getD Y4.toNat default).toNat default).Y), .f .f32 ((Y0.Pq.getD ((Z4 Y0).getD Y4.toNat default).toNat default).Z), .f .f32 0, .f .f32 0, .f .f32 0]] : List (List AV))) false]⟩) (q (sB' Yk <| sK [8, 8] <| sX (cI .i64) (Z4 Y0) Y4 Yt Yu <| sV (cI .i64) (Z4 Y0) Y4.toNat Yy <| sC (show (YD.map Gh.c).length + ([[.i .i64 ((Z4 Y0).getD Y4.toNat default), .i .i64 0, .f .f32 ((Y0.Pq.getD ((Z4 Y0).getD Y4.toNat default).toNat default).X), .f .f32 ((Y0.Pq.getD ((Z4 Y0).getD Y4.toNat default).toNat default).Y), .f .f32 ((Y0.Pq.getD ((Z4 Y0).getD Y4.toNat default).toNat default).Z), .f .f32 0, .f .f32 0, .f .f32 0]] : List (List AV)).length ≤ 1073741824 from (by simpa using YL)) <| sI (Y4 + 1) YU y_7 <| sN)) (by kernel_rfl) (by simp [Z2c, Gh.c]) (ih (Y4 + 1) (YD ++ [(⟨((Z4 Y0).getD Y4.toNat default), 0, (Y0.Pq.getD ((Z4 Y0).getD Y4.toNat default).toNat default), (⟨0, 0, 0⟩ : Gv)⟩ : Gh)]) (show 0 ≤ (Y4 + 1) from (by omega)) (show ((YD ++ [(⟨((Z4 Y0).getD Y4.toNat default), 0, (Y0.Pq.getD ((Z4 Y0).getD Y4.toNat default).toNat default), (⟨0, 0, 0⟩ : Gv)⟩ : Gh)]).length : Int) ≤ (Y4 + 1) from (by simp_all <;> omega)) (by omega))
   | false =>
    have e : ZH Y0 (k + 1) Y4 YD = (.inl ()) := by simp only [ZH, Ye, Yk, cond_true, cond_false]
    rw [e]
    exact outR (e := .ret) E0Ok Z3 [] (mR false [2, 2, 35]) [] (q (sB' Yk <| sN)) (by kernel_rfl) (by intro h; cases h)
  | false =>
   have Yo := odf Ye
   have e : ZH Y0 (k + 1) Y4 YD = (.inr YD) := by simp only [ZH, Ye, cond_false]
   rw [e]
   exact outR (e := (.exit 0)) E0Ok Z3 [] (mR false [0, 2, 3, 1, 2, 3, 28]) [0, 2, 1] (p (sB Ye <| sN)) (by kernel_rfl) (by intro h; cases h)
def Z1E (Y0 : Gm) : (Unit) ⊕ ((List Gh)) := (ZH Y0 ((((Z4 Y0).length : Int) - 0).toNat + 1) 0 ([] : List Gh))
def Zl (Y0 : Gm) : (List Gh) × Bool := (cond (Zt Y0)
  (match (Z1E Y0) with
    | .inl r2 => (([] : List Gh), false)
    | .inr r2 => (r2, true))
  (([] : List Gh), false))
def mkH (m : Gm) (p : Int) : Gh := ⟨p, 0, m.Pq.getD p.toNat default, ⟨0, 0, 0⟩⟩
theorem Z6Y (m : Gm) : ∀ (k : Nat) (i : Int) (r : List Gh), 0 ≤ i → (((Z4 m).length : Int) - i).toNat < k → ZH m k i r = cond (((Z4 m).drop i.toNat).all fun p => ZA (m.Pq.getD p.toNat default)) (.inr (r ++ ((Z4 m).drop i.toNat).map (mkH m))) (.inl ()) := by
  intro k
  induction k with
  | zero => intro i r _ hk; exact absurd hk (Nat.not_lt_zero _)
  | succ k ih =>
    intro i r h0 hk
    rw [ZH]
    by_cases hi : i < ((Z4 m).length : Int)
    · have hn : i.toNat < (Z4 m).length := by omega
      have hg : (Z4 m).getD i.toNat default = (Z4 m)[i.toNat] := by rw [List.getD_eq_getElem?_getD, List.getElem?_eq_getElem hn]; rfl
      rw [decide_eq_true hi, cond_true, hg, List.drop_eq_getElem_cons hn, List.all_cons, ih _ _ (by omega) (by omega), show (i + 1).toNat = i.toNat + 1 from by omega]
      cases ZA (m.Pq.getD (Z4 m)[i.toNat].toNat default) with
      | false => rfl
      | true =>
        rw [cond_true, Bool.true_and, List.map_cons, List.append_assoc]
        rfl
    · rw [decide_eq_false hi, cond_false, List.drop_eq_nil_of_le (by omega)]; simp
theorem Z4d (m : Gm) : Zl m = cond (Zt m) (cond ((Z4 m).all fun p => ZA (m.Pq.getD p.toNat default)) ((Z4 m).map (mkH m), true) ([], false)) ([], false) := by
  unfold Zl Z1E
  rw [Z6Y m _ _ _ (Int.le_refl 0) (Nat.lt_succ_self _)]
  rw [Int.toNat_zero, List.drop_zero, List.nil_append]
  cases Zt m <;> cases ((Z4 m).all fun p => ZA (m.Pq.getD p.toNat default)) <;> rfl
theorem Z4e (m : Gm) : (Zl m).1.length ≤ 64 := by
  rw [Z4d]
  cases h : Zt m with
  | false => exact Nat.zero_le _
  | true =>
    have := Z58 m (Z2i m h)
    cases ((Z4 m).all fun p => ZA (m.Pq.getD p.toNat default)) <;> simp [this]
theorem Z5D (Y0 : Gm) (hp0 : Y0.Pq.length ≤ 1073741824) (hp1 : Y0.Tr.length ≤ 1073741824) (hp2 : ∀ t ∈ Y0.Tr, t.length ≤ 1073741824)  : Fn prog 28 [.agg [.sl (Y0.Pq.map Gv.c), .sl (Y0.Tr.map (cL (cI .i64)))]] (.tup [.own 0, .b ((Zl Y0).2)]) [.vec 99 8 (((Zl Y0).1).map Gh.c) false] := by
 have p {a C} (s : Scr a C) := sF (Z6w Y0 hp0 hp1 hp2) <| s
 cases h0 : (Zt Y0) with
 | true =>
  have y0 : OkE Y0.Pq.length Y0.Tr := by clear p; exact (by exact Z2i _ (by assumption))
  have q {a C} (s : Scr a C) := p (sB' h0 <| sF (Z5R Y0 hp0 hp1 hp2 y0) <| s)
  clear p
  cases h1 : (Z1E Y0) with
  | inl r2 =>
   refine fnS E0Ok Z3 (c := bodyOf f28) [(.tm 2, .vec 99 8 [] false)] (.tup [.own 0, .b false]) [.vec 99 8 [] false] func28 (q (sL (mR false [0, 2, 2, 3, 1, 3, 28]) 3 (lp_cast (st2 := ⟨.agg [.sl (Y0.Pq.map Gv.c), .sl (Y0.Tr.map (cL (cI .i64)))] :: .ptr 0 0 0 :: .any :: .any :: .own 1 :: .own 2 :: .i .i64 0 :: .any :: .b (Zt Y0) :: .b (!(Zt Y0)) :: .own 1 :: an 28 [], [.box 35 [.sl (Y0.Pq.map Gv.c), .sl (Y0.Tr.map (cL (cI .i64)))], .vec 2 1 ((Z4 Y0).map (cI .i64)) false, .vec 99 8 ([] : List (List AV)) false]⟩) (lp_val (Z2b Y0) (x := (Z1E Y0)) (Z3P Y0 hp0 hp1 hp2 h0 ((((Z4 Y0).length : Int) - 0).toNat + 1) 0 ([] : List Gh) (show 0 ≤ 0 from (by omega)) (show (([] : List Gh).length : Int) ≤ 0 from (by simp)) (Nat.lt_succ_self _)) h1) (by simp [Z2c, Gh.c])) <| sK [0] sN)) rfl (by kernel_rfl) (by kernel_rfl) rfl ?_ ?_
   · simp only [Zl, h0, h1, cond_true]
   · simp [Zl, h0, h1, Gh.c]
  | inr r2 =>
   refine fnS E0Ok Z3 (c := bodyOf f28) [] (.tup [.own 0, .b true]) [.vec 99 8 (r2.map Gh.c) false] func28 (q (sL (mR false [0, 2, 2, 3, 1, 3, 28]) 3 (lp_cast (st2 := ⟨.agg [.sl (Y0.Pq.map Gv.c), .sl (Y0.Tr.map (cL (cI .i64)))] :: .ptr 0 0 0 :: .any :: .any :: .own 1 :: .own 2 :: .i .i64 0 :: .any :: .b (Zt Y0) :: .b (!(Zt Y0)) :: .own 1 :: an 28 [], [.box 35 [.sl (Y0.Pq.map Gv.c), .sl (Y0.Tr.map (cL (cI .i64)))], .vec 2 1 ((Z4 Y0).map (cI .i64)) false, .vec 99 8 ([] : List (List AV)) false]⟩) (lp_val (Z2b Y0) (x := (Z1E Y0)) (Z3P Y0 hp0 hp1 hp2 h0 ((((Z4 Y0).length : Int) - 0).toNat + 1) 0 ([] : List Gh) (show 0 ≤ 0 from (by omega)) (show (([] : List Gh).length : Int) ≤ 0 from (by simp)) (Nat.lt_succ_self _)) h1) (by simp [Z2c, Gh.c])) <| sK [1] sN)) rfl (by kernel_rfl) (by kernel_rfl) rfl ?_ ?_
   · simp only [Zl, h0, h1, cond_true]
   · simp [Zl, h0, h1]
 | false =>
  refine fnS E0Ok Z3 (c := bodyOf f28) [(.tm 2, .vec 99 8 [] false)] (.tup [.own 0, .b false]) [.vec 99 8 [] false] func28 (p (sB' h0 <| sK [1] sN)) rfl (by kernel_rfl) (by kernel_rfl) rfl ?_ ?_
  · simp only [Zl, h0, cond_false]
  · simp [Zl, h0, Gh.c]
def ZY (YY : Int) (YM : Int) (YH : Int) : Bool := (cond (decide (YY ≥ YM))
  (decide (YY ≤ YH))
  false)
theorem Z4o (YY : Int) (YM : Int) (YH : Int)   : Fn prog 75 [.i .i64 YY, .i .i64 YM, .i .i64 YH] (.b (ZY YY YM YH)) [] := by
 cases h0 : (decide (YY ≥ YM)) with
 | true =>
  have gh0 := odt h0
  refine fnS E0Ok Z3 (c := bodyOf f75) [] (.b (decide (YY ≤ YH))) [] func75 (sB h0 <| sB h0 <| sB h0 <| sB h0 <| sK [] sN) rfl (by kernel_rfl) (by kernel_rfl) rfl ?_ ?_
  · simp only [ZY, h0, cond_true]
  · rfl
 | false =>
  have gh0 := odf h0
  refine fnS E0Ok Z3 (c := bodyOf f75) [] (.b false) [] func75 (sB h0 <| sB h0 <| sB h0 <| sB h0 <| sK [] sN) rfl (by kernel_rfl) (by kernel_rfl) rfl ?_ ?_
  · simp only [ZY, h0, cond_false]
  · rfl
def ZS (Y0 : Gm) (Y3 : Int) : Nat → Int → (Unit) ⊕ (Unit)
  | 0, _ => .inl default
  | k + 1, Y8 => (cond (decide (Y8 < ((Y0.Tr.getD Y3.toNat default).length : Int)))
    (cond (ZY ((Y0.Tr.getD Y3.toNat default).getD Y8.toNat default) 0 (IntKind.wrap .i64 ((Y0.Pq.length : Int) - 1)))
      (ZS Y0 Y3 k (Y8 + 1))
      (.inl ()))
    (.inr ()))
def Z2m (Y0 : Gm) (Y3 : Int) : (Unit) ⊕ (Unit) → Ex × St
  | .inl r => (.ret, ⟨.any :: .any :: .b false :: an 66 [], []⟩)
  | .inr r => ((.exit 2), ⟨.agg [.sl (Y0.Pq.map Gv.c), .sl (Y0.Tr.map (cL (cI .i64)))] :: .ptr 0 0 0 :: .any :: .i .i64 (Y0.Pq.length : Int) :: .any :: .sl ((Y0.Tr.getD Y3.toNat default).map (cI .i64)) :: .any :: .any :: .ptr 0 0 0 :: .sl (Y0.Pq.map Gv.c) :: .i .i64 (Y0.Pq.length : Int) :: .i .i64 (Y0.Pq.length : Int) :: .b (decide ((Y0.Pq.length : Int) > 64)) :: .b (decide ((Y0.Pq.length : Int) > 64)) :: .ptr 0 0 1 :: .sl (Y0.Tr.map (cL (cI .i64))) :: .i .i64 (Y0.Tr.length : Int) :: .b (decide ((Y0.Tr.length : Int) > 128)) :: .b (decide ((Y0.Tr.length : Int) > 128)) :: .ptr 0 0 1 :: .sl (Y0.Tr.map (cL (cI .i64))) :: .i .i64 (Y0.Tr.length : Int) :: .i .i64 Y3 :: .b (decide (Y3 < (Y0.Tr.length : Int))) :: .ref [.sl ((Y0.Tr.getD Y3.toNat default).map (cI .i64))] 0 :: .sl ((Y0.Tr.getD Y3.toNat default).map (cI .i64)) :: .sl ((Y0.Tr.getD Y3.toNat default).map (cI .i64)) :: .i .i64 ((Y0.Tr.getD Y3.toNat default).length : Int) :: .b (((Y0.Tr.getD Y3.toNat default).length : Int) != 3) :: .b (((Y0.Tr.getD Y3.toNat default).length : Int) != 3) :: .sl ((Y0.Tr.getD Y3.toNat default).map (cI .i64)) :: .ref [.i .i64 ((Y0.Tr.getD Y3.toNat default).getD 0 default)] 0 :: .i .i64 ((Y0.Tr.getD Y3.toNat default).getD 0 default) :: .sl ((Y0.Tr.getD Y3.toNat default).map (cI .i64)) :: .ref [.i .i64 ((Y0.Tr.getD Y3.toNat default).getD 1 default)] 0 :: .i .i64 ((Y0.Tr.getD Y3.toNat default).getD 1 default) :: .b (((Y0.Tr.getD Y3.toNat default).getD 0 default) == ((Y0.Tr.getD Y3.toNat default).getD 1 default)) :: .b (((Y0.Tr.getD Y3.toNat default).getD 0 default) == ((Y0.Tr.getD Y3.toNat default).getD 1 default)) :: .b (((Y0.Tr.getD Y3.toNat default).getD 0 default) == ((Y0.Tr.getD Y3.toNat default).getD 1 default)) :: .sl ((Y0.Tr.getD Y3.toNat default).map (cI .i64)) :: .ref [.i .i64 ((Y0.Tr.getD Y3.toNat default).getD 1 default)] 0 :: .i .i64 ((Y0.Tr.getD Y3.toNat default).getD 1 default) :: .sl ((Y0.Tr.getD Y3.toNat default).map (cI .i64)) :: .ref [.i .i64 ((Y0.Tr.getD Y3.toNat default).getD 2 default)] 0 :: .i .i64 ((Y0.Tr.getD Y3.toNat default).getD 2 default) :: .b (((Y0.Tr.getD Y3.toNat default).getD 1 default) == ((Y0.Tr.getD Y3.toNat default).getD 2 default)) :: .b (((Y0.Tr.getD Y3.toNat default).getD 1 default) == ((Y0.Tr.getD Y3.toNat default).getD 2 default)) :: .b (((Y0.Tr.getD Y3.toNat default).getD 1 default) == ((Y0.Tr.getD Y3.toNat default).getD 2 default)) :: .sl ((Y0.Tr.getD Y3.toNat default).map (cI .i64)) :: .ref [.i .i64 ((Y0.Tr.getD Y3.toNat default).getD 0 default)] 0 :: .i .i64 ((Y0.Tr.getD Y3.toNat default).getD 0 default) :: .sl ((Y0.Tr.getD Y3.toNat default).map (cI .i64)) :: .ref [.i .i64 ((Y0.Tr.getD Y3.toNat default).getD 2 default)] 0 :: .i .i64 ((Y0.Tr.getD Y3.toNat default).getD 2 default) :: .b (((Y0.Tr.getD Y3.toNat default).getD 0 default) == ((Y0.Tr.getD Y3.toNat default).getD 2 default)) :: .b (((Y0.Tr.getD Y3.toNat default).getD 0 default) == ((Y0.Tr.getD Y3.toNat default).getD 2 default)) :: .sl ((Y0.Tr.getD Y3.toNat default).map (cI .i64)) :: .i .i64 ((Y0.Tr.getD Y3.toNat default).length : Int) :: an 11 [], [.box 35 [.sl (Y0.Pq.map Gv.c), .sl (Y0.Tr.map (cL (cI .i64)))]]⟩)
def Z5g (Y0 : Gm) (Y3 : Int) (Y8 : Int) : St := ⟨.agg [.sl (Y0.Pq.map Gv.c), .sl (Y0.Tr.map (cL (cI .i64)))] :: .ptr 0 0 0 :: .any :: .i .i64 (Y0.Pq.length : Int) :: .any :: .sl ((Y0.Tr.getD Y3.toNat default).map (cI .i64)) :: .any :: .any :: .ptr 0 0 0 :: .sl (Y0.Pq.map Gv.c) :: .i .i64 (Y0.Pq.length : Int) :: .i .i64 (Y0.Pq.length : Int) :: .b (decide ((Y0.Pq.length : Int) > 64)) :: .b (decide ((Y0.Pq.length : Int) > 64)) :: .ptr 0 0 1 :: .sl (Y0.Tr.map (cL (cI .i64))) :: .i .i64 (Y0.Tr.length : Int) :: .b (decide ((Y0.Tr.length : Int) > 128)) :: .b (decide ((Y0.Tr.length : Int) > 128)) :: .ptr 0 0 1 :: .sl (Y0.Tr.map (cL (cI .i64))) :: .i .i64 (Y0.Tr.length : Int) :: .i .i64 Y3 :: .b (decide (Y3 < (Y0.Tr.length : Int))) :: .ref [.sl ((Y0.Tr.getD Y3.toNat default).map (cI .i64))] 0 :: .sl ((Y0.Tr.getD Y3.toNat default).map (cI .i64)) :: .sl ((Y0.Tr.getD Y3.toNat default).map (cI .i64)) :: .i .i64 ((Y0.Tr.getD Y3.toNat default).length : Int) :: .b (((Y0.Tr.getD Y3.toNat default).length : Int) != 3) :: .b (((Y0.Tr.getD Y3.toNat default).length : Int) != 3) :: .sl ((Y0.Tr.getD Y3.toNat default).map (cI .i64)) :: .ref [.i .i64 ((Y0.Tr.getD Y3.toNat default).getD 0 default)] 0 :: .i .i64 ((Y0.Tr.getD Y3.toNat default).getD 0 default) :: .sl ((Y0.Tr.getD Y3.toNat default).map (cI .i64)) :: .ref [.i .i64 ((Y0.Tr.getD Y3.toNat default).getD 1 default)] 0 :: .i .i64 ((Y0.Tr.getD Y3.toNat default).getD 1 default) :: .b (((Y0.Tr.getD Y3.toNat default).getD 0 default) == ((Y0.Tr.getD Y3.toNat default).getD 1 default)) :: .b (((Y0.Tr.getD Y3.toNat default).getD 0 default) == ((Y0.Tr.getD Y3.toNat default).getD 1 default)) :: .b (((Y0.Tr.getD Y3.toNat default).getD 0 default) == ((Y0.Tr.getD Y3.toNat default).getD 1 default)) :: .sl ((Y0.Tr.getD Y3.toNat default).map (cI .i64)) :: .ref [.i .i64 ((Y0.Tr.getD Y3.toNat default).getD 1 default)] 0 :: .i .i64 ((Y0.Tr.getD Y3.toNat default).getD 1 default) :: .sl ((Y0.Tr.getD Y3.toNat default).map (cI .i64)) :: .ref [.i .i64 ((Y0.Tr.getD Y3.toNat default).getD 2 default)] 0 :: .i .i64 ((Y0.Tr.getD Y3.toNat default).getD 2 default) :: .b (((Y0.Tr.getD Y3.toNat default).getD 1 default) == ((Y0.Tr.getD Y3.toNat default).getD 2 default)) :: .b (((Y0.Tr.getD Y3.toNat default).getD 1 default) == ((Y0.Tr.getD Y3.toNat default).getD 2 default)) :: .b (((Y0.Tr.getD Y3.toNat default).getD 1 default) == ((Y0.Tr.getD Y3.toNat default).getD 2 default)) :: .sl ((Y0.Tr.getD Y3.toNat default).map (cI .i64)) :: .ref [.i .i64 ((Y0.Tr.getD Y3.toNat default).getD 0 default)] 0 :: .i .i64 ((Y0.Tr.getD Y3.toNat default).getD 0 default) :: .sl ((Y0.Tr.getD Y3.toNat default).map (cI .i64)) :: .ref [.i .i64 ((Y0.Tr.getD Y3.toNat default).getD 2 default)] 0 :: .i .i64 ((Y0.Tr.getD Y3.toNat default).getD 2 default) :: .b (((Y0.Tr.getD Y3.toNat default).getD 0 default) == ((Y0.Tr.getD Y3.toNat default).getD 2 default)) :: .b (((Y0.Tr.getD Y3.toNat default).getD 0 default) == ((Y0.Tr.getD Y3.toNat default).getD 2 default)) :: .sl ((Y0.Tr.getD Y3.toNat default).map (cI .i64)) :: .i .i64 ((Y0.Tr.getD Y3.toNat default).length : Int) :: .i .i64 Y8 :: an 10 [], [.box 35 [.sl (Y0.Pq.map Gv.c), .sl (Y0.Tr.map (cL (cI .i64)))]]⟩
end Go.Ab
