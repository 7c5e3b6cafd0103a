/- The functions of this seat as plain Lean, and that the program's are these. Printed by a program of the prover's own. -/
import Derived.Test.YtpndflbllggeiaaGreatB2
set_option linter.unusedVariables false
set_option linter.unusedSimpArgs false
set_option maxRecDepth 100000
namespace Go.Ab
open Go.RowKit Go.Proofs.Tryz
def Z4G (Y2 : GMesh) : (List (List Int)) := (Z2F Y2 (((Y2.Places.length : Int) - 0).toNat + 1) 0 ([] : List (List Int)))
def Z8 (Y2 : GMesh) : (List (List Int)) := (Z4G Y2)
theorem Zgg (m : GMesh) (i : Int) (r : List Bool) : Z23 m i r = ((r.set (IntKind.wrap .i64 (IntKind.wrap .i64 (Z3c ((m.Triangles.getD i.toNat default).getD 0 default) ((m.Triangles.getD i.toNat default).getD 1 default) * (m.Places.length : Int)) + Z3d ((m.Triangles.getD i.toNat default).getD 0 default) ((m.Triangles.getD i.toNat default).getD 1 default))).toNat true).set (IntKind.wrap .i64 (IntKind.wrap .i64 (Z3c ((m.Triangles.getD i.toNat default).getD 1 default) ((m.Triangles.getD i.toNat default).getD 2 default) * (m.Places.length : Int)) + Z3d ((m.Triangles.getD i.toNat default).getD 1 default) ((m.Triangles.getD i.toNat default).getD 2 default))).toNat true).set (IntKind.wrap .i64 (IntKind.wrap .i64 (Z3c ((m.Triangles.getD i.toNat default).getD 2 default) ((m.Triangles.getD i.toNat default).getD 0 default) * (m.Places.length : Int)) + Z3d ((m.Triangles.getD i.toNat default).getD 2 default) ((m.Triangles.getD i.toNat default).getD 0 default))).toNat true := by
  have one : ∀ (r0 : List Bool) (k : Nat) (x : Int) (s : List Bool), x < 3 → ZO m i r0 (k + 1) x s = ZO m i r0 k (x + 1) (s.set (IntKind.wrap .i64 (IntKind.wrap .i64 (Z1r m i x * (m.Places.length : Int)) + Z1B m i x)).toNat true) := by
    intro r0 k x s hx
    rw [ZO, decide_eq_true hx, cond_true]
  unfold Z23
  show ZO m i r 4 0 r = _
  rw [one r 3 0 r (by omega), one r 2 (0 + 1) _ (by omega), one r 1 (0 + 1 + 1) _ (by omega), ZO]
  show cond (decide ((3 : Int) < 3)) _ _ = _
  rw [decide_eq_false (by omega), cond_false]
  rfl
theorem Zgh (m : GMesh) (ok : OkE m.Places.length m.Triangles) {a b : Int} (ha : 0 ≤ a) (hab : a < b) (hb : b < (m.Places.length : Int)) : ∀ (k : Nat) (i : Nat) (r : List Bool), i ≤ m.Triangles.length → ((m.Triangles.length : Int) - i).toNat < k → r.length = (IntKind.wrap .i64 ((m.Places.length : Int) * (m.Places.length : Int))).toNat →
    (Z1b m k i r).getD (IntKind.wrap .i64 (IntKind.wrap .i64 (a * (m.Places.length : Int)) + b)).toNat default = (r.getD (IntKind.wrap .i64 (IntKind.wrap .i64 (a * (m.Places.length : Int)) + b)).toNat default || (m.Triangles.drop i).any fun t => tHas t a b) := by
  intro k
  induction k with
  | zero => intro i r _ hk; exact absurd hk (Nat.not_lt_zero _)
  | succ k ih =>
    intro i r hle hk hr
    rw [Z1b]
    by_cases hi : (i : Int) < (m.Triangles.length : Int)
    · have hn : i < m.Triangles.length := by omega
      rw [decide_eq_true hi, cond_true]
      have := ih (i + 1) (Z23 m i r) (by omega) (by omega) (by rw [Z9l]; exact hr)
      rw [show ((i : Int) + 1) = ((i + 1 : Nat) : Int) from by omega, this, Zgg, List.drop_eq_getElem_cons hn, List.any_cons]
      have hg : m.Triangles.getD ((i : Nat) : Int).toNat default = m.Triangles[i] := by rw [show ((i : Nat) : Int).toNat = i from by omega, List.getD_eq_getElem?_getD, List.getElem?_eq_getElem hn]; rfl
      obtain ⟨x, y, z, ht, r1, r2, r3, n1, n2, n3⟩ := ok.2.2 _ (List.getElem_mem hn)
      have h64 : (m.Places.length : Int) ≤ 64 := by have := ok.1; omega
      rw [hg, ht]
      simp only [List.getD_cons_zero, List.getD_cons_succ]
      rw [seen_set h64 (Zb4 z x) (Z9S r3 r1) (Z9T r3 r1) ha hab hb (by simpa using hr), seen_set h64 (Zb4 y z) (Z9S r2 r3) (Z9T r2 r3) ha hab hb (by simpa using hr), seen_set h64 (Zb4 x y) (Z9S r1 r2) (Z9T r1 r2) ha hab hb hr]
      have hT := mem_tE n1 n2 n3 hab
      unfold tE at hT
      simp only [List.getD_cons_zero, List.getD_cons_succ, List.mem_cons, List.not_mem_nil, or_false] at hT
      generalize r.getD (IntKind.wrap .i64 (IntKind.wrap .i64 (a * (m.Places.length : Int)) + b)).toNat default = q
      generalize ((m.Triangles.drop (i + 1)).any fun t => tHas t a b) = q2
      have hB : tHas [x, y, z] a b = (decide ((⟨a, b⟩ : Gedge) = mkE x y) || (decide ((⟨a, b⟩ : Gedge) = mkE y z) || decide ((⟨a, b⟩ : Gedge) = mkE z x))) := by
        rw [Bool.eq_iff_iff, ← hT]; simp only [Bool.or_eq_true, decide_eq_true_eq]
      rw [hB]
      cases decide ((⟨a, b⟩ : Gedge) = mkE x y) <;> cases decide ((⟨a, b⟩ : Gedge) = mkE y z) <;> cases decide ((⟨a, b⟩ : Gedge) = mkE z x) <;> cases q <;> cases q2 <;> rfl
    · rw [decide_eq_false hi, cond_false, List.drop_eq_nil_of_le (by omega)]; simp
theorem Zgp (m : GMesh) (ok : OkE m.Places.length m.Triangles) {a b : Int} (ha : 0 ≤ a) (hab : a < b) (hb : b < (m.Places.length : Int)) :
    (ZH m).getD (IntKind.wrap .i64 (IntKind.wrap .i64 (a * (m.Places.length : Int)) + b)).toNat default = m.Triangles.any fun t => tHas t a b := by
  unfold ZH
  have := Zgh m ok ha hab hb (((m.Triangles.length : Int) - 0).toNat + 1) 0 (List.replicate (IntKind.wrap .i64 ((m.Places.length : Int) * (m.Places.length : Int))).toNat false) (Nat.zero_le _) (by omega) (by simp)
  rw [List.drop_zero] at this
  refine this.trans ?_
  rw [List.getD_eq_getElem?_getD, List.getElem?_replicate]
  split <;> simp
theorem Zat (m : GMesh) (ok : OkE m.Places.length m.Triangles) : Z8 m = (edgL m.Places.length m.Triangles).map e2 := by
  rw [edgL_map]
  unfold Z8 Z4G
  refine pair_loop (n := m.Places.length) (p := fun a b => m.Triangles.any fun t => tHas t a b) (g := fun a b => e2 ⟨a, b⟩) (lo := Z2F m) (li := Z31 m) (fun k a r => rfl) (fun a r ha => ?_) _ 0 (Nat.zero_le _) (by omega)
  unfold Z31
  have hf := filt_loop (n := (m.Places.length : Int)) (f := fun b => !((ZH m).getD ((IntKind.wrap .i64 ((IntKind.wrap .i64 ((a : Int) * (m.Places.length : Int))) + b)).toNat) default)) (g := fun b => [(a : Int), b]) (lo := Z1c m a r) (fun k i r' => by
    rw [Z1c]
    cases ((ZH m).getD ((IntKind.wrap .i64 ((IntKind.wrap .i64 ((a : Int) * (m.Places.length : Int))) + i)).toNat) default) <;> rfl) (((m.Places.length : Int) - ((a : Int) + 1)).toNat + 1) ((a : Int) + 1) r (Nat.lt_succ_self _)
  rw [hf, show ((m.Places.length : Int) - ((a : Int) + 1)).toNat = m.Places.length - (a + 1) from by omega]
  congr 1
  have hfc : ((List.range (m.Places.length - (a + 1))).filter fun (j : Nat) => !(!((ZH m).getD ((IntKind.wrap .i64 ((IntKind.wrap .i64 ((a : Int) * (m.Places.length : Int))) + ((a : Int) + 1 + (j : Int)))).toNat) default))) = (List.range (m.Places.length - (a + 1))).filter fun (j : Nat) => m.Triangles.any fun t => tHas t a ((a : Int) + 1 + j) := by
    refine List.filter_congr fun j hj => ?_
    rw [List.mem_range] at hj
    rw [Bool.not_not, Zgp m ok (by omega) (by omega) (by omega)]
  rw [hfc]
  rfl
theorem Zf8 (m : GMesh) (ok : OkE m.Places.length m.Triangles) : (Z8 m).length ≤ 4096 := by
  rw [Zat m ok, List.length_map]; exact edgL_len ok
theorem Z4R (m : GMesh) (ok : OkE m.Places.length m.Triangles) {i : Int} (h0 : 0 ≤ i) (hi : i < ((Z8 m).length : Int)) :
    ((Z8 m).getD i.toNat default).length = 2 ∧ 0 ≤ ((Z8 m).getD i.toNat default).getD 0 default ∧ ((Z8 m).getD i.toNat default).getD 0 default < ((Z8 m).getD i.toNat default).getD 1 default ∧ ((Z8 m).getD i.toNat default).getD 1 default < (m.Places.length : Int) ∧ (m.Places.length : Int) ≤ 64 ∧ ((Z8 m).length : Int) ≤ 4096 := by
  have hl := Zf8 m ok
  have h64 := ok.1
  rw [Zat m ok] at hi hl ⊢
  rw [List.length_map] at hi hl
  have hn : i.toNat < (edgL m.Places.length m.Triangles).length := by omega
  have hg : ((edgL m.Places.length m.Triangles).map e2).getD i.toNat default = e2 (edgL m.Places.length m.Triangles)[i.toNat] := by rw [List.getD_eq_getElem?_getD, List.getElem?_map, List.getElem?_eq_getElem hn]; rfl
  have hb := edgL_at (List.getElem_mem hn)
  rw [hg, List.length_map]
  exact ⟨rfl, hb.1, hb.2.1, hb.2.2, by omega, by omega⟩
theorem ZdJ (Y2 : GMesh) (hp0 : Y2.Places.length ≤ 1073741824) (hp1 : Y2.Triangles.length ≤ 1073741824) (hp2 : ∀ t ∈ Y2.Triangles, t.length ≤ 1073741824) (hp3 : OkE Y2.Places.length Y2.Triangles)  : Fn prog 137 [.ref (GMesh.cells Y2) 0] (.own 0) [.nest 49 ((Z8 Y2).map fun l => l.map (cI .i64)) false] := by
 have y0 : (0 : Int) ≤ (IntKind.wrap .i64 ((Y2.Places.length : Int) * (Y2.Places.length : Int))) := (by (have q2 := ixN hp3.1; omega))
 have y1 : ((IntKind.wrap .i64 ((Y2.Places.length : Int) * (Y2.Places.length : Int))) : Int) ≤ 2147483648 := (by (have q2 := ixN hp3.1; omega))
 refine fnS E0Ok Z5 (c := bodyOf f137) [] (.own 0) [.nest 49 ((Z4G Y2).map fun l => l.map (cI .i64)) false] func137 (sZ GVector.cells Y2.Places <| sW .i64 ((Y2.Places.length : Int) * (Y2.Places.length : Int)) <| sC (show (IntKind.wrap .i64 ((Y2.Places.length : Int) * (Y2.Places.length : Int))) = (IntKind.wrap .i64 ((Y2.Places.length : Int) * (Y2.Places.length : Int))) from rfl) <| sC y0 <| sC y1 <| sL (mR false [0, 1, 1, 4, 7, 9, 69]) 1 (lp_cast (st2 := ⟨.ref (GMesh.cells Y2) 0 :: .any :: .nils :: .i .i64 (Y2.Places.length : Int) :: .own 0 :: .i .i64 0 :: an 7 (.ref (GMesh.cells Y2) 0 :: .ref (GMesh.cells Y2) 0 :: .ref (GMesh.cells Y2) 0 :: .sl (Y2.Places.map GVector.cells) :: .i .i64 (Y2.Places.length : Int) :: .i .i64 (Y2.Places.length : Int) :: .i .i64 (Y2.Places.length : Int) :: .i .i64 (IntKind.wrap .i64 ((Y2.Places.length : Int) * (Y2.Places.length : Int))) :: .own 0 :: an 69 []), [.vec 4 1 (List.replicate (Int.toNat (IntKind.wrap .i64 ((Y2.Places.length : Int) * (Y2.Places.length : Int)))) [.b false]) false]⟩) (lp_val (Z6z Y2) (x := (ZH Y2)) (Zc6 Y2 hp0 hp1 hp2 hp3 (((Y2.Triangles.length : Int) - 0).toNat + 1) 0 (List.replicate (IntKind.wrap .i64 ((Y2.Places.length : Int) * (Y2.Places.length : Int))).toNat false) (show 0 ≤ 0 from (by omega)) (show (List.replicate (IntKind.wrap .i64 ((Y2.Places.length : Int) * (Y2.Places.length : Int))).toNat false).length = (IntKind.wrap .i64 ((Y2.Places.length : Int) * (Y2.Places.length : Int))).toNat from (by simp)) (Nat.lt_succ_self _)) rfl) (by simp [Z8Z, cB])) <| sL (mR false [0, 1, 1, 3, 5, 2, 1, 9, 69]) 2 (lp_cast (st2 := ⟨.ref (GMesh.cells Y2) 0 :: .any :: .nils :: .i .i64 (Y2.Places.length : Int) :: .own 0 :: an 5 (.own 1 :: .i .i64 0 :: .any :: .ref (GMesh.cells Y2) 0 :: .ref (GMesh.cells Y2) 0 :: .ref (GMesh.cells Y2) 0 :: .sl (Y2.Places.map GVector.cells) :: .i .i64 (Y2.Places.length : Int) :: .i .i64 (Y2.Places.length : Int) :: .i .i64 (Y2.Places.length : Int) :: .i .i64 (IntKind.wrap .i64 ((Y2.Places.length : Int) * (Y2.Places.length : Int))) :: .own 0 :: an 69 []), [.vec 4 1 ((ZH Y2).map cB) false, .nest 49 [] false]⟩) (lp_val (Z6B Y2) (x := (Z4G Y2)) (Zc8 Y2 hp0 hp1 hp2 hp3 (((Y2.Places.length : Int) - 0).toNat + 1) 0 ([] : List (List Int)) (show 0 ≤ 0 from (by omega)) (show (([] : List (List Int)).length : Int) ≤ 64 * 0 from (by simp)) (Nat.lt_succ_self _)) rfl) (by simp [Z91, cL, cI])) <| sK [1] sN) rfl (by kernel_rfl) (by kernel_rfl) rfl ?_ ?_
 · rfl
 · simp [Z8]
def Z24 (Yn : (List Int)) (YV : Int) : Nat → Int → (Unit) ⊕ (Unit)
  | 0, _ => .inl default
  | k + 1, Y7 => (cond (decide (Y7 < (Yn.length : Int)))
    (cond ((Yn.getD Y7.toNat default) == YV)
      (.inl ())
      (Z24 Yn YV k (Y7 + 1)))
    (.inr ()))
def Z5H (Yn : (List Int)) (YV : Int) : (Unit) ⊕ (Unit) → Ex × St
  | .inl r => (.ret, ⟨an 4 (.b true :: an 13 []), []⟩)
  | .inr r => ((.exit 0), ⟨an 18 [], []⟩)
def Zdf (Yn : (List Int)) (YV : Int) (Y7 : Int) : St := ⟨.sl (Yn.map (cI .i64)) :: .i .i64 YV :: .any :: .any :: .any :: .i .i64 Y7 :: an 12 [], []⟩
theorem Z9U (Yn : (List Int)) (YV : Int) (hp0 : Yn.length ≤ 1073741824) : ∀ (k : Nat) (Y7 : Int) (Z92 : 0 ≤ Y7) (hk : ((Yn.length : Int) - Y7).toNat < k), Lp prog 0 (sub (bodyOf f127) [1, 0, 1, 0, 0]) (Zdf Yn YV Y7) (Z5H Yn YV (Z24 Yn YV k Y7)).1 (Z5H Yn YV (Z24 Yn YV k Y7)).2 := by
 intro k
 induction k with
 | zero => intro Y7 Z92 hk; exact absurd hk (Nat.not_lt_zero _)
 | succ k ih =>
  intro Y7 Z92 hk
  have p {a C} (s : Scr a C) := sZ (cI .i64) Yn <| s
  cases Yl : (decide (Y7 < (Yn.length : Int))) with
  | true =>
   have Yw := of_decide_eq_true Yl
   have YF : (0 : Int) ≤ Y7 := by clear p; exact (by assumption)
   have YG : Y7 < (Yn.length : Int) := by clear p; exact (by assumption)
   have q {a C} (s : Scr a C) := p (sB Yl <| sG (cI .i64) Yn Y7 YF YG <| s)
   clear p
   cases Yr : ((Yn.getD Y7.toNat default) == YV) with
   | true =>
    have Y10 := eq_of_beq Yr
    have e : Z24 Yn YV (k + 1) Y7 = (.inl ()) := by simp only [Z24, Yl, Yr, cond_true]
    rw [e]
    exact outR (e := .ret) E0Ok Z5 [] (mR false [4, 1, 13]) [] (q (sB Yr <| sN)) (by kernel_rfl) (by intro h; cases h)
   | false =>
    have Y10 := ne_of_beq_false Yr
    have YH : (-9223372036854775808 : Int) ≤ (Y7 + 1) := by clear q; exact (by omega)
    have YI : (Y7 + 1) ≤ (9223372036854775807 : Int) := by clear q; exact (by omega)
    have e : Z24 Yn YV (k + 1) Y7 = (Z24 Yn YV k (Y7 + 1)) := by simp only [Z24, Yl, Yr, cond_true, cond_false]
    rw [e]
    exact nextR E0Ok Z5 [] (mR false [0, 2, 3, 1, 12]) [] (ih (Y7 + 1) (show 0 ≤ (Y7 + 1) from (by omega)) (by omega)) (q (sB Yr <| sI (Y7 + 1) YH YI <| sN)) (by kernel_rfl)
  | false =>
   have Yw := of_decide_eq_false Yl
   have e : Z24 Yn YV (k + 1) Y7 = (.inr ()) := by simp only [Z24, Yl, cond_false]
   rw [e]
   exact outR (e := (.exit 0)) E0Ok Z5 [] (mR false [18]) [] (p (sB Yl <| sN)) (by kernel_rfl) (by intro h; cases h)
def Z3U (Yn : (List Int)) (YV : Int) : (Unit) ⊕ (Unit) := (Z24 Yn YV (((Yn.length : Int) - 0).toNat + 1) 0)
def ZU (Yn : (List Int)) (YV : Int) : Bool := (match (Z3U Yn YV) with
  | .inl r1 => true
  | .inr r1 => false)
theorem Z9n (Yn : (List Int)) (YV : Int) (hp0 : Yn.length ≤ 1073741824)  : Fn prog 127 [.sl (Yn.map (cI .i64)), .i .i64 YV] (.b (ZU Yn YV)) [] := by
 cases h0 : (Z3U Yn YV) with
 | inl r1 =>
  refine fnS E0Ok Z5 (c := bodyOf f127) [] (.b true) [] func127 (sL (mR false [0, 2, 3, 1, 12]) 0 (lp_val (Z5H Yn YV) (x := (Z3U Yn YV)) (Z9U Yn YV hp0 (((Yn.length : Int) - 0).toNat + 1) 0 (show 0 ≤ 0 from (by omega)) (Nat.lt_succ_self _)) h0) <| sK [] sN) rfl (by kernel_rfl) (by kernel_rfl) rfl ?_ ?_
  · simp only [ZU, h0]
  · rfl
 | inr r1 =>
  refine fnS E0Ok Z5 (c := bodyOf f127) [] (.b false) [] func127 (sL (mR false [0, 2, 3, 1, 12]) 0 (lp_val (Z5H Yn YV) (x := (Z3U Yn YV)) (Z9U Yn YV hp0 (((Yn.length : Int) - 0).toNat + 1) 0 (show 0 ≤ 0 from (by omega)) (Nat.lt_succ_self _)) h0) <| sK [] sN) rfl (by kernel_rfl) (by kernel_rfl) rfl ?_ ?_
  · simp only [ZU, h0]
  · rfl
theorem ZfZ (l : List Int) (n : Int) : ZU l n = l.any fun v => v == n := by
  unfold ZU Z3U
  rw [any_loop (a := l) (p := fun v => v == n) (lo := Z24 l n) (x := ()) (y := ()) (fun k i => rfl)]
  cases (l.any fun v => v == n) <;> rfl
def Z1d (YC : (List Int)) (i_1 : Int) (j_2 : Int) : Nat → Int → (Int) ⊕ (Unit)
  | 0, _ => .inl default
  | k + 1, Y1 => (cond (decide (Y1 < (YC.length : Int)))
    (cond ((YC.getD Y1.toNat default) != i_1)
      (cond ((YC.getD Y1.toNat default) != j_2)
        (.inl (YC.getD Y1.toNat default))
        (Z1d YC i_1 j_2 k (Y1 + 1)))
      (Z1d YC i_1 j_2 k (Y1 + 1)))
    (.inr ()))
def Z57 (YC : (List Int)) (i_1 : Int) (j_2 : Int) : (Int) ⊕ (Unit) → Ex × St
  | .inl r => (.ret, ⟨an 6 (.i .i64 r :: an 35 []), []⟩)
  | .inr r => ((.exit 0), ⟨.sl (YC.map (cI .i64)) :: .i .i64 i_1 :: .i .i64 j_2 :: an 5 (.sl (YC.map (cI .i64)) :: .i .i64 i_1 :: .b (ZU YC i_1) :: .b (!(ZU YC i_1)) :: .b (!(ZU YC i_1)) :: .sl (YC.map (cI .i64)) :: .i .i64 j_2 :: .b (ZU YC j_2) :: .b (!(ZU YC j_2)) :: .b (!(ZU YC j_2)) :: .sl (YC.map (cI .i64)) :: an 23 []), []⟩)
def Zc9 (YC : (List Int)) (i_1 : Int) (j_2 : Int) (Y1 : Int) : St := ⟨.sl (YC.map (cI .i64)) :: .i .i64 i_1 :: .i .i64 j_2 :: an 5 (.sl (YC.map (cI .i64)) :: .i .i64 i_1 :: .b (ZU YC i_1) :: .b (!(ZU YC i_1)) :: .b (!(ZU YC i_1)) :: .sl (YC.map (cI .i64)) :: .i .i64 j_2 :: .b (ZU YC j_2) :: .b (!(ZU YC j_2)) :: .b (!(ZU YC j_2)) :: .sl (YC.map (cI .i64)) :: .i .i64 (YC.length : Int) :: .i .i64 Y1 :: an 21 []), []⟩
theorem Z93 (YC : (List Int)) (i_1 : Int) (j_2 : Int) (hp0 : YC.length ≤ 1073741824) : ∀ (k : Nat) (Y1 : Int) (Z7Z : 0 ≤ Y1) (hk : ((YC.length : Int) - Y1).toNat < k), Lp prog 0 (sub (bodyOf f138) [1, 1, 0, 1, 0, 0]) (Zc9 YC i_1 j_2 Y1) (Z57 YC i_1 j_2 (Z1d YC i_1 j_2 k Y1)).1 (Z57 YC i_1 j_2 (Z1d YC i_1 j_2 k Y1)).2 := by
 intro k
 induction k with
 | zero => intro Y1 Z7Z hk; exact absurd hk (Nat.not_lt_zero _)
 | succ k ih =>
  intro Y1 Z7Z hk
  cases Yl : (decide (Y1 < (YC.length : Int))) with
  | true =>
   have Yw := of_decide_eq_true Yl
   have YF : (0 : Int) ≤ Y1 := (by assumption)
   have YG : Y1 < (YC.length : Int) := (by assumption)
   have p {a C} (s : Scr a C) := sB Yl <| sG (cI .i64) YC Y1 YF YG <| s
   cases Yr : ((YC.getD Y1.toNat default) != i_1) with
   | true =>
    have Y10 := bne_iff_ne.1 Yr
    have q {a C} (s : Scr a C) := p (sB Yr <| sB Yr <| sB Yr <| sG (cI .i64) YC Y1 YF YG <| sB Yr <| sB Yr <| sB Yr <| sB Yr <| s)
    clear p
    cases YL : ((YC.getD Y1.toNat default) != j_2) with
    | true =>
     have Y1e := bne_iff_ne.1 YL
     have e : Z1d YC i_1 j_2 (k + 1) Y1 = (.inl (YC.getD Y1.toNat default)) := by simp only [Z1d, Yl, Yr, YL, cond_true]
     rw [e]
     exact outR (e := .ret) E0Ok Z5 [] (mR false [6, 1, 35]) [] (q (sB YL <| sG (cI .i64) YC Y1 YF YG <| sN)) (by kernel_rfl) (by intro h; cases h)
    | false =>
     have Y1e := bne_eq_false_iff_eq.1 YL
     have YH : (-9223372036854775808 : Int) ≤ (Y1 + 1) := by clear q; exact (by omega)
     have YI : (Y1 + 1) ≤ (9223372036854775807 : Int) := by clear q; exact (by omega)
     have e : Z1d YC i_1 j_2 (k + 1) Y1 = (Z1d YC i_1 j_2 k (Y1 + 1)) := by simp only [Z1d, Yl, Yr, YL, cond_true, cond_false]
     rw [e]
     exact nextR E0Ok Z5 [] (mR false [0, 3, 5, 13, 21]) [] (ih (Y1 + 1) (show 0 ≤ (Y1 + 1) from (by omega)) (by omega)) (q (sB YL <| sI (Y1 + 1) YH YI <| sN)) (by kernel_rfl)
   | false =>
    have Y10 := bne_eq_false_iff_eq.1 Yr
    have YH : (-9223372036854775808 : Int) ≤ (Y1 + 1) := by clear p; exact (by omega)
    have YI : (Y1 + 1) ≤ (9223372036854775807 : Int) := by clear p; exact (by omega)
    have e : Z1d YC i_1 j_2 (k + 1) Y1 = (Z1d YC i_1 j_2 k (Y1 + 1)) := by simp only [Z1d, Yl, Yr, cond_true, cond_false]
    rw [e]
    exact nextR E0Ok Z5 [] (mR false [0, 3, 5, 13, 21]) [] (ih (Y1 + 1) (show 0 ≤ (Y1 + 1) from (by omega)) (by omega)) (p (sB Yr <| sB Yr <| sB Yr <| sB Yr <| sB Yr <| sB Yr <| sB Yr <| sB (show false = false from rfl) <| sI (Y1 + 1) YH YI <| sN)) (by kernel_rfl)
  | false =>
   have Yw := of_decide_eq_false Yl
   have e : Z1d YC i_1 j_2 (k + 1) Y1 = (.inr ()) := by simp only [Z1d, Yl, cond_false]
   rw [e]
   exact outR (e := (.exit 0)) E0Ok Z5 [] (mR false [0, 3, 5, 11, 23]) [] (sB Yl <| sN) (by kernel_rfl) (by intro h; cases h)
def Z46 (YC : (List Int)) (i_1 : Int) (j_2 : Int) : (Int) ⊕ (Unit) := (Z1d YC i_1 j_2 (((YC.length : Int) - 0).toNat + 1) 0)
def Z3h (YC : (List Int)) (i_1 : Int) (j_2 : Int) : Int := (cond (ZU YC i_1)
  (cond (ZU YC j_2)
    (match (Z46 YC i_1 j_2) with
      | .inl r3 => r3
      | .inr r3 => (-1))
    (-1))
  (-1))
theorem Zfk {x y z a b : Int} (n1 : x ≠ y) (n2 : y ≠ z) (n3 : x ≠ z) (hab : a ≠ b) : Z3h [x, y, z] a b = if tHas [x, y, z] a b = true then thd [x, y, z] a b else -1 := by
  have hs : ∀ c : Int, ZU [x, y, z] c = (x == c || (y == c || z == c)) := by
    intro c
    unfold ZU Z3U
    show (match Z24 [x, y, z] c 4 0 with | .inl r1 => true | .inr r1 => false) = _
    simp only [Z24, List.length_cons, List.length_nil]
    cases h1 : (x == c) <;> cases h2 : (y == c) <;> cases h3 : (z == c) <;> simp [h1, h2, h3]
  unfold Z3h
  rw [hs, hs]
  by_cases hh : tHas [x, y, z] a b = true
  · rw [if_pos hh]
    have hq := hh
    unfold tHas at hq
    simp only [List.getD_cons_zero, List.getD_cons_succ, Bool.and_eq_true] at hq
    rw [hq.1, hq.2, cond_true, cond_true]
    unfold Z46
    show (match Z1d [x, y, z] a b 4 0 with | .inl r3 => r3 | .inr r3 => (-1)) = _
    simp only [Z1d, List.length_cons, List.length_nil]
    rcases tHas_eq n1 n2 n3 hab hh with ⟨h0, h1, h2, h3, h4⟩ | ⟨h0, h1, h2, h3, h4⟩ | ⟨h0, h1, h2, h3, h4⟩
    · rw [h0]; simp [bne_iff_ne.2 h1, bne_iff_ne.2 h2]
    · rw [h0]
      rcases h3 with rfl | rfl
      · simp [bne_iff_ne.2 h1, bne_iff_ne.2 h2]
      · simp [bne_iff_ne.2 h1, bne_iff_ne.2 h2]
    · rw [h0]
      rcases h3 with rfl | rfl <;> rcases h4 with rfl | rfl <;> first | exact absurd rfl n1 | simp [bne_iff_ne.2 h1, bne_iff_ne.2 h2]
  · rw [if_neg hh]
    unfold tHas at hh
    simp only [List.getD_cons_zero, List.getD_cons_succ, Bool.and_eq_true, not_and, Bool.not_eq_true] at hh
    cases h1 : (x == a || (y == a || z == a)) with
    | false => rfl
    | true => rw [hh h1]; rfl
theorem ZdK (YC : (List Int)) (i_1 : Int) (j_2 : Int) (hp0 : YC.length ≤ 1073741824)  : Fn prog 138 [.sl (YC.map (cI .i64)), .i .i64 i_1, .i .i64 j_2] (.i .i64 (Z3h YC i_1 j_2)) [] := by
 have p {a C} (s : Scr a C) := sF (Z9n YC i_1 hp0) <| s
 cases h0 : (ZU YC i_1) with
 | true =>
  have q {a C} (s : Scr a C) := p (sB' h0 <| sB' h0 <| sB' h0 <| sF (Z9n YC j_2 hp0) <| sB' h0 <| sB' h0 <| s)
  clear p
  cases h1 : (ZU YC j_2) with
  | true =>
   have p {a C} (s : Scr a C) := q (sB' h1 <| sZ (cI .i64) YC <| s)
   clear q
   cases h2 : (Z46 YC i_1 j_2) with
   | inl r3 =>
    refine fnS E0Ok Z5 (c := bodyOf f138) [] (.i .i64 r3) [] func138 (p (sL (mR false [0, 3, 5, 13, 21]) 0 (lp_val (Z57 YC i_1 j_2) (x := (Z46 YC i_1 j_2)) (Z93 YC i_1 j_2 hp0 (((YC.length : Int) - 0).toNat + 1) 0 (show 0 ≤ 0 from (by omega)) (Nat.lt_succ_self _)) h2) <| sK [] sN)) rfl (by kernel_rfl) (by kernel_rfl) rfl ?_ ?_
    · simp only [Z3h, h0, h1, h2, cond_true]
    · rfl
   | inr r3 =>
    refine fnS E0Ok Z5 (c := bodyOf f138) [] (.i .i64 (-1)) [] func138 (p (sL (mR false [0, 3, 5, 13, 21]) 0 (lp_val (Z57 YC i_1 j_2) (x := (Z46 YC i_1 j_2)) (Z93 YC i_1 j_2 hp0 (((YC.length : Int) - 0).toNat + 1) 0 (show 0 ≤ 0 from (by omega)) (Nat.lt_succ_self _)) h2) <| sK [] sN)) rfl (by kernel_rfl) (by kernel_rfl) rfl ?_ ?_
    · simp only [Z3h, h0, h1, h2, cond_true]
    · rfl
  | false =>
   refine fnS E0Ok Z5 (c := bodyOf f138) [] (.i .i64 (-1)) [] func138 (q (sB' h1 <| sK [] sN)) rfl (by kernel_rfl) (by kernel_rfl) rfl ?_ ?_
   · simp only [Z3h, h0, h1, cond_true, cond_false]
   · rfl
 | false =>
  refine fnS E0Ok Z5 (c := bodyOf f138) [] (.i .i64 (-1)) [] func138 (p (sB' h0 <| sB' h0 <| sB' h0 <| sB' h0 <| sB' h0 <| sB (show true = true from rfl) <| sK [] sN)) rfl (by kernel_rfl) (by kernel_rfl) rfl ?_ ?_
  · simp only [Z3h, h0, cond_false]
  · rfl
def Z1M (Y2 : GMesh) (Y1 : Int) (Y6 : Int) : Int := (Z3h (Y2.Triangles.getD Y6.toNat default) (((Z8 Y2).getD Y1.toNat default).getD 0 default) (((Z8 Y2).getD Y1.toNat default).getD 1 default))
def Z1t (Y2 : GMesh) (Y1 : Int) (Y5 : (List (List Int))) : Nat → Int → (List Int) → (List Int)
  | 0, _, _ => default
  | k + 1, Y6, Yb => (cond (decide (Y6 < (Y2.Triangles.length : Int)))
    (cond (decide ((Z1M Y2 Y1 Y6) ≥ 0))
      (Z1t Y2 Y1 Y5 k (Y6 + 1) (Yb ++ [(Z1M Y2 Y1 Y6)]))
      (Z1t Y2 Y1 Y5 k (Y6 + 1) Yb))
    Yb)
def Z67 (Y2 : GMesh) (Y1 : Int) (Y5 : (List (List Int))) (r : (List Int)) : Ex × St := ((.exit 2), ⟨.ref (GMesh.cells Y2) 0 :: .any :: .nils :: .own 0 :: .own 1 :: .i .i64 Y1 :: .i .i64 (((Z8 Y2).getD Y1.toNat default).getD 0 default) :: .i .i64 (((Z8 Y2).getD Y1.toNat default).getD 1 default) :: .own 2 :: .any :: .any :: .any :: .ref (GMesh.cells Y2) 0 :: .own 1 :: .own 1 :: .i .i64 ((Z8 Y2).length : Int) :: .i .i64 Y1 :: .b (decide (Y1 < ((Z8 Y2).length : Int))) :: .i .i64 Y1 :: .own 1 :: .i .i64 Y1 :: .ptr 1 Y1.toNat 0 :: .inn 1 Y1.toNat :: .ipt 1 Y1.toNat 0 :: .i .i64 (((Z8 Y2).getD Y1.toNat default).getD 0 default) :: .own 1 :: .i .i64 Y1 :: .ptr 1 Y1.toNat 0 :: .inn 1 Y1.toNat :: .ipt 1 Y1.toNat 1 :: .i .i64 (((Z8 Y2).getD Y1.toNat default).getD 1 default) :: .i .i64 (((Z8 Y2).getD Y1.toNat default).getD 0 default) :: .i .i64 (((Z8 Y2).getD Y1.toNat default).getD 1 default) :: .any :: .ref (GMesh.cells Y2) 0 :: .ref (GMesh.cells Y2) 0 :: .ref (GMesh.cells Y2) 1 :: .sl (Y2.Triangles.map (cL (cI .i64))) :: .i .i64 (Y2.Triangles.length : Int) :: an 29 [], [.nest 49 (Y5.map fun l => l.map (cI .i64)) false, .nest 49 ((Z8 Y2).map fun l => l.map (cI .i64)) false, .vec 2 1 (r.map (cI .i64)) false]⟩)
def Z68 (Y2 : GMesh) (Y1 : Int) (Y5 : (List (List Int))) (Y6 : Int) (Yb : (List Int)) : St := ⟨.ref (GMesh.cells Y2) 0 :: .any :: .nils :: .own 0 :: .own 1 :: .i .i64 Y1 :: .i .i64 (((Z8 Y2).getD Y1.toNat default).getD 0 default) :: .i .i64 (((Z8 Y2).getD Y1.toNat default).getD 1 default) :: .own 2 :: .any :: .any :: .any :: .ref (GMesh.cells Y2) 0 :: .own 1 :: .own 1 :: .i .i64 ((Z8 Y2).length : Int) :: .i .i64 Y1 :: .b (decide (Y1 < ((Z8 Y2).length : Int))) :: .i .i64 Y1 :: .own 1 :: .i .i64 Y1 :: .ptr 1 Y1.toNat 0 :: .inn 1 Y1.toNat :: .ipt 1 Y1.toNat 0 :: .i .i64 (((Z8 Y2).getD Y1.toNat default).getD 0 default) :: .own 1 :: .i .i64 Y1 :: .ptr 1 Y1.toNat 0 :: .inn 1 Y1.toNat :: .ipt 1 Y1.toNat 1 :: .i .i64 (((Z8 Y2).getD Y1.toNat default).getD 1 default) :: .i .i64 (((Z8 Y2).getD Y1.toNat default).getD 0 default) :: .i .i64 (((Z8 Y2).getD Y1.toNat default).getD 1 default) :: .any :: .ref (GMesh.cells Y2) 0 :: .ref (GMesh.cells Y2) 0 :: .ref (GMesh.cells Y2) 1 :: .sl (Y2.Triangles.map (cL (cI .i64))) :: .i .i64 (Y2.Triangles.length : Int) :: .i .i64 Y6 :: an 28 [], [.nest 49 (Y5.map fun l => l.map (cI .i64)) false, .nest 49 ((Z8 Y2).map fun l => l.map (cI .i64)) false, .vec 2 1 (Yb.map (cI .i64)) false]⟩
def Z5l : List Bool := (mR false [0, 1, 1, 7, 3, 21, 1, 6, 28])
def ZaE : List Bool := (mR false [0, 1, 1, 7, 3, 21, 1, 5, 29])
set_option maxHeartbeats 1000000 in
theorem Zbz (Y2 : GMesh) (Y1 : Int) (Y5 : (List (List Int))) (hp0 : Y2.Places.length ≤ 1073741824) (hp1 : Y2.Triangles.length ≤ 1073741824) (hp2 : ∀ t ∈ Y2.Triangles, t.length ≤ 1073741824) (hp3 : OkE Y2.Places.length Y2.Triangles) (Z1T : 0 ≤ Y1) (Z4n : (Y5.length : Int) ≤ Y1) (Zfz : (decide (Y1 < ((Z8 Y2).length : Int))) = true) : ∀ (k : Nat) (Y6 : Int) (Yb : (List Int)) (Z7t : 0 ≤ Y6) (Z7u : (Yb.length : Int) ≤ 2 + Y6) (hk : ((Y2.Triangles.length : Int) - Y6).toNat < k), Lp prog 0 (sub (bodyOf f101) [1, 1, 1, 0, 1, 0, 0, 1, 1, 0, 0, 1, 1, 1, 1, 0, 1, 0, 0]) (Z68 Y2 Y1 Y5 Y6 Yb) (Z67 Y2 Y1 Y5 (Z1t Y2 Y1 Y5 k Y6 Yb)).1 (Z67 Y2 Y1 Y5 (Z1t Y2 Y1 Y5 k Y6 Yb)).2 := by
 intro k
 induction k with
 | zero => intro Y6 Yb Z7t Z7u hk; exact absurd hk (Nat.not_lt_zero _)
 | succ k ih =>
  intro Y6 Yb Z7t Z7u hk
  cases YD : (decide (Y6 < (Y2.Triangles.length : Int))) with
  | true =>
   have YB := of_decide_eq_true YD
   have Y13 : (0 : Int) ≤ Y6 := (by assumption)
   have Y14 : Y6 < (Y2.Triangles.length : Int) := (by assumption)
   have Y11 : (Y2.Triangles.getD Y6.toNat default).length ≤ 1073741824 := (by simp_all <;> omega)
   have p {a C} (s : Scr a C) := sB YD <| sG (cL (cI .i64)) Y2.Triangles Y6 Y13 Y14 <| sF (ZdK (Y2.Triangles.getD Y6.toNat default) (((Z8 Y2).getD Y1.toNat default).getD 0 default) (((Z8 Y2).getD Y1.toNat default).getD 1 default) Y11) <| s
   cases YW : (decide ((Z1M Y2 Y1 Y6) ≥ 0)) with
   | true =>
    have gh__1 := of_decide_eq_true YW
    have YZ : Yb.length + ([(Z1M Y2 Y1 Y6)]).length ≤ 1073741824 := by clear p; exact (by ((have := hp3.2.1; have g4 := of_decide_eq_true YD; (simp only [List.length_append, List.length_cons, List.length_nil]; omega))))
    have Y15 : (-9223372036854775808 : Int) ≤ (Y6 + 1) := by clear p; exact (by omega)
    have Y1a : (Y6 + 1) ≤ (9223372036854775807 : Int) := by clear p; exact (by omega)
    have e : Z1t Y2 Y1 Y5 (k + 1) Y6 Yb = (Z1t Y2 Y1 Y5 k (Y6 + 1) (Yb ++ [(Z1M Y2 Y1 Y6)])) := by simp only [Z1t, YD, YW, cond_true]
    rw [e]
    exact nextS E0Ok Z5 [] Z5l [0, 1, 2] (⟨.ref (GMesh.cells Y2) 0 :: .any :: .nils :: .own 0 :: .own 1 :: .i .i64 Y1 :: .i .i64 (((Z8 Y2).getD Y1.toNat default).getD 0 default) :: .i .i64 (((Z8 Y2).getD Y1.toNat default).getD 1 default) :: .own 2 :: .any :: .any :: .any :: .ref (GMesh.cells Y2) 0 :: .own 1 :: .own 1 :: .i .i64 ((Z8 Y2).length : Int) :: .i .i64 Y1 :: .b (decide (Y1 < ((Z8 Y2).length : Int))) :: .i .i64 Y1 :: .own 1 :: .i .i64 Y1 :: .ptr 1 Y1.toNat 0 :: .inn 1 Y1.toNat :: .ipt 1 Y1.toNat 0 :: .i .i64 (((Z8 Y2).getD Y1.toNat default).getD 0 default) :: .own 1 :: .i .i64 Y1 :: .ptr 1 Y1.toNat 0 :: .inn 1 Y1.toNat :: .ipt 1 Y1.toNat 1 :: .i .i64 (((Z8 Y2).getD Y1.toNat default).getD 1 default) :: .i .i64 (((Z8 Y2).getD Y1.toNat default).getD 0 default) :: .i .i64 (((Z8 Y2).getD Y1.toNat default).getD 1 default) :: .any :: .ref (GMesh.cells Y2) 0 :: .ref (GMesh.cells Y2) 0 :: .ref (GMesh.cells Y2) 1 :: .sl (Y2.Triangles.map (cL (cI .i64))) :: .i .i64 (Y2.Triangles.length : Int) :: .i .i64 (Y6 + 1) :: an 28 [], [.nest 49 (Y5.map fun l => l.map (cI .i64)) false, .nest 49 ((Z8 Y2).map fun l => l.map (cI .i64)) false, .vec 2 1 ((Yb.map (cI .i64)) ++ ([[.i .i64 (Z1M Y2 Y1 Y6)]] : List (List AV))) false]⟩) (p (sB YW <| sC (show (Yb.map (cI .i64)).length + ([[.i .i64 (Z1M Y2 Y1 Y6)]] : List (List AV)).length ≤ 1073741824 from (by simpa using YZ)) <| sI (Y6 + 1) Y15 Y1a <| sN)) (by kernel_rfl) (by simp [Z68, cL, cI]) (ih (Y6 + 1) (Yb ++ [(Z1M Y2 Y1 Y6)]) (show 0 ≤ (Y6 + 1) from (by omega)) (show ((Yb ++ [(Z1M Y2 Y1 Y6)]).length : Int) ≤ 2 + (Y6 + 1) from (by ((have q := Z4R Y2 hp3 Z1T (of_decide_eq_true (by assumption)); (simp only [List.length_append, List.length_cons, List.length_nil]; omega))))) (by omega))
   | false =>
    have gh__1 := of_decide_eq_false YW
    have YZ : (-9223372036854775808 : Int) ≤ (Y6 + 1) := by clear p; exact (by omega)
    have Y15 : (Y6 + 1) ≤ (9223372036854775807 : Int) := by clear p; exact (by omega)
    have e : Z1t Y2 Y1 Y5 (k + 1) Y6 Yb = (Z1t Y2 Y1 Y5 k (Y6 + 1) Yb) := by simp only [Z1t, YD, YW, cond_true, cond_false]
    rw [e]
    exact nextR E0Ok Z5 [] Z5l [0, 1, 2] (ih (Y6 + 1) Yb (show 0 ≤ (Y6 + 1) from (by omega)) (show (Yb.length : Int) ≤ 2 + (Y6 + 1) from (by omega)) (by omega)) (p (sB YW <| sI (Y6 + 1) YZ Y15 <| sN)) (by kernel_rfl)
  | false =>
   have YB := of_decide_eq_false YD
   have e : Z1t Y2 Y1 Y5 (k + 1) Y6 Yb = Yb := by simp only [Z1t, YD, cond_false]
   rw [e]
   exact outR (e := (.exit 2)) E0Ok Z5 [] ZaE [0, 1, 2] (sB YD <| sN) (by kernel_rfl) (by intro h; cases h)
def Z1v (Y2 : GMesh) (Y1 : Int) (Y5 : (List (List Int))) : (List Int) := (Z1t Y2 Y1 Y5 (((Y2.Triangles.length : Int) - 0).toNat + 1) 0 ([(((Z8 Y2).getD Y1.toNat default).getD 0 default), (((Z8 Y2).getD Y1.toNat default).getD 1 default)]))
def Z1i (Y2 : GMesh) : Nat → Int → (List (List Int)) → (List (List Int))
  | 0, _, _ => default
  | k + 1, Y1, Y5 => (cond (decide (Y1 < ((Z8 Y2).length : Int)))
    (cond (((Z1v Y2 Y1 Y5).length : Int) == 4)
      (Z1i Y2 k (Y1 + 1) (Y5 ++ [(Z1v Y2 Y1 Y5)]))
      (Z1i Y2 k (Y1 + 1) Y5))
    Y5)
def Z69 (Y2 : GMesh) (r : (List (List Int))) : Ex × St := ((.exit 0), ⟨.ref (GMesh.cells Y2) 0 :: .any :: .nils :: .own 0 :: .own 1 :: an 7 (.ref (GMesh.cells Y2) 0 :: .own 1 :: .own 1 :: an 53 []), [.nest 49 (r.map fun l => l.map (cI .i64)) false, .nest 49 ((Z8 Y2).map fun l => l.map (cI .i64)) false]⟩)
def Z6a (Y2 : GMesh) (Y1 : Int) (Y5 : (List (List Int))) : St := ⟨.ref (GMesh.cells Y2) 0 :: .any :: .nils :: .own 0 :: .own 1 :: an 7 (.ref (GMesh.cells Y2) 0 :: .own 1 :: .own 1 :: .i .i64 ((Z8 Y2).length : Int) :: .i .i64 Y1 :: an 51 []), [.nest 49 (Y5.map fun l => l.map (cI .i64)) false, .nest 49 ((Z8 Y2).map fun l => l.map (cI .i64)) false]⟩
set_option maxHeartbeats 1000000 in
theorem ZbA (Y2 : GMesh) (hp0 : Y2.Places.length ≤ 1073741824) (hp1 : Y2.Triangles.length ≤ 1073741824) (hp2 : ∀ t ∈ Y2.Triangles, t.length ≤ 1073741824) (hp3 : OkE Y2.Places.length Y2.Triangles) : ∀ (k : Nat) (Y1 : Int) (Y5 : (List (List Int))) (Z1T : 0 ≤ Y1) (Z4n : (Y5.length : Int) ≤ Y1) (hk : (((Z8 Y2).length : Int) - Y1).toNat < k), Lp prog 0 (sub (bodyOf f101) [1, 1, 1, 0, 1, 0, 0]) (Z6a Y2 Y1 Y5) (Z69 Y2 (Z1i Y2 k Y1 Y5)).1 (Z69 Y2 (Z1i Y2 k Y1 Y5)).2 := by
 intro k
 induction k with
 | zero => intro Y1 Y5 Z1T Z4n hk; exact absurd hk (Nat.not_lt_zero _)
 | succ k ih =>
  intro Y1 Y5 Z1T Z4n hk
  cases Yl : (decide (Y1 < ((Z8 Y2).length : Int))) with
  | true =>
   have Yw := of_decide_eq_true Yl
   have YF : (0 : Int) ≤ Y1 := (by assumption)
   have YG : Int.toNat Y1 < (Z8 Y2).length := (by omega)
   have YH : Y1.toNat < (Z8 Y2).length := (by assumption)
   have YI : (0 : Int) ≤ 0 := (by omega)
   have YP : 0 < (((Z8 Y2).getD Y1.toNat default).length : Int) := (by ((have q := Z4R Y2 hp3 Z1T (of_decide_eq_true (by assumption)); omega)))
   have YS : 0 < ((Z8 Y2).getD Y1.toNat default).length := (by omega)
   have y_6 : (0 : Int) ≤ 1 := (by omega)
   have y_7 : 1 < (((Z8 Y2).getD Y1.toNat default).length : Int) := (by ((have q := Z4R Y2 hp3 Z1T (of_decide_eq_true (by assumption)); omega)))
   have y_8 : 1 < ((Z8 Y2).getD Y1.toNat default).length := (by omega)
   have p {a C} (s : Scr a C) := sB Yl <| sC (nestix (c := (cI .i64)) (l := (Z8 Y2)) (i := Y1) YF YG) <| sC (nestlt (c := (cI .i64)) (l := (Z8 Y2)) YH) <| sC (iidx_ok (c := (cI .i64)) (l := (Z8 Y2)) (j := Y1.toNat) (i := 0) YI YP) <| sE (iget_ok (c := (cI .i64)) (l := (Z8 Y2)) (j := Y1.toNat) (k := 0) YS) <| sC (nestix (c := (cI .i64)) (l := (Z8 Y2)) (i := Y1) YF YG) <| sC (nestlt (c := (cI .i64)) (l := (Z8 Y2)) YH) <| sC (iidx_ok (c := (cI .i64)) (l := (Z8 Y2)) (j := Y1.toNat) (i := 1) y_6 y_7) <| sE (iget_ok (c := (cI .i64)) (l := (Z8 Y2)) (j := Y1.toNat) (k := 1) y_8) <| sZ (cL (cI .i64)) Y2.Triangles <| sL Z5l 3 (lp_cast (st2 := ⟨.ref (GMesh.cells Y2) 0 :: .any :: .nils :: .own 0 :: .own 1 :: .i .i64 Y1 :: .i .i64 (((Z8 Y2).getD Y1.toNat default).getD 0 default) :: .i .i64 (((Z8 Y2).getD Y1.toNat default).getD 1 default) :: .own 2 :: .any :: .any :: .any :: .ref (GMesh.cells Y2) 0 :: .own 1 :: .own 1 :: .i .i64 ((Z8 Y2).length : Int) :: .i .i64 Y1 :: .b (decide (Y1 < ((Z8 Y2).length : Int))) :: .i .i64 Y1 :: .own 1 :: .i .i64 Y1 :: .ptr 1 Y1.toNat 0 :: .inn 1 Y1.toNat :: .ipt 1 Y1.toNat 0 :: .i .i64 (((Z8 Y2).getD Y1.toNat default).getD 0 default) :: .own 1 :: .i .i64 Y1 :: .ptr 1 Y1.toNat 0 :: .inn 1 Y1.toNat :: .ipt 1 Y1.toNat 1 :: .i .i64 (((Z8 Y2).getD Y1.toNat default).getD 1 default) :: .i .i64 (((Z8 Y2).getD Y1.toNat default).getD 0 default) :: .i .i64 (((Z8 Y2).getD Y1.toNat default).getD 1 default) :: .any :: .ref (GMesh.cells Y2) 0 :: .ref (GMesh.cells Y2) 0 :: .ref (GMesh.cells Y2) 1 :: .sl (Y2.Triangles.map (cL (cI .i64))) :: .i .i64 (Y2.Triangles.length : Int) :: .i .i64 0 :: an 28 [], [.nest 49 (Y5.map fun l => l.map (cI .i64)) false, .nest 49 ((Z8 Y2).map fun l => l.map (cI .i64)) false, .vec 2 1 ([[.i .i64 (((Z8 Y2).getD Y1.toNat default).getD 0 default)], [.i .i64 (((Z8 Y2).getD Y1.toNat default).getD 1 default)]] : List (List AV)) false]⟩) (lp_val (Z67 Y2 Y1 Y5) (x := (Z1v Y2 Y1 Y5)) (Zbz Y2 Y1 Y5 hp0 hp1 hp2 hp3 Z1T Z4n Yl (((Y2.Triangles.length : Int) - 0).toNat + 1) 0 ([(((Z8 Y2).getD Y1.toNat default).getD 0 default), (((Z8 Y2).getD Y1.toNat default).getD 1 default)]) (show 0 ≤ 0 from (by omega)) (show (([(((Z8 Y2).getD Y1.toNat default).getD 0 default), (((Z8 Y2).getD Y1.toNat default).getD 1 default)]).length : Int) ≤ 2 + 0 from (by simp)) (Nat.lt_succ_self _)) rfl) (by simp [Z68, cI])) <| sZ (cI .i64) (Z1v Y2 Y1 Y5) <| s
   cases Yr : (((Z1v Y2 Y1 Y5).length : Int) == 4) with
   | true =>
    have Y10 := eq_of_beq Yr
    have y_9 : Y5.length + [(Z1v Y2 Y1 Y5)].length ≤ 1073741824 := by clear p; exact (by ((have q := Z4R Y2 hp3 Z1T (of_decide_eq_true (by assumption)); (simp only [List.length_append, List.length_cons, List.length_nil]; omega))))
    have Y18 : (-9223372036854775808 : Int) ≤ (Y1 + 1) := by clear p; exact (by omega)
    have Y1c : (Y1 + 1) ≤ (9223372036854775807 : Int) := by clear p; exact (by ((have q := Z4R Y2 hp3 Z1T (of_decide_eq_true (by assumption)); omega)))
    have e : Z1i Y2 (k + 1) Y1 Y5 = (Z1i Y2 k (Y1 + 1) (Y5 ++ [(Z1v Y2 Y1 Y5)])) := by simp only [Z1i, Yl, Yr, cond_true]
    rw [e]
    exact nextS E0Ok Z5 [] (mR false [0, 1, 1, 3, 7, 5, 51]) [0, 1] (⟨.ref (GMesh.cells Y2) 0 :: .any :: .nils :: .own 0 :: .own 1 :: an 7 (.ref (GMesh.cells Y2) 0 :: .own 1 :: .own 1 :: .i .i64 ((Z8 Y2).length : Int) :: .i .i64 (Y1 + 1) :: an 51 []), [.nest 49 ((Y5.map fun l => l.map (cI .i64)) ++ [((Z1v Y2 Y1 Y5).map (cI .i64))]) false, .nest 49 ((Z8 Y2).map fun l => l.map (cI .i64)) false]⟩) (p (sB Yr <| sC (show (Y5.map fun l => l.map (cI .i64)).length + [((Z1v Y2 Y1 Y5).map (cI .i64))].length ≤ 1073741824 from (by simpa using y_9)) <| sI (Y1 + 1) Y18 Y1c <| sN)) (by kernel_rfl) (by simp [Z6a, cL, cI]) (ih (Y1 + 1) (Y5 ++ [(Z1v Y2 Y1 Y5)]) (show 0 ≤ (Y1 + 1) from (by omega)) (show ((Y5 ++ [(Z1v Y2 Y1 Y5)]).length : Int) ≤ (Y1 + 1) from (by ((have q := Z4R Y2 hp3 Z1T (of_decide_eq_true (by assumption)); (simp only [List.length_append, List.length_cons, List.length_nil]; omega))))) (by omega))
   | false =>
    have Y10 := ne_of_beq_false Yr
    have y_9 : (-9223372036854775808 : Int) ≤ (Y1 + 1) := by clear p; exact (by omega)
    have Y18 : (Y1 + 1) ≤ (9223372036854775807 : Int) := by clear p; exact (by ((have q := Z4R Y2 hp3 Z1T (of_decide_eq_true (by assumption)); omega)))
    have e : Z1i Y2 (k + 1) Y1 Y5 = (Z1i Y2 k (Y1 + 1) Y5) := by simp only [Z1i, Yl, Yr, cond_true, cond_false]
    rw [e]
    exact nextR E0Ok Z5 [] (mR false [0, 1, 1, 3, 7, 5, 51]) [0, 1] (ih (Y1 + 1) Y5 (show 0 ≤ (Y1 + 1) from (by omega)) (show (Y5.length : Int) ≤ (Y1 + 1) from (by omega)) (by omega)) (p (sB Yr <| sI (Y1 + 1) y_9 Y18 <| sN)) (by kernel_rfl)
  | false =>
   have Yw := of_decide_eq_false Yl
   have e : Z1i Y2 (k + 1) Y1 Y5 = Y5 := by simp only [Z1i, Yl, cond_false]
   rw [e]
   exact outR (e := (.exit 0)) E0Ok Z5 [] (mR false [0, 1, 1, 3, 7, 3, 53]) [0, 1] (sB Yl <| sN) (by kernel_rfl) (by intro h; cases h)
def Z4o (Y2 : GMesh) : (List (List Int)) := (Z1i Y2 ((((Z8 Y2).length : Int) - 0).toNat + 1) 0 ([] : List (List Int)))
def Z0 (Y2 : GMesh) : (List (List Int)) := (Z4o Y2)
theorem Zg0 (m : GMesh) (ok : OkE m.Places.length m.Triangles) (x : Int) (r0 : List (List Int)) (hab : ((Z8 m).getD x.toNat default).getD 0 default ≠ ((Z8 m).getD x.toNat default).getD 1 default) :
    Z1v m x r0 = [((Z8 m).getD x.toNat default).getD 0 default, ((Z8 m).getD x.toNat default).getD 1 default] ++ (idxP m.Triangles (((Z8 m).getD x.toNat default).getD 0 default) (((Z8 m).getD x.toNat default).getD 1 default)).map fun i => thd (m.Triangles.getD i.toNat default) (((Z8 m).getD x.toNat default).getD 0 default) (((Z8 m).getD x.toNat default).getD 1 default) := by
  unfold Z1v
  have hf := filt_loop (n := (m.Triangles.length : Int)) (f := fun i => !(decide (Z1M m x i ≥ 0))) (g := fun i => Z1M m x i) (lo := Z1t m x r0) (fun k i r' => by
    rw [Z1t]
    cases decide (Z1M m x i ≥ 0) <;> rfl) (((m.Triangles.length : Int) - 0).toNat + 1) 0 [((Z8 m).getD x.toNat default).getD 0 default, ((Z8 m).getD x.toNat default).getD 1 default] (Nat.lt_succ_self _)
  rw [hf]
  congr 1
  unfold Z1M idxP
  generalize ((Z8 m).getD x.toNat default).getD 0 default = a at *
  generalize ((Z8 m).getD x.toNat default).getD 1 default = b at *
  rw [List.map_map, show ((m.Triangles.length : Int) - 0).toNat = m.Triangles.length from by omega]
  have key : ∀ j : Nat, j < m.Triangles.length → Z3h (m.Triangles.getD ((0 : Int) + (j : Int)).toNat default) a b = if tHas (m.Triangles.getD j default) a b = true then thd (m.Triangles.getD j default) a b else -1 := by
    intro j hj
    rw [show ((0 : Int) + (j : Int)).toNat = j from by omega]
    have hm : m.Triangles.getD j default ∈ m.Triangles := by rw [List.getD_eq_getElem?_getD, List.getElem?_eq_getElem hj]; exact List.getElem_mem _
    obtain ⟨x, y, z, ht, r1, r2, r3, n1, n2, n3⟩ := ok.2.2 _ hm
    rw [ht]; exact Zfk n1 n2 n3 hab
  have hfl : ((List.range m.Triangles.length).filter fun (j : Nat) => !(!(decide (Z3h (m.Triangles.getD ((0 : Int) + (j : Int)).toNat default) a b ≥ 0)))) = (List.range m.Triangles.length).filter fun j => tHas (m.Triangles.getD j default) a b := by
    refine List.filter_congr fun j hj => ?_
    rw [List.mem_range] at hj
    rw [Bool.not_not, key j hj]
    cases hh : tHas (m.Triangles.getD j default) a b with
    | false => rfl
    | true =>
      have hi : (j : Int) ∈ idxP m.Triangles a b := by
        unfold idxP; rw [List.mem_map]; exact ⟨j, List.mem_filter.2 ⟨List.mem_range.2 hj, hh⟩, rfl⟩
      have := (thd_bd ok hab hi).1
      rw [show ((j : Nat) : Int).toNat = j from by omega] at this
      rw [if_pos rfl]; exact decide_eq_true this
  rw [hfl]
  refine List.map_congr_left fun j hj => ?_
  rw [List.mem_filter, List.mem_range] at hj
  rw [key j hj.1, if_pos hj.2]
  show _ = thd (m.Triangles.getD ((j : Nat) : Int).toNat default) a b
  rw [show ((j : Nat) : Int).toNat = j from by omega]
theorem Z9V (m : GMesh) (ok : OkE m.Places.length m.Triangles) : Z0 m = hgL m.Places.length m.Triangles := by
  unfold Z0 Z4o
  refine (filtm_from (a := Z8 m) (p := fun x => decide ((idxP m.Triangles (x.getD 0 default) (x.getD 1 default)).length = 2)) (f := fun x => [x.getD 0 default, x.getD 1 default] ++ (idxP m.Triangles (x.getD 0 default) (x.getD 1 default)).map fun i => thd (m.Triangles.getD i.toNat default) (x.getD 0 default) (x.getD 1 default)) (lo := Z1i m) (fun k i r h0 hi => ?_) (fun k i r hi => ?_)).trans ?_
  · have q := Z4R m ok h0 hi
    rw [Z1i, decide_eq_true hi, cond_true, Zg0 m ok i r (by omega)]
    have hc : ((([((Z8 m).getD i.toNat default).getD 0 default, ((Z8 m).getD i.toNat default).getD 1 default] ++ (idxP m.Triangles (((Z8 m).getD i.toNat default).getD 0 default) (((Z8 m).getD i.toNat default).getD 1 default)).map fun i_1 => thd (m.Triangles.getD i_1.toNat default) (((Z8 m).getD i.toNat default).getD 0 default) (((Z8 m).getD i.toNat default).getD 1 default)).length : Int) == 4) = decide ((idxP m.Triangles (((Z8 m).getD i.toNat default).getD 0 default) (((Z8 m).getD i.toNat default).getD 1 default)).length = 2) := by
      rw [List.length_append, List.length_map, Bool.eq_iff_iff, beq_iff_eq, decide_eq_true_iff]
      simp only [List.length_cons, List.length_nil]; omega
    rw [hc]
  · rw [Z1i, decide_eq_false (by omega), cond_false]
  · rw [Zat m ok]
    unfold hgL
    rw [List.filter_map, List.map_map]
    rfl
theorem Z3F (m : GMesh) (ok : OkE m.Places.length m.Triangles) : (Z0 m).length ≤ 4096 := by rw [Z9V m ok]; exact hgL_len ok
theorem Zf9 (m : GMesh) (ok : OkE m.Places.length m.Triangles) {i : Int} (h0 : 0 ≤ i) (hi : i < ((Z0 m).length : Int)) : ((Z0 m).getD i.toNat default).length = 4 ∧ ∀ x ∈ (Z0 m).getD i.toNat default, 0 ≤ x ∧ x < (m.Places.length : Int) := by
  refine hgL_mem ok ?_
  rw [← Z9V m ok, List.getD_eq_getElem?_getD, List.getElem?_eq_getElem (by omega)]; exact List.getElem_mem _
theorem hin4 {m : GMesh} (ok : OkE m.Places.length m.Triangles) {i : Int} (h0 : 0 ≤ i) (hi : decide (i < ((Z0 m).length : Int)) = true) : ((Z0 m).getD i.toNat default).length = 4 ∧ ∀ x ∈ (Z0 m).getD i.toNat default, 0 ≤ x ∧ x < (m.Places.length : Int) := Zf9 m ok h0 (of_decide_eq_true hi)
theorem ZgA {m : GMesh} (ok : OkE m.Places.length m.Triangles) {i : Int} (h0 : 0 ≤ i) (hi : decide (i < ((Z0 m).length : Int)) = true) : ((Z0 m).getD i.toNat default).length ≤ 1073741824 := by have := (hin4 ok h0 hi).1; omega
theorem Zdg (Y2 : GMesh) (hp0 : Y2.Places.length ≤ 1073741824) (hp1 : Y2.Triangles.length ≤ 1073741824) (hp2 : ∀ t ∈ Y2.Triangles, t.length ≤ 1073741824) (hp3 : OkE Y2.Places.length Y2.Triangles)  : Fn prog 101 [.ref (GMesh.cells Y2) 0] (.own 0) [.nest 49 ((Z0 Y2).map fun l => l.map (cI .i64)) false] := by
 refine fnS E0Ok Z5 (c := bodyOf f101) [] (.own 0) [.nest 49 ((Z4o Y2).map fun l => l.map (cI .i64)) false] func101 (sF (ZdJ Y2 hp0 hp1 hp2 hp3) <| sM (nlen_ok (l := (Z8 Y2)) (f := fun l => l.map (cI .i64))) <| sL (mR false [0, 1, 1, 3, 7, 5, 51]) 2 (lp_cast (st2 := ⟨.ref (GMesh.cells Y2) 0 :: .any :: .nils :: .own 0 :: .own 1 :: an 7 (.ref (GMesh.cells Y2) 0 :: .own 1 :: .own 1 :: .i .i64 ((Z8 Y2).length : Int) :: .i .i64 0 :: an 51 []), [.nest 49 [] false, .nest 49 ((Z8 Y2).map fun l => l.map (cI .i64)) false]⟩) (lp_val (Z69 Y2) (x := (Z4o Y2)) (ZbA Y2 hp0 hp1 hp2 hp3 ((((Z8 Y2).length : Int) - 0).toNat + 1) 0 ([] : List (List Int)) (show 0 ≤ 0 from (by omega)) (show (([] : List (List Int)).length : Int) ≤ 0 from (by simp)) (Nat.lt_succ_self _)) rfl) (by simp [Z6a, cL, cI])) <| sK [0] sN) rfl (by kernel_rfl) (by kernel_rfl) rfl ?_ ?_
 · rfl
 · simp [Z0]
def Z5f (Y2 : GMesh) (Yr : (List Int)) : GVector := (Z1S (Zz (Y2.Places.getD (Yr.getD 2 default).toNat default) (Y2.Places.getD (Yr.getD 3 default).toNat default)) (Zz (Y2.Places.getD (Yr.getD 0 default).toNat default) (Y2.Places.getD (Yr.getD 1 default).toNat default)))
def Z1N (Y2 : GMesh) (Yr : (List Int)) : GVector := (Z5f Y2 Yr)
theorem Ze9 (Y2 : GMesh) (Yr : (List Int)) (hp0 : Y2.Places.length ≤ 1073741824) (hp1 : Y2.Triangles.length ≤ 1073741824) (hp2 : ∀ t ∈ Y2.Triangles, t.length ≤ 1073741824) (hp3 : Yr.length ≤ 1073741824) (hp4 : Yr.length = 4 ∧ ∀ x ∈ Yr, 0 ≤ x ∧ x < (Y2.Places.length : Int))  : Fn prog 102 [.ref (GMesh.cells Y2) 0, .sl (Yr.map (cI .i64))] (.agg [.f .f32 ((Z1N Y2 Yr).X), .f .f32 ((Z1N Y2 Yr).Y), .f .f32 ((Z1N Y2 Yr).Z)]) [] := by
 have y0 : (0 : Int) ≤ 2 := (by omega)
 have y1 : 2 < (Yr.length : Int) := (by omega)
 have y2 : (0 : Int) ≤ (Yr.getD 2 default) := (by have q := Okh.at hp4; omega)
 have y3 : (Yr.getD 2 default) < (Y2.Places.length : Int) := (by have q := Okh.at hp4; omega)
 have y4 : (0 : Int) ≤ 3 := (by omega)
 have y5 : 3 < (Yr.length : Int) := (by omega)
 have y6 : (0 : Int) ≤ (Yr.getD 3 default) := (by have q := Okh.at hp4; omega)
 have y7 : (Yr.getD 3 default) < (Y2.Places.length : Int) := (by have q := Okh.at hp4; omega)
 have y8 : (0 : Int) ≤ 0 := (by omega)
 have y9 : 0 < (Yr.length : Int) := (by omega)
 have y10 : (0 : Int) ≤ (Yr.getD 0 default) := (by have q := Okh.at hp4; omega)
 have y11 : (Yr.getD 0 default) < (Y2.Places.length : Int) := (by have q := Okh.at hp4; omega)
 have y12 : (0 : Int) ≤ 1 := (by omega)
 have y13 : 1 < (Yr.length : Int) := (by omega)
 have y14 : (0 : Int) ≤ (Yr.getD 1 default) := (by have q := Okh.at hp4; omega)
 have y15 : (Yr.getD 1 default) < (Y2.Places.length : Int) := (by have q := Okh.at hp4; omega)
 refine fnS E0Ok Z5 (c := bodyOf f102) [] (.agg [.f .f32 ((Z5f Y2 Yr).X), .f .f32 ((Z5f Y2 Yr).Y), .f .f32 ((Z5f Y2 Yr).Z)]) [] func102 (sK [37, 37] <| sG (cI .i64) Yr 2 y0 y1 <| sG GVector.cells Y2.Places (Yr.getD 2 default) y2 y3 <| sG (cI .i64) Yr 3 y4 y5 <| sG GVector.cells Y2.Places (Yr.getD 3 default) y6 y7 <| sF (Z3b (Y2.Places.getD (Yr.getD 2 default).toNat default) (Y2.Places.getD (Yr.getD 3 default).toNat default)) <| sG (cI .i64) Yr 0 y8 y9 <| sG GVector.cells Y2.Places (Yr.getD 0 default) y10 y11 <| sG (cI .i64) Yr 1 y12 y13 <| sG GVector.cells Y2.Places (Yr.getD 1 default) y14 y15 <| sF (Z3b (Y2.Places.getD (Yr.getD 0 default).toNat default) (Y2.Places.getD (Yr.getD 1 default).toNat default)) <| sF (Z5k (Zz (Y2.Places.getD (Yr.getD 2 default).toNat default) (Y2.Places.getD (Yr.getD 3 default).toNat default)) (Zz (Y2.Places.getD (Yr.getD 0 default).toNat default) (Y2.Places.getD (Yr.getD 1 default).toNat default))) <| sK [] sN) rfl (by kernel_rfl) (by kernel_rfl) rfl ?_ ?_
 · rfl
 · rfl
def Zm (Y0 : GBody) (Y1 : Int) (Y5 : (List GVector)) : GVector := (Zz (Y5.getD (((Y0.Springs.getD Y1.toNat default).A).toNat) default) (Zn ((Z2K Y0 (Y0.Springs.getD Y1.toNat default)).1) ((Z2K Y0 (Y0.Springs.getD Y1.toNat default)).2)))
def Z8s (Y0 : GBody) (Y1 : Int) : GVector := (Zn ((Z2K Y0 (Y0.Springs.getD Y1.toNat default)).1) (fneg .f32 ((Z2K Y0 (Y0.Springs.getD Y1.toNat default)).2)))
def Z2Q (Y0 : GBody) (Y1 : Int) (Y5 : (List GVector)) : GVector := (Zz ((Y5.set (((Y0.Springs.getD Y1.toNat default).A).toNat) (Zm Y0 Y1 Y5)).getD (((Y0.Springs.getD Y1.toNat default).B).toNat) default) (Z8s Y0 Y1))
def Z1j (Y0 : GBody) : Nat → Int → (List GVector) → (List GVector)
  | 0, _, _ => default
  | k + 1, Y1, Y5 => (cond (decide (Y1 < (Y0.Springs.length : Int)))
    (Z1j Y0 k (Y1 + 1) ((Y5.set (((Y0.Springs.getD Y1.toNat default).A).toNat) (Zm Y0 Y1 Y5)).set (((Y0.Springs.getD Y1.toNat default).B).toNat) (Z2Q Y0 Y1 Y5)))
    Y5)
def Z6b (Y0 : GBody) (r : (List GVector)) : Ex × St := ((.exit 0), ⟨.ref (GBody.cells Y0) 0 :: .any :: .nils :: .ref (GBody.cells Y0) 0 :: .own 0 :: an 15 (.ref (GBody.cells Y0) 0 :: .ref (GBody.cells Y0) 0 :: .ref (GBody.cells Y0) 0 :: .ref (GBody.cells Y0) 0 :: .ref (GBody.cells Y0) 0 :: .ref (GBody.cells Y0) 0 :: .sl (Y0.Mesh.Places.map GVector.cells) :: .i .i64 (Y0.Mesh.Places.length : Int) :: .own 0 :: .ref (GBody.cells Y0) 0 :: .ref (GBody.cells Y0) 0 :: .ref (GBody.cells Y0) 2 :: .sl (Y0.Springs.map GSpring.cells) :: an 247 []), [.vec 40 3 (r.map GVector.cells) false]⟩)
def Z6c (Y0 : GBody) (Y1 : Int) (Y5 : (List GVector)) : St := ⟨.ref (GBody.cells Y0) 0 :: .any :: .nils :: .ref (GBody.cells Y0) 0 :: .own 0 :: an 15 (.ref (GBody.cells Y0) 0 :: .ref (GBody.cells Y0) 0 :: .ref (GBody.cells Y0) 0 :: .ref (GBody.cells Y0) 0 :: .ref (GBody.cells Y0) 0 :: .ref (GBody.cells Y0) 0 :: .sl (Y0.Mesh.Places.map GVector.cells) :: .i .i64 (Y0.Mesh.Places.length : Int) :: .own 0 :: .ref (GBody.cells Y0) 0 :: .ref (GBody.cells Y0) 0 :: .ref (GBody.cells Y0) 2 :: .sl (Y0.Springs.map GSpring.cells) :: .i .i64 (Y0.Springs.length : Int) :: .i .i64 Y1 :: an 245 []), [.vec 40 3 (Y5.map GVector.cells) false]⟩
theorem ZbB (Y0 : GBody) (hp0 : Y0.Mesh.Places.length ≤ 1073741824) (hp1 : Y0.Mesh.Triangles.length ≤ 1073741824) (hp2 : ∀ t ∈ Y0.Mesh.Triangles, t.length ≤ 1073741824) (hp3 : Y0.Springs.length ≤ 1073741824) (hp4 : Y0.Weights.length ≤ 1073741824) (hp5 : OkBd Y0) : ∀ (k : Nat) (Y1 : Int) (Y5 : (List GVector)) (Z7v : 0 ≤ Y1) (Z7w : Y5.length = Y0.Mesh.Places.length) (hk : ((Y0.Springs.length : Int) - Y1).toNat < k), Lp prog 0 (sub (bodyOf f51) [1, 1, 1, 0, 1, 0, 0]) (Z6c Y0 Y1 Y5) (Z6b Y0 (Z1j Y0 k Y1 Y5)).1 (Z6b Y0 (Z1j Y0 k Y1 Y5)).2 := by
 intro k
 induction k with
 | zero => intro Y1 Y5 Z7v Z7w hk; exact absurd hk (Nat.not_lt_zero _)
 | succ k ih =>
  intro Y1 Y5 Z7v Z7w hk
  cases Yl : (decide (Y1 < (Y0.Springs.length : Int))) with
  | true =>
   have Yw := of_decide_eq_true Yl
   have YF : (0 : Int) ≤ Y1 := (by assumption)
   have YG : Y1 < (Y0.Springs.length : Int) := (by assumption)
   have YH : 0 ≤ (Y0.Springs.getD Y1.toNat default).A := (by have q := Z4u hp5 (by assumption) Yl; omega)
   have YI : (Y0.Springs.getD Y1.toNat default).A < (Y0.Mesh.Places.length : Int) := (by have q := Z4u hp5 (by assumption) Yl; omega)
   have YP : 0 ≤ (Y0.Springs.getD Y1.toNat default).B := (by have q := Z4u hp5 (by assumption) Yl; omega)
   have YS : (Y0.Springs.getD Y1.toNat default).B < (Y0.Mesh.Places.length : Int) := (by have q := Z4u hp5 (by assumption) Yl; omega)
   have y_6 : (0 : Int) ≤ ((Y0.Springs.getD Y1.toNat default).A) := (by assumption)
   have y_7 : ((Y0.Springs.getD Y1.toNat default).A) < (Y5.length : Int) := (by omega)
   have y_8 : ((Y0.Springs.getD Y1.toNat default).A).toNat < Y5.length := (by omega)
   have y_9 : (0 : Int) ≤ ((Y0.Springs.getD Y1.toNat default).B) := (by assumption)
   have Y18 : ((Y0.Springs.getD Y1.toNat default).B) < ((Y5.set (((Y0.Springs.getD Y1.toNat default).A).toNat) (Zm Y0 Y1 Y5)).length : Int) := (by have q := hp5.w; have q := Z4u hp5 (by assumption) Yl; (simp only [List.length_set]; omega))
   have Y1c : ((Y0.Springs.getD Y1.toNat default).B).toNat < (Y5.set (((Y0.Springs.getD Y1.toNat default).A).toNat) (Zm Y0 Y1 Y5)).length := (by omega)
   have Y1g : (-9223372036854775808 : Int) ≤ (Y1 + 1) := (by omega)
   have Y1h : (Y1 + 1) ≤ (9223372036854775807 : Int) := (by omega)
   have e : Z1j Y0 (k + 1) Y1 Y5 = (Z1j Y0 k (Y1 + 1) ((Y5.set (((Y0.Springs.getD Y1.toNat default).A).toNat) (Zm Y0 Y1 Y5)).set (((Y0.Springs.getD Y1.toNat default).B).toNat) (Z2Q Y0 Y1 Y5))) := by simp only [Z1j, Yl, cond_true]
   rw [e]
   exact nextS E0Ok Z5 [] (mR false [0, 1, 1, 3, 15, 15, 245]) [0] (⟨.ref (GBody.cells Y0) 0 :: .any :: .nils :: .ref (GBody.cells Y0) 0 :: .own 0 :: an 15 (.ref (GBody.cells Y0) 0 :: .ref (GBody.cells Y0) 0 :: .ref (GBody.cells Y0) 0 :: .ref (GBody.cells Y0) 0 :: .ref (GBody.cells Y0) 0 :: .ref (GBody.cells Y0) 0 :: .sl (Y0.Mesh.Places.map GVector.cells) :: .i .i64 (Y0.Mesh.Places.length : Int) :: .own 0 :: .ref (GBody.cells Y0) 0 :: .ref (GBody.cells Y0) 0 :: .ref (GBody.cells Y0) 2 :: .sl (Y0.Springs.map GSpring.cells) :: .i .i64 (Y0.Springs.length : Int) :: .i .i64 (Y1 + 1) :: an 245 []), [.vec 40 3 (((Y5.map GVector.cells).set (((Y0.Springs.getD Y1.toNat default).A).toNat) [.f .f32 ((Zm Y0 Y1 Y5).X), .f .f32 ((Zm Y0 Y1 Y5).Y), .f .f32 ((Zm Y0 Y1 Y5).Z)]).set (((Y0.Springs.getD Y1.toNat default).B).toNat) [.f .f32 ((Z2Q Y0 Y1 Y5).X), .f .f32 ((Z2Q Y0 Y1 Y5).Y), .f .f32 ((Z2Q Y0 Y1 Y5).Z)]) false]⟩) (sB Yl <| sG GSpring.cells Y0.Springs Y1 YF YG <| sF (ZeD Y0 (Y0.Springs.getD Y1.toNat default) hp0 hp1 hp2 hp3 hp4 YH YI YP YS) <| sK [16, 16] <| sX GVector.cells Y5 ((Y0.Springs.getD Y1.toNat default).A) y_6 y_7 <| sV GVector.cells Y5 (((Y0.Springs.getD Y1.toNat default).A).toNat) y_8 <| sF (Z30 ((Z2K Y0 (Y0.Springs.getD Y1.toNat default)).1) ((Z2K Y0 (Y0.Springs.getD Y1.toNat default)).2)) <| sF (Z3b (Y5.getD (((Y0.Springs.getD Y1.toNat default).A).toNat) default) (Zn ((Z2K Y0 (Y0.Springs.getD Y1.toNat default)).1) ((Z2K Y0 (Y0.Springs.getD Y1.toNat default)).2))) <| sX GVector.cells Y5 ((Y0.Springs.getD Y1.toNat default).A) y_6 y_7 <| sC (maplt (c := GVector.cells) (l := Y5) y_8) <| sK [17, 17] <| sC (show 0 ≤ ((Y0.Springs.getD Y1.toNat default).B) ∧ Int.toNat ((Y0.Springs.getD Y1.toNat default).B) < ((Y5.map GVector.cells).set (((Y0.Springs.getD Y1.toNat default).A).toNat) [.f .f32 ((Zm Y0 Y1 Y5).X), .f .f32 ((Zm Y0 Y1 Y5).Y), .f .f32 ((Zm Y0 Y1 Y5).Z)]).length from (by simpa using idx_ok (c := GVector.cells) (l := (Y5.set (((Y0.Springs.getD Y1.toNat default).A).toNat) (Zm Y0 Y1 Y5))) (i := (Y0.Springs.getD Y1.toNat default).B) y_9 Y18)) <| sE (show ((Y5.map GVector.cells).set (((Y0.Springs.getD Y1.toNat default).A).toNat) [.f .f32 ((Zm Y0 Y1 Y5).X), .f .f32 ((Zm Y0 Y1 Y5).Y), .f .f32 ((Zm Y0 Y1 Y5).Z)])[((Y0.Springs.getD Y1.toNat default).B).toNat]? = some [.f .f32 (((Y5.set (((Y0.Springs.getD Y1.toNat default).A).toNat) (Zm Y0 Y1 Y5)).getD (((Y0.Springs.getD Y1.toNat default).B).toNat) default).X), .f .f32 (((Y5.set (((Y0.Springs.getD Y1.toNat default).A).toNat) (Zm Y0 Y1 Y5)).getD (((Y0.Springs.getD Y1.toNat default).B).toNat) default).Y), .f .f32 (((Y5.set (((Y0.Springs.getD Y1.toNat default).A).toNat) (Zm Y0 Y1 Y5)).getD (((Y0.Springs.getD Y1.toNat default).B).toNat) default).Z)] from (by have q := vget_ok (c := GVector.cells) (l := (Y5.set (((Y0.Springs.getD Y1.toNat default).A).toNat) (Zm Y0 Y1 Y5))) (k := ((Y0.Springs.getD Y1.toNat default).B).toNat) Y1c; (simp only [List.map_set, List.map_append, List.map_cons, List.map_nil, List.map_replicate] at q; exact q))) <| sF (Z30 ((Z2K Y0 (Y0.Springs.getD Y1.toNat default)).1) (fneg .f32 ((Z2K Y0 (Y0.Springs.getD Y1.toNat default)).2))) <| sF (Z3b ((Y5.set (((Y0.Springs.getD Y1.toNat default).A).toNat) (Zm Y0 Y1 Y5)).getD (((Y0.Springs.getD Y1.toNat default).B).toNat) default) (Z8s Y0 Y1)) <| sC (show 0 ≤ ((Y0.Springs.getD Y1.toNat default).B) ∧ Int.toNat ((Y0.Springs.getD Y1.toNat default).B) < ((Y5.map GVector.cells).set (((Y0.Springs.getD Y1.toNat default).A).toNat) [.f .f32 ((Zm Y0 Y1 Y5).X), .f .f32 ((Zm Y0 Y1 Y5).Y), .f .f32 ((Zm Y0 Y1 Y5).Z)]).length from (by simpa using idx_ok (c := GVector.cells) (l := (Y5.set (((Y0.Springs.getD Y1.toNat default).A).toNat) (Zm Y0 Y1 Y5))) (i := (Y0.Springs.getD Y1.toNat default).B) y_9 Y18)) <| sC (show ((Y0.Springs.getD Y1.toNat default).B).toNat < ((Y5.map GVector.cells).set (((Y0.Springs.getD Y1.toNat default).A).toNat) [.f .f32 ((Zm Y0 Y1 Y5).X), .f .f32 ((Zm Y0 Y1 Y5).Y), .f .f32 ((Zm Y0 Y1 Y5).Z)]).length from (by simpa using Y1c)) <| sI (Y1 + 1) Y1g Y1h <| sN) (by kernel_rfl) (by simp [Z6c, List.map_set, GVector.cells]) (ih (Y1 + 1) ((Y5.set (((Y0.Springs.getD Y1.toNat default).A).toNat) (Zm Y0 Y1 Y5)).set (((Y0.Springs.getD Y1.toNat default).B).toNat) (Z2Q Y0 Y1 Y5)) (show 0 ≤ (Y1 + 1) from (by omega)) (show ((Y5.set (((Y0.Springs.getD Y1.toNat default).A).toNat) (Zm Y0 Y1 Y5)).set (((Y0.Springs.getD Y1.toNat default).B).toNat) (Z2Q Y0 Y1 Y5)).length = Y0.Mesh.Places.length from (by have q := hp5.w; have q := Z4u hp5 (by assumption) Yl; (simp only [List.length_set]; omega))) (by omega))
  | false =>
   have Yw := of_decide_eq_false Yl
   have e : Z1j Y0 (k + 1) Y1 Y5 = Y5 := by simp only [Z1j, Yl, cond_false]
   rw [e]
   exact outR (e := (.exit 0)) E0Ok Z5 [] (mR false [0, 1, 1, 3, 15, 13, 247]) [0] (sB Yl <| sN) (by kernel_rfl) (by intro h; cases h)
theorem ZaF (Y0 : GBody) : ∀ (k : Nat) (Y1 : Int) (Y5 : (List GVector)) (hk : ((Y0.Springs.length : Int) - Y1).toNat < k), (Z1j Y0 k Y1 Y5).length = Y5.length := by
  intro k
  induction k with
  | zero => intro Y1 Y5 hk; exact absurd hk (Nat.not_lt_zero _)
  | succ k ih =>
    intro Y1 Y5 hk
    cases Yl : (decide (Y1 < (Y0.Springs.length : Int))) with
    | true =>
      have e : Z1j Y0 (k + 1) Y1 Y5 = (Z1j Y0 k (Y1 + 1) ((Y5.set (((Y0.Springs.getD Y1.toNat default).A).toNat) (Zm Y0 Y1 Y5)).set (((Y0.Springs.getD Y1.toNat default).B).toNat) (Z2Q Y0 Y1 Y5))) := by simp only [Z1j, Yl, cond_true]
      rw [e, ih (Y1 + 1) ((Y5.set (((Y0.Springs.getD Y1.toNat default).A).toNat) (Zm Y0 Y1 Y5)).set (((Y0.Springs.getD Y1.toNat default).B).toNat) (Z2Q Y0 Y1 Y5)) (by simp_all <;> omega)]; simp
    | false =>
      have e : Z1j Y0 (k + 1) Y1 Y5 = Y5 := by simp only [Z1j, Yl, cond_false]
      first | (rw [e]; done) | (rw [e]; rfl)
def Z2U (Y0 : GBody) : (List GVector) := (Z1j Y0 (((Y0.Springs.length : Int) - 0).toNat + 1) 0 (List.replicate (Y0.Mesh.Places.length : Int).toNat (⟨0, 0, 0⟩ : GVector)))
@[simp] theorem Zeo (Y0 : GBody) : (Z2U Y0).length = ((List.replicate (Y0.Mesh.Places.length : Int).toNat (⟨0, 0, 0⟩ : GVector)) : (List GVector)).length := ZaF Y0 (((Y0.Springs.length : Int) - 0).toNat + 1) 0 (List.replicate (Y0.Mesh.Places.length : Int).toNat (⟨0, 0, 0⟩ : GVector)) (by exact Nat.lt_succ_self _)
def Z2x (Y0 : GBody) (Y1 : Int) : Nat := (Z4d (fneg .f32 (fop .mul .f32 1056964608 Y0.Film)) (Z2I (Ze Y0.Mesh (Y0.Mesh.Triangles.getD Y1.toNat default))))
def Z6d (Y0 : GBody) (Y1 : Int) (Y6 : Int) : GVector := (Z1S (Y0.Mesh.Places.getD ((Y0.Mesh.Triangles.getD Y1.toNat default).getD (Int.tmod (Y6 + 2) 3).toNat default).toNat default) (Y0.Mesh.Places.getD ((Y0.Mesh.Triangles.getD Y1.toNat default).getD (Int.tmod (Y6 + 1) 3).toNat default).toNat default))
def Z4X (Y0 : GBody) (Y1 : Int) (Y6 : Int) : GVector := (Zn (Z4m (Ze Y0.Mesh (Y0.Mesh.Triangles.getD Y1.toNat default)) (Z6d Y0 Y1 Y6)) (Z2x Y0 Y1))
def Z2a (Y0 : GBody) (Y1 : Int) (Y6 : Int) (Yo : (List GVector)) : GVector := (Zz (Yo.getD (((Y0.Mesh.Triangles.getD Y1.toNat default).getD Y6.toNat default).toNat) default) (Z4X Y0 Y1 Y6))
def ZN (Y0 : GBody) (Y1 : Int) (Y5 : (List GVector)) : Nat → Int → (List GVector) → (List GVector)
  | 0, _, _ => default
  | k + 1, Y6, Yo => (cond (decide (Y6 < 3))
    (ZN Y0 Y1 Y5 k (Y6 + 1) (Yo.set (((Y0.Mesh.Triangles.getD Y1.toNat default).getD Y6.toNat default).toNat) (Z2a Y0 Y1 Y6 Yo)))
    Yo)
def Z6e (Y0 : GBody) (Y1 : Int) (Y5 : (List GVector)) (r : (List GVector)) : Ex × St := ((.exit 4), ⟨.ref (GBody.cells Y0) 0 :: .any :: .nils :: .ref (GBody.cells Y0) 0 :: .own 0 :: an 4 (.i .i64 Y1 :: .sl ((Y0.Mesh.Triangles.getD Y1.toNat default).map (cI .i64)) :: .ptr 1 0 0 :: .f .f32 (Z2x Y0 Y1) :: an 7 (.ref (GBody.cells Y0) 0 :: .ref (GBody.cells Y0) 0 :: .ref (GBody.cells Y0) 0 :: .ref (GBody.cells Y0) 0 :: .ref (GBody.cells Y0) 0 :: .ref (GBody.cells Y0) 0 :: .sl (Y0.Mesh.Places.map GVector.cells) :: .i .i64 (Y0.Mesh.Places.length : Int) :: .own 0 :: .ref (GBody.cells Y0) 0 :: .ref (GBody.cells Y0) 0 :: .ref (GBody.cells Y0) 2 :: .sl (Y0.Springs.map GSpring.cells) :: an 52 (.ref (GBody.cells Y0) 0 :: .ref (GBody.cells Y0) 0 :: .ref (GBody.cells Y0) 1 :: .sl (Y0.Mesh.Triangles.map (cL (cI .i64))) :: .i .i64 (Y0.Mesh.Triangles.length : Int) :: .i .i64 Y1 :: .b (decide (Y1 < (Y0.Mesh.Triangles.length : Int))) :: .i .i64 Y1 :: .ref (GBody.cells Y0) 0 :: .ref (GBody.cells Y0) 0 :: .ref (GBody.cells Y0) 1 :: .sl (Y0.Mesh.Triangles.map (cL (cI .i64))) :: .i .i64 Y1 :: .ref [.sl ((Y0.Mesh.Triangles.getD Y1.toNat default).map (cI .i64))] 0 :: .sl ((Y0.Mesh.Triangles.getD Y1.toNat default).map (cI .i64)) :: .ref (GBody.cells Y0) 0 :: .sl ((Y0.Mesh.Triangles.getD Y1.toNat default).map (cI .i64)) :: .agg [.f .f32 ((Ze Y0.Mesh (Y0.Mesh.Triangles.getD Y1.toNat default)).X), .f .f32 ((Ze Y0.Mesh (Y0.Mesh.Triangles.getD Y1.toNat default)).Y), .f .f32 ((Ze Y0.Mesh (Y0.Mesh.Triangles.getD Y1.toNat default)).Z)] :: .ref (GBody.cells Y0) 0 :: .ref (GBody.cells Y0) 0 :: .ref (GBody.cells Y0) 3 :: .f .f32 Y0.Film :: .f .f32 (fop .mul .f32 1056964608 Y0.Film) :: .f .f32 (fneg .f32 (fop .mul .f32 1056964608 Y0.Film)) :: .agg [.f .f32 ((Ze Y0.Mesh (Y0.Mesh.Triangles.getD Y1.toNat default)).X), .f .f32 ((Ze Y0.Mesh (Y0.Mesh.Triangles.getD Y1.toNat default)).Y), .f .f32 ((Ze Y0.Mesh (Y0.Mesh.Triangles.getD Y1.toNat default)).Z)] :: .f .f32 (Z2I (Ze Y0.Mesh (Y0.Mesh.Triangles.getD Y1.toNat default))) :: .f .f32 (Z2x Y0 Y1) :: an 168 []))), [.vec 40 3 (r.map GVector.cells) false, .box 40 [.f .f32 ((Ze Y0.Mesh (Y0.Mesh.Triangles.getD Y1.toNat default)).X), .f .f32 ((Ze Y0.Mesh (Y0.Mesh.Triangles.getD Y1.toNat default)).Y), .f .f32 ((Ze Y0.Mesh (Y0.Mesh.Triangles.getD Y1.toNat default)).Z)]]⟩)
def Z8t (Y0 : GBody) (Y1 : Int) (Y5 : (List GVector)) (Y6 : Int) (Yo : (List GVector)) : St := ⟨.ref (GBody.cells Y0) 0 :: .any :: .nils :: .ref (GBody.cells Y0) 0 :: .own 0 :: an 4 (.i .i64 Y1 :: .sl ((Y0.Mesh.Triangles.getD Y1.toNat default).map (cI .i64)) :: .ptr 1 0 0 :: .f .f32 (Z2x Y0 Y1) :: .i .i64 Y6 :: an 6 (.ref (GBody.cells Y0) 0 :: .ref (GBody.cells Y0) 0 :: .ref (GBody.cells Y0) 0 :: .ref (GBody.cells Y0) 0 :: .ref (GBody.cells Y0) 0 :: .ref (GBody.cells Y0) 0 :: .sl (Y0.Mesh.Places.map GVector.cells) :: .i .i64 (Y0.Mesh.Places.length : Int) :: .own 0 :: .ref (GBody.cells Y0) 0 :: .ref (GBody.cells Y0) 0 :: .ref (GBody.cells Y0) 2 :: .sl (Y0.Springs.map GSpring.cells) :: an 52 (.ref (GBody.cells Y0) 0 :: .ref (GBody.cells Y0) 0 :: .ref (GBody.cells Y0) 1 :: .sl (Y0.Mesh.Triangles.map (cL (cI .i64))) :: .i .i64 (Y0.Mesh.Triangles.length : Int) :: .i .i64 Y1 :: .b (decide (Y1 < (Y0.Mesh.Triangles.length : Int))) :: .i .i64 Y1 :: .ref (GBody.cells Y0) 0 :: .ref (GBody.cells Y0) 0 :: .ref (GBody.cells Y0) 1 :: .sl (Y0.Mesh.Triangles.map (cL (cI .i64))) :: .i .i64 Y1 :: .ref [.sl ((Y0.Mesh.Triangles.getD Y1.toNat default).map (cI .i64))] 0 :: .sl ((Y0.Mesh.Triangles.getD Y1.toNat default).map (cI .i64)) :: .ref (GBody.cells Y0) 0 :: .sl ((Y0.Mesh.Triangles.getD Y1.toNat default).map (cI .i64)) :: .agg [.f .f32 ((Ze Y0.Mesh (Y0.Mesh.Triangles.getD Y1.toNat default)).X), .f .f32 ((Ze Y0.Mesh (Y0.Mesh.Triangles.getD Y1.toNat default)).Y), .f .f32 ((Ze Y0.Mesh (Y0.Mesh.Triangles.getD Y1.toNat default)).Z)] :: .ref (GBody.cells Y0) 0 :: .ref (GBody.cells Y0) 0 :: .ref (GBody.cells Y0) 3 :: .f .f32 Y0.Film :: .f .f32 (fop .mul .f32 1056964608 Y0.Film) :: .f .f32 (fneg .f32 (fop .mul .f32 1056964608 Y0.Film)) :: .agg [.f .f32 ((Ze Y0.Mesh (Y0.Mesh.Triangles.getD Y1.toNat default)).X), .f .f32 ((Ze Y0.Mesh (Y0.Mesh.Triangles.getD Y1.toNat default)).Y), .f .f32 ((Ze Y0.Mesh (Y0.Mesh.Triangles.getD Y1.toNat default)).Z)] :: .f .f32 (Z2I (Ze Y0.Mesh (Y0.Mesh.Triangles.getD Y1.toNat default))) :: .f .f32 (Z2x Y0 Y1) :: an 168 []))), [.vec 40 3 (Yo.map GVector.cells) false, .box 40 [.f .f32 ((Ze Y0.Mesh (Y0.Mesh.Triangles.getD Y1.toNat default)).X), .f .f32 ((Ze Y0.Mesh (Y0.Mesh.Triangles.getD Y1.toNat default)).Y), .f .f32 ((Ze Y0.Mesh (Y0.Mesh.Triangles.getD Y1.toNat default)).Z)]]⟩
def Z7x : List Bool := (mR false [0, 1, 1, 3, 4, 5, 6, 13, 52, 27, 168])
def ZaG : List Bool := (mR false [0, 1, 1, 3, 4, 4, 7, 13, 52, 27, 168])
set_option maxHeartbeats 1000000 in
theorem ZbC (Y0 : GBody) (Y1 : Int) (Y5 : (List GVector)) (hp0 : Y0.Mesh.Places.length ≤ 1073741824) (hp1 : Y0.Mesh.Triangles.length ≤ 1073741824) (hp2 : ∀ t ∈ Y0.Mesh.Triangles, t.length ≤ 1073741824) (hp3 : Y0.Springs.length ≤ 1073741824) (hp4 : Y0.Weights.length ≤ 1073741824) (hp5 : OkBd Y0) (Z4p : 0 ≤ Y1) (Z4q : Y5.length = Y0.Mesh.Places.length) (Z1G : (decide (Y1 < (Y0.Mesh.Triangles.length : Int))) = true) : ∀ (k : Nat) (Y6 : Int) (Yo : (List GVector)) (Z7y : 0 ≤ Y6) (Z7z : Yo.length = Y5.length) (hk : ((3 : Int) - Y6).toNat < k), Lp prog 0 (sub (bodyOf f51) [1, 1, 1, 1, 0, 1, 0, 0, 1, 1, 0, 0, 1, 1, 1, 1, 1, 0, 0]) (Z8t Y0 Y1 Y5 Y6 Yo) (Z6e Y0 Y1 Y5 (ZN Y0 Y1 Y5 k Y6 Yo)).1 (Z6e Y0 Y1 Y5 (ZN Y0 Y1 Y5 k Y6 Yo)).2 := by
 intro k
 induction k with
 | zero => intro Y6 Yo Z7y Z7z hk; exact absurd hk (Nat.not_lt_zero _)
 | succ k ih =>
  intro Y6 Yo Z7y Z7z hk
  cases YD : (decide (Y6 < 3)) with
  | true =>
   have YB := of_decide_eq_true YD
   have Y13 : (-9223372036854775808 : Int) ≤ (Y6 + 2) := (by omega)
   have Y14 : (Y6 + 2) ≤ (9223372036854775807 : Int) := (by omega)
   have Y11 : (0 : Int) ≤ (Int.tmod (Y6 + 2) 3) := (by have q := Z2r hp5.e (by assumption) (of_decide_eq_true Z1G) (by assumption) YB; omega)
   have YZ : (Int.tmod (Y6 + 2) 3) < ((Y0.Mesh.Triangles.getD Y1.toNat default).length : Int) := (by have q := Z2r hp5.e (by assumption) (of_decide_eq_true Z1G) (by assumption) YB; omega)
   have Y15 : (0 : Int) ≤ ((Y0.Mesh.Triangles.getD Y1.toNat default).getD (Int.tmod (Y6 + 2) 3).toNat default) := (by have q := Z2r hp5.e (by assumption) (of_decide_eq_true Z1G) (by assumption) YB; omega)
   have Y1a : ((Y0.Mesh.Triangles.getD Y1.toNat default).getD (Int.tmod (Y6 + 2) 3).toNat default) < (Y0.Mesh.Places.length : Int) := (by have q := Z2r hp5.e (by assumption) (of_decide_eq_true Z1G) (by assumption) YB; omega)
   have Y17 : (-9223372036854775808 : Int) ≤ (Y6 + 1) := (by omega)
   have Y1b : (Y6 + 1) ≤ (9223372036854775807 : Int) := (by omega)
   have Y1n : (0 : Int) ≤ (Int.tmod (Y6 + 1) 3) := (by have q := Z2r hp5.e (by assumption) (of_decide_eq_true Z1G) (by assumption) YB; omega)
   have Y1y : (Int.tmod (Y6 + 1) 3) < ((Y0.Mesh.Triangles.getD Y1.toNat default).length : Int) := (by have q := Z2r hp5.e (by assumption) (of_decide_eq_true Z1G) (by assumption) YB; omega)
   have Y1o : (0 : Int) ≤ ((Y0.Mesh.Triangles.getD Y1.toNat default).getD (Int.tmod (Y6 + 1) 3).toNat default) := (by have q := Z2r hp5.e (by assumption) (of_decide_eq_true Z1G) (by assumption) YB; omega)
   have Y1p : ((Y0.Mesh.Triangles.getD Y1.toNat default).getD (Int.tmod (Y6 + 1) 3).toNat default) < (Y0.Mesh.Places.length : Int) := (by have q := Z2r hp5.e (by assumption) (of_decide_eq_true Z1G) (by assumption) YB; omega)
   have Y1i : (0 : Int) ≤ Y6 := (by assumption)
   have Y1j : Y6 < ((Y0.Mesh.Triangles.getD Y1.toNat default).length : Int) := (by have q := Z2r hp5.e (by assumption) (of_decide_eq_true Z1G) (by assumption) YB; omega)
   have Y1k : (0 : Int) ≤ ((Y0.Mesh.Triangles.getD Y1.toNat default).getD Y6.toNat default) := (by have q := Z2r hp5.e (by assumption) (of_decide_eq_true Z1G) (by assumption) YB; omega)
   have Y1l : ((Y0.Mesh.Triangles.getD Y1.toNat default).getD Y6.toNat default) < (Yo.length : Int) := (by have q := Z2r hp5.e (by assumption) (of_decide_eq_true Z1G) (by assumption) YB; omega)
   have Y1m : ((Y0.Mesh.Triangles.getD Y1.toNat default).getD Y6.toNat default).toNat < Yo.length := (by omega)
   have e : ZN Y0 Y1 Y5 (k + 1) Y6 Yo = (ZN Y0 Y1 Y5 k (Y6 + 1) (Yo.set (((Y0.Mesh.Triangles.getD Y1.toNat default).getD Y6.toNat default).toNat) (Z2a Y0 Y1 Y6 Yo))) := by simp only [ZN, YD, cond_true]
   rw [e]
   exact nextS E0Ok Z5 [] Z7x [0, 1] (⟨.ref (GBody.cells Y0) 0 :: .any :: .nils :: .ref (GBody.cells Y0) 0 :: .own 0 :: an 4 (.i .i64 Y1 :: .sl ((Y0.Mesh.Triangles.getD Y1.toNat default).map (cI .i64)) :: .ptr 1 0 0 :: .f .f32 (Z2x Y0 Y1) :: .i .i64 (Y6 + 1) :: an 6 (.ref (GBody.cells Y0) 0 :: .ref (GBody.cells Y0) 0 :: .ref (GBody.cells Y0) 0 :: .ref (GBody.cells Y0) 0 :: .ref (GBody.cells Y0) 0 :: .ref (GBody.cells Y0) 0 :: .sl (Y0.Mesh.Places.map GVector.cells) :: .i .i64 (Y0.Mesh.Places.length : Int) :: .own 0 :: .ref (GBody.cells Y0) 0 :: .ref (GBody.cells Y0) 0 :: .ref (GBody.cells Y0) 2 :: .sl (Y0.Springs.map GSpring.cells) :: an 52 (.ref (GBody.cells Y0) 0 :: .ref (GBody.cells Y0) 0 :: .ref (GBody.cells Y0) 1 :: .sl (Y0.Mesh.Triangles.map (cL (cI .i64))) :: .i .i64 (Y0.Mesh.Triangles.length : Int) :: .i .i64 Y1 :: .b (decide (Y1 < (Y0.Mesh.Triangles.length : Int))) :: .i .i64 Y1 :: .ref (GBody.cells Y0) 0 :: .ref (GBody.cells Y0) 0 :: .ref (GBody.cells Y0) 1 :: .sl (Y0.Mesh.Triangles.map (cL (cI .i64))) :: .i .i64 Y1 :: .ref [.sl ((Y0.Mesh.Triangles.getD Y1.toNat default).map (cI .i64))] 0 :: .sl ((Y0.Mesh.Triangles.getD Y1.toNat default).map (cI .i64)) :: .ref (GBody.cells Y0) 0 :: .sl ((Y0.Mesh.Triangles.getD Y1.toNat default).map (cI .i64)) :: .agg [.f .f32 ((Ze Y0.Mesh (Y0.Mesh.Triangles.getD Y1.toNat default)).X), .f .f32 ((Ze Y0.Mesh (Y0.Mesh.Triangles.getD Y1.toNat default)).Y), .f .f32 ((Ze Y0.Mesh (Y0.Mesh.Triangles.getD Y1.toNat default)).Z)] :: .ref (GBody.cells Y0) 0 :: .ref (GBody.cells Y0) 0 :: .ref (GBody.cells Y0) 3 :: .f .f32 Y0.Film :: .f .f32 (fop .mul .f32 1056964608 Y0.Film) :: .f .f32 (fneg .f32 (fop .mul .f32 1056964608 Y0.Film)) :: .agg [.f .f32 ((Ze Y0.Mesh (Y0.Mesh.Triangles.getD Y1.toNat default)).X), .f .f32 ((Ze Y0.Mesh (Y0.Mesh.Triangles.getD Y1.toNat default)).Y), .f .f32 ((Ze Y0.Mesh (Y0.Mesh.Triangles.getD Y1.toNat default)).Z)] :: .f .f32 (Z2I (Ze Y0.Mesh (Y0.Mesh.Triangles.getD Y1.toNat default))) :: .f .f32 (Z2x Y0 Y1) :: an 168 []))), [.vec 40 3 ((Yo.map GVector.cells).set (((Y0.Mesh.Triangles.getD Y1.toNat default).getD Y6.toNat default).toNat) [.f .f32 ((Z2a Y0 Y1 Y6 Yo).X), .f .f32 ((Z2a Y0 Y1 Y6 Yo).Y), .f .f32 ((Z2a Y0 Y1 Y6 Yo).Z)]) false, .box 40 [.f .f32 ((Ze Y0.Mesh (Y0.Mesh.Triangles.getD Y1.toNat default)).X), .f .f32 ((Ze Y0.Mesh (Y0.Mesh.Triangles.getD Y1.toNat default)).Y), .f .f32 ((Ze Y0.Mesh (Y0.Mesh.Triangles.getD Y1.toNat default)).Z)]]⟩) (sB YD <| sK [26, 26] <| sI (Y6 + 2) Y13 Y14 <| sC (show (3 : Int) ≠ 0 from (by decide)) <| sQ (Int.tmod (Y6 + 2) 3) <| sG (cI .i64) (Y0.Mesh.Triangles.getD Y1.toNat default) (Int.tmod (Y6 + 2) 3) Y11 YZ <| sG GVector.cells Y0.Mesh.Places ((Y0.Mesh.Triangles.getD Y1.toNat default).getD (Int.tmod (Y6 + 2) 3).toNat default) Y15 Y1a <| sI (Y6 + 1) Y17 Y1b <| sC (show (3 : Int) ≠ 0 from (by decide)) <| sQ (Int.tmod (Y6 + 1) 3) <| sG (cI .i64) (Y0.Mesh.Triangles.getD Y1.toNat default) (Int.tmod (Y6 + 1) 3) Y1n Y1y <| sG GVector.cells Y0.Mesh.Places ((Y0.Mesh.Triangles.getD Y1.toNat default).getD (Int.tmod (Y6 + 1) 3).toNat default) Y1o Y1p <| sF (Z5k (Y0.Mesh.Places.getD ((Y0.Mesh.Triangles.getD Y1.toNat default).getD (Int.tmod (Y6 + 2) 3).toNat default).toNat default) (Y0.Mesh.Places.getD ((Y0.Mesh.Triangles.getD Y1.toNat default).getD (Int.tmod (Y6 + 1) 3).toNat default).toNat default)) <| sK [18, 18] <| sG (cI .i64) (Y0.Mesh.Triangles.getD Y1.toNat default) Y6 Y1i Y1j <| sG (cI .i64) (Y0.Mesh.Triangles.getD Y1.toNat default) Y6 Y1i Y1j <| sX GVector.cells Yo ((Y0.Mesh.Triangles.getD Y1.toNat default).getD Y6.toNat default) Y1k Y1l <| sV GVector.cells Yo (((Y0.Mesh.Triangles.getD Y1.toNat default).getD Y6.toNat default).toNat) Y1m <| sF (Zaj (Ze Y0.Mesh (Y0.Mesh.Triangles.getD Y1.toNat default)) (Z6d Y0 Y1 Y6)) <| sF (Z30 (Z4m (Ze Y0.Mesh (Y0.Mesh.Triangles.getD Y1.toNat default)) (Z6d Y0 Y1 Y6)) (Z2x Y0 Y1)) <| sF (Z3b (Yo.getD (((Y0.Mesh.Triangles.getD Y1.toNat default).getD Y6.toNat default).toNat) default) (Z4X Y0 Y1 Y6)) <| sX GVector.cells Yo ((Y0.Mesh.Triangles.getD Y1.toNat default).getD Y6.toNat default) Y1k Y1l <| sC (maplt (c := GVector.cells) (l := Yo) Y1m) <| sI (Y6 + 1) Y17 Y1b <| sN) (by kernel_rfl) (by simp [Z8t, List.map_set, GVector.cells]) (ih (Y6 + 1) (Yo.set (((Y0.Mesh.Triangles.getD Y1.toNat default).getD Y6.toNat default).toNat) (Z2a Y0 Y1 Y6 Yo)) (show 0 ≤ (Y6 + 1) from (by omega)) (show (Yo.set (((Y0.Mesh.Triangles.getD Y1.toNat default).getD Y6.toNat default).toNat) (Z2a Y0 Y1 Y6 Yo)).length = Y5.length from (by have q := Z2r hp5.e (by assumption) (of_decide_eq_true Z1G) (by assumption) YB; (simp only [List.length_set]; omega))) (by omega))
  | false =>
   have YB := of_decide_eq_false YD
   have e : ZN Y0 Y1 Y5 (k + 1) Y6 Yo = Yo := by simp only [ZN, YD, cond_false]
   rw [e]
   exact outR (e := (.exit 4)) E0Ok Z5 [] ZaG [0, 1] (sB YD <| sN) (by kernel_rfl) (by intro h; cases h)
end Go.Ab
