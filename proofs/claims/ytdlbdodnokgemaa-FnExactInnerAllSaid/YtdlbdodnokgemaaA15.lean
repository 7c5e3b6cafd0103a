/- Regions whose order is open, concluded. -/
import Derived.Test.YtdlbdodnokgemaaA14
namespace Go.Ab
open Go.RowKit

section
variable {P : Program} {E : Env} {w0 : World}

theorem tail_sound (hE : EOk P E) {ops : Array Oper} {m : Nat} {Q : Exit → Act → World → Prop} (hedge : ∀ j o, ops.toList[j]? = some o → edgesLt j o = true)
    (htail : ∀ k o, m ≤ k → ops.toList[k]? = some o → ∀ j, j < k → (((allDeps ops.toList [])[k]?).getD 0).testBit j = true) :
    ∀ (n i fuel : Nat) (st st' : St) (ans ans' : List Ans) (C : List Prop) (listed : Array Bool) (a : Act) (w : World), n = ops.size - i → m ≤ i → i ≤ ops.size → n ≤ fuel →
      evList P E ops.toList (ops.toList.drop i) st ans = some (st', ans', C) → All C → listed.size = ops.size → (∀ j, j < ops.size → listed[j]? = some (decide (j < i))) → Rel w0 st a w →
      (∀ a' w', Rel w0 st' a' w' → Q .normal a' w') → wpAny P .any ops Q fuel listed a w := by
  intro n
  induction n with
  | zero =>
    intro i fuel st st' ans ans' C listed a w hn hm hi hf h hC hs hl hr hQ
    have hie : i = ops.size := by omega
    subst hie
    rw [List.drop_eq_nil_of_le (by simp)] at h
    simp only [evList, Option.some.injEq, Prod.mk.injEq] at h
    obtain ⟨rfl, rfl, rfl⟩ := h
    have hready : Region.ready .any ops listed = [] := by
      cases hx : Region.ready .any ops listed with
      | nil => rfl
      | cons k ks =>
        have hk : k ∈ Region.ready .any ops listed := by rw [hx]; simp
        rw [ready_iff hs] at hk
        have := hl k hk.1
        rw [hk.2.1] at this
        simp at this; omega
    cases fuel with
    | zero => exact ⟨hready, hQ a w hr⟩
    | succ f => exact ⟨fun _ => hQ a w hr, fun k hk => by rw [hready] at hk; cases hk⟩
  | succ n ih =>
    intro i fuel st st' ans ans' C listed a w hn hm hi hf h hC hs hl hr hQ
    have hlt : i < ops.size := by omega
    have ho : ops.toList[i]? = some ops[i] := by rw [Array.getElem?_toList]; exact Array.getElem?_eq_getElem hlt
    have hD : ∀ j, listed.getD j false = decide (j < i) := by
      intro j
      rw [Array.getD_eq_getD_getElem?]
      by_cases hj : j < ops.size
      · rw [hl j hj]; rfl
      · rw [Array.getElem?_eq_none (by omega)]
        have : ¬ j < i := by omega
        simp [this]
    obtain ⟨f, rfl⟩ : ∃ f, fuel = f + 1 := ⟨fuel - 1, by omega⟩
    have hmem : i ∈ Region.ready .any ops listed := by
      rw [ready_iff hs]
      refine ⟨hlt, by rw [hl i hlt]; simp, fun o ho' e he hb => ?_⟩
      rw [hD]; simpa using edgesLt_spec (hedge i o ho') he hb
    refine ⟨fun hnil => (by rw [hnil] at hmem; cases hmem), fun k hk => ?_⟩
    rw [ready_iff hs] at hk
    obtain ⟨hk1, hk2, hk3⟩ := hk
    have hki : i ≤ k := by
      rw [hl k hk1] at hk2
      simp at hk2; exact hk2
    have hke : k = i := by
      rcases Nat.lt_or_ge i k with hlt2 | hge
      · exfalso
        have hok : ops.toList[k]? = some ops[k] := by rw [Array.getElem?_toList]; exact Array.getElem?_eq_getElem hk1
        have hcl : Closed ops.toList (fun j => listed.getD j false) := by
          intro j o hoj hDj e he hb
          have h1 : listed.getD j false = true := hDj
          show listed.getD e.on false = true
          rw [hD] at h1 ⊢
          have := edgesLt_spec (hedge j o hoj) he hb
          simp at h1 ⊢; omega
        have := dep_sub hcl hedge k _ hok (hk3 _ hok) i (htail k _ (by omega) hok i hlt2)
        rw [hD] at this; simp at this
      · omega
    subst hke
    rw [List.drop_eq_getElem_cons (by simpa using hlt)] at h
    simp only [evList] at h
    split at h
    · rename_i st1 ans1 C1 h1
      split at h
      · rename_i st2 ans2 C2 h2
        simp only [Option.some.injEq, Prod.mk.injEq] at h
        obtain ⟨rfl, rfl, rfl⟩ := h
        rw [All.append] at hC
        unfold wpOp
        have hok : ops[k]? = some ops.toList[k] := by rw [← Array.getElem?_toList]; exact List.getElem?_eq_getElem _
        rw [hok]
        refine evo_sound hE h1 hC.1 hr fun a' w' hr' => ?_
        refine ih (k + 1) f st1 st2 ans1 ans2 C2 (listed.setIfInBounds k true) a' w' (by omega) (by omega) (by omega) (by omega) h2 hC.2 (by simpa using hs) (fun j hj => ?_) hr' hQ
        by_cases hjk : j = k
        · subst hjk
          rw [Array.getElem?_setIfInBounds_self_of_lt (by omega)]; simp
        · rw [Array.getElem?_setIfInBounds_ne (fun e => hjk e.symm), hl j hj]
          congr 1
          simp only [decide_eq_decide]; omega
      · cases h
    · cases h

theorem mask_any {t : Nat} {u : AV} : ∀ (ds : List Tmp) (tm : List AV), t ∈ ds → (ds.foldl (fun tm d => tm.set d .any) tm)[t]? = some u → u = .any := by
  have keep : ∀ (ds : List Tmp) (tm : List AV), (tm[t]? = some .any ∨ tm[t]? = none) → ((ds.foldl (fun tm d => tm.set d .any) tm)[t]? = some .any ∨ (ds.foldl (fun tm d => tm.set d .any) tm)[t]? = none) := by
    intro ds
    induction ds with
    | nil => intro tm h; exact h
    | cons d ds ih =>
      intro tm h
      refine ih _ ?_
      by_cases hd : d = t
      · subst hd
        rw [List.getElem?_set_self']
        cases tm[d]? <;> simp
      · rw [List.getElem?_set_ne hd]; exact h
  intro ds
  induction ds with
  | nil => intro tm h; simp at h
  | cons d ds ih =>
    intro tm h e
    simp only [List.foldl_cons] at e
    rcases List.mem_cons.1 h with rfl | h
    · have := keep ds (tm.set t .any) (by rw [List.getElem?_set_self']; cases tm[t]? <;> simp)
      rw [e] at this
      simpa using this
    · exact ih _ h e
theorem mask_other {t : Nat} : ∀ (ds : List Tmp) (tm : List AV), t ∉ ds → (ds.foldl (fun tm d => tm.set d .any) tm)[t]? = tm[t]? := by
  intro ds
  induction ds with
  | nil => intro tm h; rfl
  | cons d ds ih =>
    intro tm h
    simp only [List.mem_cons, not_or] at h
    simp only [List.foldl_cons]
    rw [ih _ h.2, List.getElem?_set_ne (fun e => h.1 e.symm)]
theorem length_mask : ∀ (ds : List Tmp) (tm : List AV), (ds.foldl (fun tm d => tm.set d .any) tm).length = tm.length := by
  intro ds
  induction ds with
  | nil => intro tm; rfl
  | cons d ds ih => intro tm; simp [ih]

/-- Every two operations have slots of their own. -/
def Apart (R : List DR) : Prop := ∀ (i j : Nat) (r s : DR) (t : Tmp), R[i]? = some r → R[j]? = some s → r.dst = some t → s.dst = some t → i = j

theorem viewTm_val {R : List DR} (hap : Apart R) {tm : List AV} {D : Nat → Bool} {j t : Nat} {r : DR} {u : AV} (hj : R[j]? = some r) (hD : D j = true) (ht : r.dst = some t) (h : (viewTm tm R D 0)[t]? = some u) : u = r.av := by
  rcases viewTm_get R tm D 0 t u h with ⟨j', r', h1, h2, h3, h4⟩ | ⟨h1, h2⟩
  · have := hap j j' r r' t hj h1 ht h3
    subst this
    rw [hj] at h1; cases h1; exact h4
  · exact absurd ht (h1 j r hj (by rwa [Nat.zero_add]))

theorem viewTm_congr : ∀ (R : List DR) (tm : List AV) (D D' : Nat → Bool) (k : Nat), (∀ j, j < R.length → D (k + j) = D' (k + j)) → viewTm tm R D k = viewTm tm R D' k := by
  intro R
  induction R with
  | nil => intro tm D D' k _; rfl
  | cons r R ih =>
    intro tm D D' k h
    unfold viewTm
    have h0 := h 0 (by simp)
    rw [Nat.add_zero] at h0
    have h1 : ∀ j, j < R.length → D (k + 1 + j) = D' (k + 1 + j) := fun j hj => by have := h (j + 1) (by simp; omega); rwa [show k + 1 + j = k + (j + 1) from by omega]
    rw [h0, ih _ D D' (k + 1) h1, ih _ D D' (k + 1) h1]

theorem view_congr {tm : List AV} {rows : List Row} {R : List DR} {D D' : Nat → Bool} (h : ∀ j, j < R.length → D j = D' j) : view tm rows R D = view tm rows R D' := by
  unfold view
  rw [viewTm_congr R tm D D' 0 (by simpa using h), viewRows_congr R D D' 0 (by simpa using h)]

theorem getD_set {listed : Array Bool} {i j : Nat} (hi : i < listed.size) : (listed.setIfInBounds i true).getD j false = upd (fun j => listed.getD j false) i j := by
  unfold upd
  rw [Array.getD_eq_getD_getElem?]
  by_cases h : j = i
  · subst h; rw [Array.getElem?_setIfInBounds_self_of_lt hi]; simp
  · rw [Array.getElem?_setIfInBounds_ne (fun e => h e.symm), ← Array.getD_eq_getD_getElem?]; simp [h]

theorem apart_of {ops : List Oper} {R : List DR} (hn : nodupB (dstsOf ops) = true) (hl : R.length = ops.length) (hd : ∀ (i : Nat) (o : Oper), ops[i]? = some o → ∃ r : DR, R[i]? = some r ∧ r.dst = o.dst) : Apart R := by
  have hnd := nodupB_spec hn
  intro i j r s t hi hj hr hs
  have hio : i < ops.length := by
    rw [← hl]
    rcases Nat.lt_or_ge i R.length with h | h
    · exact h
    · rw [List.getElem?_eq_none h] at hi; cases hi
  have hjo : j < ops.length := by
    rw [← hl]
    rcases Nat.lt_or_ge j R.length with h | h
    · exact h
    · rw [List.getElem?_eq_none h] at hj; cases hj
  obtain ⟨r', e1, e2⟩ := hd i _ (List.getElem?_eq_getElem hio)
  obtain ⟨s', e3, e4⟩ := hd j _ (List.getElem?_eq_getElem hjo)
  rw [hi] at e1; cases e1
  rw [hj] at e3; cases e3
  rw [e2] at hr; rw [e4] at hs
  have key : ∀ (l : List Oper) (i j : Nat) (hi : i < l.length) (hj : j < l.length), (l.filterMap (·.dst)).Nodup → (l[i]).dst = some t → (l[j]).dst = some t → i = j := by
    intro l
    induction l with
    | nil => intro i j hi; simp at hi
    | cons x l ih =>
      intro i j hi hj hnd h1 h2
      cases i with
      | zero =>
        cases j with
        | zero => rfl
        | succ j =>
          exfalso
          simp only [List.getElem_cons_zero] at h1
          simp only [List.getElem_cons_succ] at h2
          rw [List.filterMap_cons, h1] at hnd
          exact (List.nodup_cons.1 hnd).1 (List.mem_filterMap.2 ⟨_, List.getElem_mem _, h2⟩)
      | succ i =>
        cases j with
        | zero =>
          exfalso
          simp only [List.getElem_cons_zero] at h2
          simp only [List.getElem_cons_succ] at h1
          rw [List.filterMap_cons, h2] at hnd
          exact (List.nodup_cons.1 hnd).1 (List.mem_filterMap.2 ⟨_, List.getElem_mem _, h1⟩)
        | succ j =>
          simp only [List.getElem_cons_succ] at h1 h2
          have hnd' : (l.filterMap (·.dst)).Nodup := by
            rw [List.filterMap_cons] at hnd
            split at hnd
            · exact hnd
            · exact (List.nodup_cons.1 hnd).2
          rw [ih i j (by simpa using hi) (by simpa using hj) hnd' h1 h2]
  exact key ops i j hio hjo hnd hr hs

theorem draw_sound (hE : EOk P E) {ops : Array Oper} {st st' : St} {ans ans' : List Ans} {C : List Prop} (h : evDraw P E ops.toList st ans = some (st', ans', C)) (hC : All C) {Q : Exit → Act → World → Prop}
    (hQ : ∀ a' w', Rel w0 st' a' w' → Q .normal a' w') {a : Act} {w : World} (hr : Rel w0 st a w) : wpAny P .any ops Q ops.size (Array.replicate ops.size false) a w := by
  unfold evDraw at h
  split at h
  · rename_i m ans0
    split at h
    · rename_i hchk
      simp only [Bool.and_eq_true, Nat.ble_eq] at hchk
      obtain ⟨⟨⟨hnd, hedges⟩, htl⟩, hml⟩ := hchk
      split at h
      · rename_i R ans1 C1 hpre
        split at h
        · rename_i st2 ans2 C2 htail
          simp only [Option.some.injEq, Prod.mk.injEq] at h
          obtain ⟨rfl, rfl, rfl⟩ := h
          rw [All.append] at hC
          generalize htm : (dstsOf (ops.toList.take m)).foldl (fun tm d => tm.set d .any) st.tm = tmB at hpre htail
          obtain ⟨hR, _, hspec⟩ := evPre_spec _ _ _ _ _ _ hpre hC.1
          simp only [List.length_nil, Nat.zero_add] at hR hspec
          have hml' : m ≤ ops.size := by simpa using hml
          have hRm : R.length = m := by rw [hR]; simp; omega
          have hedge : ∀ j o, ops.toList[j]? = some o → edgesLt j o = true := fun j o e => by have := edgesAll_spec _ 0 j o hedges e; rwa [Nat.zero_add] at this
          have hdl : (allDeps ops.toList []).length = ops.size := by
            obtain ⟨t, h1, h2⟩ := allDeps_pre ops.toList []
            rw [h1]; simp [h2]
          have htail' : ∀ k o, m ≤ k → ops.toList[k]? = some o → ∀ j, j < k → (((allDeps ops.toList [])[k]?).getD 0).testBit j = true := by
            intro k o hk ho j hj
            have hk' : k < (allDeps ops.toList []).length := by
              rw [hdl]
              rcases Nat.lt_or_ge k ops.size with h | h
              · exact h
              · rw [List.getElem?_eq_none (by simpa using h)] at ho; cases ho
            rw [List.getElem?_eq_getElem hk', Option.getD_some]
            refine tailOk_spec _ m (k - m) _ htl ?_ j (by omega)
            rw [List.getElem?_drop, show m + (k - m) = k from by omega, List.getElem?_eq_getElem hk']
          have hap : Apart R := apart_of hnd (by simp [hRm]; omega) fun i o ho => by
            obtain ⟨an, r, _, _, h3⟩ := hspec i o ho
            exact ⟨_, h3, rfl⟩
          have hdsts : ∀ (i : Nat) (r : DR) (t : Tmp), R[i]? = some r → r.dst = some t → t ∈ dstsOf (ops.toList.take m) := by
            intro i r t hi ht
            have hil : i < (ops.toList.take m).length := by
              rw [← hR]
              rcases Nat.lt_or_ge i R.length with h | h
              · exact h
              · rw [List.getElem?_eq_none h] at hi; cases hi
            obtain ⟨an, r', _, _, h3⟩ := hspec i _ (List.getElem?_eq_getElem hil)
            rw [hi] at h3; cases h3
            exact List.mem_filterMap.2 ⟨_, List.getElem_mem hil, ht⟩
          -- the invariant
          have main : ∀ (fuel : Nat) (listed : Array Bool) (a : Act) (w : World), listed.size = ops.size → listed.toList.countP (fun b => !b) ≤ fuel → Closed ops.toList (fun j => listed.getD j false) →
              (∀ j, m ≤ j → listed.getD j false = false) → Rel w0 (view tmB st.rows R (fun j => listed.getD j false)) a w → wpAny P .any ops Q fuel listed a w := by
            intro fuel
            induction fuel with
            | zero =>
              intro listed a w hs hcnt hcl hnt hrel
              have hall : ∀ j, j < ops.size → listed.getD j false = true := by
                intro j hj
                have h0 : listed.toList.countP (fun b => !b) = 0 := by omega
                rw [List.countP_eq_zero] at h0
                have hjm : listed[j]'(by omega) ∈ listed.toList := by simp
                have := h0 _ hjm
                rw [Array.getD_eq_getD_getElem?, Array.getElem?_eq_getElem (by omega)]
                simpa using this
              have hme : m = ops.size := by
                rcases Nat.lt_or_ge m ops.size with h | h
                · have := hall m h
                  rw [hnt m (Nat.le_refl _)] at this; cases this
                · omega
              refine tail_sound hE hedge htail' 0 m 0 _ st2 ans1 ans2 C2 listed a w (by omega) (Nat.le_refl _) hml' (Nat.le_refl _) htail hC.2 hs (fun j hj => ?_) ?_ hQ
              · have := hall j hj
                rw [Array.getD_eq_getD_getElem?, Array.getElem?_eq_getElem (by omega)] at this
                rw [Array.getElem?_eq_getElem (by omega)]
                simp only [Option.getD_some] at this
                rw [this]; simp; omega
              · rw [← view_congr (D := fun j => listed.getD j false) (fun j hj => hall j (by omega))]; exact hrel
            | succ fuel ih =>
              intro listed a w hs hcnt hcl hnt hrel
              by_cases hallp : ∀ j, j < m → listed.getD j false = true
              · -- the first part is done
                have hcnt2 : ops.size - m ≤ fuel + 1 := by
                  have h2 : ∀ (l : List Bool) (m : Nat), (∀ j, m ≤ j → l[j]?.getD false = false) → l.length - m ≤ l.countP (fun b => !b) := by
                    intro l
                    induction l with
                    | nil => intro m _; simp
                    | cons x l ih =>
                      intro m h
                      cases m with
                      | zero =>
                        have h0 := h 0 (Nat.le_refl _)
                        simp at h0; subst h0
                        have := ih 0 (fun j _ => by have := h (j + 1) (by omega); simpa using this)
                        simp; omega
                      | succ m =>
                        have := ih m (fun j hj => by have := h (j + 1) (by omega); simpa using this)
                        simp only [List.length_cons, List.countP_cons]; omega
                  have := h2 listed.toList m (fun j hj => by have := hnt j hj; rw [Array.getD_eq_getD_getElem?, ← Array.getElem?_toList] at this; exact this)
                  rw [Array.length_toList, hs] at this
                  omega
                refine tail_sound hE hedge htail' (ops.size - m) m (fuel + 1) _ st2 ans1 ans2 C2 listed a w rfl (Nat.le_refl _) hml' hcnt2 htail hC.2 hs (fun j hj => ?_) ?_ hQ
                · rw [Array.getElem?_eq_getElem (by omega)]
                  by_cases hjm : j < m
                  · have := hallp j hjm
                    rw [Array.getD_eq_getD_getElem?, Array.getElem?_eq_getElem (by omega)] at this
                    simp only [Option.getD_some] at this
                    rw [this]; simp [hjm]
                  · have := hnt j (by omega)
                    rw [Array.getD_eq_getD_getElem?, Array.getElem?_eq_getElem (by omega)] at this
                    simp only [Option.getD_some] at this
                    rw [this]; simp [hjm]
                · rw [← view_congr (D := fun j => listed.getD j false) (fun j hj => hallp j (by omega))]; exact hrel
              · -- some operation of the first part stands out
                have hfind : ∃ i, i < m ∧ listed.getD i false = false ∧ ∀ j, j < i → listed.getD j false = true := by
                  have : ∃ i, i < m ∧ listed.getD i false = false := by
                    simp only [Classical.not_forall] at hallp
                    obtain ⟨i, hi, hf⟩ := hallp
                    exact ⟨i, hi, by simpa using hf⟩
                  obtain ⟨i, hi⟩ := this
                  induction i using Nat.strongRecOn with
                  | _ i ihi =>
                    by_cases hx : ∃ j, j < i ∧ listed.getD j false = false
                    · obtain ⟨j, hj1, hj2⟩ := hx
                      exact ihi j hj1 ⟨by omega, hj2⟩
                    · refine ⟨i, hi.1, hi.2, fun j hj => ?_⟩
                      cases hq : listed.getD j false with
                      | true => rfl
                      | false => exact absurd ⟨j, hj, hq⟩ hx
                have hne : Region.ready .any ops listed ≠ [] := by
                  obtain ⟨i, hi1, hi2, hi3⟩ := hfind
                  intro hnil
                  have : i ∈ Region.ready .any ops listed := by
                    rw [ready_iff hs]
                    refine ⟨by omega, ?_, fun o ho e he hb => hi3 _ (edgesLt_spec (hedge i o ho) he hb)⟩
                    rw [Array.getD_eq_getD_getElem?, Array.getElem?_eq_getElem (by omega)] at hi2
                    rw [Array.getElem?_eq_getElem (by omega)]
                    simpa using hi2
                  rw [hnil] at this; cases this
                refine ⟨fun hnil => absurd hnil hne, fun i hi => ?_⟩
                rw [ready_iff hs] at hi
                obtain ⟨hi1, hi2, hi3⟩ := hi
                have ho : ops.toList[i]? = some ops[i] := by rw [Array.getElem?_toList]; exact Array.getElem?_eq_getElem hi1
                have hDi : listed.getD i false = false := by rw [Array.getD_eq_getD_getElem?, hi2]; rfl
                have hdep : ∀ b, (((allDeps ops.toList [])[i]?).getD 0).testBit b = true → listed.getD b false = true := dep_sub hcl hedge i _ ho (hi3 _ ho)
                have him : i < m := by
                  rcases Nat.lt_or_ge i m with h | h
                  · exact h
                  · exfalso
                    exact hallp fun j hj => hdep j (htail' i _ h ho j (by omega))
                obtain ⟨an, r, hev, hrC, hRi⟩ := hspec i ops[i] (by rw [List.getElem?_take_of_lt him]; exact ho)
                obtain ⟨μ, hrel⟩ := hrel
                have hup := viewRows_upd (D := fun j => listed.getD j false) hRi hDi st.rows
                have hlen : (view tmB st.rows (R.take i) (Nat.testBit (((allDeps ops.toList [])[i]?).getD 0))).rows.length = st.rows.length + rowsLen (R.take i) := by simp [view, length_viewRows]
                have hlo : st.rows.length + rowsLen (R.take i) ≤ (view tmB st.rows R (fun j => listed.getD j false)).rows.length := by
                  simp only [view, List.length_append, length_viewRows]
                  have := rowsLen_append (R.take i) (R.drop i)
                  rw [List.take_append_drop] at this
                  omega
                have hnone : ∀ q, st.rows.length + rowsLen (R.take i) ≤ q → q < st.rows.length + rowsLen (R.take i) + r.new.length → μ q = none := by
                  intro q h1 h2
                  have := hup.2 (q - (st.rows.length + rowsLen (R.take i))) (by simp only; omega)
                  rw [show st.rows.length + rowsLen (R.take i) + (q - (st.rows.length + rowsLen (R.take i))) = q from by omega] at this
                  exact hrel.mem.dead q this
                have hweak : RelW w0 μ (view tmB st.rows (R.take i) (Nat.testBit (((allDeps ops.toList [])[i]?).getD 0))) a w := by
                  refine ⟨?_, fun t u hu => ?_, ⟨hrel.mem.bel, fun q row hq => ?_, hrel.mem.sep, hrel.mem.nodup, hrel.mem.own⟩⟩
                  · have := hrel.size
                    simp only [view, length_viewTm] at this ⊢; exact this
                  · have htl : t < tmB.length := by
                      have : t < (view tmB st.rows (R.take i) (Nat.testBit (((allDeps ops.toList [])[i]?).getD 0))).tm.length := by
                        rcases Nat.lt_or_ge t (view tmB st.rows (R.take i) (Nat.testBit (((allDeps ops.toList [])[i]?).getD 0))).tm.length with h | h
                        · exact h
                        · rw [List.getElem?_eq_none h] at hu; cases hu
                      simpa [view, length_viewTm] using this
                    have hfull : (view tmB st.rows R (fun j => listed.getD j false)).tm[t]? = some ((view tmB st.rows R (fun j => listed.getD j false)).tm[t]'(by simpa [view, length_viewTm] using htl)) := List.getElem?_eq_getElem _
                    have hrep := hrel.tmps t _ hfull
                    rcases viewTm_get _ _ _ _ _ _ hu with ⟨j, s, h1, h2, h3, h4⟩ | ⟨h1, h2⟩
                    · rw [List.getElem?_take] at h1
                      split at h1
                      · rw [Nat.zero_add] at h2
                        have := viewTm_val hap h1 (D := fun j => listed.getD j false) (hdep j h2) h3 hfull
                        rw [this] at hrep
                        rw [h4]; exact hrep
                      · cases h1
                    · by_cases htd : t ∈ dstsOf (ops.toList.take m)
                      · rw [← htm] at h2
                        rw [mask_any _ _ htd h2]; exact .any _
                      · rcases viewTm_get _ _ _ _ _ _ hfull with ⟨j, s, g1, g2, g3, g4⟩ | ⟨g1, g2⟩
                        · exact absurd (hdsts j s t g1 g3) htd
                        · rw [h2] at g2
                          simp only [Option.some.injEq] at g2
                          rw [g2]; exact hrep
                  · by_cases hq0 : q < st.rows.length
                    · refine hrel.mem.row q row ?_
                      simp only [view] at hq ⊢
                      rw [List.getElem?_append_left hq0] at hq ⊢; exact hq
                    · simp only [view] at hq
                      rw [List.getElem?_append_right (by omega)] at hq
                      rcases viewRows_weak (R.take i) _ (fun j => listed.getD j false) 0 _ row hdep hq with rfl | hq
                      · cases μ q <;> exact trivial
                      · refine hrel.mem.row q row ?_
                        simp only [view]
                        rw [List.getElem?_append_right (by omega)]
                        have hsp := viewRows_append (R.take i) (R.drop i) (fun j => listed.getD j false) 0
                        rw [List.take_append_drop] at hsp
                        rw [hsp, List.getElem?_append_left ?_]
                        · exact hq
                        · rcases Nat.lt_or_ge (q - st.rows.length) (viewRows (R.take i) (fun j => listed.getD j false) 0).length with h | h
                          · exact h
                          · rw [List.getElem?_eq_none h] at hq; cases hq
                unfold wpOp
                rw [Array.getElem?_eq_getElem hi1]
                refine evPO_sound hE hweak hev hrC (by rw [hlen]; exact hnone) fun x w' hpost => ?_
                obtain ⟨μ', hg, hb, hx⟩ := hpost
                rw [hlen] at hg
                have hgrow := hrel.grow hb hg hlo hnone
                have hsz : (listed.setIfInBounds i true).size = ops.size := by simpa using hs
                have hset : ∀ j, (listed.setIfInBounds i true).getD j false = upd (fun j => listed.getD j false) i j := fun j => getD_set (by omega)
                refine ih _ _ w' hsz ?_ ?_ ?_ ⟨μ', ?_⟩
                · have := countP_set listed.toList i (by rw [Array.getElem?_toList]; exact hi2)
                  rw [Array.toList_setIfInBounds]
                  omega
                · intro j o hoj hDj e he hbe
                  simp only [hset, upd, Bool.or_eq_true, decide_eq_true_eq] at hDj ⊢
                  rcases hDj with rfl | hDj
                  · exact .inr (hi3 o hoj e he hbe)
                  · exact .inr (hcl j o hoj hDj e he hbe)
                · intro j hj
                  rw [hset]
                  have : j ≠ i := by omega
                  simp only [upd, this, decide_false, Bool.false_or]
                  exact hnt j hj
                · have hview : view tmB st.rows R (fun j => (listed.setIfInBounds i true).getD j false) = view tmB st.rows R (upd (fun j => listed.getD j false) i) := view_congr fun j _ => hset j
                  rw [hview]
                  have hput := hgrow.put ops[i].dst hx
                  have hrowsEq : (view tmB st.rows R (upd (fun j => listed.getD j false) i)).rows = lay (view tmB st.rows R (fun j => listed.getD j false)).rows (st.rows.length + rowsLen (R.take i)) r.new := hup.1
                  refine ⟨hput.defers, ?_, fun t u hu => ?_, ?_⟩
                  · have := hput.size
                    rw [St.put_tm] at this
                    simp only [view, length_viewTm] at this ⊢
                    rw [this]
                    cases ops[i].dst <;> simp [St.put, length_viewTm]
                  · have hput2 : ∀ v, (setDst (viewTm tmB R (fun j => listed.getD j false) 0) ops[i].dst r.av)[t]? = some v → Rep w0.heap μ' v ((a.put ops[i].dst x).tmps.getD t undef) := by
                      intro v hv
                      refine hput.tmps t v ?_
                      rw [St.put_tm]
                      cases hd : ops[i].dst with
                      | none => rw [hd] at hv; exact hv
                      | some d => rw [hd] at hv; exact hv
                    have htl : t < tmB.length := by
                      have : t < (view tmB st.rows R (upd (fun j => listed.getD j false) i)).tm.length := by
                        rcases Nat.lt_or_ge t (view tmB st.rows R (upd (fun j => listed.getD j false) i)).tm.length with h | h
                        · exact h
                        · rw [List.getElem?_eq_none h] at hu; cases hu
                      simpa [view, length_viewTm] using this
                    have hold : ∃ v, (viewTm tmB R (fun j => listed.getD j false) 0)[t]? = some v := ⟨_, List.getElem?_eq_getElem (by rw [length_viewTm]; exact htl)⟩
                    obtain ⟨v, hv⟩ := hold
                    by_cases hdt : ops[i].dst = some t
                    · have hu' := viewTm_val hap hRi (D := upd (fun j => listed.getD j false) i) (by simp [upd]) hdt hu
                      simp only at hu'
                      refine hput2 u ?_
                      rw [hdt]
                      simp only [setDst]
                      rw [List.getElem?_set_self (by rw [length_viewTm]; exact htl), hu']
                    · have hsame : (setDst (viewTm tmB R (fun j => listed.getD j false) 0) ops[i].dst r.av)[t]? = some v := by
                        cases hd : ops[i].dst with
                        | none => exact hv
                        | some d =>
                          simp only [setDst]
                          rw [List.getElem?_set_ne (fun e => hdt (by rw [hd, e]))]; exact hv
                      have huv : u = v := by
                        rcases viewTm_get _ _ _ _ _ _ hu with ⟨j, s, g1, g2, g3, g4⟩ | ⟨g1, g2⟩
                        · simp only [Nat.zero_add, upd, Bool.or_eq_true, decide_eq_true_eq] at g2
                          rcases g2 with rfl | g2
                          · rw [hRi] at g1; cases g1
                            exact absurd g3 hdt
                          · rw [g4]; exact (viewTm_val hap g1 (D := fun j => listed.getD j false) g2 g3 hv).symm
                        · rcases viewTm_get _ _ _ _ _ _ hv with ⟨j, s, k1, k2, k3, k4⟩ | ⟨k1, k2⟩
                          · exact absurd k3 (g1 j s k1 (by simp only [Nat.zero_add] at k2; simp [upd, k2]))
                          · rw [g2] at k2; exact Option.some.inj k2
                      rw [huv]; exact hput2 v hsame
                  · rw [hrowsEq]
                    have := hput.mem
                    rw [St.put_rows] at this
                    exact this
          obtain ⟨μ, hr⟩ := hr
          have hrep0 : ∀ j, (Array.replicate ops.size false).getD j false = false := by
            intro j
            rw [Array.getD_eq_getD_getElem?, Array.getElem?_replicate]; split <;> rfl
          refine main ops.size _ a w (by simp) ?_ ?_ (fun j _ => hrep0 j) ?_
          · simp [Array.toList_replicate, List.countP_replicate]
          · intro j o _ hDj
            have h1 : (Array.replicate ops.size false).getD j false = true := hDj
            rw [hrep0] at h1; cases h1
          · -- nothing taken yet: all rows of the first part are dead
            have hdead : ∀ (R : List DR) (k q : Nat) (row : Row), (viewRows R (fun j => (Array.replicate ops.size false).getD j false) k)[q]? = some row → row = .dead := by
              intro R
              rw [show (fun j => (Array.replicate ops.size false).getD j false) = fun _ => false from funext hrep0]
              induction R with
              | nil => intro k q row h; simp [viewRows] at h
              | cons r R ih =>
                intro k q row h
                unfold viewRows at h
                simp only at h
                by_cases hq : q < r.new.length
                · rw [List.getElem?_append_left (by simpa using hq)] at h
                  simp at h; exact h.2.symm
                · rw [List.getElem?_append_right (by simp; omega)] at h
                  exact ih _ _ row h
            refine ⟨μ, hr.defers, by simp only [view, length_viewTm]; rw [hr.size, ← htm, length_mask], fun t u hu => ?_, ⟨⟨hr.mem.bel, fun q row hq => ?_, hr.mem.sep, hr.mem.nodup, hr.mem.own⟩, fun q hq => hr.mem.out q (by simp only [view, List.length_append] at hq; omega), fun q hq => ?_⟩⟩
            · rcases viewTm_get _ _ _ _ _ _ hu with ⟨j, s, g1, g2, g3, g4⟩ | ⟨g1, g2⟩
              · rw [hrep0] at g2; cases g2
              · by_cases htd : t ∈ dstsOf (ops.toList.take m)
                · rw [← htm] at g2
                  rw [mask_any _ _ htd g2]; exact .any _
                · rw [← htm, mask_other _ _ htd] at g2
                  exact hr.tmps t u g2
            · by_cases hq0 : q < st.rows.length
              · simp only [view] at hq
                rw [List.getElem?_append_left hq0] at hq
                exact hr.mem.row q row hq
              · simp only [view] at hq
                rw [List.getElem?_append_right (by omega)] at hq
                rw [hdead _ _ _ _ hq]
                cases μ q <;> exact trivial
            · by_cases hq0 : q < st.rows.length
              · simp only [view] at hq
                rw [List.getElem?_append_left hq0] at hq
                exact hr.mem.dead q hq
              · exact hr.mem.out q (by omega)
        · cases h
      · cases h
    · cases h
  · cases h
end
end Go.Ab
