/- Functions that write rows of their caller's: their contracts, and what these give a caller whose rows are more and lie otherwise. -/
import Derived.Test.YtiiijolkhbnblaaA23
set_option linter.unusedVariables false
set_option linter.unusedSimpArgs false
namespace Go.Ab
open Go.RowKit

def rowOkM (n : Nat) : Row → Bool
  | .vec .. | .nest .. | .mapN .. => true
  | .box _ cs => cs.all (flatOk n)
  | _ => false
def renRow (ks : List Nat) : Row → Row
  | .box t cs => .box t (cs.map (renC ks))
  | .vec t es l _ => .vec t es l false
  | .nest t ll _ => .nest t ll false
  | r => r

theorem rowOk_ren {H : Array Obj} {μ μ' : Nat → Option FP} {heap : Array Obj} {ks : List Nat} (hs : ∀ (i k : Nat), ks[i]? = some k → μ' i = μ k) {p : Option FP} {row : Row} (ho : rowOkM ks.length (renRow ks row) = true)
    (h : RowOk H μ heap p row) : RowOk H μ' heap p (renRow ks row) := by
  cases row with
  | box t cs =>
    cases p with
    | none => exact h.elim
    | some p =>
      obtain ⟨ez, e1, e2, arr, e3, e4, e5⟩ := h
      simp only [renRow, rowOkM, List.all_eq_true, List.mem_map, forall_exists_index, and_imp, forall_apply_eq_imp_iff₂] at ho
      refine ⟨ez, by simpa [renRow] using e1, e2, arr, e3, by simpa [renRow] using e4, fun j c e => ?_⟩
      rw [List.getElem?_map, Option.map_eq_some_iff] at e
      obtain ⟨c0, e0, rfl⟩ := e
      exact rep_renC hs (ho c0 (List.mem_of_getElem? e0)) (e5 j c0 e0)
  | vec t es l full =>
    cases p with
    | none => exact h.elim
    | some p =>
      rcases h with ⟨h1, h2, _⟩ | ⟨ez, e1, e2, e3, e4, _, e6⟩
      · exact .inl ⟨h1, h2, rfl⟩
      · exact .inr ⟨ez, e1, e2, e3, e4, (fun h => by cases h), e6⟩
  | nest t ll full =>
    cases p with
    | none => exact h.elim
    | some p =>
      rcases h with h | ⟨ez, e1, e2, e3, _, e6⟩
      · exact .inl h
      · exact .inr ⟨ez, e1, e2, e3, (fun h => by cases h), e6⟩
  | mapN => cases p <;> exact h
  | dead => simp [renRow, rowOkM] at ho
  | lits t cs => simp [renRow, rowOkM] at ho

def rangeL : Nat → Nat → List Nat
  | _, 0 => []
  | k, n + 1 => k :: rangeL (k + 1) n
theorem rangeL_get : ∀ (n k i : Nat), i < n → (rangeL k n)[i]? = some (k + i)
  | 0, k, i, h => by omega
  | n + 1, k, 0, h => by simp [rangeL]
  | n + 1, k, i + 1, h => by
    rw [rangeL, List.getElem?_cons_succ, rangeL_get n (k + 1) i (by omega)]; congr 1; omega
theorem length_rangeL : ∀ (n k : Nat), (rangeL k n).length = n
  | 0, _ => rfl
  | n + 1, k => by simp [rangeL, length_rangeL n]

def evFnM (P : Program) (E : Env) (fn : Func) (c : Code) (rows : List Row) (args : List AV) (ans : List Ans) : Option (AV × List Row × List Prop) :=
  match Nat.beq rows.length E.np with
  | false => none
  | true => match evc P E c ⟨args ++ List.replicate (fn.ntmps - args.length) .any, rows⟩ ans with
    | some (.exit _, _, _, _) => none
    | some (_, st, ans', C) => match resAV E.T st fn.results.toList, ans' with
      | some r, [.keep ks] => match pickRows st.rows (rangeL 0 rows.length ++ ks) with
        | some rs => match nodupB (rangeL 0 rows.length ++ ks) && (rs.map (renRow (rangeL 0 rows.length ++ ks))).all (rowOkM (rangeL 0 rows.length ++ ks).length) && resOk (rangeL 0 rows.length ++ ks).length (ren (rangeL 0 rows.length ++ ks) r) with
          | true => some (ren (rangeL 0 rows.length ++ ks) r, rs.map (renRow (rangeL 0 rows.length ++ ks)), C)
          | false => none
        | none => none
      | _, _ => none
    | none => none

theorem callSt_of_ev {P : Program} {E : Env} (hE : EOk P E) (hm : P.follows .mixedOrders = true) {f : FuncId} {fn : Func} {c : Code} {rows rows' : List Row} {args : List AV} {ans : List Ans} {r : AV} {C : List Prop}
    (hf : P.funcs[f]? = some fn) (hb : fn.body = some c) (hn : (fn.name == "runtime.NumGoroutine") = false) (h : evFnM P E fn c rows args ans = some (r, rows', C)) (hC : All C) : CallSt P f rows args r rows' := by
  refine ⟨⟨fn, hf, by rw [hb]; rfl, hn⟩, fun w0 μ0 w vs hmem hp => ?_⟩
  unfold evFnM at h
  split at h
  · cases h
  rename_i hnp
  rw [Nat.beq_eq] at hnp
  have hlt : ∀ q p, μ0 q = some p → q < rows.length := fun q p e => by
    rcases Nat.lt_or_ge q rows.length with h | h
    · exact h
    · rw [hmem.out q h] at e; cases e
  let w1 : Old0 := { w0 with pin := μ0, np := rows.length, pinLt := hlt }
  have fin : ∀ (e : Ex) (st : St) (ans' : List Ans) (C' : List Prop), (∀ id, e ≠ .exit id) → evc P E c ⟨args ++ List.replicate (fn.ntmps - args.length) .any, rows⟩ ans = some (e, st, ans', C') →
      (match resAV E.T st fn.results.toList, ans' with
      | some r, [.keep ks] => match pickRows st.rows (rangeL 0 rows.length ++ ks) with
        | some rs => match nodupB (rangeL 0 rows.length ++ ks) && (rs.map (renRow (rangeL 0 rows.length ++ ks))).all (rowOkM (rangeL 0 rows.length ++ ks).length) && resOk (rangeL 0 rows.length ++ ks).length (ren (rangeL 0 rows.length ++ ks) r) with
          | true => some (ren (rangeL 0 rows.length ++ ks) r, rs.map (renRow (rangeL 0 rows.length ++ ks)), C')
          | false => none
        | none => none
      | _, _ => none) = some (r, rows', C) → Calls P f vs w fun e w' => ∃ v μ', e = .returned v ∧ Sub μ0 μ' ∧ Mem w0 μ' rows' w' ∧ Rep w0.heap μ' r v := by
    intro e st ans' C' hex hev h
    split at h
    · rename_i r0 ks1 hres
      generalize hks : rangeL 0 rows.length ++ ks1 = ks at h
      split at h
      · rename_i rs hpick
        split at h
        · rename_i hok
          simp only [Bool.and_eq_true] at hok
          simp only [Option.some.injEq, Prod.mk.injEq] at h
          obtain ⟨rfl, rfl, rfl⟩ := h
          obtain ⟨hpl, hpg⟩ := pickRows_get hpick
          have hnd := nodupB_spec hok.1.1
          have hokr := hok.1.2
          rw [List.all_eq_true] at hokr
          have hEv := evc_sound hE hm c hev hC
          have hkn : ∀ i, i < rows.length → ks[i]? = some i := fun i hi => by
            rw [← hks, List.getElem?_append_left (by rw [length_rangeL]; exact hi), rangeL_get _ _ _ hi, Nat.zero_add]
          refine calls_of_wp hf hb (hEv w1 (Nat.le_of_eq hnp) _ w _ ⟨μ0, rfl, ?_, ?_, ⟨⟨⟨hmem.bel.os, hmem.bel.tape, hmem.bel.output, hmem.bel.size, hmem.bel.block, hmem.bel.drawn⟩, hmem.row, hmem.sep, hmem.nodup, hmem.own⟩, hmem.out, hmem.dead, Sub.refl _⟩⟩ fun a' w' hr' => ?_)
          · simp [hp.1]
          · intro t v e
            simp only at e ⊢
            rw [Array.getD_eq_getD_getElem?]
            by_cases ht : t < args.length
            · rw [List.getElem?_append_left ht] at e
              rw [Array.getElem?_append_left (by rw [hp.1]; exact ht), ← Array.getD_eq_getD_getElem?]
              exact hp.2 t v e
            · rw [List.getElem?_append_right (by omega), List.getElem?_replicate] at e
              split at e
              · cases e; exact .any _
              · cases e
          · obtain ⟨μ, hr'⟩ := hr'
            obtain ⟨x, hx1, hx2⟩ := resAV_sound hE.T hr' hres
            let μ' : Nat → Option FP := fun i => (ks[i]?).bind μ
            have hμ : ∀ i k, ks[i]? = some k → μ' i = μ k := fun i k e => by show (ks[i]?).bind μ = μ k; rw [e]; rfl
            have hμ0 : ∀ i p, μ' i = some p → ∃ k, ks[i]? = some k ∧ μ k = some p := by
              intro i p e
              cases hk : ks[i]? with
              | none =>
                have e2 : (ks[i]?).bind μ = some p := e
                rw [hk] at e2; cases e2
              | some k => exact ⟨k, rfl, by rw [← hμ i k hk]; exact e⟩
            have hsub : Sub μ0 μ' := fun q p e => by
              have hq : q < rows.length := w1.pinLt q p e
              rw [hμ q q (hkn q hq)]
              exact hr'.mem.pin q p e
            have hbel := hr'.mem.bel
            have hpost : a'.defers = [] ∧ ∃ v, (results fn a'.tmps).run P w' = .ok v w' ∧ ∃ v' μ', Ending.returned v = .returned v' ∧ Sub μ0 μ' ∧ Mem w0 μ' (rs.map (renRow ks)) w' ∧ Rep w0.heap μ' (ren ks r0) v' := by
              refine ⟨hr'.defers, x, hx1, x, μ', rfl, hsub, ⟨⟨⟨hbel.os, hbel.tape, hbel.output, hbel.size, hbel.block, hbel.drawn⟩, fun i row hi => ?_, fun i j p p' b h5 h6 h7 h8 => ?_, fun i p h3 => ?_, fun i p b h3 h4 => ?_⟩, fun i hi => ?_, fun i hi => ?_, hmem.pin.trans hsub⟩, rep_ren hμ hok.2 hx2⟩
              · rw [List.getElem?_map, Option.map_eq_some_iff] at hi
                obtain ⟨row0, hi0, rfl⟩ := hi
                have hil : i < ks.length := by
                  rw [← hpl]
                  rcases Nat.lt_or_ge i rs.length with h | h
                  · exact h
                  · rw [List.getElem?_eq_none h] at hi0; cases hi0
                have hi1 := hi0
                rw [hpg i _ (List.getElem?_eq_getElem hil)] at hi1
                rw [hμ i _ (List.getElem?_eq_getElem hil)]
                exact rowOk_ren hμ (hokr _ (List.mem_map.2 ⟨row0, List.mem_of_getElem? hi0, rfl⟩)) (hr'.mem.row _ _ hi1)
              · obtain ⟨k, g1, g2⟩ := hμ0 i p h5
                obtain ⟨k', g3, g4⟩ := hμ0 j p' h6
                have := hr'.mem.sep k k' p p' b g2 g4 h7 h8
                subst this
                have hil : i < ks.length := by
                  rcases Nat.lt_or_ge i ks.length with h | h
                  · exact h
                  · rw [List.getElem?_eq_none h] at g1; cases g1
                have hjl : j < ks.length := by
                  rcases Nat.lt_or_ge j ks.length with h | h
                  · exact h
                  · rw [List.getElem?_eq_none h] at g3; cases g3
                rw [List.getElem?_eq_getElem hil] at g1
                rw [List.getElem?_eq_getElem hjl] at g3
                exact nodup_inj hnd hil hjl ((Option.some.inj g1).trans (Option.some.inj g3).symm)
              · obtain ⟨k, g1, g2⟩ := hμ0 i p h3
                exact hr'.mem.nodup k p g2
              · obtain ⟨k, g1, g2⟩ := hμ0 i p h3
                exact hr'.mem.own k p b g2 h4
              · show (ks[i]?).bind μ = none
                rw [List.length_map, hpl] at hi
                rw [List.getElem?_eq_none hi]; rfl
              · rw [List.getElem?_map, Option.map_eq_some_iff] at hi
                obtain ⟨row0, hi0, h0⟩ := hi
                have := hokr _ (List.mem_map.2 ⟨row0, List.mem_of_getElem? hi0, rfl⟩)
                rw [h0] at this
                simp [rowOkM] at this
            cases e with
            | norm => exact hpost
            | ret => exact hpost
            | exit id => exact absurd rfl (hex id)
        · cases h
      · cases h
    · cases h
  split at h
  · cases h
  · rename_i e st ans' C' hne hev
    exact fin e st ans' C' (fun id he => hne id he) hev h
  · cases h
end Go.Ab
