/- Functions that write rows of their caller's: their contracts, and what these give a caller whose rows are more and lie otherwise. -/
import Derived.Test.YtpndflbllggeiaaGreatA23
set_option linter.unusedVariables false
set_option linter.unusedSimpArgs false
namespace Go.Ab
open Go.RowKit
def rowOkM (n : Nat) : Row → Bool
 | .vec .. | .nest .. | .mapN .. => true
 | .box _ cs => cs.all (flatOk n)
 | _ => false
def renRow (ks : List Nat) : Row → Row
 | .box t cs => .box t (cs.map (renC ks))
 | .vec t es l _ => .vec t es l false
 | .nest t ll _ => .nest t ll false
 | r => r
theorem rowOk_ren {H : Array Obj} {μ μ' : Nat → Option FP} {heap : Array Obj} {ks : List Nat} (hs : ∀ (i k : Nat), ks[i]? = some k → μ' i = μ k) {p : Option FP} {row : Row} (ho : rowOkM ks.length (renRow ks row) = true)
  (h : RowOk H μ heap p row) : RowOk H μ' heap p (renRow ks row) := by
 cases row with
 | box t cs =>
  cases p with
  | none => exact h.elim
  | some p =>
   obtain ⟨ez, e1, e2, arr, e3, e4, e5⟩ := h
   simp only [renRow, rowOkM, List.all_eq_true, List.mem_map, forall_exists_index, and_imp, forall_apply_eq_imp_iff₂] at ho
   refine ⟨ez, by simpa [renRow] using e1, e2, arr, e3, by simpa [renRow] using e4, fun j c e => ?_⟩
   rw [List.getElem?_map, Option.map_eq_some_iff] at e
   obtain ⟨c0, e0, rfl⟩ := e
   exact rep_renC hs (ho c0 (List.mem_of_getElem? e0)) (e5 j c0 e0)
 | vec t es l full =>
  cases p with
  | none => exact h.elim
  | some p =>
   rcases h with ⟨h1, h2, _⟩ | ⟨ez, e1, e2, e3, e4, _, e6⟩
   ·exact .inl ⟨h1, h2, rfl⟩
   ·exact .inr ⟨ez, e1, e2, e3, e4, (fun h => by cases h), e6⟩
 | nest t ll full =>
  cases p with
  | none => exact h.elim
  | some p =>
   rcases h with h | ⟨ez, e1, e2, e3, _, e6⟩
   ·exact .inl h
   ·exact .inr ⟨ez, e1, e2, e3, (fun h => by cases h), e6⟩
 | mapN => cases p <;> exact h
 | dead => simp [renRow, rowOkM] at ho
 | lits t cs => simp [renRow, rowOkM] at ho
def rangeL : Nat → Nat → List Nat
 | _, 0 => []
 | k, n + 1 => k :: rangeL (k + 1) n
theorem rangeL_get : ∀ (n k i : Nat), i < n → (rangeL k n)[i]? = some (k + i)
 | 0, k, i, h => by omega
 | n + 1, k, 0, h => by simp [rangeL]
 | n + 1, k, i + 1, h => by
  rw [rangeL, List.getElem?_cons_succ, rangeL_get n (k + 1) i (by omega)]; congr 1; omega
theorem length_rangeL : ∀ (n k : Nat), (rangeL k n).length = n
 | 0, _ => rfl
 | n + 1, k => by simp [rangeL, length_rangeL n]
end Go.Ab
