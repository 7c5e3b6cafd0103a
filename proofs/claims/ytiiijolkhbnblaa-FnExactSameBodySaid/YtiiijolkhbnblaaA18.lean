/- Steps of loops, parts of code, facts about lists of cells. -/
import Derived.Test.YtiiijolkhbnblaaA17
set_option linter.unusedVariables false
set_option linter.unusedSimpArgs false
namespace Go.Ab
open Go.RowKit

def sub : Code → List Nat → Code
  | c, [] => c
  | .seq a _, 0 :: p => sub a p
  | .seq _ b, 1 :: p => sub b p
  | .cond _ a _, 0 :: p => sub a p
  | .cond _ _ b, 1 :: p => sub b p
  | .block _ c, _ :: p => sub c p
  | .loop c, _ :: p => sub c p
  | c, _ => c

def bodyOf (fn : Func) : Code := fn.body.getD .skip

def evStep (P : Program) (E : Env) (body : Code) (st : St) (ans : List Ans) (mask : List Bool) (n : Nat) : Option (Ex × St × List Prop) :=
  match evc P E body st ans, Nat.ble E.np n with
  | some (e, st', [], C), true => some (e, forget mask n st', C)
  | _, _ => none

theorem step_next {P : Program} {E : Env} (hE : EOk P E) (hm : P.follows .mixedOrders = true) {body : Code} {st st2 st3 st' : St} {ans : List Ans} {mask : List Bool} {n : Nat} {e : Ex} {C : List Prop}
    (h : evStep P E body st ans mask n = some (.norm, st2, C)) (hC : All C) (hs : st2 = st3) (k : Lp P E.np body st3 e st') : Lp P E.np body st e st' := by
  unfold evStep at h
  split at h
  · rename_i e1 st1 C1 hev hn
    simp only [Option.some.injEq, Prod.mk.injEq] at h
    obtain ⟨rfl, rfl, rfl⟩ := h
    subst hs
    exact Lp.next (evc_sound hE hm body hev hC) (Nat.le_of_ble_eq_true hn) k
  · cases h

theorem step_out {P : Program} {E : Env} (hE : EOk P E) (hm : P.follows .mixedOrders = true) {body : Code} {st st2 st3 : St} {ans : List Ans} {mask : List Bool} {n : Nat} {e : Ex} {C : List Prop}
    (h : evStep P E body st ans mask n = some (e, st2, C)) (hC : All C) (he : e ≠ .norm) (hs : st2 = st3) : Lp P E.np body st e st3 := by
  unfold evStep at h
  split at h
  · rename_i e1 st1 C1 hev hn
    simp only [Option.some.injEq, Prod.mk.injEq] at h
    obtain ⟨rfl, rfl, rfl⟩ := h
    subst hs
    exact Lp.out (evc_sound hE hm body hev hC) (Nat.le_of_ble_eq_true hn) he
  · cases h

theorem lp_cast {P : Program} {N : Nat} {body : Code} {st st2 st' : St} {e : Ex} (h : Lp P N body st e st') (hs : st2 = st) : Lp P N body st2 e st' := by
  subst hs; exact h
theorem Fn.cast {P : Program} {g : FuncId} {args : List AV} {r r' : AV} {n n' : List Row} (h : Fn P g args r n) (hr : r = r') (hn : n = n') : Fn P g args r' n' := by
  subst hr; subst hn; exact h
theorem Fn.castA {P : Program} {g : FuncId} {args args' : List AV} {r : AV} {n : List Row} (h : Fn P g args r n) (ha : args = args') : Fn P g args' r n := by
  subst ha; exact h

/- elements of lists, in cells -/
def cI (k : IntKind) (n : Int) : List AV := [.i k n]
def cF (k : FloatKind) (n : Nat) : List AV := [.f k n]
def cB (n : Bool) : List AV := [.b n]
def cL {α : Type} (c : α → List AV) (l : List α) : List AV := [.sl (l.map c)]

theorem vget_ok {α : Type} [Inhabited α] {l : List α} {c : α → List AV} {k : Nat} (h : k < l.length) : (l.map c)[k]? = some (c (l.getD k default)) := by
  simp [h]
theorem get_ok {α : Type} [Inhabited α] {l : List α} {c : α → List AV} {i : Int} (h0 : 0 ≤ i) (h : i < l.length) : 0 ≤ i ∧ (l.map c)[i.toNat]? = some (c (l.getD i.toNat default)) :=
  ⟨h0, vget_ok (by omega)⟩
theorem idx_ok {α : Type} {l : List α} {c : α → List AV} {i : Int} (h0 : 0 ≤ i) (h : i < l.length) : 0 ≤ i ∧ i.toNat < (l.map c).length :=
  ⟨h0, by simp; omega⟩
theorem len_ok {α : Type} {l : List α} {c : α → List AV} : ((l.map c).length : Int) = (l.length : Int) := by simp
theorem src_ok {α : Type} {l : List α} {c : α → List AV} {es : Nat} (h : ∀ x, ((c x).length == es && (c x).all isS) = true) : (l.map c).all (fun cs => cs.length == es && cs.all isS) = true := by
  simp only [List.all_map, List.all_eq_true]
  intro x _; exact h x

theorem wrap_id {n : Int} (h1 : -9223372036854775808 ≤ n) (h2 : n ≤ 9223372036854775807) : IntKind.i64.wrap n = n := by
  simp only [IntKind.wrap, IntKind.bits, IntKind.signed]
  simp
  split <;> omega
end Go.Ab
