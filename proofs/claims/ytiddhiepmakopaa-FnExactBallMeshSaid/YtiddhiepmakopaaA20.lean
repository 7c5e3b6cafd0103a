/- Plain loops. -/
import Derived.Test.YtiddhiepmakopaaA19
set_option linter.unusedVariables false
set_option linter.unusedSimpArgs false
namespace Go.Ab
theorem X7k {α:Type} [Inhabited α] {p:α→Bool} {a:List α} {A B:Type} {x:A} {y:B} {lo:Nat→Int→A ⊕ B}
  (h:∀ k i,lo (k + 1) i=cond (decide (i < (a.length:Int))) (cond (p (a.getD i.toNat default)) (lo k (i + 1)) (.inl x)) (.inr y)) (hp:∀ v∈a,p v=true) :
  ∀ (k:Nat) (i:Int),0≤i→((a.length:Int) - i).toNat < k→lo k i = .inr y:=by
 intro k
 induction k with
 | zero=>intro i h0 hk;exact absurd hk (Nat.not_lt_zero _)
 | succ k ih =>
  intro i h0 hk
  rw [h]
  by_cases hi:i < (a.length:Int)
  ·have hn:i.toNat < a.length:=by omega
   rw [decide_eq_true hi,cond_true,hp _ (by rw [List.getD_eq_getElem?_getD,List.getElem?_eq_getElem hn];exact List.getElem_mem hn),cond_true]
   exact ih _ (by omega) (by omega)
  ·rw [decide_eq_false hi,cond_false]
end Go.Ab
