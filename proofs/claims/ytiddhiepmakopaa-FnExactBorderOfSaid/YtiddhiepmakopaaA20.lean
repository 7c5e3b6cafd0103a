/- Plain loops. -/
import Derived.Test.YtiddhiepmakopaaA19
set_option linter.unusedVariables false
set_option linter.unusedSimpArgs false
namespace Go.Ab
theorem X7a {α β:Type} [Inhabited α] {f:α→β} {a:List α} {lo:Nat→Int→List β→List β}
  (h:∀ k i r,lo (k + 1) i r=cond (decide (i < (a.length:Int))) (lo k (i + 1) (r.set i.toNat (f (a.getD i.toNat default)))) r) :
  ∀ (k:Nat) (i:Int) (r:List β),0≤i→((a.length:Int) - i).toNat < k→r.length=a.length→lo k i r=r.take i.toNat ++ (a.drop i.toNat).map f:=by
 intro k
 induction k with
 | zero=>intro i r h0 hk;exact absurd hk (Nat.not_lt_zero _)
 | succ k ih =>
  intro i r h0 hk hr
  rw [h]
  by_cases hi:i < (a.length:Int)
  ·rw [decide_eq_true hi,cond_true,ih (i + 1) _ (by omega) (by omega) (by simpa using hr)]
   have hn:i.toNat < a.length:=by omega
   have ht:(r.set i.toNat (f (a.getD i.toNat default))).take (i.toNat + 1)=r.take i.toNat ++ [f (a.getD i.toNat default)]:=by
    rw [List.take_add_one,List.take_set,List.set_eq_of_length_le (by simp;omega),List.getElem?_set_self (by omega)]
    rfl
   rw [show (i + 1).toNat=i.toNat + 1 from by omega,ht,List.drop_eq_getElem_cons hn,List.map_cons]
   simp [hn]
  ·rw [decide_eq_false hi,cond_false,List.drop_eq_nil_of_le (by omega),List.take_of_length_le (by omega)]
   simp
theorem X3w {α β:Type} [Inhabited α] {f:α→β} {a:List α} {lo:Nat→Int→List β→List β}
  (h:∀ k i r,lo (k + 1) i r=cond (decide (i < (a.length:Int))) (lo k (i + 1) (r.set i.toNat (f (a.getD i.toNat default)))) r) (z:β) :
  lo (((a.length:Int) - 0).toNat + 1) 0 (List.replicate ((a.length:Int)).toNat z)=a.map f:=by
 rw [X7a h _ _ _ (Int.le_refl 0) (Nat.lt_succ_self _) (by simp)]
 simp
theorem X7r {α:Type} [Inhabited α] {p:α→Bool} {a:List α} {A B:Type} {x:A} {y:B} {lo:Nat→Int→A ⊕ B}
  (h:∀ k i,lo (k + 1) i=cond (decide (i < (a.length:Int))) (cond (p (a.getD i.toNat default)) (lo k (i + 1)) (.inl x)) (.inr y)) (hp:∀ v∈a,p v=true) :
  ∀ (k:Nat) (i:Int),0≤i→((a.length:Int) - i).toNat < k→lo k i = .inr y:=by
 intro k
 induction k with
 | zero=>intro i h0 hk;exact absurd hk (Nat.not_lt_zero _)
 | succ k ih =>
  intro i h0 hk
  rw [h]
  by_cases hi:i < (a.length:Int)
  ·have hn:i.toNat < a.length:=by omega
   rw [decide_eq_true hi,cond_true,hp _ (by rw [List.getD_eq_getElem?_getD,List.getElem?_eq_getElem hn];exact List.getElem_mem hn),cond_true]
   exact ih _ (by omega) (by omega)
  ·rw [decide_eq_false hi,cond_false]
theorem X2N {a b:Int} (h1:-9223372036854775808≤a - b) (h2:a - b≤9223372036854775807):IntKind.i64.wrap (a - b)=a - b:=XV h1 h2
end Go.Ab
