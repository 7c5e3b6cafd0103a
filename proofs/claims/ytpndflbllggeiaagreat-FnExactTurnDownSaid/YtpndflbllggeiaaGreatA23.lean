/- Loops that ask of every element. -/
import Derived.Test.YtpndflbllggeiaaGreatA22
set_option linter.unusedVariables false
set_option linter.unusedSimpArgs false
namespace Go.Ab
theorem X5W {α:Type} [Inhabited α] {p:α→Bool} {a:List α} {A B:Type} {x:A} {y:B} {lo:Nat→Int→A ⊕ B}
  (h:∀ k i,lo (k + 1) i=cond (decide (i < (a.length:Int))) (cond (p (a.getD i.toNat default)) (lo k (i + 1)) (.inl x)) (.inr y)) :
  ∀ (k:Nat) (i:Int),0≤i→((a.length:Int) - i).toNat < k→lo k i=cond ((a.drop i.toNat).all p) (.inr y) (.inl x):=by
 intro k
 induction k with
 | zero=>intro i h0 hk;exact absurd hk (Nat.not_lt_zero _)
 | succ k ih =>
  intro i h0 hk
  rw [h]
  by_cases hi:i < (a.length:Int)
  ·have hn:i.toNat < a.length:=by omega
   rw [decide_eq_true hi,cond_true,List.drop_eq_getElem_cons hn,List.all_cons,List.getD_eq_getElem?_getD,List.getElem?_eq_getElem hn,Option.getD_some]
   cases p a[i.toNat] with
   | false=>rfl
   | true =>
    rw [cond_true,Bool.true_and,ih (i + 1) (by omega) (by omega),show (i + 1).toNat=i.toNat + 1 from by omega]
  ·rw [decide_eq_false hi,cond_false,List.drop_eq_nil_of_le (by omega)];rfl
theorem XO {α:Type} [Inhabited α] {p:α→Bool} {a:List α} {A B:Type} {x:A} {y:B} {lo:Nat→Int→A ⊕ B}
  (h:∀ k i,lo (k + 1) i=cond (decide (i < (a.length:Int))) (cond (p (a.getD i.toNat default)) (lo k (i + 1)) (.inl x)) (.inr y)) :
  lo (((a.length:Int) - 0).toNat + 1) 0=cond (a.all p) (.inr y) (.inl x):=by
 rw [X5W h _ _ (Int.le_refl 0) (Nat.lt_succ_self _)];simp
def Xr (n:Nat) (ts:List (List Int)):Prop:=∀ t∈ts,t.length=3∧∀ x∈t,0≤x∧x < (n:Int)
theorem Xr.at {n:Nat} {ts:List (List Int)} {i:Int} (h:Xr n ts) (h0:0≤i) (hi:i < (ts.length:Int)) :
  (ts.getD i.toNat default).length=3∧(0≤(ts.getD i.toNat default).getD 0 default∧(ts.getD i.toNat default).getD 0 default < (n:Int)) ∧
  (0≤(ts.getD i.toNat default).getD 1 default∧(ts.getD i.toNat default).getD 1 default < (n:Int))∧(0≤(ts.getD i.toNat default).getD 2 default∧(ts.getD i.toNat default).getD 2 default < (n:Int)):=by
 have hn:i.toNat < ts.length:=by omega
 have hm:(ts.getD i.toNat default)∈ts:=by rw [List.getD_eq_getElem?_getD,List.getElem?_eq_getElem hn];exact List.getElem_mem hn
 obtain ⟨h1,h2⟩:=h _ hm
 generalize ts.getD i.toNat default=t at *
 match t,h1 with
 | [a,b,c],_=>exact ⟨rfl,h2 a (by simp),h2 b (by simp),h2 c (by simp)⟩
theorem X3C {β:Type} {f:Int→β} {n:Int} {lo:Nat→Int→List β→List β}
  (h:∀ k i r,lo (k + 1) i r=cond (decide (i < n)) (lo k (i + 1) (r ++ [f i])) r) :
  ∀ (k:Nat) (i:Int) (r:List β),(n - i).toNat < k→lo k i r=r ++ (List.range (n - i).toNat).map fun (j:Nat)=>f (i + (j:Int)):=by
 intro k
 induction k with
 | zero=>intro i r hk;exact absurd hk (Nat.not_lt_zero _)
 | succ k ih =>
  intro i r hk
  rw [h]
  by_cases hi:i < n
  ·rw [decide_eq_true hi,cond_true,ih (i + 1) _ (by omega)]
   rw [show (n - i).toNat=(n - (i + 1)).toNat + 1 from by omega,List.range_succ_eq_map,List.map_cons,List.map_map,List.append_assoc]
   congr 1
   simp only [List.singleton_append,Int.natCast_zero,Int.add_zero,List.cons.injEq,true_and]
   refine List.map_congr_left fun j _ => ?_
   simp only [Function.comp_apply]
   congr 1
   omega
  ·rw [decide_eq_false hi,cond_false,show (n - i).toNat=0 from by omega];simp
end Go.Ab
