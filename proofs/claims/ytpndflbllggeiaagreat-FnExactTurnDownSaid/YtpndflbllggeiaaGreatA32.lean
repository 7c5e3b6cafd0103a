/- Plain laws of loops: marks, filters, flags, searches. -/
import Derived.Test.YtpndflbllggeiaaGreatA31
set_option linter.unusedVariables false
set_option linter.unusedSimpArgs false
namespace Go.Ab
theorem X65 {α:Type} {f:α→Int→Int × α} {p:α→Prop} (hf:∀ x c,p x→p (f x c).2):∀ (l:List α) (c:Int),(∀ x∈l,p x)→∀ x∈(mkL f l c).2,p x
 | [],c,_,x,hx=>by simp [mkL] at hx
 | y :: l,c,h,x,hx=>by
  simp only [mkL,List.mem_cons] at hx
  rcases hx with rfl | hx
  ·exact hf y c (h y List.mem_cons_self)
  ·exact X65 hf l _ (fun z hz=>h z (List.mem_cons_of_mem _ hz)) x hx
theorem X4w {β:Type} {f:Int→Bool} {g:Int→β} {n:Int} {lo:Nat→Int→List β→List β}
  (h:∀ k i r,lo (k + 1) i r=cond (decide (i < n)) (cond (f i) (lo k (i + 1) r) (lo k (i + 1) (r ++ [g i]))) r) :
  ∀ (k:Nat) (i:Int) (r:List β),(n - i).toNat < k→lo k i r=r ++ (((List.range (n - i).toNat).filter fun (j:Nat) => !(f (i + j))).map fun (j:Nat)=>g (i + j)):=by
 intro k
 induction k with
 | zero=>intro i r hk;exact absurd hk (Nat.not_lt_zero _)
 | succ k ih =>
  intro i r hk
  rw [h]
  by_cases hi:i < n
  ·rw [decide_eq_true hi,cond_true]
   have e:(n - i).toNat=(n - (i + 1)).toNat + 1:=by omega
   rw [ih (i + 1) r (by omega),ih (i + 1) (r ++ [g i]) (by omega),e,List.range_succ_eq_map]
   have key:∀ l:List Nat,((l.map Nat.succ).filter fun (j:Nat) => !(f (i + j))).map (fun (j:Nat)=>g (i + j))=(l.filter fun (j:Nat) => !(f (i + 1 + j))).map (fun (j:Nat)=>g (i + 1 + j)):=by
    intro l
    induction l with
    | nil=>rfl
    | cons a l ih =>
     have ea:i + ((Nat.succ a:Nat):Int)=i + 1 + (a:Int):=by push_cast;omega
     simp only [List.map_cons,List.filter_cons,ea]
     split
     ·simp only [List.map_cons,ih,ea]
     ·exact ih
   simp only [List.filter_cons,Int.natCast_zero,Int.add_zero]
   cases hf:f i
   ·simp [key]
   ·simp [key]
  ·rw [decide_eq_false hi,cond_false]
   have:(n - i).toNat=0:=by omega
   rw [this];simp
end Go.Ab
