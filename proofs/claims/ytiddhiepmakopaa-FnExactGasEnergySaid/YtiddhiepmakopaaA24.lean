/- Functions that write rows of their caller's: their contracts, and what these give a caller whose rows are more and lie otherwise. -/
import Derived.Test.YtiddhiepmakopaaA23
set_option linter.unusedVariables false
set_option linter.unusedSimpArgs false
namespace Go.Ab
open Go.RowKit
def XA (n:Nat):Row→Bool
 | .vec .. | .nest .. | .mapN .. => true
 | .box _ cs=>cs.all (XT n)
 | _=>false
def XM (ks:List Nat):Row→Row
 | .box t cs => .box t (cs.map (renC ks))
 | .vec t es l _ => .vec t es l false
 | .nest t ll _ => .nest t ll false
 | r=>r
theorem X6o {H:Array Obj} {μ μ':Nat→Option FP} {heap:Array Obj} {ks:List Nat} (hs:∀ (i k:Nat),ks[i]? = some k→μ' i=μ k) {p:Option FP} {row:Row} (ho:XA ks.length (XM ks row)=true)
  (h:X4 H μ heap p row):X4 H μ' heap p (XM ks row):=by
 cases row with
 | box t cs =>
  cases p with
  | none=>exact h.elim
  | some p =>
   obtain ⟨ez,e1,e2,arr,e3,e4,e5⟩:=h
   simp only [XM,XA,List.all_eq_true,List.mem_map,forall_exists_index,and_imp,forall_apply_eq_imp_iff₂] at ho
   refine ⟨ez,by simpa [XM] using e1,e2,arr,e3,by simpa [XM] using e4,fun j c e => ?_⟩
   rw [List.getElem?_map,Option.map_eq_some_iff] at e
   obtain ⟨c0,e0,rfl⟩:=e
   exact X1W hs (ho c0 (List.mem_of_getElem? e0)) (e5 j c0 e0)
 | vec t es l full =>
  cases p with
  | none=>exact h.elim
  | some p =>
   rcases h with ⟨h1,h2,_⟩ | ⟨ez,e1,e2,e3,e4,_,e6⟩
   ·exact .inl ⟨h1,h2,rfl⟩
   ·exact .inr ⟨ez,e1,e2,e3,e4,(fun h=>by cases h),e6⟩
 | nest t ll full =>
  cases p with
  | none=>exact h.elim
  | some p =>
   rcases h with h | ⟨ez,e1,e2,e3,_,e6⟩
   ·exact .inl h
   ·exact .inr ⟨ez,e1,e2,e3,(fun h=>by cases h),e6⟩
 | mapN=>cases p<;>exact h
 | dead=>simp [XM,XA] at ho
 | lits t cs=>simp [XM,XA] at ho
def X8:Nat→Nat→List Nat
 | _,0 => []
 | k,n + 1=>k :: X8 (k + 1) n
theorem X2B:∀ (n k i:Nat),i < n→(X8 k n)[i]? = some (k + i)
 | 0,k,i,h=>by omega
 | n + 1,k,0,h=>by simp [X8]
 | n + 1,k,i + 1,h=>by
  rw [X8,List.getElem?_cons_succ,X2B n (k + 1) i (by omega)];congr 1;omega
theorem X1J:∀ (n k:Nat),(X8 k n).length=n
 | 0,_=>rfl
 | n + 1,k=>by simp [X8,X1J n]
end Go.Ab
