/- Loops that ask of every element. -/
import Derived.Test.YtiddhiepmakopaaA22
set_option linter.unusedVariables false
set_option linter.unusedSimpArgs false
namespace Go.Ab
def X2V (n:Nat) (ts:List (List Int)):Prop:=∀ t∈ts,t.length=3∧∀ x∈t,0≤x∧x < (n:Int)
theorem X2V.at {n:Nat} {ts:List (List Int)} {i:Int} (h:X2V n ts) (h0:0≤i) (hi:i < (ts.length:Int)) :
  (ts.getD i.toNat default).length=3∧(0≤(ts.getD i.toNat default).getD 0 default∧(ts.getD i.toNat default).getD 0 default < (n:Int)) ∧
  (0≤(ts.getD i.toNat default).getD 1 default∧(ts.getD i.toNat default).getD 1 default < (n:Int))∧(0≤(ts.getD i.toNat default).getD 2 default∧(ts.getD i.toNat default).getD 2 default < (n:Int)):=by
 have hn:i.toNat < ts.length:=by omega
 have hm:(ts.getD i.toNat default)∈ts:=by rw [List.getD_eq_getElem?_getD,List.getElem?_eq_getElem hn];exact List.getElem_mem hn
 obtain ⟨h1,h2⟩:=h _ hm
 generalize ts.getD i.toNat default=t at *
 match t,h1 with
 | [a,b,c],_=>exact ⟨rfl,h2 a (by simp),h2 b (by simp),h2 c (by simp)⟩
end Go.Ab
