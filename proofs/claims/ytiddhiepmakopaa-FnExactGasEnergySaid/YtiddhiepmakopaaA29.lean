/- Loops that mark what they go over, loops that look for the marks; triangles at an index. -/
import Derived.Test.YtiddhiepmakopaaA28
set_option linter.unusedVariables false
set_option linter.unusedSimpArgs false
namespace Go.Ab
open Go.RowKit
theorem X2V.at2 {n:Nat} {ts:List (List Int)} {i k:Int} (h:X2V n ts) (h0:0≤i) (hi:i < (ts.length:Int)) (k0:0≤k) (hk:k < 3∨k < ((ts.getD i.toNat default).length:Int)) :
  (ts.getD i.toNat default).length=3∧0≤(ts.getD i.toNat default).getD k.toNat default∧(ts.getD i.toNat default).getD k.toNat default < (n:Int):=by
 have hn:i.toNat < ts.length:=by omega
 have hm:(ts.getD i.toNat default)∈ts:=by rw [List.getD_eq_getElem?_getD,List.getElem?_eq_getElem hn];exact List.getElem_mem hn
 obtain ⟨h1,h2⟩:=h _ hm
 generalize ts.getD i.toNat default=t at *
 have hk':k.toNat < t.length:=by omega
 refine ⟨h1,?_⟩
 rw [List.getD_eq_getElem?_getD,List.getElem?_eq_getElem hk']
 exact h2 _ (List.getElem_mem hk')
theorem Okt.at {n:Nat} {t:List Int} (h:t.length=3∧∀ x∈t,0≤x∧x < (n:Int)) :
  t.length=3∧(0≤t.getD 0 default∧t.getD 0 default < (n:Int))∧(0≤t.getD 1 default∧t.getD 1 default < (n:Int))∧(0≤t.getD 2 default∧t.getD 2 default < (n:Int)):=by
 obtain ⟨h1,h2⟩:=h
 match t,h1 with
 | [a,b,c],_=>exact ⟨rfl,h2 a (by simp),h2 b (by simp),h2 c (by simp)⟩
end Go.Ab
