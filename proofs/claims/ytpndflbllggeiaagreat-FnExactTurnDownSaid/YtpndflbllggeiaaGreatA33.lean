/- Maps by pairs, as plain lists. -/
import Derived.Test.YtpndflbllggeiaaGreatA32
set_option linter.unusedVariables false
set_option linter.unusedSimpArgs false
namespace Go.Ab
def mapC {α β:Type} (ck:α→Int × Int) (cv:β→List AV) (l:List (α × List β)):List ((Int × Int) × List (List AV)):=l.map fun x=>(ck x.1,x.2.map cv)
def mhas {α β:Type} [DecidableEq α] (l:List (α × β)) (k:α):Bool:=l.any fun x=>decide (x.1=k)
def midx {α β:Type} [DecidableEq α] (l:List (α × β)) (k:α):Nat:=l.findIdx fun x=>decide (x.1=k)
def mput {α β:Type} [Inhabited α] (l:List (α × List β)) (j:Nat) (y:List β):List (α × List β):=l.set j ((l.getD j default).1,y)
section
variable {α β:Type} {ck:α→Int × Int} {cv:β→List AV} {l:List (α × List β)} {k:α}
theorem X2E [DecidableEq α] (h:mhas l k=true):midx l k < l.length:=by
 unfold mhas at h;unfold midx
 rw [List.findIdx_lt_length]
 simpa using h
theorem X7o [DecidableEq α] (h:mhas l k=true):l[midx l k]?.map (·.1)=some k:=by
 have hl:=X2E h
 rw [List.getElem?_eq_getElem hl]
 have hl2:l.findIdx (fun x=>decide (x.1=k)) < l.length:=hl
 have:=List.findIdx_getElem (xs:=l) (p:=fun x=>decide (x.1=k)) (w:=hl2)
 simpa [midx] using this
theorem X3o [DecidableEq α] (h:mhas l k=true):((mapC ck cv l).map (·.1))[midx l k]? = some (ck k):=by
 have:=X7o h
 unfold mapC
 rw [List.map_map,List.getElem?_map]
 cases hx:l[midx l k]? with
 | none=>rw [hx] at this;cases this
 | some x=>rw [hx] at this;simp at this;simp [this]
theorem X4c [DecidableEq α] (hi:∀ x y,ck x=ck y→x=y) (h:mhas l k=false):ck k ∉ (mapC ck cv l).map (·.1):=by
 intro hm
 unfold mapC at hm
 rw [List.map_map] at hm
 obtain ⟨x,hx,he⟩:=List.mem_map.1 hm
 have:=hi _ _ he
 unfold mhas at h
 rw [List.any_eq_false] at h
 exact h x hx (by simpa using this)
@[simp] theorem X7Z:(mapC ck cv l).length=l.length:=by simp [mapC]
theorem X5C [Inhabited α] (j:Nat):((mapC ck cv l).getD j default).2=((l.getD j default).2).map cv:=by
 unfold mapC
 rw [List.getD_eq_getElem?_getD,List.getD_eq_getElem?_getD,List.getElem?_map]
 cases l[j]? <;> rfl
@[simp] theorem X82 [Inhabited α] (j:Nat):(((mapC ck cv l)[j]?.getD default).2).length=((l[j]?.getD default).2).length:=by
 rw [← List.getD_eq_getElem?_getD,← List.getD_eq_getElem?_getD,X5C,List.length_map]
theorem X3g [Inhabited α] (j:Nat):((mapC ck cv l).map (·.2)).getD j []=((l.getD j default).2).map cv:=by
 unfold mapC
 rw [List.getD_eq_getElem?_getD,List.getD_eq_getElem?_getD,List.map_map,List.getElem?_map]
 cases l[j]? <;> rfl
theorem X66 [Inhabited α] [Inhabited β] {j i:Nat} (h:i < ((l.getD j default).2).length):(((mapC ck cv l).map (·.2)).getD j [])[i]? = some (cv (((l.getD j default).2).getD i default)):=by
 rw [X3g];exact X1q h
theorem X67 [Inhabited α] {j:Nat} {i:Int} (h0:0≤i) (h:i < ((l.getD j default).2).length):0≤i∧i.toNat < (((mapC ck cv l).map (·.2)).getD j []).length:=by
 rw [X3g];exact XC h0 h
theorem X5D [Inhabited α] {j:Nat}:(((((mapC ck cv l).map (·.2)).getD j []).length:Nat):Int)=(((l.getD j default).2).length:Int):=by
 rw [X3g];simp
theorem X5E [Inhabited α] {j:Nat} {y:List β} (hj:j < l.length) :
  ((mapC ck cv l).set j (((mapC ck cv l).getD j default).1,[])).set j ((((mapC ck cv l).set j (((mapC ck cv l).getD j default).1,[])).getD j default).1,((mapC ck cv l).getD j default).2 ++ y.map cv)=mapC ck cv (mput l j ((l.getD j default).2 ++ y)):=by
 rw [X5C,← List.map_append]
 generalize (l.getD j default).2 ++ y=z
 have hk:((mapC ck cv l).getD j default).1=ck (l.getD j default).1:=by
  unfold mapC
  rw [List.getD_eq_getElem?_getD,List.getD_eq_getElem?_getD,List.getElem?_map,List.getElem?_eq_getElem hj];rfl
 have hg:((mapC ck cv l).set j (((mapC ck cv l).getD j default).1,[])).getD j default=(ck (l.getD j default).1,[]):=by
  rw [List.getD_eq_getElem?_getD,List.getElem?_set_self (by simpa using hj),hk];rfl
 rw [hg,List.set_set]
 unfold mapC mput
 rw [List.map_set]
theorem X7p {y:List β} :
  ((mapC ck cv l) ++ [(ck k,[])]).set (mapC ck cv l).length ((((mapC ck cv l) ++ [(ck k,[])]).getD (mapC ck cv l).length default).1,y.map cv)=mapC ck cv (l ++ [(k,y)]):=by
 have hg:((mapC ck cv l) ++ [(ck k,[])]).getD (mapC ck cv l).length default=(ck k,[]):=by
  rw [List.getD_eq_getElem?_getD,List.getElem?_append_right (Nat.le_refl _)];simp
 rw [hg,List.set_append_right _ _ (Nat.le_refl _)]
 simp [mapC]
theorem X7q [Inhabited α] {j:Nat} {y:List β} {x:α × List β} (h:x∈mput l j y):x∈l∨x.2=y:=by
 rcases List.mem_or_eq_of_mem_set h with h | h
 ·exact .inl h
 ·exact .inr (by rw [h])
theorem X5F [Inhabited α] {N:Int} (h0:0≤N) (h:∀ y∈l,(y.2.length:Int)≤N) (j:Nat):(((l.getD j default).2).length:Int)≤N:=by
 rw [List.getD_eq_getElem?_getD]
 cases hx:l[j]? with
 | none=>exact h0
 | some x=>exact h x (List.mem_of_getElem? hx)
theorem X2V [Inhabited α] {N M:Int} {j:Nat} {x:β} (h:∀ y∈l,(y.2.length:Int)≤N) (h0:0≤N) (hM:N + 1≤M):∀ y∈mput l j ((l.getD j default).2 ++ [x]),(y.2.length:Int)≤M:=by
 intro y hy
 rcases X7q hy with hy | hy
 ·have:=h y hy;omega
 ·have:=X5F h0 h j
  rw [hy,List.length_append,List.length_singleton];omega
theorem X5G {N M:Int} {x:β} (h:∀ y∈l,(y.2.length:Int)≤N) (hM:N≤M) (h1:1≤M):∀ y∈l ++ [(k,[x])],(y.2.length:Int)≤M:=by
 intro y hy
 rcases List.mem_append.1 hy with hy | hy
 ·have:=h y hy;omega
 ·simp only [List.mem_singleton] at hy;subst hy;exact h1
end
theorem X6G {x:Int} (h:0≤x):0≤Int.tmod x 3∧Int.tmod x 3 < 3:=⟨Int.tmod_nonneg 3 h,Int.tmod_lt_of_pos x (by omega)⟩
end Go.Ab
