/- What the evaluator asks of a program's types, read off the program. -/
import Derived.Test.YtoibkmljibnjnaaA16
import Derived.KernelRfl
set_option linter.unusedVariables false
set_option linter.unusedSimpArgs false
namespace Go.Ab
open Go.RowKit
def X3T (P:Program):TypeDesc→TK
 | .bool => .bool
 | .int k => .int k
 | .float k => .float k
 | .struct fields=>match fields.toList.mapM (fun f=>(P.info? f.type).map fun inf=>(f.offset,inf.size)) with
  | some fs => .struct fs
  | none => .other
 | .slice e => .slice e
 | .array n e => .arr n e
 | .map k el=>match P.underlying k,P.underlying el,P.info? el with
  | some (.array 2 k2),some (.slice e),some inf2=>match P.underlying k2,P.info? k2,inf2.zero with
   | some (.int .i64),some inf,some (.slice none 0 0)=>if inf.size=1 then .map e else .other
   | _,_,_ => .other
  | some (.array 2 k2),_,some inf2=>match P.underlying k2,P.info? k2,inf2.zero with
   | some (.int .i64),some inf,some (.int kd 0)=>if inf.size=1 then .smap (some kd) else .other
   | some (.int .i64),some inf,some (.bool false)=>if inf.size=1 then .smap none else .other
   | _,_,_ => .other
  | _,_,_ => .other
 | _ => .other
theorem X73 {α β:Type} {f:α→Option β}:∀ {l:List α} {m:List β},l.mapM f=some m→m.length=l.length∧∀ (j:Nat) (b:β),m[j]? = some b→∃ a,l[j]? = some a∧f a=some b
 | [],m,h=>by simp at h;subst h;simp
 | a :: l,m,h=>by
  rw [List.mapM_cons] at h
  cases ha:f a with
  | none=>rw [ha] at h;simp at h
  | some b =>
   rw [ha] at h
   cases hl:l.mapM f with
   | none=>rw [hl] at h;simp at h
   | some m' =>
    rw [hl] at h;simp at h;subst h
    obtain ⟨h1,h2⟩:=X73 hl
    refine ⟨by simp [h1],fun j c e => ?_⟩
    cases j with
    | zero=>simp at e;subst e;exact ⟨a,rfl,ha⟩
    | succ j=>simp at e;simpa using h2 j c e
theorem X95 (P:Program) (d:TypeDesc):Xa P d (X3T P d):=by
 cases d with
 | bool=>trivial
 | int k=>rfl
 | float k=>rfl
 | slice e=>rfl
 | array n e=>exact ⟨rfl,rfl⟩
 | map k el =>
  unfold X3T
  simp only
  split
  ·rename_i k2 e inf2 h1 h2 h3
   split
   ·rename_i inf h4 h5 h6
    split
    ·rename_i hs
     exact ⟨k2,inf,inf2,h1,h4,h5,hs,h2,h3,h6⟩
    ·simp only [Xa]
   ·simp only [Xa]
  ·rename_i k2 inf2 h1 h3 _
   split
   ·rename_i inf kd h4 h5 h6
    split
    ·rename_i hs
     exact ⟨k2,inf,inf2,h1,h4,h5,hs,h3,h6⟩
    ·simp only [Xa]
   ·rename_i inf h4 h5 h6
    split
    ·rename_i hs
     exact ⟨k2,inf,inf2,h1,h4,h5,hs,h3,h6⟩
    ·simp only [Xa]
   ·simp only [Xa]
  ·simp only [Xa]
 | struct fields =>
  unfold X3T
  simp only
  cases h:fields.toList.mapM (fun f=>(P.info? f.type).map fun inf=>(f.offset,inf.size)) with
  | none=>simp only;simp only [Xa]
  | some fs =>
   simp only [Xa]
   obtain ⟨h1,h2⟩:=X73 h
   refine ⟨by simpa using h1.symm,fun j o z e => ?_⟩
   obtain ⟨f,hf,hg⟩:=h2 j _ e
   rw [Option.map_eq_some_iff] at hg
   obtain ⟨inf,hi,he⟩:=hg
   simp only [Prod.mk.injEq] at he
   exact ⟨f,inf,by simpa using hf,he.1,hi,he.2⟩
 | _=>simp only [X3T,Xa]
def tdOf (P:Program) (t:TypeId):Option TD :=
 match P.info? t,P.underlying t with
 | some inf,some desc=>match inf.zero with
  | some z=>some ⟨X3c desc,inf.size,inf.bytes,z.cells.toList.map X45,X3T P desc⟩
  | none=>none
 | _,_=>none
theorem Xa7 {P:Program} {t:TypeId} {d:TD} (h:tdOf P t=some d):TyOk P t d:=by
 unfold tdOf at h
 split at h
 ·rename_i inf desc h1 h2
  split at h
  ·rename_i z hz
   simp only [Option.some.injEq] at h;subst h
   refine ⟨⟨inf,z,h1,rfl,rfl,hz,by simp,fun j c e H μ => ?_⟩,desc,h2,X95 P desc,rfl⟩
   simp only [List.getElem?_map,Option.map_eq_some_iff] at e
   obtain ⟨v,hv,rfl⟩:=e
   rw [Array.getD_eq_getD_getElem?,← Array.getElem?_toList,hv]
   exact X5v H μ v
  ·cases h
 ·cases h
def look {β:Type}:List (Nat × β)→Nat→Option β
 | [],_=>none
 | (k,b) :: l,t=>match k == t with
  | true=>some b
  | false=>look l t
theorem X74 {β:Type}:∀ {l:List (Nat × β)} {t:Nat} {b:β},look l t=some b→(t,b)∈l
 | [],t,b,h=>by cases h
 | (k,c) :: l,t,b,h=>by
  simp only [look] at h
  split at h
  ·rename_i hk
   simp only [beq_iff_eq] at hk;simp only [Option.some.injEq] at h
   subst hk;subst h;exact List.mem_cons_self
  ·exact List.mem_cons_of_mem _ (X74 h)
theorem XaC {P:Program} {l:List (Nat × TD)} (h:l.map (fun x=>tdOf P x.1)=l.map fun x=>some x.2):TOk P (look l):=by
 intro t d e
 have hm:=X74 e
 have:∀ x∈l,tdOf P x.1=some x.2:=by
  intro x hx
  obtain ⟨i,hi,rfl⟩:=List.getElem_of_mem hx
  have:=congrArg (·[i]?) h
  simpa [hi] using this
 exact Xa7 (this _ hm)
end Go.Ab
