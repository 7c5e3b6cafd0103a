/- Arguments that were read, as abstract values. -/
import Derived.Test.YtiddhiepmakopaaA20
import Derived.WalkKit
import Derived.ProofKit
import Derived.OpenShut
import Derived.JoinedCond
import Derived.Laws.Cover2
import Derived.Deep.Slices
set_option linter.unusedVariables false
set_option linter.unusedSimpArgs false
namespace Go.Ab
open Go.Deep Go.ChangeShapes Go.WideShapes Go.ChangeAt Go.RowKit
def Opn (P:Program) (t:TypeId) {α:Type} (c:α→List AV) (B:α→Prop):Prop :=
 ∀ (H:Type) (enc:TypeId × Value→H) (w:World) (sp:Nat→Bool) (fuel:Nat) (cs:List Value) (x:DataW H × List MemPlace),DataW.trod enc P w 0 sp true fuel t cs=some x →
  ∃ a:α,(c a).length=cs.length∧(∀ (j:Nat) (u:AV),(c a)[j]? = some u→Rep w.heap (fun _=>none) u (cs.getD j undef))∧B a
theorem X5z {H:Array Obj} {u:AV} {v:Value} (h:Rep H (fun _=>none) u v):∀ (j:Nat) (z:AV),[u][j]? = some z→Rep H (fun _=>none) z ([v].getD j undef):=by
 intro j z e
 cases j with
 | zero=>simp at e;subst e;exact h
 | succ j=>simp at e
theorem X7O {P:Program} {t:TypeId} {k:IntKind} (ht:P.underlying t=some (.int k)):Opn P t (cI k) (fun n=>(Lit.int k n).wf=true):=by
 intro H enc w sp fuel cs x h
 have key:∃ n,cs=[.int k n]∧(Lit.int k n).wf=true:=by
  cases fuel with
  | zero=>simp [DataW.trod] at h
  | succ f =>
   rcases cs with _ | ⟨v,_ | ⟨v2,tl⟩⟩
   ·simp [DataW.trod,ht] at h
   ·cases v<;>simp [DataW.trod,ht] at h
    obtain ⟨⟨rfl,hw⟩,_⟩:=h;exact ⟨_,rfl,hw⟩
   ·simp [DataW.trod,ht] at h
 obtain ⟨n,rfl,hw⟩:=key
 exact ⟨n,rfl,X5z (.i _ n),hw⟩
theorem X7C {k:FloatKind} {b:Nat} (h:(Lit.float k b).wf=true):Wd k b:=by
 cases k<;>simp only [Lit.wf,decide_eq_true_eq] at h<;>exact h
theorem X8a {k:FloatKind} {b:Nat} (h:Wd k b):Wd k (cn k b):=by
 cases h':Xf k b with
 | true=>rw [XN h'];exact X4N k
 | false=>rw [Xr h'];exact h
theorem X70 {P:Program} {t:TypeId} {k:FloatKind} (ht:P.underlying t=some (.float k)):Opn P t (cF k) (fun x=>Wd k x∧cn k x=x):=by
 intro H enc w sp fuel cs x h
 have key:∃ n,cs=[.float k n]∧(Lit.float k n).wf=true:=by
  cases fuel with
  | zero=>simp [DataW.trod] at h
  | succ f =>
   rcases cs with _ | ⟨v,_ | ⟨v2,tl⟩⟩
   ·simp [DataW.trod,ht] at h
   ·cases v<;>simp [DataW.trod,ht] at h
    obtain ⟨⟨rfl,hw⟩,_⟩:=h;exact ⟨_,rfl,hw⟩
   ·simp [DataW.trod,ht] at h
 obtain ⟨n,rfl,hw⟩:=key
 exact ⟨cn k n,rfl,X5z (.f _ _ n (X7C hw) rfl),X8a (X7C hw),X89 k n⟩
/- arguments -/
theorem arg_one {P:Program} {b0:Nat} {t:TypeId} {α:Type} {c:α→List AV} {B:α→Prop} (h:Opn P t c B) {H:Type} {enc:TypeId × Value→H} {w:World} {sp:Nat→Bool} {v:Value} {d:DataW H} {ps:List MemPlace}
  (ha:∀ desc,P.underlying t=some desc→X2v desc=false) (hval:Value.okWide P w .any b0 t v) (hd:DataW.Trod enc P w 0 sp true t v d ps):∃ a,B a∧∀ u,c a=[u]→Rep w.heap (fun _=>none) u v:=by
 obtain ⟨fuel,hf⟩:=hd
 obtain ⟨a,a1,a2,a3⟩:=h H enc w sp fuel _ _ hf
 refine ⟨a,a3,fun u hu => ?_⟩
 have:=a2 0 u (by rw [hu];rfl)
 have hv:v.cells.toList=[v]:=by
  cases v with
  | agg cs =>
   exfalso
   simp only [Value.okWide] at hval
   cases hu':P.underlying t with
   | none=>rw [hu'] at hval;simp [Cell.okWide,Cell.ok,hu'] at hval
   | some desc =>
    have:=ha _ hu'
    rw [hu'] at hval
    cases desc<;>simp [X2v] at this<;>simp [Cell.okWide,Cell.ok,hu'] at hval
  | _=>rfl
 rw [hv] at this
 simpa using this
end Go.Ab
