/- Arguments that were read, as abstract values. -/
import Derived.Test.YtoibkmljibnjnaaA20
import Derived.WalkKit
import Derived.ProofKit
import Derived.OpenShut
import Derived.JoinedCond
import Derived.Laws.Cover2
import Derived.Deep.Slices
set_option linter.unusedVariables false
set_option linter.unusedSimpArgs false
namespace Go.Ab
open Go.Deep Go.ChangeShapes Go.WideShapes Go.ChangeAt Go.RowKit
def Opn (P:Program) (t:TypeId) {α:Type} (c:α→List AV) (B:α→Prop):Prop :=
 ∀ (H:Type) (enc:TypeId × Value→H) (w:World) (sp:Nat→Bool) (fuel:Nat) (cs:List Value) (x:DataW H × List MemPlace),DataW.trod enc P w 0 sp true fuel t cs=some x →
  ∃ a:α,(c a).length=cs.length∧(∀ (j:Nat) (u:AV),(c a)[j]? = some u→Rep w.heap (fun _=>none) u (cs.getD j undef))∧B a
theorem X3y {H:Array Obj} {u:AV} {v:Value} (h:Rep H (fun _=>none) u v):∀ (j:Nat) (z:AV),[u][j]? = some z→Rep H (fun _=>none) z ([v].getD j undef):=by
 intro j z e
 cases j with
 | zero=>simp at e;subst e;exact h
 | succ j=>simp at e
theorem Xa8 {P:Program} {t:TypeId} {k:IntKind} (ht:P.underlying t=some (.int k)):Opn P t (cI k) (fun n=>(Lit.int k n).wf=true):=by
 intro H enc w sp fuel cs x h
 have key:∃ n,cs=[.int k n]∧(Lit.int k n).wf=true:=by
  cases fuel with
  | zero=>simp [DataW.trod] at h
  | succ f =>
   rcases cs with _ | ⟨v,_ | ⟨v2,tl⟩⟩
   ·simp [DataW.trod,ht] at h
   ·cases v<;>simp [DataW.trod,ht] at h
    obtain ⟨⟨rfl,hw⟩,_⟩:=h;exact ⟨_,rfl,hw⟩
   ·simp [DataW.trod,ht] at h
 obtain ⟨n,rfl,hw⟩:=key
 exact ⟨n,rfl,X3y (.i _ n),hw⟩
theorem X96 {P:Program} {t e:TypeId} {α:Type} {c:α→List AV} {B:α→Prop} {n:Nat} (ht:P.underlying t=some (.slice e)) (hn:P.cellsOf e=n) (hpos:0 < n) (h:Opn P e c B) :
  Opn P t (cL c) (fun l=>l.length≤9223372036854775807∧∀ a∈l,B a):=by
 intro H enc w sp fuel cs x hx
 rcases open_slice ht hx with ⟨rfl,_⟩ | ⟨a,len,cap,m,f,D,Pl,rfl,hb,hl,hm,hmm,_,hel⟩
 ·exact ⟨[],rfl,X3y (.slE _ _),by simp,by simp⟩
 ·have hlm:len≤m:=by rw [hmm];split<;>omega
  rw [hn] at hel
  have hch:∀ i,i < len→∃ y:α × List Value,w.cells? 0 (a.add (i * n)) n=some y.2∧(c y.1).length=y.2.length∧(∀ (j:Nat) (u:AV),(c y.1)[j]? = some u→Rep w.heap (fun _=>none) u (y.2.getD j undef))∧B y.1:=by
   intro i hi
   obtain ⟨cs',h1,h2⟩:=hel i (by omega)
   obtain ⟨y,g1,g2,g3⟩:=h H enc w sp f cs' _ h2
   exact ⟨(y,cs'),h1,g1,g2,g3⟩
  have hmax:len≤9223372036854775807:=by
   have:cap≤maxLen:=hm
   have h2:(maxLen:Nat)=9223372036854775807:=by decide
   omega
  by_cases hz:len=0
  ·subst hz
   exact ⟨[],rfl,X3y (.slE _ _),by simp,by simp⟩
  ·obtain ⟨y0,_⟩:=hch 0 (by omega)
   have:Inhabited (α × List Value):=⟨y0⟩
   obtain ⟨F,hF⟩:=choose_lt (α:=α × List Value) (p:=fun i y=>w.cells? 0 (a.add (i * n)) n=some y.2∧(c y.1).length=y.2.length∧(∀ (j:Nat) (u:AV),(c y.1)[j]? = some u→Rep w.heap (fun _=>none) u (y.2.getD j undef))∧B y.1) hch
   refine ⟨(List.range len).map (fun i=>(F i).1),rfl,X3y ?_,by simpa using hmax,?_⟩
   ·have hspot:a.spot=none:=by
     obtain ⟨_,hlen,hc⟩:=World.cells?_some (hF 0 (by omega)).1
     have:=hc 0 hpos
     rw [List.getElem?_eq_getElem (by omega)] at this
     unfold World.cell? at this
     split at this
     ·split at this
      ·cases this
      ·rename_i hs
       simpa [Addr.add] using hs
     ·cases this
    obtain ⟨ab,ao,as⟩:=a
    simp only at hspot;subst hspot
    have hrep:Rep w.heap (fun _=>none) (.sl (((List.range len).map (fun i=>(F i).1)).map c)) (.slice (some ⟨ab,ao,none⟩) (((List.range len).map (fun i=>(F i).1)).map c).length cap):=by
     refine .sl _ n ab ao cap (fun i j=>(F i).2.getD j undef) (fun i cs' e => ?_) (fun i cs' j u e e' => ?_) (fun i cs' j u e e' => ?_) (by simp;omega)
     all_goals
      simp only [List.getElem?_map,List.map_map,Option.map_eq_some_iff] at e
      obtain ⟨i',e1,rfl⟩:=e
      have hi:i < len:=by
       rcases Nat.lt_or_ge i len with h | h
       ·exact h
       ·rw [List.getElem?_eq_none (by simpa using h)] at e1;cases e1
      rw [List.getElem?_range hi] at e1
      simp only [Option.some.injEq] at e1;subst e1
      obtain ⟨g1,g2,g3,_⟩:=hF i hi
     ·obtain ⟨_,hlen,_⟩:=World.cells?_some g1
      simp only [Function.comp_apply];omega
     ·obtain ⟨_,hlen,hc⟩:=World.cells?_some g1
      simp only [Function.comp_apply] at e'
      have hj:j < n:=by
       rcases Nat.lt_or_ge j n with h | h
       ·exact h
       ·rw [List.getElem?_eq_none (by omega)] at e';cases e'
      have hcell:=hc j hj
      have hadd:(Addr.add (Addr.add ⟨ab,ao,none⟩ (i * n)) j)=⟨ab,ao + (i * n + j),none⟩:=by rw [Xy,Xy,Nat.add_assoc]
      rw [hadd,X1d] at hcell
      rw [hcell,List.getD_eq_getElem?_getD,List.getElem?_eq_getElem (by omega)];rfl
     ·exact g3 j u e'
    simpa using hrep
   ·intro z hz
    simp only [List.mem_map,List.mem_range] at hz
    obtain ⟨i,hi,rfl⟩:=hz
    exact (hF i hi).2.2.2
/- arguments -/
theorem arg_one {P:Program} {b0:Nat} {t:TypeId} {α:Type} {c:α→List AV} {B:α→Prop} (h:Opn P t c B) {H:Type} {enc:TypeId × Value→H} {w:World} {sp:Nat→Bool} {v:Value} {d:DataW H} {ps:List MemPlace}
  (ha:∀ desc,P.underlying t=some desc→X3c desc=false) (hval:Value.okWide P w .any b0 t v) (hd:DataW.Trod enc P w 0 sp true t v d ps):∃ a,B a∧∀ u,c a=[u]→Rep w.heap (fun _=>none) u v:=by
 obtain ⟨fuel,hf⟩:=hd
 obtain ⟨a,a1,a2,a3⟩:=h H enc w sp fuel _ _ hf
 refine ⟨a,a3,fun u hu => ?_⟩
 have:=a2 0 u (by rw [hu];rfl)
 have hv:v.cells.toList=[v]:=by
  cases v with
  | agg cs =>
   exfalso
   simp only [Value.okWide] at hval
   cases hu':P.underlying t with
   | none=>rw [hu'] at hval;simp [Cell.okWide,Cell.ok,hu'] at hval
   | some desc =>
    have:=ha _ hu'
    rw [hu'] at hval
    cases desc<;>simp [X3c] at this<;>simp [Cell.okWide,Cell.ok,hu'] at hval
  | _=>rfl
 rw [hv] at this
 simpa using this
end Go.Ab
