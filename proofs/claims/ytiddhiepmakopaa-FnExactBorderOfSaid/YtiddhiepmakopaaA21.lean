/- Arguments that were read, as abstract values. -/
import Derived.Test.YtiddhiepmakopaaA20
import Derived.WalkKit
import Derived.ProofKit
import Derived.OpenShut
import Derived.JoinedCond
import Derived.Laws.Cover2
import Derived.Deep.Slices
set_option linter.unusedVariables false
set_option linter.unusedSimpArgs false
namespace Go.Ab
open Go.Deep Go.ChangeShapes Go.WideShapes Go.ChangeAt Go.RowKit
def Opn (P:Program) (t:TypeId) {α:Type} (c:α→List AV) (B:α→Prop):Prop :=
 ∀ (H:Type) (enc:TypeId × Value→H) (w:World) (sp:Nat→Bool) (fuel:Nat) (cs:List Value) (x:DataW H × List MemPlace),DataW.trod enc P w 0 sp true fuel t cs=some x →
  ∃ a:α,(c a).length=cs.length∧(∀ (j:Nat) (u:AV),(c a)[j]? = some u→Rep w.heap (fun _=>none) u (cs.getD j undef))∧B a
theorem X2c {H:Array Obj} {u:AV} {v:Value} (h:Rep H (fun _=>none) u v):∀ (j:Nat) (z:AV),[u][j]? = some z→Rep H (fun _=>none) z ([v].getD j undef):=by
 intro j z e
 cases j with
 | zero=>simp at e;subst e;exact h
 | succ j=>simp at e
theorem X7P {P:Program} {t:TypeId} {k:IntKind} (ht:P.underlying t=some (.int k)):Opn P t (cI k) (fun n=>(Lit.int k n).wf=true):=by
 intro H enc w sp fuel cs x h
 have key:∃ n,cs=[.int k n]∧(Lit.int k n).wf=true:=by
  cases fuel with
  | zero=>simp [DataW.trod] at h
  | succ f =>
   rcases cs with _ | ⟨v,_ | ⟨v2,tl⟩⟩
   ·simp [DataW.trod,ht] at h
   ·cases v<;>simp [DataW.trod,ht] at h
    obtain ⟨⟨rfl,hw⟩,_⟩:=h;exact ⟨_,rfl,hw⟩
   ·simp [DataW.trod,ht] at h
 obtain ⟨n,rfl,hw⟩:=key
 exact ⟨n,rfl,X2c (.i _ n),hw⟩
theorem X7E {k:FloatKind} {b:Nat} (h:(Lit.float k b).wf=true):Wd k b:=by
 cases k<;>simp only [Lit.wf,decide_eq_true_eq] at h<;>exact h
theorem X89 {k:FloatKind} {b:Nat} (h:Wd k b):Wd k (cn k b):=by
 cases h':Xe k b with
 | true=>rw [XL h'];exact X4T k
 | false=>rw [Xs h'];exact h
theorem X7b {P:Program} {t:TypeId} {k:FloatKind} (ht:P.underlying t=some (.float k)):Opn P t (cF k) (fun x=>Wd k x∧cn k x=x):=by
 intro H enc w sp fuel cs x h
 have key:∃ n,cs=[.float k n]∧(Lit.float k n).wf=true:=by
  cases fuel with
  | zero=>simp [DataW.trod] at h
  | succ f =>
   rcases cs with _ | ⟨v,_ | ⟨v2,tl⟩⟩
   ·simp [DataW.trod,ht] at h
   ·cases v<;>simp [DataW.trod,ht] at h
    obtain ⟨⟨rfl,hw⟩,_⟩:=h;exact ⟨_,rfl,hw⟩
   ·simp [DataW.trod,ht] at h
 obtain ⟨n,rfl,hw⟩:=key
 exact ⟨cn k n,rfl,X2c (.f _ _ n (X7E hw) rfl),X89 (X7E hw),X88 k n⟩
theorem X37 {P:Program} {t e:TypeId} {α:Type} {c:α→List AV} {B:α→Prop} {n:Nat} (ht:P.underlying t=some (.slice e)) (hn:P.cellsOf e=n) (hpos:0 < n) (h:Opn P e c B) :
  Opn P t (cL c) (fun l=>l.length≤9223372036854775807∧∀ a∈l,B a):=by
 intro H enc w sp fuel cs x hx
 rcases open_slice ht hx with ⟨rfl,_⟩ | ⟨a,len,cap,m,f,D,Pl,rfl,hb,hl,hm,hmm,_,hel⟩
 ·exact ⟨[],rfl,X2c (.slE _ _),by simp,by simp⟩
 ·have hlm:len≤m:=by rw [hmm];split<;>omega
  rw [hn] at hel
  have hch:∀ i,i < len→∃ y:α × List Value,w.cells? 0 (a.add (i * n)) n=some y.2∧(c y.1).length=y.2.length∧(∀ (j:Nat) (u:AV),(c y.1)[j]? = some u→Rep w.heap (fun _=>none) u (y.2.getD j undef))∧B y.1:=by
   intro i hi
   obtain ⟨cs',h1,h2⟩:=hel i (by omega)
   obtain ⟨y,g1,g2,g3⟩:=h H enc w sp f cs' _ h2
   exact ⟨(y,cs'),h1,g1,g2,g3⟩
  have hmax:len≤9223372036854775807:=by
   have:cap≤maxLen:=hm
   have h2:(maxLen:Nat)=9223372036854775807:=by decide
   omega
  by_cases hz:len=0
  ·subst hz
   exact ⟨[],rfl,X2c (.slE _ _),by simp,by simp⟩
  ·obtain ⟨y0,_⟩:=hch 0 (by omega)
   have:Inhabited (α × List Value):=⟨y0⟩
   obtain ⟨F,hF⟩:=choose_lt (α:=α × List Value) (p:=fun i y=>w.cells? 0 (a.add (i * n)) n=some y.2∧(c y.1).length=y.2.length∧(∀ (j:Nat) (u:AV),(c y.1)[j]? = some u→Rep w.heap (fun _=>none) u (y.2.getD j undef))∧B y.1) hch
   refine ⟨(List.range len).map (fun i=>(F i).1),rfl,X2c ?_,by simpa using hmax,?_⟩
   ·have hspot:a.spot=none:=by
     obtain ⟨_,hlen,hc⟩:=World.cells?_some (hF 0 (by omega)).1
     have:=hc 0 hpos
     rw [List.getElem?_eq_getElem (by omega)] at this
     unfold World.cell? at this
     split at this
     ·split at this
      ·cases this
      ·rename_i hs
       simpa [Addr.add] using hs
     ·cases this
    obtain ⟨ab,ao,as⟩:=a
    simp only at hspot;subst hspot
    have hrep:Rep w.heap (fun _=>none) (.sl (((List.range len).map (fun i=>(F i).1)).map c)) (.slice (some ⟨ab,ao,none⟩) (((List.range len).map (fun i=>(F i).1)).map c).length cap):=by
     refine .sl _ n ab ao cap (fun i j=>(F i).2.getD j undef) (fun i cs' e => ?_) (fun i cs' j u e e' => ?_) (fun i cs' j u e e' => ?_)
     all_goals
      simp only [List.getElem?_map,List.map_map,Option.map_eq_some_iff] at e
      obtain ⟨i',e1,rfl⟩:=e
      have hi:i < len:=by
       rcases Nat.lt_or_ge i len with h | h
       ·exact h
       ·rw [List.getElem?_eq_none (by simpa using h)] at e1;cases e1
      rw [List.getElem?_range hi] at e1
      simp only [Option.some.injEq] at e1;subst e1
      obtain ⟨g1,g2,g3,_⟩:=hF i hi
     ·obtain ⟨_,hlen,_⟩:=World.cells?_some g1
      simp only [Function.comp_apply];omega
     ·obtain ⟨_,hlen,hc⟩:=World.cells?_some g1
      simp only [Function.comp_apply] at e'
      have hj:j < n:=by
       rcases Nat.lt_or_ge j n with h | h
       ·exact h
       ·rw [List.getElem?_eq_none (by omega)] at e';cases e'
      have hcell:=hc j hj
      have hadd:(Addr.add (Addr.add ⟨ab,ao,none⟩ (i * n)) j)=⟨ab,ao + (i * n + j),none⟩:=by rw [Xu,Xu,Nat.add_assoc]
      rw [hadd,X18] at hcell
      rw [hcell,List.getD_eq_getElem?_getD,List.getElem?_eq_getElem (by omega)];rfl
     ·exact g3 j u e'
    simpa using hrep
   ·intro z hz
    simp only [List.mem_map,List.mem_range] at hz
    obtain ⟨i,hi,rfl⟩:=hz
    exact (hF i hi).2.2.2
def OpnF (P:Program) (o:Nat) (fs:List (TypeId × Nat)) {α:Type} (c:α→List AV) (B:α→Prop):Prop :=
 ∀ (H:Type) (enc:TypeId × Value→H) (w:World) (sp:Nat→Bool) (fuel:Nat) (cs:List Value),o + (fs.map (·.2)).sum≤cs.length →
  (∀ (i:Nat) (f:TypeId × Nat),fs[i]? = some f→∃ x,DataW.trod enc P w 0 sp true fuel f.1 ((cs.drop (o + ((fs.take i).map (·.2)).sum)).take f.2)=some x) →
  ∃ a:α,(c a).length=(fs.map (·.2)).sum∧(∀ (j:Nat) (u:AV),(c a)[j]? = some u→Rep w.heap (fun _=>none) u (cs.getD (o + j) undef))∧B a
theorem X5H {P:Program} {o:Nat}:OpnF P o [] (fun _:Unit => []) (fun _=>True):=by
 intro H enc w sp fuel cs _ _
 exact ⟨(),rfl,fun j u e=>by simp at e,trivial⟩
theorem X1P {P:Program} {o t n:Nat} {fs:List (TypeId × Nat)} {α β:Type} {c1:α→List AV} {c2:β→List AV} {B1:α→Prop} {B2:β→Prop} (h1:Opn P t c1 B1) (h2:OpnF P (o + n) fs c2 B2) :
  OpnF P o ((t,n) :: fs) (fun x:α × β=>c1 x.1 ++ c2 x.2) (fun x=>B1 x.1∧B2 x.2):=by
 intro H enc w sp fuel cs hlen hf
 simp only [List.map_cons,List.sum_cons] at hlen
 obtain ⟨x,hx⟩:=hf 0 (t,n) rfl
 simp only [List.take_zero,List.map_nil,List.sum_nil,Nat.add_zero] at hx
 obtain ⟨a,a1,a2,a3⟩:=h1 H enc w sp fuel _ _ hx
 obtain ⟨b,b1,b2,b3⟩:=h2 H enc w sp fuel cs (by omega) fun i f e=>by
  obtain ⟨y,hy⟩:=hf (i + 1) f (by simpa using e)
  simp only [List.take_succ_cons,List.map_cons,List.sum_cons] at hy
  exact ⟨y,by rw [Nat.add_assoc];exact hy⟩
 have hl1:(c1 a).length=n:=by rw [a1];simp;omega
 refine ⟨(a,b),by simp [hl1,b1],fun j u e => ?_,a3,b3⟩
 simp only at e
 by_cases hj:j < n
 ·rw [List.getElem?_append_left (by omega)] at e
  have:=a2 j u e
  rw [List.getD_eq_getElem?_getD,List.getElem?_take_of_lt hj,List.getElem?_drop,← List.getD_eq_getElem?_getD] at this
  exact this
 ·rw [List.getElem?_append_right (by omega),hl1] at e
  have:=b2 _ u e
  rwa [show o + n + (j - n)=o + j from by omega] at this
theorem X7s {α β:Type} {f:α→Option β} {l:List α} {m:List β} (h:l.mapM f=some m) (i:Nat) (a:α) (e:l[i]? = some a):∃ b,f a=some b:=by
 obtain ⟨h1,h2⟩:=X3v h
 have hi:i < m.length:=by
  rw [h1]
  rcases Nat.lt_or_ge i l.length with h | h
  ·exact h
  ·rw [List.getElem?_eq_none h] at e;cases e
 obtain ⟨a',e1,e2⟩:=h2 i m[i] (List.getElem?_eq_getElem hi)
 rw [e] at e1;cases e1
 exact ⟨_,e2⟩
def X38:Nat→List (TypeId × Nat)→List (TypeId × Nat × Nat)
 | _,[] => []
 | o,(t,n) :: fs=>(t,o,n) :: X38 (o + n) fs
theorem X3U:∀ (fs:List (TypeId × Nat)) (o i:Nat) (f:TypeId × Nat),fs[i]? = some f→(X38 o fs)[i]? = some (f.1,o + ((fs.take i).map (·.2)).sum,f.2)
 | [],o,i,f,h=>by simp at h
 | (t,n) :: fs,o,0,f,h=>by simp at h;subst h;simp [X38]
 | (t,n) :: fs,o,i + 1,f,h=>by
  have:=X3U fs (o + n) i f (by simpa using h)
  simp only [X38,List.getElem?_cons_succ,this,List.take_succ_cons,List.map_cons,List.sum_cons,Nat.add_assoc]
theorem X3V {P:Program} {t:TypeId} {fields:Array Field} {fs:List (TypeId × Nat)} {α β:Type} {c:α→List AV} {B:α→Prop} {c':β→List AV} {B':β→Prop} (g:α→β)
  (ht:P.underlying t=some (.struct fields)) (hfs:fields.toList.map (fun f=>(f.type,f.offset,P.cellsOf f.type))=X38 0 fs) (hn:P.cellsOf t=(fs.map (·.2)).sum)
  (h:OpnF P 0 fs c B) (hc:∀ a,c' (g a)=c a) (hB:∀ a,B a→B' (g a)):Opn P t c' B':=by
 intro H enc w sp fuel cs x hx
 cases fuel with
 | zero=>simp [DataW.trod] at hx
 | succ f =>
  have hu:DataW.trod enc P w 0 sp true (f + 1) t cs=if cs.length=P.cellsOf t then (fields.toList.mapM fun f'=>DataW.trod enc P w 0 sp true f f'.type ((cs.drop f'.offset).take (P.cellsOf f'.type))).map fun xs=>(.agg (xs.map (·.1)),xs.flatMap (·.2)) else none:=by
   rw [DataW.trod];simp only [ht]
  rw [hu] at hx
  split at hx
  ·rename_i hl
   rw [Option.map_eq_some_iff] at hx
   obtain ⟨xs,hm,_⟩:=hx
   obtain ⟨a,a1,a2,a3⟩:=h H enc w sp f cs (by omega) fun i q e=>by
    have hg:=X3U fs 0 i q e
    rw [← hfs,List.getElem?_map,Option.map_eq_some_iff] at hg
    obtain ⟨fd,e1,e2⟩:=hg
    simp only [Prod.mk.injEq] at e2
    obtain ⟨b,hb⟩:=X7s hm i fd e1
    rw [e2.2.2,e2.2.1,e2.1] at hb
    exact ⟨b,hb⟩
   refine ⟨g a,by rw [hc,a1,hl,hn],fun j u e => ?_,hB a a3⟩
   rw [hc] at e
   have:=a2 j u e
   rwa [Nat.zero_add] at this
  ·cases hx
theorem X7Q {P:Program} {b0:Nat} {t:TypeId} {α:Type} {c:α→List AV} {B:α→Prop} (h:Opn P t c B) {H:Type} {enc:TypeId × Value→H} {w:World} {sp:Nat→Bool} {v:Value} {d:DataW H} {ps:List MemPlace}
  {fields:Array Field} (ht:P.underlying t=some (.struct fields)) (hval:Value.okWide P w .any b0 t v) (hd:DataW.Trod enc P w 0 sp true t v d ps):∃ a,B a∧Rep w.heap (fun _=>none) (.agg (c a)) v:=by
 obtain ⟨fuel,hf⟩:=hd
 obtain ⟨a,a1,a2,a3⟩:=h H enc w sp fuel _ _ hf
 simp only [Value.okWide,ht] at hval
 obtain ⟨cs,rfl,_⟩:=hval
 refine ⟨a,a3, .agg _ _ (by simpa [Value.cells] using a1.symm) fun j u e => ?_⟩
 have:=a2 j u e
 simpa [Value.cells] using this
end Go.Ab
