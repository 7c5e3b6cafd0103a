/- Bounds on the sizes of floats. -/
import Derived.Test.YtiddhiepmakopaaA21
set_option linter.unusedVariables false
set_option linter.unusedSimpArgs false
namespace Go.Ab
open Go.RowKit Ieee
def X6L (d:Datum) (S:Int):Prop:=∀ s m e,d = .number s m e→m=0∨e + (m.log2:Int)≤S
theorem X6L.mono {d:Datum} {S T:Int} (h:X6L d S) (hS:S≤T):X6L d T:=fun s m e he=>(h s m e he).imp id fun h=>Int.le_trans h hS
theorem X6M (d:Datum):d.order d=if d.isNaN then none else some .eq:=by
 cases d with
 | nan s t=>rfl
 | infinity s=>cases s<;>rfl
 | number s m i =>
  simp only [Datum.order,Datum.isNaN]
  have hi:∀ a:Int,compare a a = .eq:=fun a=>by simp [compare,compareOfLessAndEq]
  rw [hi];rfl
theorem X7t (k:FloatKind) (x:Nat):fcmp .neq k x x=Xe k x:=by
 have:k.format.order x x=if Xe k x then none else some .eq:=X6M _
 unfold fcmp
 rw [this]
 cases Xe k x<;>rfl
end Go.Ab

set_option linter.unusedVariables false
set_option linter.unusedSimpArgs false
namespace Go.Ab
theorem X64 {α:Type} [Inhabited α] {p:α→Bool} {a:List α} {A B:Type} {x:A} {y:B} {lo:Nat→Int→A ⊕ B}
  (h:∀ k i,lo (k + 1) i=cond (decide (i < (a.length:Int))) (cond (p (a.getD i.toNat default)) (lo k (i + 1)) (.inl x)) (.inr y)) :
  ∀ (k:Nat) (i:Int),0≤i→((a.length:Int) - i).toNat < k→lo k i=cond ((a.drop i.toNat).all p) (.inr y) (.inl x):=by
 intro k
 induction k with
 | zero=>intro i h0 hk;exact absurd hk (Nat.not_lt_zero _)
 | succ k ih =>
  intro i h0 hk
  rw [h]
  by_cases hi:i < (a.length:Int)
  ·have hn:i.toNat < a.length:=by omega
   rw [decide_eq_true hi,cond_true,List.drop_eq_getElem_cons hn,List.all_cons,List.getD_eq_getElem?_getD,List.getElem?_eq_getElem hn,Option.getD_some]
   cases p a[i.toNat] with
   | false=>rfl
   | true =>
    rw [cond_true,Bool.true_and,ih (i + 1) (by omega) (by omega),show (i + 1).toNat=i.toNat + 1 from by omega]
  ·rw [decide_eq_false hi,cond_false,List.drop_eq_nil_of_le (by omega)];rfl
theorem X2d {α:Type} [Inhabited α] {p:α→Bool} {a:List α} {A B:Type} {x:A} {y:B} {lo:Nat→Int→A ⊕ B}
  (h:∀ k i,lo (k + 1) i=cond (decide (i < (a.length:Int))) (cond (p (a.getD i.toNat default)) (lo k (i + 1)) (.inl x)) (.inr y)) :
  lo (((a.length:Int) - 0).toNat + 1) 0=cond (a.all p) (.inr y) (.inl x):=by
 rw [X64 h _ _ (Int.le_refl 0) (Nat.lt_succ_self _)];simp
def X1x (n:Nat) (ts:List (List Int)):Prop:=∀ t∈ts,t.length=3∧∀ x∈t,0≤x∧x < (n:Int)
theorem X1x.at {n:Nat} {ts:List (List Int)} {i:Int} (h:X1x n ts) (h0:0≤i) (hi:i < (ts.length:Int)) :
  (ts.getD i.toNat default).length=3∧(0≤(ts.getD i.toNat default).getD 0 default∧(ts.getD i.toNat default).getD 0 default < (n:Int)) ∧
  (0≤(ts.getD i.toNat default).getD 1 default∧(ts.getD i.toNat default).getD 1 default < (n:Int))∧(0≤(ts.getD i.toNat default).getD 2 default∧(ts.getD i.toNat default).getD 2 default < (n:Int)):=by
 have hn:i.toNat < ts.length:=by omega
 have hm:(ts.getD i.toNat default)∈ts:=by rw [List.getD_eq_getElem?_getD,List.getElem?_eq_getElem hn];exact List.getElem_mem hn
 obtain ⟨h1,h2⟩:=h _ hm
 generalize ts.getD i.toNat default=t at *
 match t,h1 with
 | [a,b,c],_=>exact ⟨rfl,h2 a (by simp),h2 b (by simp),h2 c (by simp)⟩
theorem X7u {β:Type} {f:Int→β} {n:Int} {lo:Nat→Int→List β→List β}
  (h:∀ k i r,lo (k + 1) i r=cond (decide (i < n)) (lo k (i + 1) (r ++ [f i])) r) :
  ∀ (k:Nat) (i:Int) (r:List β),(n - i).toNat < k→lo k i r=r ++ (List.range (n - i).toNat).map fun (j:Nat)=>f (i + (j:Int)):=by
 intro k
 induction k with
 | zero=>intro i r hk;exact absurd hk (Nat.not_lt_zero _)
 | succ k ih =>
  intro i r hk
  rw [h]
  by_cases hi:i < n
  ·rw [decide_eq_true hi,cond_true,ih (i + 1) _ (by omega)]
   rw [show (n - i).toNat=(n - (i + 1)).toNat + 1 from by omega,List.range_succ_eq_map,List.map_cons,List.map_map,List.append_assoc]
   congr 1
   simp only [List.singleton_append,Int.natCast_zero,Int.add_zero,List.cons.injEq,true_and]
   refine List.map_congr_left fun j _ => ?_
   simp only [Function.comp_apply]
   congr 1
   omega
  ·rw [decide_eq_false hi,cond_false,show (n - i).toNat=0 from by omega];simp
end Go.Ab

set_option linter.unusedVariables false
set_option linter.unusedSimpArgs false
namespace Go.Ab
open Go.RowKit
def Xn (n:Nat):Row→Bool
 | .vec .. | .nest .. | .mapN .. => true
 | .box _ cs=>cs.all (X10 n)
 | _=>false
def XB (ks:List Nat):Row→Row
 | .box t cs => .box t (cs.map (renC ks))
 | .vec t es l _ => .vec t es l false
 | .nest t ll _ => .nest t ll false
 | r=>r
theorem X7c {H:Array Obj} {μ μ':Nat→Option FP} {heap:Array Obj} {ks:List Nat} (hs:∀ (i k:Nat),ks[i]? = some k→μ' i=μ k) {p:Option FP} {row:Row} (ho:Xn ks.length (XB ks row)=true)
  (h:X1 H μ heap p row):X1 H μ' heap p (XB ks row):=by
 cases row with
 | box t cs =>
  cases p with
  | none=>exact h.elim
  | some p =>
   obtain ⟨ez,e1,e2,arr,e3,e4,e5⟩:=h
   simp only [XB,Xn,List.all_eq_true,List.mem_map,forall_exists_index,and_imp,forall_apply_eq_imp_iff₂] at ho
   refine ⟨ez,by simpa [XB] using e1,e2,arr,e3,by simpa [XB] using e4,fun j c e => ?_⟩
   rw [List.getElem?_map,Option.map_eq_some_iff] at e
   obtain ⟨c0,e0,rfl⟩:=e
   exact X2a hs (ho c0 (List.mem_of_getElem? e0)) (e5 j c0 e0)
 | vec t es l full =>
  cases p with
  | none=>exact h.elim
  | some p =>
   rcases h with ⟨h1,h2,_⟩ | ⟨ez,e1,e2,e3,e4,_,e6⟩
   ·exact .inl ⟨h1,h2,rfl⟩
   ·exact .inr ⟨ez,e1,e2,e3,e4,(fun h=>by cases h),e6⟩
 | nest t ll full =>
  cases p with
  | none=>exact h.elim
  | some p =>
   rcases h with h | ⟨ez,e1,e2,e3,_,e6⟩
   ·exact .inl h
   ·exact .inr ⟨ez,e1,e2,e3,(fun h=>by cases h),e6⟩
 | mapN=>cases p<;>exact h
 | mapS=>simp [XB,Xn] at ho
 | nestD=>simp [XB,Xn] at ho
 | vecU=>simp [XB,Xn] at ho
 | dead=>simp [XB,Xn] at ho
 | lits t cs=>simp [XB,Xn] at ho
def Xb:Nat→Nat→List Nat
 | _,0 => []
 | k,n + 1=>k :: Xb (k + 1) n
theorem X2O:∀ (n k i:Nat),i < n→(Xb k n)[i]? = some (k + i)
 | 0,k,i,h=>by omega
 | n + 1,k,0,h=>by simp [Xb]
 | n + 1,k,i + 1,h=>by
  rw [Xb,List.getElem?_cons_succ,X2O n (k + 1) i (by omega)];congr 1;omega
theorem X1U:∀ (n k:Nat),(Xb k n).length=n
 | 0,_=>rfl
 | n + 1,k=>by simp [Xb,X1U n]
end Go.Ab

set_option linter.unusedVariables false
set_option linter.unusedSimpArgs false
namespace Go.Ab
open Go.RowKit
def dark (F:List Nat) (H:Array Obj):Array Obj:=H.mapIdx fun b o=>if F.contains b then .cells #[] 0 (0,0) else o
theorem XG (F:List Nat) (H:Array Obj):(dark F H).size=H.size:=by simp [dark]
theorem X1D {F:List Nat} {H:Array Obj} {b:Nat} (h:b ∉ F):(dark F H)[b]? = H[b]? := by
 unfold dark
 rw [Array.getElem?_mapIdx]
 cases H[b]? with
 | none=>rfl
 | some o=>simp [h]
theorem X69 {F:List Nat} {H:Array Obj} {b:Nat} (h:b∈F) (o:Nat):X3 (dark F H) b o=none:=by
 unfold X3 dark
 rw [Array.getElem?_mapIdx]
 cases H[b]? with
 | none=>rfl
 | some o=>simp [h]
def vwC (ks:List Nat) (D:List Row):AV→Option AV
 | .own r=>match idx ks r with
  | some i=>some (.own i)
  | none=>res D 8 (.own r)
 | .ptr r j off=>match idx ks r with
  | some i=>some (.ptr i j off)
  | none=>res D 8 (.ptr r j off)
 | v=>res D 8 v
def vw (ks:List Nat) (D:List Row):AV→Option AV
 | .agg cs=>(resL (vwC ks D) cs).map .agg
 | .fn g cap=>(resL (vwC ks D) cap).map (.fn g)
 | v=>vwC ks D v
def X2o (ks:List Nat) (D:List Row):Row→Option Row
 | .vec t es l _=>some (.vec t es l false)
 | .nest t ll _=>some (.nest t ll false)
 | .box t cs=>(resL (vwC ks D) cs).map (.box t)
 | _=>none
def X39 (ks:List Nat) (D:List Row):List Row→Option (List Row)
 | []=>some []
 | r :: rs=>match X2o ks D r,X39 ks D rs with
  | some r',some rs'=>some (r' :: rs')
  | _,_=>none
theorem X3W {ks:List Nat} {D:List Row}:∀ {l l':List Row},X39 ks D l=some l'→l'.length=l.length∧∀ (j:Nat) (r':Row),l'[j]? = some r'→∃ r,l[j]? = some r∧X2o ks D r=some r'
 | [],l',h=>by simp [X39] at h;subst h;simp
 | r :: rs,l',h=>by
  simp only [X39] at h
  split at h
  ·rename_i a b h1 h2
   simp only [Option.some.injEq] at h;subst h
   obtain ⟨g1,g2⟩:=X3W h2
   refine ⟨by simp [g1],fun j r' e => ?_⟩
   cases j with
   | zero=>simp at e;subst e;exact ⟨r,rfl,h1⟩
   | succ j=>simp at e;simpa using g2 j r' e
  ·cases h
def X2p (ks:List Nat) (m i:Nat):Nat:=match ks[i]? with
 | some k=>k
 | none=>m + (i - ks.length)
def bkC (ks:List Nat) (m:Nat):AV→AV
 | .own i => .own (X2p ks m i)
 | .mp i => .mp (X2p ks m i)
 | v=>v
def bkA (ks:List Nat) (m:Nat):AV→AV
 | .agg cs => .agg (cs.map (bkC ks m))
 | v=>bkC ks m v
def bk (ks:List Nat) (m:Nat):AV→AV
 | .tup vs => .tup (vs.map (bkA ks m))
 | v=>bkA ks m v
def X2P (ks:List Nat) (m:Nat):Row→Row
 | .box t cs => .box t (cs.map (bkC ks m))
 | r=>r
def X1b (ks:List Nat) (m:Nat) (new:List Row):Nat→List Row→List Row
 | _,[]=>(new.drop ks.length).map (X2P ks m)
 | i,r :: rs=>(match idx ks i with
  | some j=>match new[j]? with
   | some q=>X2P ks m q
   | none=>r
  | none=>r) :: X1b ks m new (i + 1) rs
theorem X2s (ks:List Nat) (m:Nat) (new:List Row):∀ (rs:List Row) (i j:Nat) (row:Row),(X1b ks m new i rs)[j]? = some row →
  (j < rs.length∧((∃ q x,idx ks (i + j)=some q∧new[q]? = some x∧row=X2P ks m x)∨((idx ks (i + j)=none∨∃ q,idx ks (i + j)=some q∧new[q]? = none)∧rs[j]? = some row))) ∨
  (rs.length≤j∧∃ x,new[ks.length + (j - rs.length)]? = some x∧row=X2P ks m x)
 | [],i,j,row,h=>by
  simp only [X1b,List.getElem?_map,List.getElem?_drop,Option.map_eq_some_iff] at h
  obtain ⟨x,h1,h2⟩:=h
  exact .inr ⟨Nat.zero_le _,x,by simpa using h1,h2.symm⟩
 | r :: rs,i,0,row,h=>by
  simp only [X1b,List.getElem?_cons_zero,Option.some.injEq] at h
  left;refine ⟨by simp,?_⟩
  simp only [Nat.add_zero]
  split at h
  ·rename_i q hi
   split at h
   ·rename_i x hq
    exact .inl ⟨q,x,hi,hq,h.symm⟩
   ·rename_i hq
    exact .inr ⟨.inr ⟨q,hi,hq⟩,by simp [h]⟩
  ·rename_i hi
   exact .inr ⟨.inl hi,by simp [h]⟩
 | r :: rs,i,j + 1,row,h=>by
  simp only [X1b,List.getElem?_cons_succ] at h
  have:=X2s ks m new rs (i + 1) j row h
  rw [show i + 1 + j=i + (j + 1) from by omega] at this
  simp only [List.length_cons,List.getElem?_cons_succ]
  rcases this with ⟨h1,h2⟩ | ⟨h1,x,h2,h3⟩
  ·exact .inl ⟨by omega,h2⟩
  ·exact .inr ⟨by omega,x,by rw [← h2];congr 1;omega,h3⟩
theorem X2y (ks:List Nat) (m:Nat) (new:List Row):∀ (rs:List Row) (i:Nat),(X1b ks m new i rs).length=rs.length + (new.length - ks.length)
 | [],i=>by simp [X1b]
 | r :: rs,i=>by simp [X1b,X2y ks m new rs];omega
theorem X4d {H H':Array Obj} {μ M:Nat→Option FP} {ks:List Nat} {m n:Nat} (hs:∀ i p,i < n→μ i=some p→M (X2p ks m i)=some p) {c:AV} {v:Value} (ho:X10 n c=true) (h:Rep H μ c v):Rep H' M (bkC ks m c) v:=by
 cases h<;>simp [X10] at ho<;>simp only [bkC]
 ·exact .b _
 ·exact .i _ _
 ·exact .f _ _ _ ‹_› ‹_›
 ·exact .nils
 ·rename_i r p hp;exact .own _ p (hs r p ho hp)
 ·rename_i r p hz hp;exact .mp _ p (hs r p ho hp) hz
theorem X6a {H H':Array Obj} {μ M:Nat→Option FP} {ks:List Nat} {m n:Nat} (hs:∀ i p,i < n→μ i=some p→M (X2p ks m i)=some p) {c:AV} {v:Value} (ho:X11 n c=true) (h:Rep H μ c v):Rep H' M (bkA ks m c) v:=by
 cases c with
 | agg cs =>
  cases h with | agg _ vs hz hh =>
  simp only [X11,List.all_eq_true] at ho
  refine .agg _ vs (by simp [hz]) fun j c e => ?_
  simp only [List.getElem?_map,Option.map_eq_some_iff] at e
  obtain ⟨c0,e0,rfl⟩:=e
  exact X4d hs (ho c0 (List.mem_of_getElem? e0)) (hh j c0 e0)
 | _=>simp only [X11] at ho;exact X4d hs ho h
theorem X85 {H H':Array Obj} {μ M:Nat→Option FP} {ks:List Nat} {m n:Nat} (hs:∀ i p,i < n→μ i=some p→M (X2p ks m i)=some p) {c:AV} {v:Value} (ho:XO n c=true) (h:Rep H μ c v):Rep H' M (bk ks m c) v:=by
 cases c with
 | tup cs =>
  cases h with | tup _ vs hz hh =>
  simp only [XO,List.all_eq_true] at ho
  refine .tup _ vs (by simp [hz]) fun j c e => ?_
  simp only [List.getElem?_map,Option.map_eq_some_iff] at e
  obtain ⟨c0,e0,rfl⟩:=e
  exact X6a hs (ho c0 (List.mem_of_getElem? e0)) (hh j c0 e0)
 | _=>simp only [XO] at ho;exact X6a hs ho h
theorem X5I {H H':Array Obj} {heap:Array Obj} {μ M:Nat→Option FP} {ks:List Nat} {m n:Nat} (hs:∀ i p,i < n→μ i=some p→M (X2p ks m i)=some p) {p:Option FP} {row:Row} (ho:Xn n row=true)
  (h:X1 H μ heap p row):X1 H' M heap p (X2P ks m row):=by
 cases row with
 | box t cs =>
  cases p with
  | none=>exact h.elim
  | some p =>
   obtain ⟨ez,e1,e2,arr,e3,e4,e5⟩:=h
   simp only [Xn,List.all_eq_true] at ho
   refine ⟨ez,by simpa using e1,e2,arr,e3,by simpa using e4,fun j c e => ?_⟩
   rw [List.getElem?_map,Option.map_eq_some_iff] at e
   obtain ⟨c0,e0,rfl⟩:=e
   exact X4d hs (ho c0 (List.mem_of_getElem? e0)) (e5 j c0 e0)
 | vec t es l full=>cases p<;>exact h
 | nest t ll full=>cases p<;>exact h
 | mapN=>cases p<;>exact h
 | mapS=>simp [Xn] at ho
 | nestD=>simp [Xn] at ho
 | vecU=>simp [Xn] at ho
 | dead=>simp [Xn] at ho
 | lits t cs=>simp [Xn] at ho
theorem Xa.frame {P:Program} {g:FuncId} {rows rows':List Row} {args:List AV} {r:AV} (h:Xa P g rows args r rows') (ks:List Nat) {R:List Row} {args':List AV}
  (hR:(X15 R ks).bind (X39 ks (Xd ks 0 R))=some rows) (hA:resL (vw ks (Xd ks 0 R)) args'=some args) (hnd:XS ks=true)
  (hlen:Nat.ble ks.length rows'.length=true) (hok:rows'.all (Xn rows'.length)=true) (hr:XO rows'.length r=true) :
  Xa P g R args' (bk ks R.length r) (X1b ks R.length rows' 0 R):=by
 rw [Nat.ble_eq] at hlen
 obtain ⟨RK,hpick,hview⟩:=Option.bind_eq_some_iff.1 hR
 obtain ⟨hpl,hpg⟩:=X1w hpick
 obtain ⟨hvl,hvg⟩:=X3W hview
 have hnd':=XH hnd
 have hkl:∀ i k,ks[i]? = some k→k < R.length:=fun i k e=>by
  have hi:i < RK.length:=by
   rw [hpl]
   rcases Nat.lt_or_ge i ks.length with h | h
   ·exact h
   ·rw [List.getElem?_eq_none h] at e;cases e
  have:=hpg i k e
  rcases Nat.lt_or_ge k R.length with h | h
  ·exact h
  ·rw [List.getElem?_eq_none h,List.getElem?_eq_getElem hi] at this;cases this
 have hidx:∀ k,idx ks k=none→k ∉ ks:=by
  intro k
  clear hpick hpl hpg hnd hnd' hkl hR hA hlen hview hvl hvg
  induction ks with
  | nil=>simp
  | cons a as ih =>
   intro hn
   simp only [idx] at hn
   split at hn
   ·cases hn
   ·rename_i hne
    simp only [beq_eq_false_iff_ne] at hne
    simp only [Option.map_eq_none_iff] at hn
    simp only [List.mem_cons,not_or]
    exact ⟨fun e=>hne e.symm,ih hn⟩
 refine ⟨h.1,fun W0 M W vs hm hp => ?_⟩
 let F:List Nat:=ks.flatMap fun k=>match M k with
  | some p=>p.blks
  | none => []
 have hF:∀ b,b∈F↔∃ k∈ks,∃ p,M k=some p∧b∈p.blks:=by
  intro b
  show b∈List.flatMap _ _↔_
  rw [List.mem_flatMap]
  constructor
  ·rintro ⟨k,hk,hb⟩
   split at hb
   ·rename_i p hMp;exact ⟨k,hk,p,hMp,hb⟩
   ·cases hb
  ·rintro ⟨k,hk,p,hMp,hb⟩
   exact ⟨k,hk,by rw [hMp];exact hb⟩
 let w0:Old0:={ toWorld:={ W with heap:=dark F W.heap },opn:=(· ∈ F),dark:=fun b hb o=>X69 hb o,pin:=fun _=>none,np:=0,pinLt:=fun _ _ e=>by cases e }
 have hh0:w0.heap=dark F W.heap:=rfl
 have hFm:∀ b,b∈F→W0.mine b∧b < W.heap.size:=fun b hb=>by
  obtain ⟨k,_,p,hMp,hbp⟩:=(hF b).1 hb
  exact hm.own k p b hMp hbp
 have hFo:∀ q p b,q ∉ ks→M q=some p→b∈p.blks→b ∉ F:=fun q p b hq hMq hb hbF=>by
  obtain ⟨k,hk,p',hMk,hb'⟩:=(hF b).1 hbF
  have:=hm.sep q k p p' b hMq hMk hb hb'
  subst this;exact hq hk
 let μ:Nat→Option FP:=fun i=>(ks[i]?).bind M
 have hμ:∀ i k,ks[i]? = some k→μ i=M k:=fun i k e=>by show (ks[i]?).bind M=M k;rw [e];rfl
 have hμ0:∀ i p,μ i=some p→∃ k,ks[i]? = some k∧M k=some p:=by
  intro i p e
  cases hk:ks[i]? with
  | none=>have e2:(ks[i]?).bind M=some p:=e;rw [hk] at e2;cases e2
  | some k=>exact ⟨k,rfl,by rw [← hμ i k hk];exact e⟩
 have hmd:MemW W0 M (Xd ks 0 R) { W with heap:=dark F W.heap }:=by
  refine ⟨hm.bel.step rfl rfl rfl (by simp [XG]) (Nat.le_refl _) (fun k hk ho=>X1D fun hkF => ?_),fun q row e => ?_,hm.sep,hm.nodup,fun q p b e hb => ?_⟩
  ·rcases (hFm k hkF).1 with h | h
   ·exact ho h
   ·omega
  ·rcases X5k _ _ _ _ _ e with rfl | ⟨h1,h2⟩
   ·cases M q<;>exact trivial
   ·rw [Nat.zero_add] at h1
    exact (hm.row q row h2).heap fun p hp' b hb=>X1D (hFo q p b (hidx q h1) hp' hb)
  ·simpa [XG] using hm.own q p b e hb
 have vC:∀ c c' v,vwC ks (Xd ks 0 R) c=some c'→Rep W0.heap M c v→Rep w0.heap μ c' v:=by
  have dflt:∀ c c' v,res (Xd ks 0 R) 8 c=some c'→Rep W0.heap M c v→Rep w0.heap μ c' v:=fun c c' v e hrep =>
   (X4j hmd 8 c c' v e hrep).mono fun q p e=>by cases e
  intro c c' v e hrep
  cases c with
  | own q =>
   simp only [vwC] at e
   split at e
   ·rename_i i hi
    simp only [Option.some.injEq] at e;subst e
    cases hrep with
    | own _ p hp'=>exact .own i p (by rw [hμ i q (Xt hi)];exact hp')
   ·exact dflt _ _ _ e hrep
  | ptr q j off =>
   simp only [vwC] at e
   split at e
   ·rename_i i hi
    simp only [Option.some.injEq] at e;subst e
    cases hrep with
    | ptr _ _ _ p hp'=>exact .ptr i j off p (by rw [hμ i q (Xt hi)];exact hp')
   ·exact dflt _ _ _ e hrep
  | _=>refine dflt _ _ _ ?_ hrep;exact e
 have vL:∀ (cs cs':List AV) (us:Array Value),resL (vwC ks (Xd ks 0 R)) cs=some cs'→us.size=cs.length→(∀ (j:Nat) (c:AV),cs[j]? = some c→Rep W0.heap M c (us.getD j undef)) →
   us.size=cs'.length∧∀ (j:Nat) (c:AV),cs'[j]? = some c→Rep w0.heap μ c (us.getD j undef):=by
  intro cs cs' us hl hs hh
  obtain ⟨h1,h2⟩:=X25 hl
  exact ⟨by omega,fun j c e=>let ⟨u,eu,fu⟩:=h2 j c e;vC u c _ fu (hh j u eu)⟩
 have vA:∀ c c' v,vw ks (Xd ks 0 R) c=some c'→Rep W0.heap M c v→Rep w0.heap μ c' v:=by
  intro c c' v e hrep
  cases c with
  | agg cs =>
   simp only [vw,Option.map_eq_some_iff] at e
   obtain ⟨cs',hl,rfl⟩:=e
   cases hrep with
   | agg _ us hz hh =>
    obtain ⟨g1,g2⟩:=vL cs cs' us hl hz hh
    exact .agg cs' us g1 g2
  | fn f cap =>
   simp only [vw,Option.map_eq_some_iff] at e
   obtain ⟨cs',hl,rfl⟩:=e
   cases hrep with
   | fn _ _ us hz hh =>
    obtain ⟨g1,g2⟩:=vL cap cs' us hl hz hh
    exact .fn f cs' us g1 g2
  | _=>refine vC _ _ _ ?_ hrep;exact e
 have pw:PW w0.heap μ args vs:=by
  obtain ⟨h1,h2⟩:=X25 hA
  exact ⟨by rw [hp.1,h1],fun j c e=>let ⟨u,eu,fu⟩:=h2 j c e;vA u c _ fu (hp.2 j u eu)⟩
 have hil:∀ i,i < rows.length→∃ k,ks[i]? = some k:=fun i hi=>⟨_,List.getElem?_eq_getElem (by omega)⟩
 have mem:Mem w0 μ rows W:=by
  refine ⟨⟨⟨rfl,rfl,rfl,by rw [hh0,XG];exact Nat.le_refl _,fun k _ ho=>(X1D ho).symm,Nat.le_refl _⟩,fun i row e => ?_,fun i j p p' b e e' hb hb' => ?_,fun i p e => ?_,fun i p b e hb => ?_⟩,fun i hi => ?_,fun i e => ?_,fun i p e=>by cases e⟩
  ·obtain ⟨row0,e0,hv⟩:=hvg i row e
   have hi:i < ks.length:=by
    rw [← hpl]
    rcases Nat.lt_or_ge i RK.length with h | h
    ·exact h
    ·rw [List.getElem?_eq_none h] at e0;cases e0
   rw [hμ i _ (List.getElem?_eq_getElem hi)]
   rw [hpg i _ (List.getElem?_eq_getElem hi)] at e0
   have hrow:=hm.row _ row0 e0
   cases row0 with
   | vec t es l full =>
    simp only [X2o,Option.some.injEq] at hv;subst hv
    cases hM:M ks[i] with
    | none=>rw [hM] at hrow;exact hrow.elim
    | some p =>
     rw [hM] at hrow
     rcases hrow with ⟨h1,h2,_⟩ | ⟨f0,f1,f2,f3,f4,_,f6⟩
     ·exact .inl ⟨h1,h2,rfl⟩
     ·exact .inr ⟨f0,f1,f2,f3,f4,(fun h=>by cases h),f6⟩
   | nest t ll full =>
    simp only [X2o,Option.some.injEq] at hv;subst hv
    cases hM:M ks[i] with
    | none=>rw [hM] at hrow;exact hrow.elim
    | some p =>
     rw [hM] at hrow
     rcases hrow with h | ⟨f0,f1,f2,f3,_,f6⟩
     ·exact .inl h
     ·exact .inr ⟨f0,f1,f2,f3,(fun h=>by cases h),f6⟩
   | box t cs =>
    simp only [X2o,Option.map_eq_some_iff] at hv
    obtain ⟨cs',hl,rfl⟩:=hv
    cases hM:M ks[i] with
    | none=>rw [hM] at hrow;exact hrow.elim
    | some p =>
     rw [hM] at hrow
     obtain ⟨f0,f1,f2,arr,f3,f4,f5⟩:=hrow
     obtain ⟨g1,g2⟩:=vL cs cs' arr hl f4 f5
     exact ⟨f0,by rw [f1,← f4,g1],f2,arr,f3,g1,g2⟩
   | _=>simp [X2o] at hv
  ·obtain ⟨k,g1,g2⟩:=hμ0 i p e
   obtain ⟨k',g3,g4⟩:=hμ0 j p' e'
   have:=hm.sep k k' p p' b g2 g4 hb hb'
   subst this
   have hil:i < ks.length:=by
    rcases Nat.lt_or_ge i ks.length with h | h
    ·exact h
    ·rw [List.getElem?_eq_none h] at g1;cases g1
   have hjl:j < ks.length:=by
    rcases Nat.lt_or_ge j ks.length with h | h
    ·exact h
    ·rw [List.getElem?_eq_none h] at g3;cases g3
   rw [List.getElem?_eq_getElem hil] at g1
   rw [List.getElem?_eq_getElem hjl] at g3
   exact X35 hnd' hil hjl ((Option.some.inj g1).trans (Option.some.inj g3).symm)
  ·obtain ⟨k,g1,g2⟩:=hμ0 i p e
   exact hm.nodup k p g2
  ·obtain ⟨k,g1,g2⟩:=hμ0 i p e
   exact ⟨.inl ((hF b).2 ⟨k,List.mem_of_getElem? g1,p,g2,hb⟩),(hm.own k p b g2 hb).2⟩
  ·show (ks[i]?).bind M=none
   rw [List.getElem?_eq_none (by omega)];rfl
  ·obtain ⟨row0,e0,hv⟩:=hvg i _ e
   cases row0<;>simp [X2o] at hv
 refine (h.2 w0 μ W vs mem pw).mono fun e w' ⟨v,μ',he,hsub,hm',hrep⟩ => ?_
 let M':Nat→Option FP:=fun q=>if q < R.length then M q else μ' (ks.length + (q - R.length))
 have hMo:∀ q,q < R.length→M' q=M q:=fun q hq=>if_pos hq
 have hMn:∀ q,R.length≤q→M' q=μ' (ks.length + (q - R.length)):=fun q hq=>if_neg (by omega)
 have hMsub:Sub M M':=fun q p e=>by
  have hq:q < R.length:=by
   rcases Nat.lt_or_ge q R.length with h | h
   ·exact h
   ·rw [hm.out q h] at e;cases e
  rw [hMo q hq];exact e
 have hsome:∀ i k,ks[i]? = some k→∃ p,M k=some p∧μ' i=some p:=fun i k e=>by
  have hi:i < rows.length:=by
   rw [hvl,hpl]
   rcases Nat.lt_or_ge i ks.length with h | h
   ·exact h
   ·rw [List.getElem?_eq_none h] at e;cases e
  have hrow:=mem.row i _ (List.getElem?_eq_getElem hi)
  cases hM:M k with
  | none =>
   rw [hμ i k e,hM] at hrow
   have hd:=mem.dead i
   cases hx:rows[i]<;>rw [hx] at hrow<;>try exact hrow.elim
   obtain ⟨row0,e0,hv⟩:=hvg i _ (by rw [List.getElem?_eq_getElem hi,hx])
   cases row0<;>simp [X2o] at hv
  | some p=>exact ⟨p,rfl,hsub i p (by rw [hμ i k e];exact hM)⟩
 have hback:∀ i p,i < rows'.length→μ' i=some p→M' (X2p ks R.length i)=some p:=fun i p hi e=>by
  unfold X2p
  cases hk:ks[i]? with
  | some k =>
   obtain ⟨p2,g1,g2⟩:=hsome i k hk
   rw [hMo k (hkl i k hk),g1,← g2];exact e
  | none =>
   rw [List.getElem?_eq_none_iff] at hk
   show M' (R.length + (i - ks.length))=some p
   rw [hMn (R.length + (i - ks.length)) (by omega),← e];congr 1;omega
 have hnewF:∀ q p b,R.length≤q→M' q=some p→b∈p.blks→W.heap.size≤b∧b < w'.heap.size:=fun q p b hq e hb=>by
  rw [hMn q hq] at e
  obtain ⟨g1,g2⟩:=hm'.own _ p b e hb
  refine ⟨?_,g2⟩
  rcases g1 with g1 | g1
  ·exfalso
   obtain ⟨k,hk,p2,hMk,hb2⟩:=(hF b).1 g1
   obtain ⟨i,hi,rfl⟩:=List.getElem_of_mem hk
   obtain ⟨p3,f1,f2⟩:=hsome i _ (List.getElem?_eq_getElem hi)
   rw [hMk] at f1;cases f1
   have:=hm'.sep _ _ p p2 b e f2 hb hb2
   omega
  ·rw [hh0,XG] at g1;exact g1
 have hsz:W.heap.size≤w'.heap.size:=by have:=hm'.bel.size;rw [hh0,XG] at this;exact this
 have hblk:∀ b,b < W.heap.size→b ∉ F→w'.heap[b]? = W.heap[b]? := fun b hb hn=>by
  rw [hm'.bel.block b (by rw [hh0,XG];exact hb) hn,hh0,X1D hn]
 refine ⟨v,M',he,hMsub,⟨⟨hm.bel.step hm'.bel.os hm'.bel.tape hm'.bel.output hsz hm'.bel.drawn fun k hk ho=>hblk k (Nat.lt_of_lt_of_le hk hm.bel.size) fun hkF => ?_,fun q row e => ?_,fun q q' p p' b e e' hb hb' => ?_,fun q p e => ?_,fun q p b e hb => ?_⟩,fun q hq => ?_,fun q e => ?_,hm.pin.trans hMsub⟩,X85 hback hr hrep⟩
 ·rcases (hFm k hkF).1 with h | h
  ·exact ho h
  ·omega
 ·rw [List.all_eq_true] at hok
  rcases X2s _ _ _ _ _ _ _ e with ⟨h1,⟨j,x,h2,h3,rfl⟩ | ⟨h2,h3⟩⟩ | ⟨h1,x,h2,rfl⟩
  ·rw [Nat.zero_add] at h2
   have hkj:=Xt h2
   obtain ⟨p,g1,g2⟩:=hsome j q hkj
   rw [hMo q h1,g1,← g2]
   exact X5I hback (hok x (List.mem_of_getElem? h3)) (hm'.row j x h3)
  ·have hqk:q ∉ ks:=by
    rcases h2 with h2 | ⟨j,h2,h4⟩
    ·rw [Nat.zero_add] at h2;exact hidx q h2
    ·rw [Nat.zero_add] at h2
     have hkj:=Xt h2
     have:j < ks.length:=by
      rcases Nat.lt_or_ge j ks.length with h | h
      ·exact h
      ·rw [List.getElem?_eq_none h] at hkj;cases hkj
     rw [List.getElem?_eq_none_iff] at h4
     omega
   rw [hMo q h1]
   exact ((hm.row q row h3).mono hMsub).heap fun p hp' b hb=>hblk b (hm.own q p b hp' hb).2 (hFo q p b hqk hp' hb)
  ·rw [hMn q h1]
   exact X5I hback (hok x (List.mem_of_getElem? h2)) (hm'.row _ x h2)
 ·rcases Nat.lt_or_ge q R.length with hq | hq<;>rcases Nat.lt_or_ge q' R.length with hq' | hq'
  ·rw [hMo q hq] at e;rw [hMo q' hq'] at e'
   exact hm.sep q q' p p' b e e' hb hb'
  ·rw [hMo q hq] at e
   have h1:=(hm.own q p b e hb).2
   have h2:=hnewF q' p' b hq' e' hb'
   omega
  ·rw [hMo q' hq'] at e'
   have h1:=(hm.own q' p' b e' hb').2
   have h2:=hnewF q p b hq e hb
   omega
  ·rw [hMn q hq] at e;rw [hMn q' hq'] at e'
   have:=hm'.sep _ _ p p' b e e' hb hb'
   omega
 ·rcases Nat.lt_or_ge q R.length with hq | hq
  ·rw [hMo q hq] at e;exact hm.nodup q p e
  ·rw [hMn q hq] at e;exact hm'.nodup _ p e
 ·rcases Nat.lt_or_ge q R.length with hq | hq
  ·rw [hMo q hq] at e
   have:=hm.own q p b e hb
   exact ⟨this.1,by omega⟩
  ·have:=hnewF q p b hq e hb
   have:=hm.bel.size
   exact ⟨.inr (by omega),by omega⟩
 ·rw [X2y] at hq
  rw [hMn q (by omega)]
  exact hm'.out _ (by omega)
 ·rw [List.all_eq_true] at hok
  rcases X2s _ _ _ _ _ _ _ e with ⟨h1,⟨j,x,h2,h3,h4⟩ | ⟨h2,h3⟩⟩ | ⟨h1,x,h2,h4⟩
  ·have:=hok x (List.mem_of_getElem? h3)
   cases x<;>simp [X2P] at h4
   simp [Xn] at this
  ·rw [hMo q h1];exact hm.dead q h3
  ·have:=hok x (List.mem_of_getElem? h2)
   cases x<;>simp [X2P] at h4
   simp [Xn] at this
end Go.Ab

set_option linter.unusedVariables false
set_option linter.unusedSimpArgs false
namespace Go.Ab
open Go.RowKit
theorem X2T:∀ {l:List (Option Nat)} {i j b:Nat},(l.filterMap id).Nodup→l[i]? = some (some b)→l[j]? = some (some b)→i=j
 | [],i,j,b,_,h,_=>by simp at h
 | a :: as,0,0,b,_,_,_=>rfl
 | a :: as,0,j + 1,b,hn,h,h'=>by
  simp only [List.getElem?_cons_zero,Option.some.injEq] at h;subst h
  simp only [List.getElem?_cons_succ] at h'
  simp only [List.filterMap_cons,id] at hn
  exact absurd (List.mem_filterMap (f:=id).2 ⟨some b,List.mem_of_getElem? h',rfl⟩) (List.nodup_cons.1 hn).1
 | a :: as,i + 1,0,b,hn,h,h'=>by
  simp only [List.getElem?_cons_zero,Option.some.injEq] at h';subst h'
  simp only [List.getElem?_cons_succ] at h
  simp only [List.filterMap_cons,id] at hn
  exact absurd (List.mem_filterMap (f:=id).2 ⟨some b,List.mem_of_getElem? h,rfl⟩) (List.nodup_cons.1 hn).1
 | a :: as,i + 1,j + 1,b,hn,h,h'=>by
  simp only [List.getElem?_cons_succ] at h h'
  have hn':(as.filterMap id).Nodup:=by
   cases a with
   | none=>simpa using hn
   | some x=>simp only [List.filterMap_cons,id] at hn;exact (List.nodup_cons.1 hn).2
  rw [X2T hn' h h']
theorem Xa.frameInn {P:Program} {g:FuncId} {l l':List (List AV)} {args:List AV} {r:AV} (h:∀ t,Xa P g [.vec t 1 l false] (.own 0 :: args) r [.vec t 1 l' false])
  (hs:args.all isS=true) (hr:isS r=true) (hl:l'.length=l.length) {R:List Row} {q j:Nat} {t2:TypeId} {ll:List (List (List AV))} {full:Bool}
  (hq:R[q]? = some (.nest t2 ll full)) (hj:ll[j]? = some l):Xa P g R (.inn q j :: args) r (R.set q (.nest t2 (ll.set j l') full)):=by
 refine ⟨(h 0).1,fun W0 M W vs hm hp => ?_⟩
 rw [List.all_eq_true] at hs
 obtain ⟨hp1,hp2⟩:=hp
 have hrowq:=hm.row q _ hq
 have hv0:=hp2 0 (.inn q j) rfl
 have hscal:∀ (H:Array Obj) (μ:Nat→Option FP) (i:Nat) (c:AV),args[i]? = some c→Rep H μ c (vs.getD (i + 1) undef):=fun H μ i c e =>
  Rep.of_S (X1z (hp2 (i + 1) c (by simpa using e)) (hs c (List.mem_of_getElem? e)))
 generalize hx:vs.getD 0 undef=x at hv0
 cases hv0 with
 | inn _ _ p ib hMq hib =>
 rw [hMq] at hrowq
 have hjlt:j < ll.length:=by
  rcases Nat.lt_or_ge j ll.length with h | h
  ·exact h
  ·rw [List.getElem?_eq_none h] at hj;cases hj
 rcases hrowq with ⟨_,hn,_⟩ | ⟨ez,e1,e3,e4,e5,e6,arr,e7,e8,e9⟩
 ·rw [hn] at hjlt;simp at hjlt
 have hI:=e9 j l hj
 rw [List.getD_eq_getElem?_getD,hib,Option.getD_some] at hI
 have hqlt:q < R.length:=by
  rcases Nat.lt_or_ge q R.length with h | h
  ·exact h
  ·rw [List.getElem?_eq_none h] at hq;cases hq
 cases ib with
 | none =>
  have hl0:l=[]:=hI.2
  have hl1:l'=[]:=List.eq_nil_of_length_eq_zero (by rw [hl,hl0];rfl)
  have hset:ll.set j l'=ll:=by
   apply List.ext_getElem?
   intro i
   by_cases hij:j=i
   ·subst hij;rw [List.getElem?_set_self hjlt,hj,hl0,hl1]
   ·rw [List.getElem?_set_ne hij]
  have hR:R.set q (.nest t2 (ll.set j l') full)=R:=by
   rw [hset]
   apply List.ext_getElem?
   intro i
   by_cases hij:q=i
   ·subst hij;rw [List.getElem?_set_self hqlt,hq]
   ·rw [List.getElem?_set_ne hij]
  rw [hR]
  let fp:FP:=⟨0,1,0,0,[],true⟩
  let μ:Nat→Option FP:=fun i=>if i=0 then some fp else none
  have hμ0:∀ i p2,μ i=some p2→i=0∧p2=fp:=fun i p2 e=>by
   have e2:(if i=0 then some fp else none)=some p2:=e
   split at e2
   ·rename_i hi;exact ⟨hi,(Option.some.inj e2).symm⟩
   ·cases e2
  have mem:Mem (Old0.of W) μ [.vec 0 1 l false] W:=by
   refine ⟨⟨⟨rfl,rfl,rfl,Nat.le_refl _,fun _ _ _=>rfl,Nat.le_refl _⟩,fun i row e => ?_,fun i j p p' b e e' hb hb' => ?_,fun i p e => ?_,fun i p b' e hb => ?_⟩,fun i hi => ?_,fun i e => ?_,fun i p e=>by cases e⟩
   ·cases i with
    | zero =>
     simp at e;subst e
     exact .inl ⟨rfl,hl0,rfl⟩
    | succ i=>simp at e
   ·rw [(hμ0 i p e).1,(hμ0 j p' e').1]
   ·rw [(hμ0 i p e).2];exact List.nodup_nil
   ·rw [(hμ0 i p e).2] at hb;cases hb
   ·exact if_neg (by simp at hi;omega)
   ·cases i<;>simp at e
  refine ((h 0).2 (Old0.of W) μ W vs mem ⟨by simpa using hp1,fun i c e => ?_⟩).mono fun e w' ⟨v,μ',he,hsub,hm',hrep⟩=>⟨v,M,he,Sub.refl _,hm.ext hm'.bel.of,Rep.of_S (X1z hrep hr)⟩
  cases i with
  | zero=>simp at e;subst e;rw [hx];exact .own 0 fp rfl
  | succ i=>simp at e;exact hscal _ _ i c e
 | some bnc =>
  obtain ⟨b,n,c⟩:=bnc
  obtain ⟨_,g1,g2,arr2,t3,g3,g4,g5⟩:=hI
  have hbp:b∈p.ib.filterMap id:=List.mem_filterMap.2 ⟨some b,List.mem_of_getElem? (i:=j) (by simp [FP.ib,hib]),rfl⟩
  have hbb:b∈p.blks:=by rw [FP.blks_of ez];exact List.mem_cons_of_mem _ hbp
  have hnd0:=hm.nodup q p hMq
  rw [FP.blks_of ez] at hnd0
  have hnd:=List.nodup_cons.1 hnd0
  have hown:=hm.own q p b hMq hbb
  let w0:Old0:={ toWorld:={ W with heap:=dark [b] W.heap },opn:=(· ∈ [b]),dark:=fun b hb o=>X69 hb o,pin:=fun _=>none,np:=0,pinLt:=fun _ _ e=>by cases e }
  have hh0:w0.heap=dark [b] W.heap:=rfl
  let fp:FP:=⟨b,1,n,c,[],false⟩
  let μ:Nat→Option FP:=fun i=>if i=0 then some fp else none
  have hfb:fp.blks=[b]:=rfl
  have hμ0:∀ i p2,μ i=some p2→i=0∧p2=fp:=fun i p2 e=>by
   have e2:(if i=0 then some fp else none)=some p2:=e
   split at e2
   ·rename_i hi;exact ⟨hi,(Option.some.inj e2).symm⟩
   ·cases e2
  have mem:Mem w0 μ [.vec t3 1 l false] W:=by
   refine ⟨⟨⟨rfl,rfl,rfl,by rw [hh0,XG];exact Nat.le_refl _,fun k _ ho=>(X1D ho).symm,Nat.le_refl _⟩,fun i row e => ?_,fun i j p p' b e e' hb hb' => ?_,fun i p e => ?_,fun i p b' e hb => ?_⟩,fun i hi => ?_,fun i e => ?_,fun i p e=>by cases e⟩
   ·cases i with
    | zero =>
     simp at e;subst e
     exact .inr ⟨rfl,rfl,rfl,g1,g2,(fun h=>by cases h),arr2,g3,by rw [g4];exact (Nat.mul_one c).symm,g5⟩
    | succ i=>simp at e
   ·rw [(hμ0 i p e).1,(hμ0 j p' e').1]
   ·rw [(hμ0 i p e).2];simp [FP.blks,FP.ib,fp]
   ·rw [(hμ0 i p e).2,hfb] at hb
    simp only [List.mem_singleton] at hb;subst hb
    exact ⟨.inl (List.mem_singleton.2 rfl),hown.2⟩
   ·exact if_neg (by simp at hi;omega)
   ·cases i<;>simp at e
  refine ((h t3).2 w0 μ W vs mem ⟨by simpa using hp1,fun i c2 e => ?_⟩).mono fun e w' ⟨v,μ',he,hsub,hm',hrep⟩=>⟨v,M,he,Sub.refl _,?_,Rep.of_S (X1z hrep hr)⟩
  ·cases i with
   | zero=>simp at e;subst e;rw [hx];exact .own 0 fp rfl
   | succ i=>simp at e;exact hscal _ _ i c2 e
  have hμ':μ' 0=some fp:=hsub 0 fp rfl
  have hrow':=hm'.row 0 _ rfl
  rw [hμ'] at hrow'
  rcases hrow' with ⟨kz,_⟩ | ⟨_,_,_,k3,k4,_,arr3,k6,k7,k8⟩
  ·cases kz
  have hsz:W.heap.size≤w'.heap.size:=by have:=hm'.bel.size;rw [hh0,XG] at this;exact this
  have hblk:∀ b',b' < W.heap.size→b'≠b→w'.heap[b']? = W.heap[b']? := fun b' hb hn=>by
   rw [hm'.bel.block b' (by rw [hh0,XG];exact hb) (by show ¬ b'∈[b];simpa using hn),hh0,X1D (by simpa using hn)]
  have hpb:p.blk≠b:=fun e=>hnd.1 (e ▸ hbp)
  refine ⟨⟨hm.bel.step hm'.bel.os hm'.bel.tape hm'.bel.output hsz hm'.bel.drawn fun k hk ho=>hblk k (Nat.lt_of_lt_of_le hk hm.bel.size) fun hkb => ?_,fun i row e => ?_,hm.sep,hm.nodup,fun i p2 b2 e hb2 => ?_⟩,fun i hi=>hm.out i (by simpa using hi),fun i e => ?_,hm.pin⟩
  ·subst hkb
   rcases hown.1 with h | h
   ·exact ho h
   ·omega
  ·by_cases hqi:q=i
   ·subst hqi
    rw [List.getElem?_set_self hqlt,Option.some.injEq] at e;subst e
    rw [hMq]
    refine .inr ⟨ez,e1,by simpa using e3,by simpa using e4,fun hf=>by simpa using e5 hf,by simpa using e6,arr,?_,e8,fun i li hi => ?_⟩
    ·rw [hblk p.blk (hm.own q p p.blk hMq (FP.mem_blk ez)).2 hpb];exact e7
    ·by_cases hji:j=i
     ·subst hji
      rw [List.getElem?_set_self hjlt,Option.some.injEq] at hi;subst hi
      have hI2:=(e9 j l hj).1
      rw [List.getD_eq_getElem?_getD,hib,Option.getD_some] at hI2 ⊢
      exact ⟨hI2,k3,k4,arr3,t3,k6,by rw [k7];exact Nat.mul_one c,k8⟩
     ·rw [List.getElem?_set_ne hji] at hi
      have hI2:=e9 i li hi
      cases hb2:p.inn.getD i none with
      | none=>rw [hb2] at hI2;exact hI2
      | some bnc2 =>
       obtain ⟨b2,n2,c2⟩:=bnc2
       rw [hb2] at hI2
       obtain ⟨f1,f2,f3,arr4,t4,f4,f5,f6⟩:=hI2
       have hil:i < p.inn.length:=by
        rcases Nat.lt_or_ge i p.inn.length with h | h
        ·exact h
        ·rw [List.getD_eq_getElem?_getD,List.getElem?_eq_none h] at hb2;cases hb2
       have hib2:p.inn[i]? = some (some (b2,n2,c2)):=by
        rw [List.getD_eq_getElem?_getD,List.getElem?_eq_getElem hil,Option.getD_some] at hb2
        rw [List.getElem?_eq_getElem hil,hb2]
       have hbe:b2≠b:=fun e=>by
        subst e
        exact hji (X2T (l:=p.ib) (b:=b2) hnd.2 (by simp [FP.ib,hib]) (by simp [FP.ib,hib2]))
       have hb2m:b2∈p.blks:=by rw [FP.blks_of ez];exact List.mem_cons_of_mem _ (List.mem_filterMap.2 ⟨some b2,List.mem_of_getElem? (i:=i) (by simp [FP.ib,hib2]),rfl⟩)
       exact ⟨f1,f2,f3,arr4,t4,by rw [hblk b2 (hm.own q p b2 hMq hb2m).2 hbe];exact f4,f5,f6⟩
   ·rw [List.getElem?_set_ne hqi] at e
    exact (hm.row i row e).heap fun p2 hp2' b2 hb2=>hblk b2 (hm.own i p2 b2 hp2' hb2).2 fun hbe=>by
     subst hbe
     exact hqi (hm.sep i q p2 p b2 hp2' hMq hb2 hbb).symm
  ·have:=hm.own i p2 b2 e hb2
   exact ⟨this.1,by omega⟩
  ·by_cases hqi:q=i
   ·subst hqi
    rw [List.getElem?_set_self hqlt] at e;cases e
   ·rw [List.getElem?_set_ne hqi] at e
    exact hm.dead i e
end Go.Ab

set_option linter.unusedVariables false
set_option linter.unusedSimpArgs false
namespace Go.Ab
open Go.RowKit
inductive NPos where
 | tm (t:Nat)
 | tmc (t j:Nat)
 | row (r j:Nat)
 | dn (r:Nat)
def X2z:Row→Bool
 | .vec _ _ [] false=>true
 | .nest _ [] false=>true
 | _=>false
def nil1 (st:St) (p:NPos) (row:Row):Option St :=
 match X2z row,p with
 | true, .tm t=>match st.tm[t]? with
  | some .nils=>some ⟨st.tm.set t (.own st.rows.length),st.rows ++ [row]⟩
  | _=>none
 | true, .tmc t j=>match st.tm[t]? with
  | some (.agg cs)=>match cs[j]? with
   | some .nils=>some ⟨st.tm.set t (.agg (cs.set j (.own st.rows.length))),st.rows ++ [row]⟩
   | _=>none
  | _=>none
 | true, .row r j=>match st.rows[r]? with
  | some (.box ty cs)=>match cs[j]? with
   | some .nils=>some ⟨st.tm,(st.rows ++ [row]).set r (.box ty (cs.set j (.own st.rows.length)))⟩
   | _=>none
  | _=>none
 | _,_=>none
def nilX (st:St) (p:NPos) (row:Row):Option St:=match p with
 | .dn r=>match st.rows[r]? with
  | some (.nest t ll _)=>some ⟨st.tm,st.rows.set r (.nestD t ll 0)⟩
  | _=>none
 | p=>nil1 st p row
def X1Q:List (NPos × Row)→St→Option St
 | [],st=>some st
 | (p,row) :: ps,st=>match nilX st p row with
  | some st'=>X1Q ps st'
  | none=>none
theorem X6N {w0:Old0} {st st':St} {a:Act} {w:World} {p:NPos} {row:Row} (h:nil1 st p row=some st') (hr:Rel w0 st a w):Rel w0 st' a w:=by
 obtain ⟨μ,hr⟩:=hr
 let fp:FP:=⟨0,0,0,0,[],true⟩
 have hnone:=hr.mem.out st.rows.length (Nat.le_refl _)
 have hsub:Sub μ (setμ μ st.rows.length fp):=X4Z hnone
 have hval:fp.val = .slice none 0 0:=rfl
 have hown:∀ v,Rep w0.heap μ .nils v→Rep w0.heap (setμ μ st.rows.length fp) (.own st.rows.length) v:=fun v hv=>by
  cases hv;exact .own st.rows.length fp (by simp [setμ])
 unfold nil1 at h
 cases hn:X2z row with
 | false=>rw [hn] at h;cases h
 | true =>
  rw [hn] at h
  have hrow:∀ H heap,X1 H (setμ μ st.rows.length fp) heap (some fp) row:=by
   intro H heap
   cases row with
   | vec t es l full=>cases l<;>cases full<;>simp [X2z] at hn;exact .inl ⟨rfl,rfl,rfl⟩
   | nest t l full=>cases l<;>cases full<;>simp [X2z] at hn;exact .inl ⟨rfl,rfl,rfl⟩
   | _=>simp [X2z] at hn
  have hdead:XY row=false:=by cases row<;>simp [X2z] at hn<;>rfl
  have hgrow:Grow w0.heap μ (setμ μ st.rows.length fp) st.rows.length [row] w.heap.size w.heap:=by
   have one:∀ r q,st.rows.length≤r→r < st.rows.length + [row].length→setμ μ st.rows.length fp r=some q→q=fp:=fun r q h1 h2 e=>by
    have:r=st.rows.length:=by simp at h2;omega
    subst this;simp [setμ] at e;exact e.symm
   refine ⟨fun i e => ?_,fun r h => ?_,fun i row' e => ?_,fun r r' p p' b h1 h2 h3 h4 => ?_,fun r q h1 h2 e => ?_,fun r q b h1 h2 e hm => ?_⟩
   ·cases i with
    | zero=>simp at e;subst e;simp [XY] at hdead
    | succ i=>simp at e
   ·unfold setμ;rw [if_neg (by simp at h;omega)]
   ·cases i with
    | zero=>simp at e;subst e;simpa [setμ] using hrow w0.heap w.heap
    | succ i=>simp at e
   ·simp at h2 h4;omega
   ·rw [one r q h1 h2 e];exact List.nodup_nil
   ·rw [one r q h1 h2 e] at hm;cases hm
  have hm1:=hr.mem.grow (Bw.refl _ w) hgrow (Nat.le_refl _) (fun r h1 _=>hr.mem.out r h1)
  rw [X1Y] at hm1
  have htm:∀ t v,st.tm[t]? = some v→Rep w0.heap (setμ μ st.rows.length fp) v (a.tmps.getD t undef):=fun t v e=>(hr.tmps t v e).mono hsub
  have hset:∀ (t:Nat) (v:AV),Rep w0.heap (setμ μ st.rows.length fp) v (a.tmps.getD t undef)→Rel w0 ⟨st.tm.set t v,st.rows ++ [row]⟩ a w:=fun t v hv =>
   ⟨_,hr.defers,by simpa using hr.size,fun s u e=>by
    simp only at e
    by_cases hts:t=s
    ·subst hts
     rw [List.getElem?_set_self'] at e
     cases hx:st.tm[t]? with
     | none=>rw [hx] at e;simp at e
     | some y=>rw [hx] at e;simp at e;subst e;exact hv
    ·rw [List.getElem?_set_ne hts] at e;exact htm s u e,hm1⟩
  cases p with
  | tm t =>
   simp only at h
   split at h
   ·rename_i ht
    simp only [Option.some.injEq] at h;subst h
    exact hset t _ (hown _ (hr.tmps t _ ht))
   ·cases h
  | tmc t j =>
   simp only at h
   split at h
   ·rename_i cs ht
    split at h
    ·rename_i hj
     simp only [Option.some.injEq] at h;subst h
     refine hset t _ ?_
     have hrep:=hr.tmps t _ ht
     generalize a.tmps.getD t undef=x at hrep
     cases hrep with
     | agg _ vs hz hh =>
      refine .agg _ vs (by simpa using hz) fun i c e => ?_
      by_cases hji:j=i
      ·subst hji
       rw [List.getElem?_set_self'] at e
       rw [hj] at e
       simp at e;subst e
       exact hown _ (hh j _ hj)
      ·rw [List.getElem?_set_ne hji] at e;exact (hh i c e).mono hsub
    ·cases h
   ·cases h
  | row r j =>
   simp only at h
   split at h
   ·rename_i ty cs hrr
    split at h
    ·rename_i hj
     simp only [Option.some.injEq] at h;subst h
     refine ⟨_,hr.defers,hr.size,htm,hm1.repl ?_ rfl⟩
     have hrlt:r < st.rows.length:=by
      rcases Nat.lt_or_ge r st.rows.length with h | h
      ·exact h
      ·rw [List.getElem?_eq_none h] at hrr;cases hrr
     have hok:=hm1.row r (.box ty cs) (by rw [List.getElem?_append_left hrlt];exact hrr)
     have hok0:=hr.mem.row r _ hrr
     have hμr:setμ μ st.rows.length fp r=μ r:=by unfold setμ;rw [if_neg (by omega)]
     rw [hμr] at hok ⊢
     cases hq:μ r with
     | none=>rw [hq] at hok;exact hok.elim
     | some q =>
      rw [hq] at hok hok0
      obtain ⟨e0,e1,e2,arr,e3,e4,e5⟩:=hok
      obtain ⟨f0,f1,f2,arr',f3,f4,f5⟩:=hok0
      have harr:arr'=arr:=by rw [e3] at f3;cases f3;rfl
      subst harr
      refine ⟨e0,by simpa using e1,e2,arr',e3,by simpa using e4,fun i c e => ?_⟩
      by_cases hji:j=i
      ·subst hji
       rw [List.getElem?_set_self'] at e
       rw [hj] at e
       simp at e;subst e
       exact hown _ (f5 j _ hj)
      ·rw [List.getElem?_set_ne hji] at e;exact e5 i c e
    ·cases h
   ·cases h
  | dn r=>cases h
theorem X6O {w0:Old0} {st st':St} {a:Act} {w:World} {p:NPos} {row:Row} (h:nilX st p row=some st') (hr:Rel w0 st a w):Rel w0 st' a w:=by
 unfold nilX at h
 split at h
 ·rename_i r
  split at h
  ·rename_i t ll full hrr
   simp only [Option.some.injEq] at h;subst h
   obtain ⟨μ,hr⟩:=hr
   refine ⟨μ,hr.defers,hr.size,hr.tmps,hr.mem.repl ?_ rfl⟩
   have hok:=hr.mem.row r _ hrr
   cases hq:μ r with
   | none=>rw [hq] at hok;exact hok.elim
   | some q =>
    rw [hq] at hok
    rcases hok with h | ⟨hz,h1,h2,h3,h4,h5,arr,h6,h7,h8⟩
    ·exact .inl h
    ·exact .inr ⟨hz,h1,h2,h3,h5,arr,h6,h7,fun i l _ hi=>h8 i l hi⟩
  ·cases h
 ·exact X6N h hr
theorem X16 {w0:Old0} {a:Act} {w:World}:∀ {ps:List (NPos × Row)} {st st':St},X1Q ps st=some st'→Rel w0 st a w→Rel w0 st' a w
 | [],st,st',h,hr=>by simp [X1Q] at h;subst h;exact hr
 | (p,row) :: ps,st,st',h,hr=>by
  simp only [X1Q] at h
  split at h
  ·rename_i st1 h1
   exact X16 h (X6O h1 hr)
  ·cases h
def rnF (ks:List Nat):AV→AV
 | .own r=>match idx ks r with
  | some i => .own i
  | none => .any
 | .ptr r j o=>match idx ks r with
  | some i => .ptr i j o
  | none => .any
 | .inn r j=>match idx ks r with
  | some i => .inn i j
  | none => .any
 | .ipt r j k=>match idx ks r with
  | some i => .ipt i j k
  | none => .any
 | .mp r=>match idx ks r with
  | some i => .mp i
  | none => .any
 | .agg _ | .tup _ | .fn _ _ | .bx _ _ => .any
 | v=>v
def rnC (ks:List Nat):AV→AV
 | .agg cs => .agg (cs.map (rnF ks))
 | v=>rnF ks v
def rn (ks:List Nat):AV→AV
 | .tup vs => .tup (vs.map (rnC ks))
 | .fn g cap => .fn g (cap.map (rnF ks))
 | v=>rnC ks v
def X1J (ks:List Nat):Row→Row
 | .box t cs => .box t (cs.map (rn ks))
 | .lits t cs => .lits t (cs.map (rn ks))
 | .vec t es l _ => .vec t es l false
 | .nest t ll _ => .nest t ll false
 | .mapN t kv h => .mapN t kv h
 | .mapS t k kv pend => .mapS t k kv pend
 | .nestD t ll d => .nestD t ll d
 | .vecU l => .vecU l
 | .dead => .dead
section
variable {H:Array Obj} {μ μ':Nat→Option FP} {ks:List Nat}
theorem X4e (hs:∀ (i k:Nat),ks[i]? = some k→μ' i=μ k) {c:AV} {v:Value} (h:Rep H μ c v):Rep H μ' (rnF ks c) v:=by
 cases h with
 | any v=>exact .any v
 | b x=>exact .b x
 | i k n=>exact .i k n
 | f k x bits h e=>exact .f k x bits h e
 | nils=>exact .nils
 | slE a c=>exact .slE a c
 | sl l es bl off c val h h1 h2=>exact .sl l es bl off c val h h1 h2
 | ref cs off bl base val h h2=>exact .ref cs off bl base val h h2
 | own r p h =>
  simp only [rnF]
  split
  ·rename_i i hi;exact .own i p (by rw [hs i r (Xt hi)];exact h)
  ·exact .any _
 | ptr r idx off p h =>
  simp only [rnF]
  split
  ·rename_i i hi;exact .ptr i idx off p (by rw [hs i r (Xt hi)];exact h)
  ·exact .any _
 | inn r j p ib h hb =>
  simp only [rnF]
  split
  ·rename_i i hi;exact .inn i j p ib (by rw [hs i r (Xt hi)];exact h) hb
  ·exact .any _
 | ipt r j k p b n c h hb =>
  simp only [rnF]
  split
  ·rename_i i hi;exact .ipt i j k p b n c (by rw [hs i r (Xt hi)];exact h) hb
  ·exact .any _
 | mp r p h hz =>
  simp only [rnF]
  split
  ·rename_i i hi;exact .mp i p (by rw [hs i r (Xt hi)];exact h) hz
  ·exact .any _
 | bx=>exact .any _
 | agg=>exact .any _
 | tup=>exact .any _
 | fn=>exact .any _
theorem X6b (hs:∀ (i k:Nat),ks[i]? = some k→μ' i=μ k) {c:AV} {v:Value} (h:Rep H μ c v):Rep H μ' (rnC ks c) v:=by
 cases c with
 | agg cs =>
  cases h with | agg _ vs hz hh =>
  refine .agg _ vs (by simpa using hz) fun j c e => ?_
  rw [List.getElem?_map,Option.map_eq_some_iff] at e
  obtain ⟨c0,e0,rfl⟩:=e
  exact X4e hs (hh j c0 e0)
 | _=>exact X4e hs h
theorem X5J (hs:∀ (i k:Nat),ks[i]? = some k→μ' i=μ k) {c:AV} {v:Value} (h:Rep H μ c v):Rep H μ' (rn ks c) v:=by
 cases c with
 | tup cs =>
  cases h with | tup _ vs hz hh =>
  refine .tup _ vs (by simpa using hz) fun j c e => ?_
  rw [List.getElem?_map,Option.map_eq_some_iff] at e
  obtain ⟨c0,e0,rfl⟩:=e
  exact X6b hs (hh j c0 e0)
 | fn g cap =>
  cases h with | fn _ _ vs hz hh =>
  refine .fn g _ vs (by simpa using hz) fun j c e => ?_
  rw [List.getElem?_map,Option.map_eq_some_iff] at e
  obtain ⟨c0,e0,rfl⟩:=e
  exact X4e hs (hh j c0 e0)
 | _=>exact X6b hs h
theorem X7v (hs:∀ (i k:Nat),ks[i]? = some k→μ' i=μ k) {heap:Array Obj} {p:Option FP} {row:Row} (h:X1 H μ heap p row):X1 H μ' heap p (X1J ks row):=by
 cases row with
 | box t cs =>
  cases p with
  | none=>exact h.elim
  | some p =>
   obtain ⟨ez,e1,e2,arr,e3,e4,e5⟩:=h
   refine ⟨ez,by simpa [X1J] using e1,e2,arr,e3,by simpa [X1J] using e4,fun j c e => ?_⟩
   rw [List.getElem?_map,Option.map_eq_some_iff] at e
   obtain ⟨c0,e0,rfl⟩:=e
   exact X5J hs (e5 j c0 e0)
 | lits t cs =>
  cases p with
  | none=>exact h.elim
  | some p =>
   obtain ⟨ez,e1,e2,e2',e2'',arr,e3,e4,e5⟩:=h
   refine ⟨ez,e1,e2,by simpa [X1J] using e2',by simpa [X1J] using e2'',arr,e3,by simpa [X1J] using e4,fun j c e => ?_⟩
   rw [List.getElem?_map,Option.map_eq_some_iff] at e
   obtain ⟨c0,e0,rfl⟩:=e
   exact X5J hs (e5 j c0 e0)
 | vec t es l full =>
  cases p with
  | none=>exact h.elim
  | some p =>
   rcases h with ⟨h1,h2,_⟩ | ⟨ez,e1,e2,e3,e4,_,e6⟩
   ·exact .inl ⟨h1,h2,rfl⟩
   ·exact .inr ⟨ez,e1,e2,e3,e4,(fun h=>by cases h),e6⟩
 | nest t ll full =>
  cases p with
  | none=>exact h.elim
  | some p =>
   rcases h with h | ⟨ez,e1,e2,e3,_,e6⟩
   ·exact .inl h
   ·exact .inr ⟨ez,e1,e2,e3,(fun h=>by cases h),e6⟩
 | mapN=>cases p<;>exact h
 | mapS=>cases p<;>exact h
 | nestD=>cases p<;>exact h
 | vecU=>cases p<;>exact h
 | dead=>cases p<;>exact trivial
end
def X4f (np:Nat) (mask:List Bool) (ks:List Nat) (st:St):Option St :=
 match XS (Xb 0 np ++ ks),X15 st.rows (Xb 0 np ++ ks) with
 | true,some rs=>some ⟨(XJ mask st.tm).map (rn (Xb 0 np ++ ks)),rs.map (X1J (Xb 0 np ++ ks))⟩
 | _,_=>none
theorem Rel.forgetK {w0:Old0} {st st':St} {a:Act} {w:World} {np:Nat} {mask:List Bool} {ks:List Nat} (hn:w0.np≤np) (he:X4f np mask ks st=some st') (h:Rel w0 st a w):Rel w0 st' a w:=by
 obtain ⟨μ,h⟩:=h
 unfold Ab.X4f at he
 generalize hks:Xb 0 np ++ ks=qs at he
 split at he
 ·rename_i rs hnd hpick
  simp only [Option.some.injEq] at he;subst he
  obtain ⟨hpl,hpg⟩:=X1w hpick
  have hnd:=XH hnd
  let μ':Nat→Option FP:=fun i=>(qs[i]?).bind μ
  have hs:∀ i k,qs[i]? = some k→μ' i=μ k:=fun i k e=>by show (qs[i]?).bind μ=μ k;rw [e];rfl
  have hμ0:∀ i p,μ' i=some p→∃ k,qs[i]? = some k∧μ k=some p:=by
   intro i p e
   cases hk:qs[i]? with
   | none =>
    have e2:(qs[i]?).bind μ=some p:=e
    rw [hk] at e2;cases e2
   | some k=>exact ⟨k,rfl,by rw [← hs i k hk];exact e⟩
  have hlt:∀ i k,qs[i]? = some k→i < qs.length:=fun i k e=>by
   rcases Nat.lt_or_ge i qs.length with h | h
   ·exact h
   ·rw [List.getElem?_eq_none h] at e;cases e
  have hrow:∀ i row,(rs.map (X1J qs))[i]? = some row→∃ k row0,qs[i]? = some k∧st.rows[k]? = some row0∧row=X1J qs row0:=fun i row e=>by
   rw [List.getElem?_map,Option.map_eq_some_iff] at e
   obtain ⟨row0,e0,rfl⟩:=e
   have hil:i < qs.length:=by
    rw [← hpl]
    rcases Nat.lt_or_ge i rs.length with h | h
    ·exact h
    ·rw [List.getElem?_eq_none h] at e0;cases e0
   exact ⟨qs[i],row0,List.getElem?_eq_getElem hil,by rw [← hpg i _ (List.getElem?_eq_getElem hil)];exact e0,rfl⟩
  refine ⟨μ',h.defers,by simp [X1r,h.size],fun t v e => ?_,⟨⟨h.mem.bel,fun i row e => ?_,fun i j p p' b e e' hb hb' => ?_,fun i p e => ?_,fun i p b e hb => ?_⟩,fun i hi => ?_,fun i e => ?_,fun r p e => ?_⟩⟩
  ·simp only [List.getElem?_map,Option.map_eq_some_iff] at e
   obtain ⟨v0,e0,rfl⟩:=e
   rcases X2l _ _ _ _ e0 with rfl | e1
   ·exact .any _
   ·exact X5J hs (h.tmps t v0 e1)
  ·obtain ⟨k,row0,e1,e2,rfl⟩:=hrow i row e
   rw [hs i k e1]
   exact X7v hs (h.mem.row k row0 e2)
  ·obtain ⟨k,g1,g2⟩:=hμ0 i p e
   obtain ⟨k',g3,g4⟩:=hμ0 j p' e'
   have:=h.mem.sep k k' p p' b g2 g4 hb hb'
   subst this
   have hil:=hlt i k g1
   have hjl:=hlt j k g3
   rw [List.getElem?_eq_getElem hil] at g1
   rw [List.getElem?_eq_getElem hjl] at g3
   exact X35 hnd hil hjl ((Option.some.inj g1).trans (Option.some.inj g3).symm)
  ·obtain ⟨k,g1,g2⟩:=hμ0 i p e
   exact h.mem.nodup k p g2
  ·obtain ⟨k,g1,g2⟩:=hμ0 i p e
   exact h.mem.own k p b g2 hb
  ·show (qs[i]?).bind μ=none
   simp only [List.length_map,hpl] at hi
   rw [List.getElem?_eq_none hi];rfl
  ·obtain ⟨k,row0,e1,e2,e3⟩:=hrow i _ e
   rw [hs i k e1]
   refine h.mem.dead k ?_
   cases row0<;>simp [X1J] at e3
   exact e2
  ·have hrn:=w0.pinLt r p e
   have:qs[r]? = some r:=by
    rw [← hks,List.getElem?_append_left (by rw [X1U];omega),X2O _ _ _ (by omega),Nat.zero_add]
   rw [hs r r this]
   exact h.mem.pin r p e
 ·cases he
theorem Lp.nil {P:Program} {N:Nat} {body:Code} {st st2 st':St} {e:Ex} {ps:List (NPos × Row)} (h:X1Q ps st=some st2) (k:Lp P N body st2 e st'):Lp P N body st e st':=by
 obtain ⟨m,k⟩:=k
 exact ⟨m,fun w0 hp a w Q hr hQ=>k w0 hp a w Q (X16 h hr) hQ⟩
theorem Lp.pick {P:Program} {N:Nat} {body:Code} {st st2 st':St} {e:Ex} {mask:List Bool} {ks:List Nat} (h:X4f N mask ks st=some st2) (k:Lp P N body st2 e st'):Lp P N body st e st':=by
 obtain ⟨m,k⟩:=k
 exact ⟨m,fun w0 hp a w Q hr hQ=>k w0 hp a w Q (hr.forgetK hp h) hQ⟩
def X1E (P:Program) (E:Env) (body:Code) (st:St) (ans:List Ans) (ps:List (NPos × Row)) (mask:List Bool) (ks:List Nat):Option (Ex × St × List Prop) :=
 match evc P E body st ans with
 | some (e,st',[],C)=>match X1Q ps st' with
  | some st''=>match X4f E.np mask ks st'' with
   | some st3=>some (e,st3,C)
   | none=>none
  | none=>none
 | _=>none
theorem X3X {P:Program} {E:Env} (hE:EOk P E) (hm:P.follows .mixedOrders=true) {body:Code} {st st2 st3 st':St} {ans:List Ans} {ps:List (NPos × Row)} {mask:List Bool} {ks:List Nat} {e:Ex} {C:List Prop}
  (h:X1E P E body st ans ps mask ks=some (.norm,st2,C)) (hC:All C) (hs:st2=st3) (k:Lp P E.np body st3 e st'):Lp P E.np body st e st':=by
 unfold X1E at h
 split at h
 ·rename_i e1 st1 C1 hev
  split at h
  ·rename_i st4 h4
   split at h
   ·rename_i st5 h5
    simp only [Option.some.injEq,Prod.mk.injEq] at h
    obtain ⟨rfl,rfl,rfl⟩:=h
    subst hs
    obtain ⟨m,k⟩:=k
    refine ⟨m + 1,fun w0 hp a w Q hr hQ => ?_⟩
    rw [rounds_succ]
    exact X34 hE hm body hev hC w0 hp a w _ hr fun a' w' hr'=>k w0 hp a' w' Q ((X16 h4 hr').forgetK hp h5) hQ
   ·cases h
  ·cases h
 ·cases h
theorem X7d {P:Program} {E:Env} (hE:EOk P E) (hm:P.follows .mixedOrders=true) {body:Code} {st st2 st3:St} {ans:List Ans} {ps:List (NPos × Row)} {mask:List Bool} {ks:List Nat} {e:Ex} {C:List Prop}
  (h:X1E P E body st ans ps mask ks=some (e,st2,C)) (hC:All C) (he:e ≠ .norm) (hs:st2=st3):Lp P E.np body st e st3:=by
 unfold X1E at h
 split at h
 ·rename_i e1 st1 C1 hev
  split at h
  ·rename_i st4 h4
   split at h
   ·rename_i st5 h5
    simp only [Option.some.injEq,Prod.mk.injEq] at h
    obtain ⟨rfl,rfl,rfl⟩:=h
    subst hs
    refine ⟨1,fun w0 hp a w Q hr hQ => ?_⟩
    rw [rounds_succ]
    refine X34 hE hm body hev hC w0 hp a w _ hr fun a' w' hr' => ?_
    have:=hQ a' w' ((X16 h4 hr').forgetK hp h5)
    cases e1 with
    | norm=>exact absurd rfl he
    | exit id=>exact this
    | ret=>exact this
   ·cases h
  ·cases h
 ·cases h
end Go.Ab

set_option linter.unusedVariables false
set_option linter.unusedSimpArgs false
namespace Go.Ab
open Go.RowKit
def X4Q (P:Program) (E:Env) (fn:Func) (c:Code) (rows:List Row) (args:List AV) (ans:List Ans) (ps:List (NPos × Row)):Option (AV × List Row × List Prop) :=
 match Nat.beq rows.length E.np with
 | false=>none
 | true=>match evc P E c ⟨args ++ List.replicate (fn.ntmps - args.length) .any,rows⟩ ans with
  | some (.exit _,_,_,_)=>none
  | some (_,st0,ans',C)=>match X1Q ps st0 with
   | none=>none
   | some st=>match X4P E.T st fn.results.toList,ans' with
   | some r,[.keep ks]=>match X15 st.rows (Xb 0 rows.length ++ ks) with
    | some rs=>match XS (Xb 0 rows.length ++ ks) && (rs.map (XB (Xb 0 rows.length ++ ks))).all (Xn (Xb 0 rows.length ++ ks).length) && XO (Xb 0 rows.length ++ ks).length (ren (Xb 0 rows.length ++ ks) r) with
     | true=>some (ren (Xb 0 rows.length ++ ks) r,rs.map (XB (Xb 0 rows.length ++ ks)),C)
     | false=>none
    | none=>none
   | _,_=>none
  | none=>none
theorem X2U {P:Program} {E:Env} (hE:EOk P E) (hm:P.follows .mixedOrders=true) {f:FuncId} {fn:Func} {c:Code} {rows rows':List Row} {args:List AV} {ans:List Ans} {ps:List (NPos × Row)} {r:AV} {C:List Prop}
  (hf : P.funcs[f]? = some fn) (hb : fn.body = some c) (hn : (fn.name == "runtime.NumGoroutine") = false) (h : X4Q P E fn c rows args ans ps = some (r, rows', C)) (hC : All C) : Xa P f rows args r rows' := by
 refine ⟨⟨fn,hf,by rw [hb];rfl,hn⟩,fun w0 μ0 w vs hmem hp => ?_⟩
 unfold X4Q at h
 split at h
 ·cases h
 rename_i hnp
 rw [Nat.beq_eq] at hnp
 have hlt:∀ q p,μ0 q=some p→q < rows.length:=fun q p e=>by
  rcases Nat.lt_or_ge q rows.length with h | h
  ·exact h
  ·rw [hmem.out q h] at e;cases e
 let w1:Old0:={ w0 with pin:=μ0,np:=rows.length,pinLt:=hlt }
 have fin:∀ (e:Ex) (st0 st:St) (ans':List Ans) (C':List Prop),(∀ id,e ≠ .exit id)→evc P E c ⟨args ++ List.replicate (fn.ntmps - args.length) .any,rows⟩ ans=some (e,st0,ans',C')→X1Q ps st0=some st →
   (match X4P E.T st fn.results.toList,ans' with
   | some r,[.keep ks]=>match X15 st.rows (Xb 0 rows.length ++ ks) with
    | some rs=>match XS (Xb 0 rows.length ++ ks) && (rs.map (XB (Xb 0 rows.length ++ ks))).all (Xn (Xb 0 rows.length ++ ks).length) && XO (Xb 0 rows.length ++ ks).length (ren (Xb 0 rows.length ++ ks) r) with
     | true=>some (ren (Xb 0 rows.length ++ ks) r,rs.map (XB (Xb 0 rows.length ++ ks)),C')
     | false=>none
    | none=>none
   | _,_=>none)=some (r,rows',C)→Calls P f vs w fun e w' => ∃ v μ',e = .returned v∧Sub μ0 μ'∧Mem w0 μ' rows' w'∧Rep w0.heap μ' r v:=by
  intro e st0 st ans' C' hex hev hps h
  split at h
  ·rename_i r0 ks1 hres
   generalize hks:Xb 0 rows.length ++ ks1=ks at h
   split at h
   ·rename_i rs hpick
    split at h
    ·rename_i hok
     simp only [Bool.and_eq_true] at hok
     simp only [Option.some.injEq,Prod.mk.injEq] at h
     obtain ⟨rfl,rfl,rfl⟩:=h
     obtain ⟨hpl,hpg⟩:=X1w hpick
     have hnd:=XH hok.1.1
     have hokr:=hok.1.2
     rw [List.all_eq_true] at hokr
     have hEv:=X34 hE hm c hev hC
     have hkn:∀ i,i < rows.length→ks[i]? = some i:=fun i hi=>by
      rw [← hks,List.getElem?_append_left (by rw [X1U];exact hi),X2O _ _ _ hi,Nat.zero_add]
     refine calls_of_wp hf hb (hEv w1 (Nat.le_of_eq hnp) _ w _ ⟨μ0,rfl,?_,?_,⟨⟨⟨hmem.bel.os,hmem.bel.tape,hmem.bel.output,hmem.bel.size,hmem.bel.block,hmem.bel.drawn⟩,hmem.row,hmem.sep,hmem.nodup,hmem.own⟩,hmem.out,hmem.dead,Sub.refl _⟩⟩ fun a' w' hr' => ?_)
     ·simp [hp.1]
     ·intro t v e
      simp only at e ⊢
      rw [Array.getD_eq_getD_getElem?]
      by_cases ht:t < args.length
      ·rw [List.getElem?_append_left ht] at e
       rw [Array.getElem?_append_left (by rw [hp.1];exact ht),← Array.getD_eq_getD_getElem?]
       exact hp.2 t v e
      ·rw [List.getElem?_append_right (by omega),List.getElem?_replicate] at e
       split at e
       ·cases e;exact .any _
       ·cases e
     ·obtain ⟨μ,hr'⟩:=X16 hps hr'
      obtain ⟨x,hx1,hx2⟩:=X63 hE.T hr' hres
      let μ':Nat→Option FP:=fun i=>(ks[i]?).bind μ
      have hμ:∀ i k,ks[i]? = some k→μ' i=μ k:=fun i k e=>by show (ks[i]?).bind μ=μ k;rw [e];rfl
      have hμ0:∀ i p,μ' i=some p→∃ k,ks[i]? = some k∧μ k=some p:=by
       intro i p e
       cases hk:ks[i]? with
       | none =>
        have e2:(ks[i]?).bind μ=some p:=e
        rw [hk] at e2;cases e2
       | some k=>exact ⟨k,rfl,by rw [← hμ i k hk];exact e⟩
      have hsub:Sub μ0 μ':=fun q p e=>by
       have hq:q < rows.length:=w1.pinLt q p e
       rw [hμ q q (hkn q hq)]
       exact hr'.mem.pin q p e
      have hbel:=hr'.mem.bel
      have hpost:a'.defers=[]∧∃ v,(results fn a'.tmps).run P w' = .ok v w'∧∃ v' μ',Ending.returned v = .returned v'∧Sub μ0 μ'∧Mem w0 μ' (rs.map (XB ks)) w'∧Rep w0.heap μ' (ren ks r0) v':=by
       refine ⟨hr'.defers,x,hx1,x,μ',rfl,hsub,⟨⟨⟨hbel.os,hbel.tape,hbel.output,hbel.size,hbel.block,hbel.drawn⟩,fun i row hi => ?_,fun i j p p' b h5 h6 h7 h8 => ?_,fun i p h3 => ?_,fun i p b h3 h4 => ?_⟩,fun i hi => ?_,fun i hi => ?_,hmem.pin.trans hsub⟩,X7N hμ hok.2 hx2⟩
       ·rw [List.getElem?_map,Option.map_eq_some_iff] at hi
        obtain ⟨row0,hi0,rfl⟩:=hi
        have hil:i < ks.length:=by
         rw [← hpl]
         rcases Nat.lt_or_ge i rs.length with h | h
         ·exact h
         ·rw [List.getElem?_eq_none h] at hi0;cases hi0
        have hi1:=hi0
        rw [hpg i _ (List.getElem?_eq_getElem hil)] at hi1
        rw [hμ i _ (List.getElem?_eq_getElem hil)]
        exact X7c hμ (hokr _ (List.mem_map.2 ⟨row0,List.mem_of_getElem? hi0,rfl⟩)) (hr'.mem.row _ _ hi1)
       ·obtain ⟨k,g1,g2⟩:=hμ0 i p h5
        obtain ⟨k',g3,g4⟩:=hμ0 j p' h6
        have:=hr'.mem.sep k k' p p' b g2 g4 h7 h8
        subst this
        have hil:i < ks.length:=by
         rcases Nat.lt_or_ge i ks.length with h | h
         ·exact h
         ·rw [List.getElem?_eq_none h] at g1;cases g1
        have hjl:j < ks.length:=by
         rcases Nat.lt_or_ge j ks.length with h | h
         ·exact h
         ·rw [List.getElem?_eq_none h] at g3;cases g3
        rw [List.getElem?_eq_getElem hil] at g1
        rw [List.getElem?_eq_getElem hjl] at g3
        exact X35 hnd hil hjl ((Option.some.inj g1).trans (Option.some.inj g3).symm)
       ·obtain ⟨k,g1,g2⟩:=hμ0 i p h3
        exact hr'.mem.nodup k p g2
       ·obtain ⟨k,g1,g2⟩:=hμ0 i p h3
        exact hr'.mem.own k p b g2 h4
       ·show (ks[i]?).bind μ=none
        rw [List.length_map,hpl] at hi
        rw [List.getElem?_eq_none hi];rfl
       ·rw [List.getElem?_map,Option.map_eq_some_iff] at hi
        obtain ⟨row0,hi0,h0⟩:=hi
        have:=hokr _ (List.mem_map.2 ⟨row0,List.mem_of_getElem? hi0,rfl⟩)
        rw [h0] at this
        simp [Xn] at this
      cases e with
      | norm=>exact hpost
      | ret=>exact hpost
      | exit id=>exact absurd rfl (hex id)
    ·cases h
   ·cases h
  ·cases h
 split at h
 ·cases h
 ·rename_i e st0 ans' C' hne hev
  split at h
  ·cases h
  ·rename_i st hps
   exact fin e st0 st ans' C' (fun id he=>hne id he) hev hps h
 ·cases h
theorem Xa.fn {P:Program} {g:FuncId} {args:List AV} {r:AV} {new:List Row} (h:Xa P g [] args r new) (hok:X1q new=true):Fn P g args r new:=by
 refine ⟨h.1,fun w vs hp => ?_⟩
 have hmem:Mem (Old0.of w) (fun _=>none) [] w :=
  ⟨⟨⟨rfl,rfl,rfl,Nat.le_refl _,fun _ _ _=>rfl,Nat.le_refl _⟩,(fun i row e=>by simp at e),(fun _ _ _ _ _ e=>by cases e),(fun _ _ e=>by cases e),(fun _ _ _ e=>by cases e)⟩,fun _ _=>rfl,(fun i e=>by simp at e),(fun _ _ e=>by cases e)⟩
 refine (h.2 (Old0.of w) _ w vs hmem hp).mono fun e w' ⟨v,μ',he,_,hm,hr⟩=>⟨v,μ',he,hm.bel.of,⟨fun i e => ?_,fun q hq => ?_,fun i row e => ?_,fun q q' p p' b _ _ _ _ e e' hb hb'=>hm.sep q q' p p' b e e' hb hb',fun q p _ _ e=>hm.nodup q p e,fun q p b _ _ e hb => ?_⟩,hr⟩
 ·simp only [X1q,List.all_eq_true] at hok
  exact absurd (hok _ (List.mem_of_getElem? e)) (by simp)
 ·exact hm.out q (by omega)
 ·rw [Nat.zero_add];exact hm.row i row e
 ·obtain ⟨g5,g6⟩:=hm.own q p b e hb
  exact ⟨g5.elim (fun h=>h.elim) fun h=>h,g6⟩
def subA:Option Nat→AV→AV
 | some n, .ref cs off => .ref ((cs.drop off).take n) 0
 | _,v=>v
def subL:List (Option Nat)→List AV→List AV
 | n :: ns,v :: vs=>subA n v :: subL ns vs
 | _,vs=>vs
theorem X7w {H:Array Obj} {μ:Nat→Option FP} {n:Option Nat} {v:AV} {x:Value} (h:Rep H μ v x):Rep H μ (subA n v) x:=by
 cases n with
 | none=>cases v<;>exact h
 | some n =>
  cases h with
  | ref cs off bl base val h1 h2 =>
   have:=Rep.ref (μ:=μ) ((cs.drop off).take n) 0 bl (base + off) (fun j=>val (off + j)) (fun j c e=>by
    rw [getElem?_part] at e
    split at e
    ·rw [Nat.add_assoc];exact h1 _ _ e
    ·cases e) (fun j c e=>by
    rw [getElem?_part] at e
    split at e
    ·exact h2 _ _ e
    ·cases e)
   exact this
  | _=>first | exact .any _ | exact .b _ | exact .i _ _ | exact .f _ _ _ ‹_› ‹_› | exact .agg _ _ ‹_› ‹_› | exact .tup _ _ ‹_› ‹_› | exact .nils | exact .slE _ _ | exact .sl _ _ _ _ _ _ ‹_› ‹_› ‹_› | exact .own _ _ ‹_› | exact .inn _ _ _ _ ‹_› ‹_› | exact .ipt _ _ _ _ _ _ _ ‹_› ‹_› | exact .ptr _ _ _ _ ‹_› | exact .mp _ _ ‹_› ‹_› | exact .bx _ _ _ ‹_› | exact .fn _ _ _ ‹_› ‹_›
theorem X5K:∀ {ns:List (Option Nat)} {vs:List AV},(subL ns vs).length=vs.length∧∀ (j:Nat) (c:AV),(subL ns vs)[j]? = some c→∃ n u,vs[j]? = some u∧c=subA n u
 | [],vs=>⟨by cases vs<;>rfl,fun j c e=>⟨none,c,by cases vs<;>exact e,by cases c<;>rfl⟩⟩
 | n :: ns,[]=>⟨rfl,fun j c e=>by simp [subL] at e⟩
 | n :: ns,v :: vs=>by
  obtain ⟨h1,h2⟩:=X5K (ns:=ns) (vs:=vs)
  refine ⟨by simp [subL,h1],fun j c e => ?_⟩
  cases j with
  | zero=>simp [subL] at e;exact ⟨n,v,rfl,e.symm⟩
  | succ j=>simp [subL] at e;simpa using h2 j c e
theorem X6c {H:Array Obj} {μ:Nat→Option FP} {ns:List (Option Nat)} {args:List AV} {vs:Array Value} (h:PW H μ args vs):PW H μ (subL ns args) vs:=by
 obtain ⟨h1,h2⟩:=X5K (ns:=ns) (vs:=args)
 refine ⟨by rw [h.1,h1],fun j c e => ?_⟩
 obtain ⟨n,u,e1,rfl⟩:=h2 j c e
 exact X7w (h.2 j u e1)
theorem Fn.sub {P:Program} {g:FuncId} {args:List AV} {r:AV} {new:List Row} (ns:List (Option Nat)) (h:Fn P g (subL ns args) r new):Fn P g args r new :=
 ⟨h.1,fun w vs hp=>h.2 w vs (X6c hp)⟩
theorem Xa.sub {P:Program} {g:FuncId} {args:List AV} {r:AV} {R R':List Row} (ns:List (Option Nat)) (h:Xa P g R (subL ns args) r R'):Xa P g R args r R' :=
 ⟨h.1,fun w0 μ w vs hm hp=>h.2 w0 μ w vs hm (X6c hp)⟩
theorem X6d {α β:Type} {l:List α} {f:α→β}:((l.map f).length:Int)=(l.length:Int):=by simp
theorem nest_getD {α:Type} [Inhabited α] {c:α→List AV} {l:List (List α)} {j:Nat}:((l.map fun l=>l.map c).getD j [])=(l.getD j default).map c:=by
 rw [List.getD_eq_getElem?_getD,List.getD_eq_getElem?_getD,List.getElem?_map]
 cases l[j]? <;> rfl
theorem X6e {α:Type} [Inhabited α] {c:α→List AV} {l:List (List α)} {j k:Nat} (h:k < (l.getD j default).length):((l.map fun l=>l.map c).getD j [])[k]? = some (c ((l.getD j default).getD k default)):=by
 rw [nest_getD];exact X4c h
theorem X6f {α:Type} [Inhabited α] {c:α→List AV} {l:List (List α)} {j:Nat} {i:Int} (h0:0≤i) (h:i < (l.getD j default).length):0≤i∧i.toNat < ((l.map fun l=>l.map c).getD j []).length:=by
 rw [nest_getD];exact X3T h0 h
theorem X6P {α:Type} [Inhabited α] {c:α→List AV} {l:List (List α)} {j:Nat} (h:j < l.length):(l.map fun l=>l.map c)[j]? = some ((l.getD j default).map c):=by
 rw [List.getElem?_map,List.getElem?_eq_getElem h,List.getD_eq_getElem?_getD,List.getElem?_eq_getElem h];rfl
end Go.Ab

set_option linter.unusedVariables false
set_option linter.unusedSimpArgs false
namespace Go.Ab
open Go.RowKit
def mkL {α:Type} (f:α→Int→Int × α):List α→Int→Int × List α
 | [],c=>(c,[])
 | x :: l,c=>((mkL f l (f x c).1).1,(f x c).2 :: (mkL f l (f x c).1).2)
def hdL {α:Type} (p:α→Int→Bool) (q:α→Int→Int):List α→Int→Option Int
 | [],c=>some c
 | x :: l,c=>cond (p x c) (hdL p q l (q x c)) none
theorem X6Q {α:Type} (f:α→Int→Int × α):∀ (l:List α) (c:Int),(mkL f l c).2.length=l.length
 | [],_=>rfl
 | x :: l,c=>by simp [mkL,X6Q f l]
theorem X6g {α:Type} {f:α→Int→Int × α} {p:α→Int→Bool} {q:α→Int→Int} (hp:∀ x c,p (f x c).2 c=true) (hq:∀ x c,q (f x c).2 c=(f x c).1) :
  ∀ (l:List α) (c:Int),hdL p q (mkL f l c).2 c=some (mkL f l c).1
 | [],c=>rfl
 | x :: l,c=>by
  show cond (p (f x c).2 c) (hdL p q (mkL f l (f x c).1).2 (q (f x c).2 c)) none=_
  rw [hp,hq,cond_true,X6g hp hq l (f x c).1]
  rfl
theorem X3x {α:Type} {f:α→Int→Int × α} {W:Nat} {M:Int}:∀ (l:List α) (c:Int),(∀ x∈l,∀ c:Int,0≤c→c + W≤M→c≤(f x c).1∧(f x c).1≤c + W)→0≤c→c + (l.length:Int) * W≤M →
  c≤(mkL f l c).1∧(mkL f l c).1≤c + (l.length:Int) * W
 | [],c,_,h0,h=>by simp [mkL]
 | x :: l,c,hf,h0,h=>by
  simp only [List.length_cons,Int.natCast_add,Int.natCast_one,Int.add_mul,Int.one_mul] at h ⊢
  have hm:0≤(l.length:Int) * (W:Int):=Int.mul_nonneg (by omega) (by omega)
  obtain ⟨h1,h2⟩:=hf x (by simp) c h0 (by omega)
  obtain ⟨h3,h4⟩:=X3x l (f x c).1 (fun y hy=>hf y (by simp [hy])) (by omega) (by omega)
  show c≤(mkL f l (f x c).1).1∧_
  exact ⟨by omega,by show (mkL f l (f x c).1).1≤_;omega⟩
theorem X7e {α:Type} {f:α→Int→Int × α} {W:Nat} (l:List α) (c:Int) (hf:∀ x∈l,∀ c:Int,0≤c→c + W≤9223372036854775807→c≤(f x c).1∧(f x c).1≤c + W) (h0:0≤c) (h:c + (l.length:Int) * W≤9223372036854775807) :
  c≤(mkL f l c).1∧(mkL f l c).1≤c + (l.length:Int) * W:=X3x l c hf h0 h
theorem X4u {α:Type} {f:α→Int→Int × α} {p:α→Int→Bool} {q:α→Int→Int} {W:Nat} {M:Int} :
  ∀ (l:List α) (c:Int),(∀ x∈l,∀ c:Int,0≤c→c + W≤M→p (f x c).2 c=true∧q (f x c).2 c=(f x c).1∧c≤(f x c).1∧(f x c).1≤c + W)→0≤c→c + (l.length:Int) * W≤M→hdL p q (mkL f l c).2 c=some (mkL f l c).1
 | [],c,_,_,_=>rfl
 | x :: l,c,hf,h0,h=>by
  simp only [List.length_cons,Int.natCast_add,Int.natCast_one,Int.add_mul,Int.one_mul] at h
  have hm:0≤(l.length:Int) * (W:Int):=Int.mul_nonneg (by omega) (by omega)
  obtain ⟨h1,h2,h3,h4⟩:=hf x (by simp) c h0 (by omega)
  show cond (p (f x c).2 c) (hdL p q (mkL f l (f x c).1).2 (q (f x c).2 c)) none=_
  rw [h1,h2,cond_true,X4u l (f x c).1 (fun y hy=>hf y (by simp [hy])) (by omega) (by omega)]
  rfl
theorem X3a {α:Type} [Inhabited α] {f:α→Int→Int × α} {lo:Nat→Int→Int→List α→Int × List α}
  (h:∀ k c i r,lo (k + 1) c i r=cond (decide (i < (r.length:Int))) (lo k (f (r.getD i.toNat default) c).1 (i + 1) (r.set i.toNat (f (r.getD i.toNat default) c).2)) (c,r)) :
  ∀ (k:Nat) (c i:Int) (r:List α),0≤i→((r.length:Int) - i).toNat < k→lo k c i r=((mkL f (r.drop i.toNat) c).1,r.take i.toNat ++ (mkL f (r.drop i.toNat) c).2):=by
 intro k
 induction k with
 | zero=>intro c i r _ hk;exact absurd hk (Nat.not_lt_zero _)
 | succ k ih =>
  intro c i r h0 hk
  rw [h]
  by_cases hi:i < (r.length:Int)
  ·have hn:i.toNat < r.length:=by omega
   have hg:r.getD i.toNat default=r[i.toNat]:=by rw [List.getD_eq_getElem?_getD,List.getElem?_eq_getElem hn];rfl
   rw [decide_eq_true hi,cond_true,ih _ _ _ (by omega) (by rw [List.length_set];omega),hg]
   have e1:(i + 1).toNat=i.toNat + 1:=by omega
   rw [e1,List.drop_set_of_lt (by omega),List.drop_eq_getElem_cons hn]
   simp only [mkL,Prod.mk.injEq,true_and]
   rw [List.take_succ_eq_append_getElem (by rw [List.length_set];exact hn),List.getElem_set_self,List.take_set_of_le (by omega),List.append_assoc]
   rfl
  ·rw [decide_eq_false hi,cond_false,List.drop_eq_nil_of_le (by omega),List.take_of_length_le (by omega)];simp [mkL]
theorem X4v {α:Type} [Inhabited α] {p:α→Int→Bool} {q:α→Int→Int} {a:List α} {A:Type} {x:A} {lo:Nat→Int→Int→A ⊕ Int}
  (h:∀ k c i,lo (k + 1) c i=cond (decide (i < (a.length:Int))) (cond (p (a.getD i.toNat default) c) (lo k (q (a.getD i.toNat default) c) (i + 1)) (.inl x)) (.inr c)) :
  ∀ (k:Nat) (c i:Int),0≤i→((a.length:Int) - i).toNat < k→lo k c i=match hdL p q (a.drop i.toNat) c with
   | some c' => .inr c'
   | none => .inl x:=by
 intro k
 induction k with
 | zero=>intro c i _ hk;exact absurd hk (Nat.not_lt_zero _)
 | succ k ih =>
  intro c i h0 hk
  rw [h]
  by_cases hi:i < (a.length:Int)
  ·have hn:i.toNat < a.length:=by omega
   have hg:a.getD i.toNat default=a[i.toNat]:=by rw [List.getD_eq_getElem?_getD,List.getElem?_eq_getElem hn];rfl
   rw [decide_eq_true hi,cond_true,List.drop_eq_getElem_cons hn,hg]
   simp only [hdL]
   cases p a[i.toNat] c with
   | false=>rfl
   | true=>rw [cond_true,cond_true,ih _ _ (by omega) (by omega),show (i + 1).toNat=i.toNat + 1 from by omega]
  ·rw [decide_eq_false hi,cond_false,List.drop_eq_nil_of_le (by omega)];rfl
theorem X6R (n:Int):fcmp .neq .f32 (X5 .f32 n) (X5 .f32 n)=false:=by
 rw [X7t];exact XX FloatKind.f32.format (d := .number (n < 0) n.natAbs 0) rfl
theorem X7f {α:Type} {l:List (List α)} {n j:Nat} (h:∀ t∈l,t.length≤n):(l.getD j default).length≤n:=by
 rw [List.getD_eq_getElem?_getD]
 cases e:l[j]? with
 | none=>exact Nat.zero_le _
 | some t=>exact h t (List.mem_of_getElem? e)
theorem X1x.at2 {n:Nat} {ts:List (List Int)} {i k:Int} (h:X1x n ts) (h0:0≤i) (hi:i < (ts.length:Int)) (k0:0≤k) (hk:k < 3∨k < ((ts.getD i.toNat default).length:Int)) :
  (ts.getD i.toNat default).length=3∧0≤(ts.getD i.toNat default).getD k.toNat default∧(ts.getD i.toNat default).getD k.toNat default < (n:Int):=by
 have hn:i.toNat < ts.length:=by omega
 have hm:(ts.getD i.toNat default)∈ts:=by rw [List.getD_eq_getElem?_getD,List.getElem?_eq_getElem hn];exact List.getElem_mem hn
 obtain ⟨h1,h2⟩:=h _ hm
 generalize ts.getD i.toNat default=t at *
 have hk':k.toNat < t.length:=by omega
 refine ⟨h1,?_⟩
 rw [List.getD_eq_getElem?_getD,List.getElem?_eq_getElem hk']
 exact h2 _ (List.getElem_mem hk')
theorem Okt.at {n:Nat} {t:List Int} (h:t.length=3∧∀ x∈t,0≤x∧x < (n:Int)) :
  t.length=3∧(0≤t.getD 0 default∧t.getD 0 default < (n:Int))∧(0≤t.getD 1 default∧t.getD 1 default < (n:Int))∧(0≤t.getD 2 default∧t.getD 2 default < (n:Int)):=by
 obtain ⟨h1,h2⟩:=h
 match t,h1 with
 | [a,b,c],_=>exact ⟨rfl,h2 a (by simp),h2 b (by simp),h2 c (by simp)⟩
theorem X1x.get {n:Nat} {ts:List (List Int)} {i:Int} (h:X1x n ts) (h0:0≤i) (hi:i < (ts.length:Int)) :
  (ts.getD i.toNat default).length=3∧∀ x∈(ts.getD i.toNat default),0≤x∧x < (n:Int):=by
 have hn:i.toNat < ts.length:=by omega
 exact h _ (by rw [List.getD_eq_getElem?_getD,List.getElem?_eq_getElem hn];exact List.getElem_mem hn)
end Go.Ab

set_option linter.unusedVariables false
set_option linter.unusedSimpArgs false
namespace Go.Ab
def OkIx {α:Type} (n:Nat) (f:α→Int) (l:List α):Prop:=∀ x∈l,0≤f x∧f x < (n:Int)
theorem OkIx.at {α:Type} [Inhabited α] {n:Nat} {f:α→Int} {l:List α} (h:OkIx n f l) {i:Int} (h0:0≤i) (hi:i < (l.length:Int)):0≤f (l.getD i.toNat default)∧f (l.getD i.toNat default) < (n:Int):=by
 have hn:i.toNat < l.length:=by omega
 rw [List.getD_eq_getElem?_getD,List.getElem?_eq_getElem hn]
 exact h _ (List.getElem_mem hn)
end Go.Ab

namespace Go.Ab
def Scr (_:List Ans) (C:List Prop):Prop:=All C
section
variable {P:Program} {a:List Ans} {C:List Prop}
theorem sN:Scr [] []:=trivial
theorem sK (ks:List Nat) (s:Scr a C):Scr (.keep ks :: a) C:=s
theorem sA (x:Ans) (s:Scr a C):Scr (x :: a) C:=s
theorem sC {p:Prop} (h:p) (s:Scr a C):Scr a (p :: C):=⟨h,s⟩
theorem sB {x b:Bool} (h:x=b) (s:Scr a C):Scr (.bo b :: a) ((x=b) :: C):=⟨h,s⟩
theorem sB' {x b:Bool} (h:x=b) (s:Scr a C):Scr (.bo (!b) :: a) (((!x)=!b) :: C):=⟨congrArg not h,s⟩
theorem sM {x n:Int} (h:x=n) (s:Scr a C):Scr (.num n :: a) ((x=n) :: C):=⟨h,s⟩
theorem sW (k:IntKind) (e:Int) (s:Scr a C):Scr (.num (k.wrap e) :: a) ((k.wrap e=k.wrap e) :: C):=⟨rfl,s⟩
theorem sI (e:Int) (h1:-9223372036854775808≤e) (h2:e≤9223372036854775807) (s:Scr a C):Scr (.num e :: a) ((IntKind.i64.wrap e=e) :: C):=⟨XV h1 h2,s⟩
theorem sQ (e:Int) (s:Scr a C):Scr (.num e :: a) ((e=e) :: C):=⟨rfl,s⟩
theorem sE {l:List (List AV)} {k:Nat} {cs:List AV} (h:l[k]? = some cs) (s:Scr a C):Scr (.el cs :: a) ((l[k]? = some cs) :: C):=⟨h,s⟩
theorem sG {α:Type} [Inhabited α] (c:α→List AV) (l:List α) (i:Int) (h0:0≤i) (h:i < l.length) (s:Scr a C):Scr (.el (c (l.getD i.toNat default)) :: a) ((0≤i∧(l.map c)[i.toNat]? = some (c (l.getD i.toNat default))) :: C):=⟨X83 h0 h,s⟩
theorem sV {α:Type} [Inhabited α] (c:α→List AV) (l:List α) (k:Nat) (h:k < l.length) (s:Scr a C):Scr (.el (c (l.getD k default)) :: a) (((l.map c)[k]? = some (c (l.getD k default))) :: C):=⟨X4c h,s⟩
theorem sX {α:Type} (c:α→List AV) (l:List α) (i:Int) (h0:0≤i) (h:i < l.length) (s:Scr a C):Scr a ((0≤i∧i.toNat < (l.map c).length) :: C):=⟨X3T h0 h,s⟩
theorem sZ {α:Type} (c:α→List AV) (l:List α) (s:Scr a C):Scr (.num (l.length:Int) :: a) ((((l.map c).length:Int)=(l.length:Int)) :: C):=⟨X84,s⟩
theorem sF {g:FuncId} {args:List AV} {r:AV} {rows:List Row} (h:Fn P g args r rows) (s:Scr a C):Scr (.call r rows :: a) (Fn P g args r rows :: C):=⟨h,s⟩
theorem sS {g:FuncId} {R R':List Row} {args:List AV} {r:AV} (h:Xa P g R args r R') (s:Scr a C):Scr (.calls r R' :: a) (Xa P g R args r R' :: C):=⟨h,s⟩
theorem sL (mask:List Bool) (n:Nat) {N:Nat} {body:Code} {st st':St} {e:Ex} (h:Lp P N body st e st') (s:Scr a C):Scr (.loop mask n e st' :: a) (Lp P N body st e st' :: C):=⟨h,s⟩
end
theorem X4R {α:Type} {c:α→List AV} {l:List α} {k:Nat} (h:k < l.length):k < (l.map c).length:=by simpa using h
theorem X3b {α:Type} {c:α→List AV} {l:List (List α)} {k:Nat} (h:k < l.length):k < (l.map fun l=>l.map c).length:=by simpa using h
theorem X3c {α:Type} {c:α→List AV} {l:List (List α)} {i:Int} (h0:0≤i) (h:i.toNat < l.length):0≤i∧i.toNat < (l.map fun l=>l.map c).length:=⟨h0,by simpa using h⟩
theorem X6 {P:Program} {N:Nat} {body:Code} {st:St} {α:Type} (f:α→Ex × St) {x y:α} (h:Lp P N body st (f x).1 (f x).2) (e:x=y):Lp P N body st (f y).1 (f y).2:=e ▸ h
theorem X4S {P:Program} {E:Env} (hE:EOk P E) (hm:P.follows .mixedOrders=true) {f:FuncId} {fn:Func} {c:Code} (rows:List Row) {rows':List Row} {args:List AV} {ans:List Ans} (ps:List (NPos × Row)) (r:AV) (R:List Row) {C:List Prop}
  (hf : P.funcs[f]? = some fn) (s : Scr ans C) (hb : fn.body = some c) (hn : (fn.name == "runtime.NumGoroutine") = false) (h : X4Q P E fn c rows args ans ps = some (r, R, C)) {r' : AV} (hr : r = r') (hR : R = rows') : Xa P f rows args r' rows' := by
 subst hr;subst hR;exact X2U hE hm hf hb hn h s
theorem fnS {P:Program} {E:Env} (hE:EOk P E) (hm:P.follows .mixedOrders=true) {f:FuncId} {fn:Func} {c:Code} {rows':List Row} {args:List AV} {ans:List Ans} (ps:List (NPos × Row)) (r:AV) (R:List Row) {C:List Prop}
  (hf : P.funcs[f]? = some fn) (s : Scr ans C) (hb : fn.body = some c) (hn : (fn.name == "runtime.NumGoroutine") = false) (h : X4Q P E fn c [] args ans ps = some (r, R, C)) (hok : X1q R = true) {r' : AV} (hr : r = r') (hR : R = rows') : Fn P f args r' rows' := by
 subst hr;subst hR;exact Xa.fn (X2U hE hm hf hb hn h s) hok
theorem XP {P:Program} {E:Env} (hE:EOk P E) (hm:P.follows .mixedOrders=true) {body:Code} {st st3 st':St} {ans:List Ans} (ps:List (NPos × Row)) (mask:List Bool) (ks:List Nat) {e:Ex} {C:List Prop} (st2:St)
  (s:Scr ans C) (h:X1E P E body st ans ps mask ks=some (.norm,st2,C)) (hs:st2=st3) (k:Lp P E.np body st3 e st'):Lp P E.np body st e st':=X3X hE hm h s hs k
theorem Xw {P:Program} {E:Env} (hE:EOk P E) (hm:P.follows .mixedOrders=true) {body:Code} {st st3 st':St} {ans:List Ans} (ps:List (NPos × Row)) (mask:List Bool) (ks:List Nat) {e:Ex} {C:List Prop}
  (k:Lp P E.np body st3 e st') (s:Scr ans C) (h:X1E P E body st ans ps mask ks=some (.norm,st3,C)):Lp P E.np body st e st':=X3X hE hm h s rfl k
theorem outR {P:Program} {E:Env} (hE:EOk P E) (hm:P.follows .mixedOrders=true) {body:Code} {st st3:St} {ans:List Ans} (ps:List (NPos × Row)) (mask:List Bool) (ks:List Nat) {e:Ex} {C:List Prop}
  (s:Scr ans C) (h:X1E P E body st ans ps mask ks=some (e,st3,C)) (he:e ≠ .norm):Lp P E.np body st e st3:=X7d hE hm h s he rfl
end Go.Ab

set_option linter.unusedVariables false
set_option linter.unusedSimpArgs false
namespace Go.Ab
theorem X6h {α:Type} {f:α→Int→Int × α} {p:α→Prop} (hf:∀ x c,p x→p (f x c).2):∀ (l:List α) (c:Int),(∀ x∈l,p x)→∀ x∈(mkL f l c).2,p x
 | [],c,_,x,hx=>by simp [mkL] at hx
 | y :: l,c,h,x,hx=>by
  simp only [mkL,List.mem_cons] at hx
  rcases hx with rfl | hx
  ·exact hf y c (h y List.mem_cons_self)
  ·exact X6h hf l _ (fun z hz=>h z (List.mem_cons_of_mem _ hz)) x hx
theorem X4w {β:Type} {f:Int→Bool} {g:Int→β} {n:Int} {lo:Nat→Int→List β→List β}
  (h:∀ k i r,lo (k + 1) i r=cond (decide (i < n)) (cond (f i) (lo k (i + 1) r) (lo k (i + 1) (r ++ [g i]))) r) :
  ∀ (k:Nat) (i:Int) (r:List β),(n - i).toNat < k→lo k i r=r ++ (((List.range (n - i).toNat).filter fun (j:Nat) => !(f (i + j))).map fun (j:Nat)=>g (i + j)):=by
 intro k
 induction k with
 | zero=>intro i r hk;exact absurd hk (Nat.not_lt_zero _)
 | succ k ih =>
  intro i r hk
  rw [h]
  by_cases hi:i < n
  ·rw [decide_eq_true hi,cond_true]
   have e:(n - i).toNat=(n - (i + 1)).toNat + 1:=by omega
   rw [ih (i + 1) r (by omega),ih (i + 1) (r ++ [g i]) (by omega),e,List.range_succ_eq_map]
   have key:∀ l:List Nat,((l.map Nat.succ).filter fun (j:Nat) => !(f (i + j))).map (fun (j:Nat)=>g (i + j))=(l.filter fun (j:Nat) => !(f (i + 1 + j))).map (fun (j:Nat)=>g (i + 1 + j)):=by
    intro l
    induction l with
    | nil=>rfl
    | cons a l ih =>
     have ea:i + ((Nat.succ a:Nat):Int)=i + 1 + (a:Int):=by push_cast;omega
     simp only [List.map_cons,List.filter_cons,ea]
     split
     ·simp only [List.map_cons,ih,ea]
     ·exact ih
   simp only [List.filter_cons,Int.natCast_zero,Int.add_zero]
   cases hf:f i
   ·simp [key]
   ·simp [key]
  ·rw [decide_eq_false hi,cond_false]
   have:(n - i).toNat=0:=by omega
   rw [this];simp
end Go.Ab

set_option linter.unusedVariables false
set_option linter.unusedSimpArgs false
namespace Go.Ab
def mapC {α β:Type} (ck:α→Int × Int) (cv:β→List AV) (l:List (α × List β)):List ((Int × Int) × List (List AV)):=l.map fun x=>(ck x.1,x.2.map cv)
def mhas {α β:Type} [DecidableEq α] (l:List (α × β)) (k:α):Bool:=l.any fun x=>decide (x.1=k)
def midx {α β:Type} [DecidableEq α] (l:List (α × β)) (k:α):Nat:=l.findIdx fun x=>decide (x.1=k)
def mput {α β:Type} [Inhabited α] (l:List (α × List β)) (j:Nat) (y:List β):List (α × List β):=l.set j ((l.getD j default).1,y)
section
variable {α β:Type} {ck:α→Int × Int} {cv:β→List AV} {l:List (α × List β)} {k:α}
theorem X2A [DecidableEq α] (h:mhas l k=true):midx l k < l.length:=by
 unfold mhas at h;unfold midx
 rw [List.findIdx_lt_length]
 simpa using h
theorem X7x [DecidableEq α] (h:mhas l k=true):l[midx l k]?.map (·.1)=some k:=by
 have hl:=X2A h
 rw [List.getElem?_eq_getElem hl]
 have hl2:l.findIdx (fun x=>decide (x.1=k)) < l.length:=hl
 have:=List.findIdx_getElem (xs:=l) (p:=fun x=>decide (x.1=k)) (w:=hl2)
 simpa [midx] using this
theorem X3k [DecidableEq α] (h:mhas l k=true):((mapC ck cv l).map (·.1))[midx l k]? = some (ck k):=by
 have:=X7x h
 unfold mapC
 rw [List.map_map,List.getElem?_map]
 cases hx:l[midx l k]? with
 | none=>rw [hx] at this;cases this
 | some x=>rw [hx] at this;simp at this;simp [this]
theorem X4g [DecidableEq α] (hi:∀ x y,ck x=ck y→x=y) (h:mhas l k=false):ck k ∉ (mapC ck cv l).map (·.1):=by
 intro hm
 unfold mapC at hm
 rw [List.map_map] at hm
 obtain ⟨x,hx,he⟩:=List.mem_map.1 hm
 have:=hi _ _ he
 unfold mhas at h
 rw [List.any_eq_false] at h
 exact h x hx (by simpa using this)
@[simp] theorem X87:(mapC ck cv l).length=l.length:=by simp [mapC]
theorem X5L [Inhabited α] (j:Nat):((mapC ck cv l).getD j default).2=((l.getD j default).2).map cv:=by
 unfold mapC
 rw [List.getD_eq_getElem?_getD,List.getD_eq_getElem?_getD,List.getElem?_map]
 cases l[j]? <;> rfl
@[simp] theorem X8c [Inhabited α] (j:Nat):(((mapC ck cv l)[j]?.getD default).2).length=((l[j]?.getD default).2).length:=by
 rw [← List.getD_eq_getElem?_getD,← List.getD_eq_getElem?_getD,X5L,List.length_map]
theorem X7g [Inhabited α] (j:Nat):((mapC ck cv l).map (·.2)).getD j []=((l.getD j default).2).map cv:=by
 unfold mapC
 rw [List.getD_eq_getElem?_getD,List.getD_eq_getElem?_getD,List.map_map,List.getElem?_map]
 cases l[j]? <;> rfl
theorem X5M [Inhabited α] {j:Nat}:(((((mapC ck cv l).map (·.2)).getD j []).length:Nat):Int)=(((l.getD j default).2).length:Int):=by
 rw [X7g];simp
theorem X5N [Inhabited α] {j:Nat} {y:List β} (hj:j < l.length) :
  ((mapC ck cv l).set j (((mapC ck cv l).getD j default).1,[])).set j ((((mapC ck cv l).set j (((mapC ck cv l).getD j default).1,[])).getD j default).1,((mapC ck cv l).getD j default).2 ++ y.map cv)=mapC ck cv (mput l j ((l.getD j default).2 ++ y)):=by
 rw [X5L,← List.map_append]
 generalize (l.getD j default).2 ++ y=z
 have hk:((mapC ck cv l).getD j default).1=ck (l.getD j default).1:=by
  unfold mapC
  rw [List.getD_eq_getElem?_getD,List.getD_eq_getElem?_getD,List.getElem?_map,List.getElem?_eq_getElem hj];rfl
 have hg:((mapC ck cv l).set j (((mapC ck cv l).getD j default).1,[])).getD j default=(ck (l.getD j default).1,[]):=by
  rw [List.getD_eq_getElem?_getD,List.getElem?_set_self (by simpa using hj),hk];rfl
 rw [hg,List.set_set]
 unfold mapC mput
 rw [List.map_set]
theorem X7y {y:List β} :
  ((mapC ck cv l) ++ [(ck k,[])]).set (mapC ck cv l).length ((((mapC ck cv l) ++ [(ck k,[])]).getD (mapC ck cv l).length default).1,y.map cv)=mapC ck cv (l ++ [(k,y)]):=by
 have hg:((mapC ck cv l) ++ [(ck k,[])]).getD (mapC ck cv l).length default=(ck k,[]):=by
  rw [List.getD_eq_getElem?_getD,List.getElem?_append_right (Nat.le_refl _)];simp
 rw [hg,List.set_append_right _ _ (Nat.le_refl _)]
 simp [mapC]
theorem X7z [Inhabited α] {j:Nat} {y:List β} {x:α × List β} (h:x∈mput l j y):x∈l∨x.2=y:=by
 rcases List.mem_or_eq_of_mem_set h with h | h
 ·exact .inl h
 ·exact .inr (by rw [h])
theorem X5O [Inhabited α] {N:Int} (h0:0≤N) (h:∀ y∈l,(y.2.length:Int)≤N) (j:Nat):(((l.getD j default).2).length:Int)≤N:=by
 rw [List.getD_eq_getElem?_getD]
 cases hx:l[j]? with
 | none=>exact h0
 | some x=>exact h x (List.mem_of_getElem? hx)
theorem X2Q [Inhabited α] {N M:Int} {j:Nat} {x:β} (h:∀ y∈l,(y.2.length:Int)≤N) (h0:0≤N) (hM:N + 1≤M):∀ y∈mput l j ((l.getD j default).2 ++ [x]),(y.2.length:Int)≤M:=by
 intro y hy
 rcases X7z hy with hy | hy
 ·have:=h y hy;omega
 ·have:=X5O h0 h j
  rw [hy,List.length_append,List.length_singleton];omega
theorem X5P {N M:Int} {x:β} (h:∀ y∈l,(y.2.length:Int)≤N) (hM:N≤M) (h1:1≤M):∀ y∈l ++ [(k,[x])],(y.2.length:Int)≤M:=by
 intro y hy
 rcases List.mem_append.1 hy with hy | hy
 ·have:=h y hy;omega
 ·simp only [List.mem_singleton] at hy;subst hy;exact h1
end
theorem X8a {x:Int} (h:0≤x):0≤Int.tmod x 3∧Int.tmod x 3 < 3:=⟨Int.tmod_nonneg 3 h,Int.tmod_lt_of_pos x (by omega)⟩
end Go.Ab

set_option linter.unusedVariables false
set_option linter.unusedSimpArgs false
namespace Go.Ab
open Go.RowKit
structure Gedge where
 e0:Int
 e1:Int
 deriving Inhabited,DecidableEq
def Gedge.cells (v:Gedge):List AV:=[.i .i64 v.e0, .i .i64 v.e1]
def Gedge.pr (v:Gedge):Int × Int:=(v.e0,v.e1)
theorem Gedge.inj:∀ x y:Gedge,x.pr=y.pr→x=y:=by
 rintro ⟨a,b⟩ ⟨c,d⟩ h
 simp only [Gedge.pr,Prod.mk.injEq] at h
 rw [h.1,h.2]
def cmpP (a b:Int × Int):Int:=if a.1 < b.1 then -1 else if a.1 > b.1 then 1 else if a.2 < b.2 then -1 else if a.2 > b.2 then 1 else 0
def leP (a b:Int × Int):Bool:=!(decide (cmpP b a < 0))
def X1X {α:Type} (ck:α→Int × Int) (l:List α):List α:=l.mergeSort fun x y=>leP (ck x) (ck y)
theorem X24 (a b:Int × Int):leP a b=true↔a.1 < b.1∨(a.1=b.1∧a.2≤b.2):=by
 unfold leP cmpP
 simp only [Bool.not_eq_true',decide_eq_false_iff_not]
 split
 ·constructor<;>intro<;>omega
 ·split
  ·constructor<;>intro<;>omega
  ·split
   ·constructor<;>intro<;>omega
   ·split<;>constructor<;>intro<;>omega
@[simp] theorem X5Q {α:Type} (ck:α→Int × Int) (l:List α):(X1X ck l).length=l.length:=by simp [X1X]
def OkE (n:Nat) (ts:List (List Int)):Prop :=
 n≤64∧ts.length≤128∧∀ t∈ts,∃ a b c,t=[a,b,c]∧(0≤a∧a < (n:Int))∧(0≤b∧b < (n:Int))∧(0≤c∧c < (n:Int))∧a≠b∧b≠c∧a≠c
theorem OkE.tris {n:Nat} {ts:List (List Int)} (h:OkE n ts):X1x n ts:=fun t ht=>by
 obtain ⟨a,b,c,rfl,h1,h2,h3,-⟩:=h.2.2 t ht
 refine ⟨rfl,fun x hx => ?_⟩
 simp only [List.mem_cons,List.not_mem_nil,or_false] at hx
 rcases hx with rfl | rfl | rfl<;>omega
theorem OkE.at {n:Nat} {ts:List (List Int)} {i k:Int} (h:OkE n ts) (h0:0≤i) (hi:i < (ts.length:Int)) (k0:0≤k) (k3:k < 3) :
  (ts.getD i.toNat default).length=3∧0≤Int.tmod (k + 1) 3∧Int.tmod (k + 1) 3 < 3 ∧
  (0≤(ts.getD i.toNat default).getD k.toNat default∧(ts.getD i.toNat default).getD k.toNat default < (n:Int)) ∧
  (0≤(ts.getD i.toNat default).getD (Int.tmod (k + 1) 3).toNat default∧(ts.getD i.toNat default).getD (Int.tmod (k + 1) 3).toNat default < (n:Int))∧(n:Int)≤64∧(ts.length:Int)≤128:=by
 have q1:=h.tris.at2 h0 hi k0 (.inl k3)
 have q2:=X8a (x:=k + 1) (by omega)
 have q3:=h.tris.at2 h0 hi q2.1 (.inl q2.2)
 have:=h.1;have:=h.2.1
 exact ⟨q1.1,q2.1,q2.2,q1.2,q3.2,by omega,by omega⟩
theorem tri3 {n:Nat} {ts:List (List Int)} (h:OkE n ts) {i:Int} (h0:0≤i) (hi:decide (i < (ts.length:Int))=true):(ts.getD i.toNat default).length=3∧∀ x∈ts.getD i.toNat default,0≤x∧x < (n:Int):=X1x.get h.tris h0 (of_decide_eq_true hi)
theorem X8b {n:Nat} {ts:List (List Int)} (h:OkE n ts) {i:Int} (h0:0≤i) (hi:decide (i < (ts.length:Int))=true):(ts.getD i.toNat default).length≤1073741824:=by have:=(tri3 h h0 hi).1;omega
theorem ix2 {n a b:Int} (hn:n≤64) (a0:0≤a) (an:a < n) (b0:0≤b) (bn:b < n) :
  IntKind.wrap .i64 (IntKind.wrap .i64 (a * n) + b)=a * n + b∧0≤a * n + b∧a * n + b < n * n∧IntKind.wrap .i64 (n * n)=n * n∧n * n≤4096:=by
 have h1:0≤a * n:=Int.mul_nonneg a0 (by omega)
 have h2:a * n + n≤n * n:=by
  have:(a + 1) * n≤n * n:=Int.mul_le_mul_of_nonneg_right (by omega) (by omega)
  rw [Int.add_mul,Int.one_mul] at this;exact this
 have h3:n * n≤64 * 64:=Int.mul_le_mul hn hn (by omega) (by omega)
 have e1:IntKind.wrap .i64 (a * n)=a * n:=XV (by omega) (by omega)
 have e2:IntKind.wrap .i64 (n * n)=n * n:=XV (by omega) (by omega)
 refine ⟨by rw [e1];exact XV (by omega) (by omega),by omega,by omega,e2,by omega⟩
theorem ix2F {n a b:Int} (hn:n≤64) (a0:0≤a) (an:a < n) (b0:0≤b) (bn:b < n) :
  0≤IntKind.wrap .i64 (IntKind.wrap .i64 (a * n) + b)∧IntKind.wrap .i64 (IntKind.wrap .i64 (a * n) + b) < ((IntKind.wrap .i64 (n * n)).toNat:Int)∧(IntKind.wrap .i64 (IntKind.wrap .i64 (a * n) + b)).toNat < (IntKind.wrap .i64 (n * n)).toNat:=by
 obtain ⟨h1,h2,h3,h4,h5⟩:=ix2 hn a0 an b0 bn
 rw [h1,h4];omega
theorem ixN {n:Nat} (h:n≤64):0≤IntKind.wrap .i64 ((n:Int) * (n:Int))∧IntKind.wrap .i64 ((n:Int) * (n:Int))≤4096:=by
 have h1:0≤(n:Int) * (n:Int):=Int.mul_nonneg (by omega) (by omega)
 have h3:(n:Int) * (n:Int)≤64 * 64:=Int.mul_le_mul (by omega) (by omega) (by omega) (by omega)
 rw [XV (by omega) (by omega)];omega
theorem X7R {n a b c d:Int} (b0:0≤b) (bn:b < n) (d0:0≤d) (dn:d < n) (h:a * n + b=c * n + d):a=c∧b=d:=by
 have h1:(a * n + b) / n=a:=by rw [Int.add_comm,Int.add_mul_ediv_right _ _ (by omega),Int.ediv_eq_zero_of_lt b0 bn];omega
 have h2:(c * n + d) / n=c:=by rw [Int.add_comm,Int.add_mul_ediv_right _ _ (by omega),Int.ediv_eq_zero_of_lt d0 dn];omega
 rw [h] at h1
 have:a=c:=by rw [← h1,h2]
 subst this
 exact ⟨rfl,by omega⟩
def mkE (u v:Int):Gedge:=if u≤v then ⟨u,v⟩ else ⟨v,u⟩
def tE (t:List Int):List Gedge:=[mkE (t.getD 0 default) (t.getD 1 default),mkE (t.getD 1 default) (t.getD 2 default),mkE (t.getD 2 default) (t.getD 0 default)]
def tHas (t:List Int) (a b:Int):Bool:=(t.getD 0 default == a || (t.getD 1 default == a || t.getD 2 default == a)) && (t.getD 0 default == b || (t.getD 1 default == b || t.getD 2 default == b))
theorem X86 {u v a b:Int} (h:a < b):mkE u v=⟨a,b⟩↔(u=a∧v=b)∨(u=b∧v=a):=by
 unfold mkE
 split<;>simp only [Gedge.mk.injEq]<;>omega
theorem X3Y {x y z:Int} (h1:x≠y) (h2:y≠z) (h3:x≠z) {a b:Int} (h:a < b):(⟨a,b⟩:Gedge)∈tE [x,y,z]↔tHas [x,y,z] a b=true:=by
 unfold tE tHas
 simp only [List.getD_cons_zero,List.getD_cons_succ,List.mem_cons,List.not_mem_nil,or_false,eq_comm (a:=(⟨a,b⟩:Gedge)),X86 h,Bool.and_eq_true,Bool.or_eq_true,beq_iff_eq]
 constructor
 ·rintro ((⟨rfl,rfl⟩ | ⟨rfl,rfl⟩) | (⟨rfl,rfl⟩ | ⟨rfl,rfl⟩) | (⟨rfl,rfl⟩ | ⟨rfl,rfl⟩))<;>simp
 ·rintro ⟨rfl | rfl | rfl,rfl | rfl | rfl⟩<;>first | omega | simp_all
theorem X7A {x y z:Int} (h1:x≠y) (h2:y≠z) (h3:x≠z):(tE [x,y,z]).Nodup:=by
 unfold tE mkE
 simp only [List.getD_cons_zero,List.getD_cons_succ,List.nodup_cons,List.mem_cons,List.not_mem_nil,or_false,not_or,not_false_iff,List.nodup_nil,and_true]
 refine ⟨⟨?_,?_⟩,?_⟩<;>(split<;>split<;>simp only [Gedge.mk.injEq]<;>omega)
def gl (l:List (Gedge × List Int)) (e:Gedge):List Int:=cond (mhas l e) ((l.getD (midx l e) default).2) []
theorem Xy {x:Gedge × List Int} {l:List (Gedge × List Int)} {e:Gedge}:mhas (x :: l) e=(decide (x.1=e) || mhas l e):=rfl
theorem X4x {x:Gedge × List Int} {l:List (Gedge × List Int)} {e:Gedge}:midx (x :: l) e=cond (decide (x.1=e)) 0 (midx l e + 1):=by
 unfold midx;rw [List.findIdx_cons]
theorem X1F {x:Gedge × List Int} {l:List (Gedge × List Int)} {e:Gedge}:gl (x :: l) e=cond (decide (x.1=e)) x.2 (gl l e):=by
 unfold gl;rw [Xy,X4x]
 cases decide (x.1=e)<;>simp
theorem X4K {x:Gedge × List Int} {l:List (Gedge × List Int)} {y:List Int}:mput (x :: l) 0 y=(x.1,y) :: l:=rfl
theorem X4h {x:Gedge × List Int} {l:List (Gedge × List Int)} {y:List Int} {j:Nat}:mput (x :: l) (j + 1) y=x :: mput l j y:=by simp [mput]
theorem X6i:∀ (l:List (Gedge × List Int)) (e:Gedge) (y:List Int) (e':Gedge),mhas l e=true→mhas (mput l (midx l e) y) e'=mhas l e'∧gl (mput l (midx l e) y) e'=if e'=e then y else gl l e'
 | [],e,y,e',h=>by simp [mhas] at h
 | x :: l,e,y,e',h=>by
  rw [Xy] at h
  rw [X4x]
  cases hx:decide (x.1=e) with
  | true =>
   have hx':=of_decide_eq_true hx
   rw [cond_true,X4K,Xy,Xy,X1F,X1F]
   refine ⟨rfl,?_⟩
   simp only
   by_cases h1:e'=e
   ·rw [if_pos h1,hx',decide_eq_true h1.symm];rfl
   ·rw [if_neg h1,hx',decide_eq_false fun h=>h1 h.symm];rfl
  | false =>
   rw [hx,Bool.false_or] at h
   obtain ⟨g1,g2⟩:=X6i l e y e' h
   rw [cond_false,X4h,Xy,Xy,X1F,X1F,g1,g2]
   refine ⟨rfl,?_⟩
   have hx':=of_decide_eq_false hx
   by_cases h1:e'=e
   ·rw [if_pos h1,if_pos h1,decide_eq_false fun h=>hx' (h.trans h1)];rfl
   ·rw [if_neg h1,if_neg h1]
theorem X6j:∀ (l:List (Gedge × List Int)) (e:Gedge) (y:List Int) (e':Gedge),mhas l e=false→mhas (l ++ [(e,y)]) e'=(decide (e=e') || mhas l e')∧gl (l ++ [(e,y)]) e'=if e'=e then y else gl l e'
 | [],e,y,e',_=>by
  rw [List.nil_append,Xy,X1F]
  refine ⟨rfl,?_⟩
  by_cases h1:e'=e
  ·rw [if_pos h1,decide_eq_true h1.symm];rfl
  ·rw [if_neg h1,decide_eq_false fun h=>h1 h.symm];rfl
 | x :: l,e,y,e',h=>by
  rw [Xy,Bool.or_eq_false_iff] at h
  obtain ⟨g1,g2⟩:=X6j l e y e' h.2
  have hx':=of_decide_eq_false h.1
  rw [List.cons_append,Xy,X1F,g1,g2,Xy,X1F]
  constructor
  ·cases decide (x.1=e')<;>cases decide (e=e')<;>rfl
  ·by_cases h1:e'=e
   ·rw [if_pos h1,if_pos h1,decide_eq_false fun h=>hx' (h.trans h1)];rfl
   ·rw [if_neg h1,if_neg h1]
def stE (s:List (Gedge × List Int) × List Gedge) (e:Gedge) (i:Int):List (Gedge × List Int) × List Gedge :=
 cond (mhas s.1 e) (cond (((s.1.getD (midx s.1 e) default).2.length:Int) == 0) (mput s.1 (midx s.1 e) ((s.1.getD (midx s.1 e) default).2 ++ [i]),s.2 ++ [e])
  (mput s.1 (midx s.1 e) ((s.1.getD (midx s.1 e) default).2 ++ [i]),s.2)) (s.1 ++ [(e,[i])],s.2 ++ [e])
structure EInv (s:List (Gedge × List Int) × List Gedge):Prop where
 has:∀ e,mhas s.1 e=true↔gl s.1 e≠[]
 mem:∀ e,e∈s.2↔gl s.1 e≠[]
 nd:s.2.Nodup
theorem EInv.nil:EInv ([],[]):=⟨fun e=>by simp [mhas,gl],fun e=>by simp [mhas,gl],List.nodup_nil⟩
theorem X5R {s:List (Gedge × List Int) × List Gedge} (h:EInv s) (e:Gedge) (i:Int):EInv (stE s e i)∧∀ e',gl (stE s e i).1 e'=if e'=e then gl s.1 e ++ [i] else gl s.1 e':=by
 unfold stE
 cases hh:mhas s.1 e with
 | true =>
  have hne:=(h.has e).1 hh
  have hgl:(s.1.getD (midx s.1 e) default).2=gl s.1 e:=by unfold gl;rw [hh];rfl
  have hz:(((s.1.getD (midx s.1 e) default).2.length:Int) == 0)=false:=by
   rw [hgl,beq_eq_false_iff_ne];intro hc;exact hne (List.length_eq_zero_iff.1 (by omega))
  rw [hz,cond_true,cond_false,hgl]
  have P:=fun e'=>X6i s.1 e (gl s.1 e ++ [i]) e' hh
  refine ⟨⟨fun e' => ?_,fun e' => ?_,h.nd⟩,fun e'=>(P e').2⟩
  ·rw [(P e').1,(P e').2,h.has]
   split
   ·rename_i h1;subst h1;simp [hne]
   ·rfl
  ·rw [(P e').2,h.mem]
   split
   ·rename_i h1;subst h1;simp [hne]
   ·rfl
 | false =>
  have hgl:gl s.1 e=[]:=by unfold gl;rw [hh];rfl
  rw [cond_false,hgl]
  have P:=fun e'=>X6j s.1 e [i] e' hh
  refine ⟨⟨fun e' => ?_,fun e' => ?_,?_⟩,fun e'=>(P e').2⟩
  ·rw [(P e').1,(P e').2,Bool.or_eq_true,h.has,decide_eq_true_iff]
   split
   ·rename_i h1;subst h1;simp
   ·rename_i h1;simp only [eq_comm (a:=e),h1,false_or]
  ·rw [List.mem_append,(P e').2,h.mem,List.mem_singleton]
   split
   ·rename_i h1;subst h1;simp
   ·rename_i h1;simp only [h1,or_false]
  ·rw [List.nodup_append]
   refine ⟨h.nd,by simp,fun a ha b hb => ?_⟩
   simp only [List.mem_singleton] at hb
   subst hb
   intro hab;subst hab
   exact (h.mem a).1 ha hgl
def stT (s:List (Gedge × List Int) × List Gedge) (t:List Int) (i:Int):List (Gedge × List Int) × List Gedge :=
 stE (stE (stE s (mkE (t.getD 0 default) (t.getD 1 default)) i) (mkE (t.getD 1 default) (t.getD 2 default)) i) (mkE (t.getD 2 default) (t.getD 0 default)) i
theorem X7S {s:List (Gedge × List Int) × List Gedge} (h:EInv s) {x y z:Int} (h1:x≠y) (h2:y≠z) (h3:x≠z) (i:Int) :
  EInv (stT s [x,y,z] i)∧∀ e,gl (stT s [x,y,z] i).1 e=gl s.1 e ++ (if e∈tE [x,y,z] then [i] else []):=by
 obtain ⟨a1,a2⟩:=X5R h (mkE x y) i
 obtain ⟨b1,b2⟩:=X5R a1 (mkE y z) i
 obtain ⟨c1,c2⟩:=X5R b1 (mkE z x) i
 refine ⟨c1,fun e => ?_⟩
 have hnd:=X7A h1 h2 h3
 unfold tE at hnd ⊢
 unfold stT
 simp only [List.getD_cons_zero,List.getD_cons_succ,List.nodup_cons,List.mem_cons,List.not_mem_nil,or_false,not_or,not_false_iff,List.nodup_nil,and_true] at hnd ⊢
 obtain ⟨⟨n1,n2⟩,n3⟩:=hnd
 rw [c2,b2,b2,a2,a2,a2]
 by_cases e1:e=mkE x y
 ·subst e1;simp [n1,n2]
 ·by_cases e2:e=mkE y z
  ·subst e2;simp [n3,Ne.symm n1,e1]
  ·by_cases e3:e=mkE z x
   ·subst e3;simp [Ne.symm n2,Ne.symm n3]
   ·simp [e1,e2,e3]
def idxE (ts:List (List Int)) (j:Nat) (e:Gedge):List Int:=((List.range j).filter fun i=>decide (e∈tE (ts.getD i default))).map fun (i:Nat)=>(i:Int)
theorem X7h (ts:List (List Int)) (j:Nat) (e:Gedge):idxE ts (j + 1) e=idxE ts j e ++ (if e∈tE (ts.getD j default) then [(j:Int)] else []):=by
 unfold idxE
 rw [List.range_succ,List.filter_append,List.map_append]
 congr 1
 by_cases h:e∈tE (ts.getD j default)
 ·rw [if_pos h,List.filter_cons_of_pos (by simpa using h)];rfl
 ·rw [if_neg h,List.filter_cons_of_neg (by simpa using h)];rfl
structure ETab (ts:List (List Int)) (j:Nat) (s:List (Gedge × List Int) × List Gedge):Prop where
 inv:EInv s
 val:∀ e,gl s.1 e=idxE ts j e
theorem ETab.loop {n:Nat} {ts:List (List Int)} (ok:OkE n ts) {lo:Nat→Int→List (Gedge × List Int)→List Gedge→List (Gedge × List Int) × List Gedge}
  (h:∀ k i b l,0≤i→lo (k + 1) i b l=cond (decide (i < (ts.length:Int))) (lo k (i + 1) (stT (b,l) (ts.getD i.toNat default) i).1 (stT (b,l) (ts.getD i.toNat default) i).2) (b,l)) :
  ∀ (k:Nat) (i:Nat) (s:List (Gedge × List Int) × List Gedge),i≤ts.length→ETab ts i s→((ts.length:Int) - i).toNat < k→ETab ts ts.length (lo k i s.1 s.2):=by
 intro k
 induction k with
 | zero=>intro i s _ _ hk;exact absurd hk (Nat.not_lt_zero _)
 | succ k ih =>
  intro i s hle hs hk
  rw [h _ _ _ _ (by omega)]
  by_cases hi:(i:Int) < (ts.length:Int)
  ·rw [decide_eq_true hi,cond_true]
   have hm:ts.getD i default∈ts:=by rw [List.getD_eq_getElem?_getD,List.getElem?_eq_getElem (by omega)];exact List.getElem_mem _
   obtain ⟨x,y,z,ht,-,-,-,n1,n2,n3⟩:=ok.2.2 _ hm
   rw [show ((i:Int)).toNat=i from by omega,ht]
   obtain ⟨g1,g2⟩:=X7S hs.inv n1 n2 n3 (i:Int)
   have:=ih (i + 1) (stT s [x,y,z] i) (by omega) ⟨g1,fun e=>by rw [g2,hs.val,X7h,ht]⟩ (by omega)
   exact this
  ·rw [decide_eq_false hi,cond_false]
   have:i=ts.length:=by omega
   rw [this] at hs;exact hs
theorem ETab.nil (ts:List (List Int)):ETab ts 0 ([],[]):=⟨EInv.nil,fun e=>by simp [gl,mhas,idxE]⟩
def edgL (n:Nat) (ts:List (List Int)):List Gedge :=
 (List.range n).flatMap fun (a:Nat)=>((List.range (n - (a + 1))).filter fun (j:Nat)=>ts.any fun t=>tHas t a ((a:Int) + 1 + j)).map fun (j:Nat)=>(⟨a,(a:Int) + 1 + j⟩:Gedge)
theorem X3y {n:Nat} {ts:List (List Int)} {e:Gedge}:e∈edgL n ts↔(0≤e.e0∧e.e0 < e.e1∧e.e1 < (n:Int))∧(ts.any fun t=>tHas t e.e0 e.e1)=true:=by
 unfold edgL
 simp only [List.mem_flatMap,List.mem_range,List.mem_map,List.mem_filter]
 constructor
 ·rintro ⟨a,ha,j,⟨hj,hh⟩,rfl⟩
  exact ⟨by simp only;omega,hh⟩
 ·obtain ⟨a,b⟩:=e
  rintro ⟨⟨h0,h1,h2⟩,hh⟩
  simp only at h0 h1 h2 hh
  have e1:((a.toNat:Nat):Int)=a:=by omega
  have e2:(((b - a - 1).toNat:Nat):Int)=b - a - 1:=by omega
  refine ⟨a.toNat,by omega,(b - a - 1).toNat,⟨by omega,?_⟩,?_⟩
  ·rw [e1,e2,show a + 1 + (b - a - 1)=b from by omega];exact hh
  ·rw [e1,e2,show a + 1 + (b - a - 1)=b from by omega]
theorem X65 (n:Nat) (ts:List (List Int)):(edgL n ts).Pairwise fun x y=>leP x.pr y.pr=true:=by
 unfold edgL
 rw [List.pairwise_flatMap]
 refine ⟨fun a _ => ?_,?_⟩
 ·rw [List.pairwise_map]
  refine List.Pairwise.filter _ (List.pairwise_lt_range.imp fun h => ?_)
  rw [X24];exact .inr ⟨rfl,by simp only [Gedge.pr];have h:_ < _:=h;omega⟩
 ·refine List.pairwise_lt_range.imp fun h x hx y hy => ?_
  simp only [List.mem_map,List.mem_filter] at hx hy
  obtain ⟨j,-,rfl⟩:=hx
  obtain ⟨i,-,rfl⟩:=hy
  rw [X24];simp only [Gedge.pr];omega
theorem X6S (n:Nat) (ts:List (List Int)):(edgL n ts).Nodup:=by
 unfold edgL List.Nodup
 rw [List.pairwise_flatMap]
 refine ⟨fun a _ => ?_,?_⟩
 ·rw [List.pairwise_map]
  refine List.Pairwise.filter _ (List.pairwise_lt_range.imp fun h hc => ?_)
  simp only [Gedge.mk.injEq] at hc;omega
 ·refine List.pairwise_lt_range.imp fun h x hx y hy hc => ?_
  simp only [List.mem_map,List.mem_filter] at hx hy
  obtain ⟨j,-,rfl⟩:=hx
  obtain ⟨i,-,rfl⟩:=hy
  simp only [Gedge.mk.injEq] at hc;omega
theorem X2R {n:Nat} {ts:List (List Int)} (ok:OkE n ts):(edgL n ts).length≤4096:=by
 have h:∀ (l:List Nat),(l.flatMap fun (a:Nat)=>((List.range (n - (a + 1))).filter fun (j:Nat)=>ts.any fun t=>tHas t a ((a:Int) + 1 + j)).map fun (j:Nat)=>(⟨a,(a:Int) + 1 + j⟩:Gedge)).length≤l.length * n:=by
  intro l
  induction l with
  | nil=>simp
  | cons a l ih =>
   rw [List.flatMap_cons,List.length_append,List.length_map,List.length_cons,Nat.add_mul,Nat.one_mul]
   have h1:=List.length_filter_le (fun (j:Nat)=>ts.any fun t=>tHas t a ((a:Int) + 1 + j)) (List.range (n - (a + 1)))
   rw [List.length_range] at h1
   omega
 have h2:=h (List.range n)
 rw [List.length_range] at h2
 have h3:n * n≤64 * 64:=Nat.mul_le_mul ok.1 ok.1
 unfold edgL
 omega
theorem X6k {n:Nat} {ts:List (List Int)} (ok:OkE n ts) (e:Gedge):idxE ts ts.length e≠[]↔e∈edgL n ts:=by
 rw [X3y]
 unfold idxE
 rw [Ne,List.map_eq_nil_iff,← List.isEmpty_iff,Bool.not_eq_true,List.isEmpty_eq_false_iff_exists_mem]
 simp only [List.mem_filter,List.mem_range,decide_eq_true_eq,List.any_eq_true]
 obtain ⟨a,b⟩:=e
 constructor
 ·rintro ⟨i,hi,hh⟩
  have hm:ts.getD i default∈ts:=by rw [List.getD_eq_getElem?_getD,List.getElem?_eq_getElem hi];exact List.getElem_mem _
  obtain ⟨x,y,z,ht,r1,r2,r3,n1,n2,n3⟩:=ok.2.2 _ hm
  have hab:0≤a∧a < b∧b < (n:Int):=by
   rw [ht] at hh
   unfold tE mkE at hh
   simp only [List.getD_cons_zero,List.getD_cons_succ,List.mem_cons,List.not_mem_nil,or_false] at hh
   rcases hh with hh | hh | hh<;>(split at hh<;>simp only [Gedge.mk.injEq] at hh<;>omega)
  refine ⟨hab,_,hm,?_⟩
  rw [ht] at hh ⊢
  exact (X3Y n1 n2 n3 hab.2.1).1 hh
 ·rintro ⟨hab,t,hm,hh⟩
  obtain ⟨i,hi,rfl⟩:=List.getElem_of_mem hm
  refine ⟨i,hi,?_⟩
  rw [List.getD_eq_getElem?_getD,List.getElem?_eq_getElem hi,Option.getD_some]
  obtain ⟨x,y,z,ht,r1,r2,r3,n1,n2,n3⟩:=ok.2.2 _ hm
  rw [ht] at hh ⊢
  exact (X3Y n1 n2 n3 hab.2.1).2 hh
theorem ETab.sorted {n:Nat} {ts:List (List Int)} (ok:OkE n ts) {s:List (Gedge × List Int) × List Gedge} (h:ETab ts ts.length s):X1X Gedge.pr s.2=edgL n ts:=by
 have hp:(X1X Gedge.pr s.2).Perm s.2:=List.mergeSort_perm _ _
 refine List.Perm.eq_of_pairwise (le:=fun x y:Gedge=>leP x.pr y.pr=true) (fun a b _ _ h1 h2=>Gedge.inj _ _ ?_) ?_ (X65 n ts) ?_
 ·rw [X24] at h1 h2
  exact Prod.ext (by omega) (by omega)
 ·refine List.pairwise_mergeSort (fun a b c h1 h2 => ?_) (fun a b => ?_) _
  ·rw [X24] at h1 h2 ⊢;omega
  ·rw [Bool.or_eq_true,X24,X24];omega
 ·refine hp.trans ((List.perm_ext_iff_of_nodup h.inv.nd (X6S n ts)).2 fun e => ?_)
  rw [h.inv.mem,h.val,X6k ok]
theorem ETab.at {n:Nat} {ts:List (List Int)} (ok:OkE n ts) {s:List (Gedge × List Int) × List Gedge} (h:ETab ts ts.length s) {e:Gedge} (he:e∈edgL n ts) :
  mhas s.1 e=true∧(s.1.getD (midx s.1 e) default).2=idxE ts ts.length e:=by
 have h1:=(X6k ok e).2 he
 have h2:mhas s.1 e=true:=(h.inv.has e).2 (by rw [h.val];exact h1)
 refine ⟨h2,?_⟩
 rw [← h.val];unfold gl;rw [h2];rfl
def idxP (ts:List (List Int)) (a b:Int):List Int:=((List.range ts.length).filter fun i=>tHas (ts.getD i default) a b).map fun (i:Nat)=>(i:Int)
theorem X7T {n:Nat} {ts:List (List Int)} (ok:OkE n ts) {e:Gedge} (he:e.e0 < e.e1):idxE ts ts.length e=idxP ts e.e0 e.e1:=by
 unfold idxE idxP
 congr 1
 refine List.filter_congr fun i hi => ?_
 rw [List.mem_range] at hi
 have hm:ts.getD i default∈ts:=by rw [List.getD_eq_getElem?_getD,List.getElem?_eq_getElem hi];exact List.getElem_mem _
 obtain ⟨x,y,z,ht,r1,r2,r3,n1,n2,n3⟩:=ok.2.2 _ hm
 rw [ht]
 have:=X3Y n1 n2 n3 he
 cases hh:tHas [x,y,z] e.e0 e.e1
 ·rw [hh] at this;simpa using this
 ·rw [hh] at this;simpa using this
theorem X6l {n:Nat} {ts:List (List Int)} {e:Gedge} (h:e∈edgL n ts):0≤e.e0∧e.e0 < e.e1∧e.e1 < (n:Int):=(X3y.1 h).1
theorem X6T {α β:Type} [Inhabited α] {p:α→Bool} {f:α→β} {a:List α} {lo:Nat→Int→List β→List β}
  (h:∀ k i r,0≤i→i < (a.length:Int)→lo (k + 1) i r=cond (p (a.getD i.toNat default)) (lo k (i + 1) (r ++ [f (a.getD i.toNat default)])) (lo k (i + 1) r))
  (h':∀ k i r,(a.length:Int)≤i→lo (k + 1) i r=r) :
  ∀ (k:Nat) (i:Int) (r:List β),0≤i→((a.length:Int) - i).toNat < k→lo k i r=r ++ ((a.drop i.toNat).filter p).map f:=by
 intro k
 induction k with
 | zero=>intro i r _ hk;exact absurd hk (Nat.not_lt_zero _)
 | succ k ih =>
  intro i r h0 hk
  by_cases hi:i < (a.length:Int)
  ·have hn:i.toNat < a.length:=by omega
   have hg:a.getD i.toNat default=a[i.toNat]:=by rw [List.getD_eq_getElem?_getD,List.getElem?_eq_getElem hn];rfl
   rw [h _ _ _ h0 hi,List.drop_eq_getElem_cons hn,hg,List.filter_cons]
   cases hp:p a[i.toNat] with
   | true=>rw [cond_true,ih _ _ (by omega) (by omega),show (i + 1).toNat=i.toNat + 1 from by omega];simp
   | false=>rw [cond_false,ih _ _ (by omega) (by omega),show (i + 1).toNat=i.toNat + 1 from by omega];simp
  ·rw [h' _ _ _ (by omega),List.drop_eq_nil_of_le (by omega)];simp
theorem X3Z {α β:Type} [Inhabited α] {p:α→Bool} {f:α→β} {a:List α} {lo:Nat→Int→List β→List β}
  (h:∀ k i r,0≤i→i < (a.length:Int)→lo (k + 1) i r=cond (p (a.getD i.toNat default)) (lo k (i + 1) (r ++ [f (a.getD i.toNat default)])) (lo k (i + 1) r))
  (h':∀ k i r,(a.length:Int)≤i→lo (k + 1) i r=r):lo (((a.length:Int) - 0).toNat + 1) 0 []=(a.filter p).map f:=by
 rw [X6T h h' _ _ _ (Int.le_refl 0) (Nat.lt_succ_self _)];simp
theorem Okh.at {n:Nat} {t:List Int} (h:t.length=4∧∀ x∈t,0≤x∧x < (n:Int)) :
  t.length=4∧(0≤t.getD 0 default∧t.getD 0 default < (n:Int))∧(0≤t.getD 1 default∧t.getD 1 default < (n:Int))∧(0≤t.getD 2 default∧t.getD 2 default < (n:Int))∧(0≤t.getD 3 default∧t.getD 3 default < (n:Int)):=by
 obtain ⟨h1,h2⟩:=h
 match t,h1 with
 | [a,b,c,d],_=>exact ⟨rfl,h2 a (by simp),h2 b (by simp),h2 c (by simp),h2 d (by simp)⟩
@[simp] theorem X8d {α:Type} (c:α→List AV) (o:Option (List α)):(Option.map (fun l=>List.map c l) o).getD []=(o.getD default).map c:=by cases o<;>rfl
def brL (n:Nat) (ts:List (List Int)):List Gedge:=(edgL n ts).filter fun e=>decide ((idxP ts e.e0 e.e1).length=1)
theorem X6m {n:Nat} {ts:List (List Int)} (ok:OkE n ts):(brL n ts).length≤4096:=Nat.le_trans (List.length_filter_le _ _) (X2R ok)
def e2 (e:Gedge):List Int:=[e.e0,e.e1]
theorem X7B {β:Type} (f:Gedge→β) (n:Nat) (ts:List (List Int)):(edgL n ts).map f=(List.range n).flatMap fun (a:Nat)=>((List.range (n - (a + 1))).filter fun (j:Nat)=>ts.any fun t=>tHas t a ((a:Int) + 1 + j)).map fun (j:Nat)=>f (⟨a,(a:Int) + 1 + j⟩:Gedge):=by
 unfold edgL
 rw [List.map_flatMap]
 simp only [List.map_map,Function.comp_def]
theorem X3z {n:Int} {r:List Bool} {u v mn mx a b:Int} (hn:n≤64) (hm:(⟨mn,mx⟩:Gedge)=mkE u v) (m1:0≤mn∧mn < n) (m2:0≤mx∧mx < n) (ha:0≤a) (hab:a < b) (hb:b < n)
  (hr:r.length=(IntKind.wrap .i64 (n * n)).toNat) :
  (r.set (IntKind.wrap .i64 (IntKind.wrap .i64 (mn * n) + mx)).toNat true).getD (IntKind.wrap .i64 (IntKind.wrap .i64 (a * n) + b)).toNat default
   = (decide ((⟨a,b⟩:Gedge)=mkE u v) || r.getD (IntKind.wrap .i64 (IntKind.wrap .i64 (a * n) + b)).toNat default):=by
 obtain ⟨p1,p2,p3,-,-⟩:=ix2 (n:=n) hn m1.1 m1.2 m2.1 m2.2
 obtain ⟨q1,q2,q3,q4,-⟩:=ix2 (n:=n) (a:=a) (b:=b) hn ha (by omega) (by omega) hb
 rw [p1,q1]
 rw [q4] at hr
 by_cases h:(⟨a,b⟩:Gedge)=mkE u v
 ·rw [decide_eq_true h,Bool.true_or]
  rw [← hm] at h
  simp only [Gedge.mk.injEq] at h
  obtain ⟨rfl,rfl⟩:=h
  rw [List.getD_eq_getElem?_getD,List.getElem?_set_self (by omega)];rfl
 ·rw [decide_eq_false h,Bool.false_or]
  have hne:(mn * n + mx).toNat≠(a * n + b).toNat:=by
   intro hc
   have hc2:mn * n + mx=a * n + b:=by omega
   obtain ⟨h1,h2⟩:=X7R m2.1 m2.2 (by omega) hb hc2
   apply h
   rw [← hm,h1,h2]
  rw [List.getD_eq_getElem?_getD,List.getElem?_set_ne hne,← List.getD_eq_getElem?_getD]
theorem X7i {n:Nat} {β:Type} {p:Int→Int→Bool} {g:Int→Int→β} {lo:Nat→Int→List β→List β} {li:Int→List β→List β}
  (h:∀ k a r,lo (k + 1) a r=cond (decide (a < (n:Int))) (lo k (a + 1) (li a r)) r)
  (hi:∀ (a:Nat) r,(a:Int) < n→li a r=r ++ ((List.range (n - (a + 1))).filter fun (j:Nat)=>p a ((a:Int) + 1 + j)).map fun (j:Nat)=>g a ((a:Int) + 1 + j)) :
  ∀ (k:Nat) (a:Nat),a≤n→((n:Int) - a).toNat < k →
   lo k a ((List.range a).flatMap fun (a:Nat)=>((List.range (n - (a + 1))).filter fun (j:Nat)=>p a ((a:Int) + 1 + j)).map fun (j:Nat)=>g a ((a:Int) + 1 + j))
    = (List.range n).flatMap fun (a:Nat)=>((List.range (n - (a + 1))).filter fun (j:Nat)=>p a ((a:Int) + 1 + j)).map fun (j:Nat)=>g a ((a:Int) + 1 + j):=by
 intro k
 induction k with
 | zero=>intro a _ hk;exact absurd hk (Nat.not_lt_zero _)
 | succ k ih =>
  intro a hle hk
  rw [h]
  by_cases hc:(a:Int) < n
  ·rw [decide_eq_true hc,cond_true,hi a _ hc]
   have:=ih (a + 1) (by omega) (by omega)
   rw [List.range_succ,List.flatMap_append,List.flatMap_singleton] at this
   exact this
  ·rw [decide_eq_false hc,cond_false]
   rw [show a=n from by omega]
end Go.Ab
