/- What a contract of a function that writes rows gives a caller with more rows. -/
import Derived.Test.YtiddhiepmakopaaA24
set_option linter.unusedVariables false
set_option linter.unusedSimpArgs false
namespace Go.Ab
open Go.RowKit
def dark (F:List Nat) (H:Array Obj):Array Obj:=H.mapIdx fun b o=>if F.contains b then .cells #[] 0 (0,0) else o
theorem X1j (F:List Nat) (H:Array Obj):(dark F H).size=H.size:=by simp [dark]
theorem X2C {F:List Nat} {H:Array Obj} {b:Nat} (h:b ∉ F):(dark F H)[b]? = H[b]? := by
 unfold dark
 rw [Array.getElem?_mapIdx]
 cases H[b]? with
 | none=>rfl
 | some o=>simp [h]
theorem X7f {F:List Nat} {H:Array Obj} {b:Nat} (h:b∈F) (o:Nat):X2 (dark F H) b o=none:=by
 unfold X2 dark
 rw [Array.getElem?_mapIdx]
 cases H[b]? with
 | none=>rfl
 | some o=>simp [h]
def vwC (ks:List Nat) (D:List Row):AV→Option AV
 | .own r=>match idx ks r with
  | some i=>some (.own i)
  | none=>res D 8 (.own r)
 | .ptr r j off=>match idx ks r with
  | some i=>some (.ptr i j off)
  | none=>res D 8 (.ptr r j off)
 | v=>res D 8 v
def vw (ks:List Nat) (D:List Row):AV→Option AV
 | .agg cs=>(resL (vwC ks D) cs).map .agg
 | .fn g cap=>(resL (vwC ks D) cap).map (.fn g)
 | v=>vwC ks D v
def X29 (ks:List Nat) (D:List Row):Row→Option Row
 | .vec t es l _=>some (.vec t es l false)
 | .nest t ll _=>some (.nest t ll false)
 | .box t cs=>(resL (vwC ks D) cs).map (.box t)
 | _=>none
def X2W (ks:List Nat) (D:List Row):List Row→Option (List Row)
 | []=>some []
 | r :: rs=>match X29 ks D r,X2W ks D rs with
  | some r',some rs'=>some (r' :: rs')
  | _,_=>none
theorem X3A {ks:List Nat} {D:List Row}:∀ {l l':List Row},X2W ks D l=some l'→l'.length=l.length∧∀ (j:Nat) (r':Row),l'[j]? = some r'→∃ r,l[j]? = some r∧X29 ks D r=some r'
 | [],l',h=>by simp [X2W] at h;subst h;simp
 | r :: rs,l',h=>by
  simp only [X2W] at h
  split at h
  ·rename_i a b h1 h2
   simp only [Option.some.injEq] at h;subst h
   obtain ⟨g1,g2⟩:=X3A h2
   refine ⟨by simp [g1],fun j r' e => ?_⟩
   cases j with
   | zero=>simp at e;subst e;exact ⟨r,rfl,h1⟩
   | succ j=>simp at e;simpa using g2 j r' e
  ·cases h
def X2a (ks:List Nat) (m i:Nat):Nat:=match ks[i]? with
 | some k=>k
 | none=>m + (i - ks.length)
def bkC (ks:List Nat) (m:Nat):AV→AV
 | .own i => .own (X2a ks m i)
 | .mp i => .mp (X2a ks m i)
 | v=>v
def bkA (ks:List Nat) (m:Nat):AV→AV
 | .agg cs => .agg (cs.map (bkC ks m))
 | v=>bkC ks m v
def bk (ks:List Nat) (m:Nat):AV→AV
 | .tup vs => .tup (vs.map (bkA ks m))
 | v=>bkA ks m v
def X2D (ks:List Nat) (m:Nat):Row→Row
 | .box t cs => .box t (cs.map (bkC ks m))
 | r=>r
def X13 (ks:List Nat) (m:Nat) (new:List Row):Nat→List Row→List Row
 | _,[]=>(new.drop ks.length).map (X2D ks m)
 | i,r :: rs=>(match idx ks i with
  | some j=>match new[j]? with
   | some q=>X2D ks m q
   | none=>r
  | none=>r) :: X13 ks m new (i + 1) rs
theorem X2e (ks:List Nat) (m:Nat) (new:List Row):∀ (rs:List Row) (i j:Nat) (row:Row),(X13 ks m new i rs)[j]? = some row →
  (j < rs.length∧((∃ q x,idx ks (i + j)=some q∧new[q]? = some x∧row=X2D ks m x)∨((idx ks (i + j)=none∨∃ q,idx ks (i + j)=some q∧new[q]? = none)∧rs[j]? = some row))) ∨
  (rs.length≤j∧∃ x,new[ks.length + (j - rs.length)]? = some x∧row=X2D ks m x)
 | [],i,j,row,h=>by
  simp only [X13,List.getElem?_map,List.getElem?_drop,Option.map_eq_some_iff] at h
  obtain ⟨x,h1,h2⟩:=h
  exact .inr ⟨Nat.zero_le _,x,by simpa using h1,h2.symm⟩
 | r :: rs,i,0,row,h=>by
  simp only [X13,List.getElem?_cons_zero,Option.some.injEq] at h
  left;refine ⟨by simp,?_⟩
  simp only [Nat.add_zero]
  split at h
  ·rename_i q hi
   split at h
   ·rename_i x hq
    exact .inl ⟨q,x,hi,hq,h.symm⟩
   ·rename_i hq
    exact .inr ⟨.inr ⟨q,hi,hq⟩,by simp [h]⟩
  ·rename_i hi
   exact .inr ⟨.inl hi,by simp [h]⟩
 | r :: rs,i,j + 1,row,h=>by
  simp only [X13,List.getElem?_cons_succ] at h
  have:=X2e ks m new rs (i + 1) j row h
  rw [show i + 1 + j=i + (j + 1) from by omega] at this
  simp only [List.length_cons,List.getElem?_cons_succ]
  rcases this with ⟨h1,h2⟩ | ⟨h1,x,h2,h3⟩
  ·exact .inl ⟨by omega,h2⟩
  ·exact .inr ⟨by omega,x,by rw [← h2];congr 1;omega,h3⟩
theorem X2l (ks:List Nat) (m:Nat) (new:List Row):∀ (rs:List Row) (i:Nat),(X13 ks m new i rs).length=rs.length + (new.length - ks.length)
 | [],i=>by simp [X13]
 | r :: rs,i=>by simp [X13,X2l ks m new rs];omega
theorem X3N {H H':Array Obj} {μ M:Nat→Option FP} {ks:List Nat} {m n:Nat} (hs:∀ i p,i < n→μ i=some p→M (X2a ks m i)=some p) {c:AV} {v:Value} (ho:XT n c=true) (h:Rep H μ c v):Rep H' M (bkC ks m c) v:=by
 cases h<;>simp [XT] at ho<;>simp only [bkC]
 ·exact .b _
 ·exact .i _ _
 ·exact .f _ _ _ ‹_› ‹_›
 ·exact .nils
 ·rename_i r p hp;exact .own _ p (hs r p ho hp)
 ·rename_i r p hz hp;exact .mp _ p (hs r p ho hp) hz
theorem X5y {H H':Array Obj} {μ M:Nat→Option FP} {ks:List Nat} {m n:Nat} (hs:∀ i p,i < n→μ i=some p→M (X2a ks m i)=some p) {c:AV} {v:Value} (ho:XU n c=true) (h:Rep H μ c v):Rep H' M (bkA ks m c) v:=by
 cases c with
 | agg cs =>
  cases h with | agg _ vs hz hh =>
  simp only [XU,List.all_eq_true] at ho
  refine .agg _ vs (by simp [hz]) fun j c e => ?_
  simp only [List.getElem?_map,Option.map_eq_some_iff] at e
  obtain ⟨c0,e0,rfl⟩:=e
  exact X3N hs (ho c0 (List.mem_of_getElem? e0)) (hh j c0 e0)
 | _=>simp only [XU] at ho;exact X3N hs ho h
theorem X7y {H H':Array Obj} {μ M:Nat→Option FP} {ks:List Nat} {m n:Nat} (hs:∀ i p,i < n→μ i=some p→M (X2a ks m i)=some p) {c:AV} {v:Value} (ho:XH n c=true) (h:Rep H μ c v):Rep H' M (bk ks m c) v:=by
 cases c with
 | tup cs =>
  cases h with | tup _ vs hz hh =>
  simp only [XH,List.all_eq_true] at ho
  refine .tup _ vs (by simp [hz]) fun j c e => ?_
  simp only [List.getElem?_map,Option.map_eq_some_iff] at e
  obtain ⟨c0,e0,rfl⟩:=e
  exact X5y hs (ho c0 (List.mem_of_getElem? e0)) (hh j c0 e0)
 | _=>simp only [XH] at ho;exact X5y hs ho h
theorem X5b {H H':Array Obj} {heap:Array Obj} {μ M:Nat→Option FP} {ks:List Nat} {m n:Nat} (hs:∀ i p,i < n→μ i=some p→M (X2a ks m i)=some p) {p:Option FP} {row:Row} (ho:XA n row=true)
  (h:X4 H μ heap p row):X4 H' M heap p (X2D ks m row):=by
 cases row with
 | box t cs =>
  cases p with
  | none=>exact h.elim
  | some p =>
   obtain ⟨ez,e1,e2,arr,e3,e4,e5⟩:=h
   simp only [XA,List.all_eq_true] at ho
   refine ⟨ez,by simpa using e1,e2,arr,e3,by simpa using e4,fun j c e => ?_⟩
   rw [List.getElem?_map,Option.map_eq_some_iff] at e
   obtain ⟨c0,e0,rfl⟩:=e
   exact X3N hs (ho c0 (List.mem_of_getElem? e0)) (e5 j c0 e0)
 | vec t es l full=>cases p<;>exact h
 | nest t ll full=>cases p<;>exact h
 | mapN=>cases p<;>exact h
 | dead=>simp [XA] at ho
 | lits t cs=>simp [XA] at ho
theorem XW.frame {P:Program} {g:FuncId} {rows rows':List Row} {args:List AV} {r:AV} (h:XW P g rows args r rows') (ks:List Nat) {R:List Row} {args':List AV}
  (hR:(XZ R ks).bind (X2W ks (Xd ks 0 R))=some rows) (hA:resL (vw ks (Xd ks 0 R)) args'=some args) (hnd:XV ks=true)
  (hlen:Nat.ble ks.length rows'.length=true) (hok:rows'.all (XA rows'.length)=true) (hr:XH rows'.length r=true) :
  XW P g R args' (bk ks R.length r) (X13 ks R.length rows' 0 R):=by
 rw [Nat.ble_eq] at hlen
 obtain ⟨RK,hpick,hview⟩:=Option.bind_eq_some_iff.1 hR
 obtain ⟨hpl,hpg⟩:=X1u hpick
 obtain ⟨hvl,hvg⟩:=X3A hview
 have hnd':=XO hnd
 have hkl:∀ i k,ks[i]? = some k→k < R.length:=fun i k e=>by
  have hi:i < RK.length:=by
   rw [hpl]
   rcases Nat.lt_or_ge i ks.length with h | h
   ·exact h
   ·rw [List.getElem?_eq_none h] at e;cases e
  have:=hpg i k e
  rcases Nat.lt_or_ge k R.length with h | h
  ·exact h
  ·rw [List.getElem?_eq_none h,List.getElem?_eq_getElem hi] at this;cases this
 have hidx:∀ k,idx ks k=none→k ∉ ks:=by
  intro k
  clear hpick hpl hpg hnd hnd' hkl hR hA hlen hview hvl hvg
  induction ks with
  | nil=>simp
  | cons a as ih =>
   intro hn
   simp only [idx] at hn
   split at hn
   ·cases hn
   ·rename_i hne
    simp only [beq_eq_false_iff_ne] at hne
    simp only [Option.map_eq_none_iff] at hn
    simp only [List.mem_cons,not_or]
    exact ⟨fun e=>hne e.symm,ih hn⟩
 refine ⟨h.1,fun W0 M W vs hm hp => ?_⟩
 let F:List Nat:=ks.flatMap fun k=>match M k with
  | some p=>p.blks
  | none => []
 have hF:∀ b,b∈F↔∃ k∈ks,∃ p,M k=some p∧b∈p.blks:=by
  intro b
  show b∈List.flatMap _ _↔_
  rw [List.mem_flatMap]
  constructor
  ·rintro ⟨k,hk,hb⟩
   split at hb
   ·rename_i p hMp;exact ⟨k,hk,p,hMp,hb⟩
   ·cases hb
  ·rintro ⟨k,hk,p,hMp,hb⟩
   exact ⟨k,hk,by rw [hMp];exact hb⟩
 let w0:Old0:={ toWorld:={ W with heap:=dark F W.heap },opn:=(· ∈ F),dark:=fun b hb o=>X7f hb o,pin:=fun _=>none,np:=0,pinLt:=fun _ _ e=>by cases e }
 have hh0:w0.heap=dark F W.heap:=rfl
 have hFm:∀ b,b∈F→W0.mine b∧b < W.heap.size:=fun b hb=>by
  obtain ⟨k,_,p,hMp,hbp⟩:=(hF b).1 hb
  exact hm.own k p b hMp hbp
 have hFo:∀ q p b,q ∉ ks→M q=some p→b∈p.blks→b ∉ F:=fun q p b hq hMq hb hbF=>by
  obtain ⟨k,hk,p',hMk,hb'⟩:=(hF b).1 hbF
  have:=hm.sep q k p p' b hMq hMk hb hb'
  subst this;exact hq hk
 let μ:Nat→Option FP:=fun i=>(ks[i]?).bind M
 have hμ:∀ i k,ks[i]? = some k→μ i=M k:=fun i k e=>by show (ks[i]?).bind M=M k;rw [e];rfl
 have hμ0:∀ i p,μ i=some p→∃ k,ks[i]? = some k∧M k=some p:=by
  intro i p e
  cases hk:ks[i]? with
  | none=>have e2:(ks[i]?).bind M=some p:=e;rw [hk] at e2;cases e2
  | some k=>exact ⟨k,rfl,by rw [← hμ i k hk];exact e⟩
 have hmd:MemW W0 M (Xd ks 0 R) { W with heap:=dark F W.heap }:=by
  refine ⟨hm.bel.step rfl rfl rfl (by simp [X1j]) (Nat.le_refl _) (fun k hk ho=>X2C fun hkF => ?_),fun q row e => ?_,hm.sep,hm.nodup,fun q p b e hb => ?_⟩
  ·rcases (hFm k hkF).1 with h | h
   ·exact ho h
   ·omega
  ·rcases X4V _ _ _ _ _ e with rfl | ⟨h1,h2⟩
   ·cases M q<;>exact trivial
   ·rw [Nat.zero_add] at h1
    exact (hm.row q row h2).heap fun p hp' b hb=>X2C (hFo q p b (hidx q h1) hp' hb)
  ·simpa [X1j] using hm.own q p b e hb
 have vC:∀ c c' v,vwC ks (Xd ks 0 R) c=some c'→Rep W0.heap M c v→Rep w0.heap μ c' v:=by
  have dflt:∀ c c' v,res (Xd ks 0 R) 8 c=some c'→Rep W0.heap M c v→Rep w0.heap μ c' v:=fun c c' v e hrep =>
   (X3V hmd 8 c c' v e hrep).mono fun q p e=>by cases e
  intro c c' v e hrep
  cases c with
  | own q =>
   simp only [vwC] at e
   split at e
   ·rename_i i hi
    simp only [Option.some.injEq] at e;subst e
    cases hrep with
    | own _ p hp'=>exact .own i p (by rw [hμ i q (Xq hi)];exact hp')
   ·exact dflt _ _ _ e hrep
  | ptr q j off =>
   simp only [vwC] at e
   split at e
   ·rename_i i hi
    simp only [Option.some.injEq] at e;subst e
    cases hrep with
    | ptr _ _ _ p hp'=>exact .ptr i j off p (by rw [hμ i q (Xq hi)];exact hp')
   ·exact dflt _ _ _ e hrep
  | _=>refine dflt _ _ _ ?_ hrep;exact e
 have vL:∀ (cs cs':List AV) (us:Array Value),resL (vwC ks (Xd ks 0 R)) cs=some cs'→us.size=cs.length→(∀ (j:Nat) (c:AV),cs[j]? = some c→Rep W0.heap M c (us.getD j undef)) →
   us.size=cs'.length∧∀ (j:Nat) (c:AV),cs'[j]? = some c→Rep w0.heap μ c (us.getD j undef):=by
  intro cs cs' us hl hs hh
  obtain ⟨h1,h2⟩:=X1S hl
  exact ⟨by omega,fun j c e=>let ⟨u,eu,fu⟩:=h2 j c e;vC u c _ fu (hh j u eu)⟩
 have vA:∀ c c' v,vw ks (Xd ks 0 R) c=some c'→Rep W0.heap M c v→Rep w0.heap μ c' v:=by
  intro c c' v e hrep
  cases c with
  | agg cs =>
   simp only [vw,Option.map_eq_some_iff] at e
   obtain ⟨cs',hl,rfl⟩:=e
   cases hrep with
   | agg _ us hz hh =>
    obtain ⟨g1,g2⟩:=vL cs cs' us hl hz hh
    exact .agg cs' us g1 g2
  | fn f cap =>
   simp only [vw,Option.map_eq_some_iff] at e
   obtain ⟨cs',hl,rfl⟩:=e
   cases hrep with
   | fn _ _ us hz hh =>
    obtain ⟨g1,g2⟩:=vL cap cs' us hl hz hh
    exact .fn f cs' us g1 g2
  | _=>refine vC _ _ _ ?_ hrep;exact e
 have pw:PW w0.heap μ args vs:=by
  obtain ⟨h1,h2⟩:=X1S hA
  exact ⟨by rw [hp.1,h1],fun j c e=>let ⟨u,eu,fu⟩:=h2 j c e;vA u c _ fu (hp.2 j u eu)⟩
 have hil:∀ i,i < rows.length→∃ k,ks[i]? = some k:=fun i hi=>⟨_,List.getElem?_eq_getElem (by omega)⟩
 have mem:Mem w0 μ rows W:=by
  refine ⟨⟨⟨rfl,rfl,rfl,by rw [hh0,X1j];exact Nat.le_refl _,fun k _ ho=>(X2C ho).symm,Nat.le_refl _⟩,fun i row e => ?_,fun i j p p' b e e' hb hb' => ?_,fun i p e => ?_,fun i p b e hb => ?_⟩,fun i hi => ?_,fun i e => ?_,fun i p e=>by cases e⟩
  ·obtain ⟨row0,e0,hv⟩:=hvg i row e
   have hi:i < ks.length:=by
    rw [← hpl]
    rcases Nat.lt_or_ge i RK.length with h | h
    ·exact h
    ·rw [List.getElem?_eq_none h] at e0;cases e0
   rw [hμ i _ (List.getElem?_eq_getElem hi)]
   rw [hpg i _ (List.getElem?_eq_getElem hi)] at e0
   have hrow:=hm.row _ row0 e0
   cases row0 with
   | vec t es l full =>
    simp only [X29,Option.some.injEq] at hv;subst hv
    cases hM:M ks[i] with
    | none=>rw [hM] at hrow;exact hrow.elim
    | some p =>
     rw [hM] at hrow
     rcases hrow with ⟨h1,h2,_⟩ | ⟨f0,f1,f2,f3,f4,_,f6⟩
     ·exact .inl ⟨h1,h2,rfl⟩
     ·exact .inr ⟨f0,f1,f2,f3,f4,(fun h=>by cases h),f6⟩
   | nest t ll full =>
    simp only [X29,Option.some.injEq] at hv;subst hv
    cases hM:M ks[i] with
    | none=>rw [hM] at hrow;exact hrow.elim
    | some p =>
     rw [hM] at hrow
     rcases hrow with h | ⟨f0,f1,f2,f3,_,f6⟩
     ·exact .inl h
     ·exact .inr ⟨f0,f1,f2,f3,(fun h=>by cases h),f6⟩
   | box t cs =>
    simp only [X29,Option.map_eq_some_iff] at hv
    obtain ⟨cs',hl,rfl⟩:=hv
    cases hM:M ks[i] with
    | none=>rw [hM] at hrow;exact hrow.elim
    | some p =>
     rw [hM] at hrow
     obtain ⟨f0,f1,f2,arr,f3,f4,f5⟩:=hrow
     obtain ⟨g1,g2⟩:=vL cs cs' arr hl f4 f5
     exact ⟨f0,by rw [f1,← f4,g1],f2,arr,f3,g1,g2⟩
   | _=>simp [X29] at hv
  ·obtain ⟨k,g1,g2⟩:=hμ0 i p e
   obtain ⟨k',g3,g4⟩:=hμ0 j p' e'
   have:=hm.sep k k' p p' b g2 g4 hb hb'
   subst this
   have hil:i < ks.length:=by
    rcases Nat.lt_or_ge i ks.length with h | h
    ·exact h
    ·rw [List.getElem?_eq_none h] at g1;cases g1
   have hjl:j < ks.length:=by
    rcases Nat.lt_or_ge j ks.length with h | h
    ·exact h
    ·rw [List.getElem?_eq_none h] at g3;cases g3
   rw [List.getElem?_eq_getElem hil] at g1
   rw [List.getElem?_eq_getElem hjl] at g3
   exact X2T hnd' hil hjl ((Option.some.inj g1).trans (Option.some.inj g3).symm)
  ·obtain ⟨k,g1,g2⟩:=hμ0 i p e
   exact hm.nodup k p g2
  ·obtain ⟨k,g1,g2⟩:=hμ0 i p e
   exact ⟨.inl ((hF b).2 ⟨k,List.mem_of_getElem? g1,p,g2,hb⟩),(hm.own k p b g2 hb).2⟩
  ·show (ks[i]?).bind M=none
   rw [List.getElem?_eq_none (by omega)];rfl
  ·obtain ⟨row0,e0,hv⟩:=hvg i _ e
   cases row0<;>simp [X29] at hv
 refine (h.2 w0 μ W vs mem pw).mono fun e w' ⟨v,μ',he,hsub,hm',hrep⟩ => ?_
 let M':Nat→Option FP:=fun q=>if q < R.length then M q else μ' (ks.length + (q - R.length))
 have hMo:∀ q,q < R.length→M' q=M q:=fun q hq=>if_pos hq
 have hMn:∀ q,R.length≤q→M' q=μ' (ks.length + (q - R.length)):=fun q hq=>if_neg (by omega)
 have hMsub:Sub M M':=fun q p e=>by
  have hq:q < R.length:=by
   rcases Nat.lt_or_ge q R.length with h | h
   ·exact h
   ·rw [hm.out q h] at e;cases e
  rw [hMo q hq];exact e
 have hsome:∀ i k,ks[i]? = some k→∃ p,M k=some p∧μ' i=some p:=fun i k e=>by
  have hi:i < rows.length:=by
   rw [hvl,hpl]
   rcases Nat.lt_or_ge i ks.length with h | h
   ·exact h
   ·rw [List.getElem?_eq_none h] at e;cases e
  have hrow:=mem.row i _ (List.getElem?_eq_getElem hi)
  cases hM:M k with
  | none =>
   rw [hμ i k e,hM] at hrow
   have hd:=mem.dead i
   cases hx:rows[i]<;>rw [hx] at hrow<;>try exact hrow.elim
   obtain ⟨row0,e0,hv⟩:=hvg i _ (by rw [List.getElem?_eq_getElem hi,hx])
   cases row0<;>simp [X29] at hv
  | some p=>exact ⟨p,rfl,hsub i p (by rw [hμ i k e];exact hM)⟩
 have hback:∀ i p,i < rows'.length→μ' i=some p→M' (X2a ks R.length i)=some p:=fun i p hi e=>by
  unfold X2a
  cases hk:ks[i]? with
  | some k =>
   obtain ⟨p2,g1,g2⟩:=hsome i k hk
   rw [hMo k (hkl i k hk),g1,← g2];exact e
  | none =>
   rw [List.getElem?_eq_none_iff] at hk
   show M' (R.length + (i - ks.length))=some p
   rw [hMn (R.length + (i - ks.length)) (by omega),← e];congr 1;omega
 have hnewF:∀ q p b,R.length≤q→M' q=some p→b∈p.blks→W.heap.size≤b∧b < w'.heap.size:=fun q p b hq e hb=>by
  rw [hMn q hq] at e
  obtain ⟨g1,g2⟩:=hm'.own _ p b e hb
  refine ⟨?_,g2⟩
  rcases g1 with g1 | g1
  ·exfalso
   obtain ⟨k,hk,p2,hMk,hb2⟩:=(hF b).1 g1
   obtain ⟨i,hi,rfl⟩:=List.getElem_of_mem hk
   obtain ⟨p3,f1,f2⟩:=hsome i _ (List.getElem?_eq_getElem hi)
   rw [hMk] at f1;cases f1
   have:=hm'.sep _ _ p p2 b e f2 hb hb2
   omega
  ·rw [hh0,X1j] at g1;exact g1
 have hsz:W.heap.size≤w'.heap.size:=by have:=hm'.bel.size;rw [hh0,X1j] at this;exact this
 have hblk:∀ b,b < W.heap.size→b ∉ F→w'.heap[b]? = W.heap[b]? := fun b hb hn=>by
  rw [hm'.bel.block b (by rw [hh0,X1j];exact hb) hn,hh0,X2C hn]
 refine ⟨v,M',he,hMsub,⟨⟨hm.bel.step hm'.bel.os hm'.bel.tape hm'.bel.output hsz hm'.bel.drawn fun k hk ho=>hblk k (Nat.lt_of_lt_of_le hk hm.bel.size) fun hkF => ?_,fun q row e => ?_,fun q q' p p' b e e' hb hb' => ?_,fun q p e => ?_,fun q p b e hb => ?_⟩,fun q hq => ?_,fun q e => ?_,hm.pin.trans hMsub⟩,X7y hback hr hrep⟩
 ·rcases (hFm k hkF).1 with h | h
  ·exact ho h
  ·omega
 ·rw [List.all_eq_true] at hok
  rcases X2e _ _ _ _ _ _ _ e with ⟨h1,⟨j,x,h2,h3,rfl⟩ | ⟨h2,h3⟩⟩ | ⟨h1,x,h2,rfl⟩
  ·rw [Nat.zero_add] at h2
   have hkj:=Xq h2
   obtain ⟨p,g1,g2⟩:=hsome j q hkj
   rw [hMo q h1,g1,← g2]
   exact X5b hback (hok x (List.mem_of_getElem? h3)) (hm'.row j x h3)
  ·have hqk:q ∉ ks:=by
    rcases h2 with h2 | ⟨j,h2,h4⟩
    ·rw [Nat.zero_add] at h2;exact hidx q h2
    ·rw [Nat.zero_add] at h2
     have hkj:=Xq h2
     have:j < ks.length:=by
      rcases Nat.lt_or_ge j ks.length with h | h
      ·exact h
      ·rw [List.getElem?_eq_none h] at hkj;cases hkj
     rw [List.getElem?_eq_none_iff] at h4
     omega
   rw [hMo q h1]
   exact ((hm.row q row h3).mono hMsub).heap fun p hp' b hb=>hblk b (hm.own q p b hp' hb).2 (hFo q p b hqk hp' hb)
  ·rw [hMn q h1]
   exact X5b hback (hok x (List.mem_of_getElem? h2)) (hm'.row _ x h2)
 ·rcases Nat.lt_or_ge q R.length with hq | hq<;>rcases Nat.lt_or_ge q' R.length with hq' | hq'
  ·rw [hMo q hq] at e;rw [hMo q' hq'] at e'
   exact hm.sep q q' p p' b e e' hb hb'
  ·rw [hMo q hq] at e
   have h1:=(hm.own q p b e hb).2
   have h2:=hnewF q' p' b hq' e' hb'
   omega
  ·rw [hMo q' hq'] at e'
   have h1:=(hm.own q' p' b e' hb').2
   have h2:=hnewF q p b hq e hb
   omega
  ·rw [hMn q hq] at e;rw [hMn q' hq'] at e'
   have:=hm'.sep _ _ p p' b e e' hb hb'
   omega
 ·rcases Nat.lt_or_ge q R.length with hq | hq
  ·rw [hMo q hq] at e;exact hm.nodup q p e
  ·rw [hMn q hq] at e;exact hm'.nodup _ p e
 ·rcases Nat.lt_or_ge q R.length with hq | hq
  ·rw [hMo q hq] at e
   have:=hm.own q p b e hb
   exact ⟨this.1,by omega⟩
  ·have:=hnewF q p b hq e hb
   have:=hm.bel.size
   exact ⟨.inr (by omega),by omega⟩
 ·rw [X2l] at hq
  rw [hMn q (by omega)]
  exact hm'.out _ (by omega)
 ·rw [List.all_eq_true] at hok
  rcases X2e _ _ _ _ _ _ _ e with ⟨h1,⟨j,x,h2,h3,h4⟩ | ⟨h2,h3⟩⟩ | ⟨h1,x,h2,h4⟩
  ·have:=hok x (List.mem_of_getElem? h3)
   cases x<;>simp [X2D] at h4
   simp [XA] at this
  ·rw [hMo q h1];exact hm.dead q h3
  ·have:=hok x (List.mem_of_getElem? h2)
   cases x<;>simp [X2D] at h4
   simp [XA] at this
end Go.Ab
