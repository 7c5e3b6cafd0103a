/- A nil slice as a row without a place; rows renamed where code joins; functions and loops with these. -/
import Derived.Test.YtiddhiepmakopaaA26
set_option linter.unusedVariables false
set_option linter.unusedSimpArgs false
namespace Go.Ab
open Go.RowKit
theorem Mem.repl {w0:Old0} {w:World} {μ:Nat→Option FP} {rows:List Row} (h:Mem w0 μ rows w) {r:Nat} {row':Row} (hrow:X4 w0.heap μ w.heap (μ r) row') (hd:X1l row'=false):Mem w0 μ (rows.set r row') w:=by
 refine ⟨⟨h.bel,fun q row e => ?_,h.sep,h.nodup,h.own⟩,fun q hq=>h.out q (by simpa using hq),fun q e => ?_,h.pin⟩
 ·by_cases hqr:r=q
  ·subst hqr
   rw [List.getElem?_set_self'] at e
   cases hx:rows[r]? with
   | none=>rw [hx] at e;simp at e
   | some y =>
    rw [hx] at e
    have:row=row':=by simpa using e.symm
    subst this;exact hrow
  ·rw [List.getElem?_set_ne hqr] at e;exact h.row q row e
 ·by_cases hqr:r=q
  ·subst hqr
   rw [List.getElem?_set_self'] at e
   cases hx:rows[r]? with
   | none=>rw [hx] at e;simp at e
   | some y=>rw [hx] at e;simp at e;subst e;simp [X1l] at hd
  ·rw [List.getElem?_set_ne hqr] at e;exact h.dead q e
inductive NPos where
 | tm (t:Nat)
 | tmc (t j:Nat)
 | row (r j:Nat)
def X2m:Row→Bool
 | .vec _ _ [] false=>true
 | .nest _ [] false=>true
 | _=>false
def nil1 (st:St) (p:NPos) (row:Row):Option St :=
 match X2m row,p with
 | true, .tm t=>match st.tm[t]? with
  | some .nils=>some ⟨st.tm.set t (.own st.rows.length),st.rows ++ [row]⟩
  | _=>none
 | true, .tmc t j=>match st.tm[t]? with
  | some (.agg cs)=>match cs[j]? with
   | some .nils=>some ⟨st.tm.set t (.agg (cs.set j (.own st.rows.length))),st.rows ++ [row]⟩
   | _=>none
  | _=>none
 | true, .row r j=>match st.rows[r]? with
  | some (.box ty cs)=>match cs[j]? with
   | some .nils=>some ⟨st.tm,(st.rows ++ [row]).set r (.box ty (cs.set j (.own st.rows.length)))⟩
   | _=>none
  | _=>none
 | _,_=>none
def X1H:List (NPos × Row)→St→Option St
 | [],st=>some st
 | (p,row) :: ps,st=>match nil1 st p row with
  | some st'=>X1H ps st'
  | none=>none
theorem X61 {w0:Old0} {st st':St} {a:Act} {w:World} {p:NPos} {row:Row} (h:nil1 st p row=some st') (hr:Rel w0 st a w):Rel w0 st' a w:=by
 obtain ⟨μ,hr⟩:=hr
 let fp:FP:=⟨0,0,0,0,[],true⟩
 have hnone:=hr.mem.out st.rows.length (Nat.le_refl _)
 have hsub:Sub μ (setμ μ st.rows.length fp):=X4z hnone
 have hval:fp.val = .slice none 0 0:=rfl
 have hown:∀ v,Rep w0.heap μ .nils v→Rep w0.heap (setμ μ st.rows.length fp) (.own st.rows.length) v:=fun v hv=>by
  cases hv;exact .own st.rows.length fp (by simp [setμ])
 unfold nil1 at h
 cases hn:X2m row with
 | false=>rw [hn] at h;cases h
 | true =>
  rw [hn] at h
  have hrow:∀ H heap,X4 H (setμ μ st.rows.length fp) heap (some fp) row:=by
   intro H heap
   cases row with
   | vec t es l full=>cases l<;>cases full<;>simp [X2m] at hn;exact .inl ⟨rfl,rfl,rfl⟩
   | nest t l full=>cases l<;>cases full<;>simp [X2m] at hn;exact .inl ⟨rfl,rfl,rfl⟩
   | _=>simp [X2m] at hn
  have hdead:X1l row=false:=by cases row<;>simp [X2m] at hn<;>rfl
  have hgrow:Grow w0.heap μ (setμ μ st.rows.length fp) st.rows.length [row] w.heap.size w.heap:=by
   have one:∀ r q,st.rows.length≤r→r < st.rows.length + [row].length→setμ μ st.rows.length fp r=some q→q=fp:=fun r q h1 h2 e=>by
    have:r=st.rows.length:=by simp at h2;omega
    subst this;simp [setμ] at e;exact e.symm
   refine ⟨fun i e => ?_,fun r h => ?_,fun i row' e => ?_,fun r r' p p' b h1 h2 h3 h4 => ?_,fun r q h1 h2 e => ?_,fun r q b h1 h2 e hm => ?_⟩
   ·cases i with
    | zero=>simp at e;subst e;simp [X1l] at hdead
    | succ i=>simp at e
   ·unfold setμ;rw [if_neg (by simp at h;omega)]
   ·cases i with
    | zero=>simp at e;subst e;simpa [setμ] using hrow w0.heap w.heap
    | succ i=>simp at e
   ·simp at h2 h4;omega
   ·rw [one r q h1 h2 e];exact List.nodup_nil
   ·rw [one r q h1 h2 e] at hm;cases hm
  have hm1:=hr.mem.grow (Bw.refl _ w) hgrow (Nat.le_refl _) (fun r h1 _=>hr.mem.out r h1)
  rw [X2Y] at hm1
  have htm:∀ t v,st.tm[t]? = some v→Rep w0.heap (setμ μ st.rows.length fp) v (a.tmps.getD t undef):=fun t v e=>(hr.tmps t v e).mono hsub
  have hset:∀ (t:Nat) (v:AV),Rep w0.heap (setμ μ st.rows.length fp) v (a.tmps.getD t undef)→Rel w0 ⟨st.tm.set t v,st.rows ++ [row]⟩ a w:=fun t v hv =>
   ⟨_,hr.defers,by simpa using hr.size,fun s u e=>by
    simp only at e
    by_cases hts:t=s
    ·subst hts
     rw [List.getElem?_set_self'] at e
     cases hx:st.tm[t]? with
     | none=>rw [hx] at e;simp at e
     | some y=>rw [hx] at e;simp at e;subst e;exact hv
    ·rw [List.getElem?_set_ne hts] at e;exact htm s u e,hm1⟩
  cases p with
  | tm t =>
   simp only at h
   split at h
   ·rename_i ht
    simp only [Option.some.injEq] at h;subst h
    exact hset t _ (hown _ (hr.tmps t _ ht))
   ·cases h
  | tmc t j =>
   simp only at h
   split at h
   ·rename_i cs ht
    split at h
    ·rename_i hj
     simp only [Option.some.injEq] at h;subst h
     refine hset t _ ?_
     have hrep:=hr.tmps t _ ht
     generalize a.tmps.getD t undef=x at hrep
     cases hrep with
     | agg _ vs hz hh =>
      refine .agg _ vs (by simpa using hz) fun i c e => ?_
      by_cases hji:j=i
      ·subst hji
       rw [List.getElem?_set_self'] at e
       rw [hj] at e
       simp at e;subst e
       exact hown _ (hh j _ hj)
      ·rw [List.getElem?_set_ne hji] at e;exact (hh i c e).mono hsub
    ·cases h
   ·cases h
  | row r j =>
   simp only at h
   split at h
   ·rename_i ty cs hrr
    split at h
    ·rename_i hj
     simp only [Option.some.injEq] at h;subst h
     refine ⟨_,hr.defers,hr.size,htm,hm1.repl ?_ rfl⟩
     have hrlt:r < st.rows.length:=by
      rcases Nat.lt_or_ge r st.rows.length with h | h
      ·exact h
      ·rw [List.getElem?_eq_none h] at hrr;cases hrr
     have hok:=hm1.row r (.box ty cs) (by rw [List.getElem?_append_left hrlt];exact hrr)
     have hok0:=hr.mem.row r _ hrr
     have hμr:setμ μ st.rows.length fp r=μ r:=by unfold setμ;rw [if_neg (by omega)]
     rw [hμr] at hok ⊢
     cases hq:μ r with
     | none=>rw [hq] at hok;exact hok.elim
     | some q =>
      rw [hq] at hok hok0
      obtain ⟨e0,e1,e2,arr,e3,e4,e5⟩:=hok
      obtain ⟨f0,f1,f2,arr',f3,f4,f5⟩:=hok0
      have harr:arr'=arr:=by rw [e3] at f3;cases f3;rfl
      subst harr
      refine ⟨e0,by simpa using e1,e2,arr',e3,by simpa using e4,fun i c e => ?_⟩
      by_cases hji:j=i
      ·subst hji
       rw [List.getElem?_set_self'] at e
       rw [hj] at e
       simp at e;subst e
       exact hown _ (f5 j _ hj)
      ·rw [List.getElem?_set_ne hji] at e;exact e5 i c e
    ·cases h
   ·cases h
theorem X10 {w0:Old0} {a:Act} {w:World}:∀ {ps:List (NPos × Row)} {st st':St},X1H ps st=some st'→Rel w0 st a w→Rel w0 st' a w
 | [],st,st',h,hr=>by simp [X1H] at h;subst h;exact hr
 | (p,row) :: ps,st,st',h,hr=>by
  simp only [X1H] at h
  split at h
  ·rename_i st1 h1
   exact X10 h (X61 h1 hr)
  ·cases h
/- rows renamed -/
def rnF (ks:List Nat):AV→AV
 | .own r=>match idx ks r with
  | some i => .own i
  | none => .any
 | .ptr r j o=>match idx ks r with
  | some i => .ptr i j o
  | none => .any
 | .inn r j=>match idx ks r with
  | some i => .inn i j
  | none => .any
 | .ipt r j k=>match idx ks r with
  | some i => .ipt i j k
  | none => .any
 | .mp r=>match idx ks r with
  | some i => .mp i
  | none => .any
 | .agg _ | .tup _ | .fn _ _ | .bx _ _ => .any
 | v=>v
def rnC (ks:List Nat):AV→AV
 | .agg cs => .agg (cs.map (rnF ks))
 | v=>rnF ks v
def rn (ks:List Nat):AV→AV
 | .tup vs => .tup (vs.map (rnC ks))
 | .fn g cap => .fn g (cap.map (rnF ks))
 | v=>rnC ks v
def X1C (ks:List Nat):Row→Row
 | .box t cs => .box t (cs.map (rn ks))
 | .lits t cs => .lits t (cs.map (rn ks))
 | .vec t es l _ => .vec t es l false
 | .nest t ll _ => .nest t ll false
 | .mapN t kv h => .mapN t kv h
 | .dead => .dead
section
variable {H:Array Obj} {μ μ':Nat→Option FP} {ks:List Nat}
theorem X3O (hs:∀ (i k:Nat),ks[i]? = some k→μ' i=μ k) {c:AV} {v:Value} (h:Rep H μ c v):Rep H μ' (rnF ks c) v:=by
 cases h with
 | any v=>exact .any v
 | b x=>exact .b x
 | i k n=>exact .i k n
 | f k x bits h e=>exact .f k x bits h e
 | nils=>exact .nils
 | slE a c=>exact .slE a c
 | sl l es bl off c val h h1 h2=>exact .sl l es bl off c val h h1 h2
 | ref cs off bl base val h h2=>exact .ref cs off bl base val h h2
 | own r p h =>
  simp only [rnF]
  split
  ·rename_i i hi;exact .own i p (by rw [hs i r (Xq hi)];exact h)
  ·exact .any _
 | ptr r idx off p h =>
  simp only [rnF]
  split
  ·rename_i i hi;exact .ptr i idx off p (by rw [hs i r (Xq hi)];exact h)
  ·exact .any _
 | inn r j p ib h hb =>
  simp only [rnF]
  split
  ·rename_i i hi;exact .inn i j p ib (by rw [hs i r (Xq hi)];exact h) hb
  ·exact .any _
 | ipt r j k p b n c h hb =>
  simp only [rnF]
  split
  ·rename_i i hi;exact .ipt i j k p b n c (by rw [hs i r (Xq hi)];exact h) hb
  ·exact .any _
 | mp r p h hz =>
  simp only [rnF]
  split
  ·rename_i i hi;exact .mp i p (by rw [hs i r (Xq hi)];exact h) hz
  ·exact .any _
 | bx=>exact .any _
 | agg=>exact .any _
 | tup=>exact .any _
 | fn=>exact .any _
theorem X5z (hs:∀ (i k:Nat),ks[i]? = some k→μ' i=μ k) {c:AV} {v:Value} (h:Rep H μ c v):Rep H μ' (rnC ks c) v:=by
 cases c with
 | agg cs =>
  cases h with | agg _ vs hz hh =>
  refine .agg _ vs (by simpa using hz) fun j c e => ?_
  rw [List.getElem?_map,Option.map_eq_some_iff] at e
  obtain ⟨c0,e0,rfl⟩:=e
  exact X3O hs (hh j c0 e0)
 | _=>exact X3O hs h
theorem X5c (hs:∀ (i k:Nat),ks[i]? = some k→μ' i=μ k) {c:AV} {v:Value} (h:Rep H μ c v):Rep H μ' (rn ks c) v:=by
 cases c with
 | tup cs =>
  cases h with | tup _ vs hz hh =>
  refine .tup _ vs (by simpa using hz) fun j c e => ?_
  rw [List.getElem?_map,Option.map_eq_some_iff] at e
  obtain ⟨c0,e0,rfl⟩:=e
  exact X5z hs (hh j c0 e0)
 | fn g cap =>
  cases h with | fn _ _ vs hz hh =>
  refine .fn g _ vs (by simpa using hz) fun j c e => ?_
  rw [List.getElem?_map,Option.map_eq_some_iff] at e
  obtain ⟨c0,e0,rfl⟩:=e
  exact X3O hs (hh j c0 e0)
 | _=>exact X5z hs h
theorem X6L (hs:∀ (i k:Nat),ks[i]? = some k→μ' i=μ k) {heap:Array Obj} {p:Option FP} {row:Row} (h:X4 H μ heap p row):X4 H μ' heap p (X1C ks row):=by
 cases row with
 | box t cs =>
  cases p with
  | none=>exact h.elim
  | some p =>
   obtain ⟨ez,e1,e2,arr,e3,e4,e5⟩:=h
   refine ⟨ez,by simpa [X1C] using e1,e2,arr,e3,by simpa [X1C] using e4,fun j c e => ?_⟩
   rw [List.getElem?_map,Option.map_eq_some_iff] at e
   obtain ⟨c0,e0,rfl⟩:=e
   exact X5c hs (e5 j c0 e0)
 | lits t cs =>
  cases p with
  | none=>exact h.elim
  | some p =>
   obtain ⟨ez,e1,e2,e2',e2'',arr,e3,e4,e5⟩:=h
   refine ⟨ez,e1,e2,by simpa [X1C] using e2',by simpa [X1C] using e2'',arr,e3,by simpa [X1C] using e4,fun j c e => ?_⟩
   rw [List.getElem?_map,Option.map_eq_some_iff] at e
   obtain ⟨c0,e0,rfl⟩:=e
   exact X5c hs (e5 j c0 e0)
 | vec t es l full =>
  cases p with
  | none=>exact h.elim
  | some p =>
   rcases h with ⟨h1,h2,_⟩ | ⟨ez,e1,e2,e3,e4,_,e6⟩
   ·exact .inl ⟨h1,h2,rfl⟩
   ·exact .inr ⟨ez,e1,e2,e3,e4,(fun h=>by cases h),e6⟩
 | nest t ll full =>
  cases p with
  | none=>exact h.elim
  | some p =>
   rcases h with h | ⟨ez,e1,e2,e3,_,e6⟩
   ·exact .inl h
   ·exact .inr ⟨ez,e1,e2,e3,(fun h=>by cases h),e6⟩
 | mapN=>cases p<;>exact h
 | dead=>cases p<;>exact trivial
end
def X3P (np:Nat) (mask:List Bool) (ks:List Nat) (st:St):Option St :=
 match XV (X8 0 np ++ ks),XZ st.rows (X8 0 np ++ ks) with
 | true,some rs=>some ⟨(XD mask st.tm).map (rn (X8 0 np ++ ks)),rs.map (X1C (X8 0 np ++ ks))⟩
 | _,_=>none
theorem Rel.forgetK {w0:Old0} {st st':St} {a:Act} {w:World} {np:Nat} {mask:List Bool} {ks:List Nat} (hn:w0.np≤np) (he:X3P np mask ks st=some st') (h:Rel w0 st a w):Rel w0 st' a w:=by
 obtain ⟨μ,h⟩:=h
 unfold Ab.X3P at he
 generalize hks:X8 0 np ++ ks=qs at he
 split at he
 ·rename_i rs hnd hpick
  simp only [Option.some.injEq] at he;subst he
  obtain ⟨hpl,hpg⟩:=X1u hpick
  have hnd:=XO hnd
  let μ':Nat→Option FP:=fun i=>(qs[i]?).bind μ
  have hs:∀ i k,qs[i]? = some k→μ' i=μ k:=fun i k e=>by show (qs[i]?).bind μ=μ k;rw [e];rfl
  have hμ0:∀ i p,μ' i=some p→∃ k,qs[i]? = some k∧μ k=some p:=by
   intro i p e
   cases hk:qs[i]? with
   | none =>
    have e2:(qs[i]?).bind μ=some p:=e
    rw [hk] at e2;cases e2
   | some k=>exact ⟨k,rfl,by rw [← hs i k hk];exact e⟩
  have hlt:∀ i k,qs[i]? = some k→i < qs.length:=fun i k e=>by
   rcases Nat.lt_or_ge i qs.length with h | h
   ·exact h
   ·rw [List.getElem?_eq_none h] at e;cases e
  have hrow:∀ i row,(rs.map (X1C qs))[i]? = some row→∃ k row0,qs[i]? = some k∧st.rows[k]? = some row0∧row=X1C qs row0:=fun i row e=>by
   rw [List.getElem?_map,Option.map_eq_some_iff] at e
   obtain ⟨row0,e0,rfl⟩:=e
   have hil:i < qs.length:=by
    rw [← hpl]
    rcases Nat.lt_or_ge i rs.length with h | h
    ·exact h
    ·rw [List.getElem?_eq_none h] at e0;cases e0
   exact ⟨qs[i],row0,List.getElem?_eq_getElem hil,by rw [← hpg i _ (List.getElem?_eq_getElem hil)];exact e0,rfl⟩
  refine ⟨μ',h.defers,by simp [X1p,h.size],fun t v e => ?_,⟨⟨h.mem.bel,fun i row e => ?_,fun i j p p' b e e' hb hb' => ?_,fun i p e => ?_,fun i p b e hb => ?_⟩,fun i hi => ?_,fun i e => ?_,fun r p e => ?_⟩⟩
  ·simp only [List.getElem?_map,Option.map_eq_some_iff] at e
   obtain ⟨v0,e0,rfl⟩:=e
   rcases X26 _ _ _ _ e0 with rfl | e1
   ·exact .any _
   ·exact X5c hs (h.tmps t v0 e1)
  ·obtain ⟨k,row0,e1,e2,rfl⟩:=hrow i row e
   rw [hs i k e1]
   exact X6L hs (h.mem.row k row0 e2)
  ·obtain ⟨k,g1,g2⟩:=hμ0 i p e
   obtain ⟨k',g3,g4⟩:=hμ0 j p' e'
   have:=h.mem.sep k k' p p' b g2 g4 hb hb'
   subst this
   have hil:=hlt i k g1
   have hjl:=hlt j k g3
   rw [List.getElem?_eq_getElem hil] at g1
   rw [List.getElem?_eq_getElem hjl] at g3
   exact X2T hnd hil hjl ((Option.some.inj g1).trans (Option.some.inj g3).symm)
  ·obtain ⟨k,g1,g2⟩:=hμ0 i p e
   exact h.mem.nodup k p g2
  ·obtain ⟨k,g1,g2⟩:=hμ0 i p e
   exact h.mem.own k p b g2 hb
  ·show (qs[i]?).bind μ=none
   simp only [List.length_map,hpl] at hi
   rw [List.getElem?_eq_none hi];rfl
  ·obtain ⟨k,row0,e1,e2,e3⟩:=hrow i _ e
   rw [hs i k e1]
   refine h.mem.dead k ?_
   cases row0<;>simp [X1C] at e3
   exact e2
  ·have hrn:=w0.pinLt r p e
   have:qs[r]? = some r:=by
    rw [← hks,List.getElem?_append_left (by rw [X1J];omega),X2B _ _ _ (by omega),Nat.zero_add]
   rw [hs r r this]
   exact h.mem.pin r p e
 ·cases he
theorem Lp.nil {P:Program} {N:Nat} {body:Code} {st st2 st':St} {e:Ex} {ps:List (NPos × Row)} (h:X1H ps st=some st2) (k:Lp P N body st2 e st'):Lp P N body st e st':=by
 obtain ⟨m,k⟩:=k
 exact ⟨m,fun w0 hp a w Q hr hQ=>k w0 hp a w Q (X10 h hr) hQ⟩
theorem Lp.pick {P:Program} {N:Nat} {body:Code} {st st2 st':St} {e:Ex} {mask:List Bool} {ks:List Nat} (h:X3P N mask ks st=some st2) (k:Lp P N body st2 e st'):Lp P N body st e st':=by
 obtain ⟨m,k⟩:=k
 exact ⟨m,fun w0 hp a w Q hr hQ=>k w0 hp a w Q (hr.forgetK hp h) hQ⟩
def X1Q (P:Program) (E:Env) (body:Code) (st:St) (ans:List Ans) (ps:List (NPos × Row)) (mask:List Bool) (ks:List Nat):Option (Ex × St × List Prop) :=
 match evc P E body st ans with
 | some (e,st',[],C)=>match X1H ps st' with
  | some st''=>match X3P E.np mask ks st'' with
   | some st3=>some (e,st3,C)
   | none=>none
  | none=>none
 | _=>none
theorem X62 {P:Program} {E:Env} (hE:EOk P E) (hm:P.follows .mixedOrders=true) {body:Code} {st st2 st3 st':St} {ans:List Ans} {ps:List (NPos × Row)} {mask:List Bool} {ks:List Nat} {e:Ex} {C:List Prop}
  (h:X1Q P E body st ans ps mask ks=some (.norm,st2,C)) (hC:All C) (hs:st2=st3) (k:Lp P E.np body st3 e st'):Lp P E.np body st e st':=by
 unfold X1Q at h
 split at h
 ·rename_i e1 st1 C1 hev
  split at h
  ·rename_i st4 h4
   split at h
   ·rename_i st5 h5
    simp only [Option.some.injEq,Prod.mk.injEq] at h
    obtain ⟨rfl,rfl,rfl⟩:=h
    subst hs
    obtain ⟨m,k⟩:=k
    refine ⟨m + 1,fun w0 hp a w Q hr hQ => ?_⟩
    rw [rounds_succ]
    exact X2S hE hm body hev hC w0 hp a w _ hr fun a' w' hr'=>k w0 hp a' w' Q ((X10 h4 hr').forgetK hp h5) hQ
   ·cases h
  ·cases h
 ·cases h
theorem X6p {P:Program} {E:Env} (hE:EOk P E) (hm:P.follows .mixedOrders=true) {body:Code} {st st2 st3:St} {ans:List Ans} {ps:List (NPos × Row)} {mask:List Bool} {ks:List Nat} {e:Ex} {C:List Prop}
  (h:X1Q P E body st ans ps mask ks=some (e,st2,C)) (hC:All C) (he:e ≠ .norm) (hs:st2=st3):Lp P E.np body st e st3:=by
 unfold X1Q at h
 split at h
 ·rename_i e1 st1 C1 hev
  split at h
  ·rename_i st4 h4
   split at h
   ·rename_i st5 h5
    simp only [Option.some.injEq,Prod.mk.injEq] at h
    obtain ⟨rfl,rfl,rfl⟩:=h
    subst hs
    refine ⟨1,fun w0 hp a w Q hr hQ => ?_⟩
    rw [rounds_succ]
    refine X2S hE hm body hev hC w0 hp a w _ hr fun a' w' hr' => ?_
    have:=hQ a' w' ((X10 h4 hr').forgetK hp h5)
    cases e1 with
    | norm=>exact absurd rfl he
    | exit id=>exact this
    | ret=>exact this
   ·cases h
  ·cases h
 ·cases h
end Go.Ab
