/- Maps by pairs of numbers to slices: a slice put back; the operations. -/
import Derived.Test.YtoibkmljibnjnaaA11k
set_option linter.unusedVariables false
set_option linter.unusedSimpArgs false
namespace Go.Ab
open Go.RowKit
theorem XV {P:Program} {w:World} {r:Nat} {es:Array MapEntry} {clock:Nat} (hb:w.heap[r]? = some (.map es clock)):(getObj r).run P w = .ok (.map es clock) w:=by
 simp [getObj,Sem.run,hb]
theorem X2h {P:Program} {w:World} {r:Nat} {es:Array MapEntry} {clock:Nat} (o:Obj) (hb:w.heap[r]? = some (.map es clock)):(setObj r o).run P w = .ok () { w with heap:=w.heap.setIfInBounds r o }:=by
 simp [setObj,Sem.run,hb]
def X8i (np:Nat) (st:St) (r j q:Nat):Option (St × List Prop) :=
 match st.rows[r]?,st.rows[q]? with
 | some (.mapN t kv hole),some (.vec t' es l _)=>match Nat.beq t t' && Nat.beq es 1 && !(Nat.beq r q) && Nat.ble np r && Nat.ble np q with
  | true=>some (⟨st.tm.map (scM q),((st.rows.map (Xi q)).set q .dead).set r (.mapN t (kv.set j ((kv.getD j default).1,l)) none)⟩,[j < kv.length,∀ i,hole=some i→i=j])
  | false=>none
 | _,_=>none
theorem X7O {w0:Old0} {w:World} {μ:Nat→Option FP} {st st1:St} {a:Act} (hr:RelM w0 μ st a w) {np r j q:Nat} (hnp:w0.np≤np) {C:List Prop} {p pq:FP}
  (hp:μ r=some p) (hpq:μ q=some pq) (h:X8i np st r j q=some (st1,C)) (hC:All C) :
  ∃ (es:Array MapEntry) (n:Nat),w.heap[p.blk]? = some (.map es n)∧es.size=n∧j < n∧(∀ (i:Nat) (e:MapEntry),es[i]? = some e→e.born=i)∧∃ μ',RelM w0 μ' st1 a { w with heap:=w.heap.setIfInBounds p.blk (.map (es.modify j fun e => { e with val:=pq.val }) n) }:=by
 unfold X8i at h
 split at h
 ·rename_i t kv hole t' e1' l fl hrr hrq
  split at h
  ·rename_i hb
   simp only [Bool.and_eq_true,Nat.beq_eq,Nat.ble_eq,Bool.not_eq_true'] at hb
   obtain ⟨⟨⟨⟨rfl,rfl⟩,hne⟩,hnr⟩,hnq⟩:=hb
   have hne:r≠q:=Nat.ne_of_beq_eq_false hne
   simp only [Option.some.injEq,Prod.mk.injEq] at h
   obtain ⟨rfl,rfl⟩:=h
   obtain ⟨hj,hhole,_⟩:=hC
   have hok:=hr.mem.row r _ hrr
   have hokq:=hr.mem.row q _ hrq
   rw [hp] at hok
   rw [hpq] at hokq
   obtain ⟨hz,h1,h2,es,h3,h4,h5⟩:=hok
   have hinl:j < p.inn.length:=by omega
   refine ⟨es,kv.length,h3,h4,hj,fun i e he => ?_,?_⟩
   ·have hi:i < kv.length:=by
     rcases Nat.lt_or_ge i es.size with h | h
     ·omega
     ·rw [Array.getElem?_eq_none h] at he;cases he
    obtain ⟨e',g1,g2,_⟩:=h5 i _ (List.getElem?_eq_getElem hi)
    rw [g1] at he;cases he;exact g2
   let p':FP:={ p with inn:=p.inn.set j pq.inv }
   have hpz:p'.nul=false:=hz
   have hib':p'.ib=p.ib.set j (pq.inv.map (·.1)):=by simp [p',FP.ib,List.map_set]
   let μ':Nat→Option FP:=fun i=>if i=q then none else if i=r then some p' else μ i
   have hμq:μ' q=none:=if_pos rfl
   have hμr:μ' r=some p':=by show (if r=q then _ else _)=_;rw [if_neg hne,if_pos rfl]
   have hμo:∀ i,i≠q→i≠r→μ' i=μ i:=fun i h1 h2=>by show (if i=q then _ else _)=_;rw [if_neg h1,if_neg h2]
   have hal:X16 q μ μ':=by
    intro i pi hi e
    by_cases hir:i=r
    ·subst hir
     rw [hp] at e;cases e
     exact ⟨p',hμr,rfl,rfl,rfl,rfl,rfl⟩
    ·exact ⟨pi,by rw [hμo i hi hir];exact e,rfl,rfl,rfl,rfl,rfl⟩
   have hblks':∀ b,b∈p'.blks→b∈p.blks∨b∈pq.blks:=by
    intro b hb
    rw [FP.blks_of hpz] at hb
    rcases List.mem_cons.1 hb with rfl | hb
    ·exact .inl (FP.mem_blk hz)
    ·obtain ⟨z,hz',hzb⟩:=List.mem_filterMap.1 hb
     simp only [id] at hzb;subst hzb
     rw [hib'] at hz'
     rcases List.mem_or_eq_of_mem_set hz' with h | h
     ·exact .inl (by rw [FP.blks_of hz];exact List.mem_cons_of_mem _ (List.mem_filterMap.2 ⟨_,h,rfl⟩))
     ·exact .inr (FP.inv_blk h.symm).1
   have hownr:=hr.mem.own r p p.blk hp (FP.mem_blk hz)
   have hpr_notq:∀ b,b∈pq.blks→b ∉ p.blks:=fun b hbq hb=>hne (hr.mem.sep r q p pq b hp hpq hb hbq)
   have hbl:p.blk < w.heap.size:=hownr.2
   have hother:∀ (o:Obj) b,b≠p.blk→(w.heap.setIfInBounds p.blk o)[b]? = w.heap[b]? := fun o b hb=>Array.getElem?_setIfInBounds_ne (fun e=>hb e.symm)
   have hself:∀ o:Obj,(w.heap.setIfInBounds p.blk o)[p.blk]? = some o:=fun o=>by rw [Array.getElem?_setIfInBounds_self,if_pos hbl]
   have hnd:=hr.mem.nodup r p hp
   rw [FP.blks_of hz] at hnd
   obtain ⟨hnd1,hnd2⟩:=List.nodup_cons.1 hnd
   have hget:∀ i row,(((st.rows.map (Xi q)).set q .dead).set r (.mapN t (kv.set j ((kv.getD j default).1,l)) none))[i]? = some row →
     (i=r∧row = .mapN t (kv.set j ((kv.getD j default).1,l)) none)∨(i=q∧i≠r∧row = .dead)∨(i≠r∧i≠q∧∃ row0,st.rows[i]? = some row0∧row=Xi q row0):=by
    intro i row e
    by_cases hir:r=i
    ·subst hir
     rw [List.getElem?_set_self'] at e
     left;refine ⟨rfl,?_⟩
     cases hh:((st.rows.map (Xi q)).set q .dead)[r]? with
     | none=>rw [hh] at e;simp at e
     | some y=>rw [hh] at e;simpa using e.symm
    ·rw [List.getElem?_set_ne hir] at e
     by_cases hiq:q=i
     ·subst hiq
      rw [List.getElem?_set_self'] at e
      right;left;refine ⟨rfl,fun x=>hir x.symm,?_⟩
      cases hh:(st.rows.map (Xi q))[q]? with
      | none=>rw [hh] at e;simp at e
      | some y=>rw [hh] at e;simpa using e.symm
     ·rw [List.getElem?_set_ne hiq,List.getElem?_map,Option.map_eq_some_iff] at e
      obtain ⟨row0,e1,e2⟩:=e
      exact .inr (.inr ⟨fun x=>hir x.symm,fun x=>hiq x.symm,row0,e1,e2.symm⟩)
   have hcase:∀ i pi b,μ' i=some pi→b∈pi.blks→(i≠q∧((μ i=some pi∧i≠r)∨(i=r∧pi=p'∧(b∈p.blks∨b∈pq.blks)))):=by
    intro i pi b e hm
    have hiq:i≠q:=fun h=>by subst h;rw [hμq] at e;cases e
    refine ⟨hiq,?_⟩
    by_cases hir:i=r
    ·subst hir
     rw [hμr] at e;cases e
     exact .inr ⟨rfl,rfl,hblks' b hm⟩
    ·rw [hμo i hiq hir] at e
     exact .inl ⟨e,hir⟩
   refine ⟨μ',hr.defers,by simpa using hr.size,fun s u hu => ?_,hr.mem.anew (hr.mem.bel.set hownr.1 rfl rfl rfl (by simp) (fun k hk=>hother _ k hk)) (by simp) (fun i pi b e hm => ?_) (fun i row e => ?_) (fun i i' pi pi' b e e' hm hm' => ?_) (fun i pi e => ?_) (fun i hi => ?_) (fun i e => ?_) (fun i pi e => ?_)⟩
   ·simp only [List.getElem?_map,Option.map_eq_some_iff] at hu
    obtain ⟨u0,e0,rfl⟩:=hu
    exact X2v hal (hr.tmps s u0 e0)
   ·obtain ⟨_,⟨h,_⟩ | ⟨_,_,h | h⟩⟩:=hcase i pi b e hm
    ·exact ⟨i,pi,h,hm⟩
    ·exact ⟨r,p,hp,h⟩
    ·exact ⟨q,pq,hpq,h⟩
   ·rcases hget i row e with ⟨rfl,rfl⟩ | ⟨rfl,_,rfl⟩ | ⟨h6,h7,row0,e1,rfl⟩
    ·rw [hμr]
     refine ⟨hpz,by simp [p',h1],by rw [X7V kv j l hj];exact h2,es.modify j fun e => { e with val:=pq.val },by rw [hself];simp,by simpa using h4,fun k x hk => ?_⟩
     by_cases hji:j=k
     ·subst hji
      rw [List.getElem?_set_self hj] at hk
      simp only [Option.some.injEq] at hk;subst hk
      obtain ⟨e,g1,g2,g3,_,_⟩:=h5 j _ (List.getElem?_eq_getElem hj)
      have hin:p'.inn.getD j none=pq.inv:=by
       simp only [p']
       rw [List.getD_eq_getElem?_getD,List.getElem?_set_self hinl];rfl
      refine ⟨{ e with val:=pq.val },by rw [Array.getElem?_modify,g1];simp,g2,?_,?_,fun _=>by rw [hin,FP.inv_val]⟩
      ·rw [g3,List.getD_eq_getElem?_getD,List.getElem?_eq_getElem hj];rfl
      ·rw [hin]
       have hI:=FP.inv_ok hokq (heap':=w.heap.setIfInBounds p.blk (.map (es.modify j fun e => { e with val:=pq.val }) kv.length)) fun b hb=>hother _ b fun e=>hpr_notq b hb (by rw [e];exact FP.mem_blk hz)
       unfold FP.inv
       rcases hokq with ⟨hz',rfl,_⟩ | ⟨hz',b1,b2,b3,b4,b5,arq,b6,b7,b8⟩
       ·rw [hz'];rfl
       ·rw [hz']
        exact ⟨b3,b4,arq,by rw [hother _ pq.blk (fun e=>hpr_notq _ (FP.mem_blk hz') (by rw [e];exact FP.mem_blk hz))];exact b6,by rw [b7,Nat.mul_one],b8⟩
     ·rw [List.getElem?_set_ne hji] at hk
      obtain ⟨e,g1,g2,g3,g4,g5⟩:=h5 k x hk
      have hin:p'.inn.getD k none=p.inn.getD k none:=by
       simp only [p']
       rw [List.getD_eq_getElem?_getD,List.getElem?_set_ne hji,← List.getD_eq_getElem?_getD]
      refine ⟨e,by rw [Array.getElem?_modify,if_neg hji];exact g1,g2,g3,?_,fun _=>by rw [hin];exact g5 fun h=>hji (hhole k h).symm⟩
      rw [hin]
      cases hib:p.inn.getD k none with
      | none=>rw [hib] at g4;exact g4
      | some bnc =>
       obtain ⟨b,n2,c2⟩:=bnc
       rw [hib] at g4
       obtain ⟨f1,f2,arr2,f3,f4,f5⟩:=g4
       have hbm:b∈p.ib.filterMap id:=by
        have hjl:k < p.inn.length:=by
         rcases Nat.lt_or_ge k p.inn.length with h | h
         ·exact h
         ·rw [List.getD_eq_getElem?_getD,List.getElem?_eq_none h] at hib;cases hib
        rw [List.getD_eq_getElem?_getD,List.getElem?_eq_getElem hjl,Option.getD_some] at hib
        exact List.mem_filterMap.2 ⟨some b,List.mem_map.2 ⟨_,hib ▸ List.getElem_mem hjl,rfl⟩,rfl⟩
       have hbne:b≠p.blk:=fun e=>hnd1 (e ▸ hbm)
       exact ⟨f1,f2,arr2,by rw [hother _ b hbne];exact f3,f4,f5⟩
    ·cases μ' i<;>exact trivial
    ·rw [hμo i h7 h6]
     refine X2R hal ((hr.mem.row i row0 e1).heap fun y hy b hb=>hother _ b fun e => ?_)
     subst e
     exact h6 (hr.mem.sep i r y p _ hy hp hb (FP.mem_blk hz))
   ·obtain ⟨iq,hi⟩:=hcase i pi b e hm
    obtain ⟨jq,hj⟩:=hcase i' pi' b e' hm'
    rcases hi with ⟨hi,hir⟩ | ⟨hi,rfl,hi'⟩<;>rcases hj with ⟨hj,hjr⟩ | ⟨hj,rfl,hj'⟩
    ·exact hr.mem.sep i i' pi pi' b hi hj hm hm'
    ·subst hj
     rcases hj' with hb | hb
     ·exact absurd (hr.mem.sep i i' pi p b hi hp hm hb) hir
     ·exact absurd (hr.mem.sep i q pi pq _ hi hpq hm hb) iq
    ·subst hi
     rcases hi' with hb | hb
     ·exact absurd (hr.mem.sep i i' p pi' b hp hj hb hm').symm hjr
     ·exact absurd (hr.mem.sep i' q pi' pq _ hj hpq hm' hb) jq
    ·rw [hi,hj]
   ·by_cases hiq:i=q
    ·subst hiq;rw [hμq] at e;cases e
    ·by_cases hir:i=r
     ·subst hir
      rw [hμr] at e;cases e
      rw [FP.blks_of hpz]
      refine List.nodup_cons.2 ⟨fun hb => ?_,?_⟩
      ·have hb2:p.blk∈p'.ib.filterMap id:=hb
       obtain ⟨z,hz',hzb⟩:=List.mem_filterMap.1 hb2
       simp only [id] at hzb;subst hzb
       rw [hib'] at hz'
       rcases List.mem_or_eq_of_mem_set hz' with h | h
       ·exact hnd1 (List.mem_filterMap.2 ⟨_,h,rfl⟩)
       ·exact hpr_notq _ (FP.inv_blk h.symm).1 (FP.mem_blk hz)
      ·rw [hib']
       refine X1q _ j _ hnd2 fun b h hm => ?_
       exact hpr_notq b (FP.inv_blk h).1 (by rw [FP.blks_of hz];exact List.mem_cons_of_mem _ hm)
     ·rw [hμo i hiq hir] at e;exact hr.mem.nodup i pi e
   ·simp at hi
    have hrl:r < st.rows.length:=by
     rcases Nat.lt_or_ge r st.rows.length with h | h
     ·exact h
     ·rw [List.getElem?_eq_none h] at hrr;cases hrr
    by_cases hiq:i=q
    ·subst hiq;exact hμq
    ·rw [hμo i hiq (by omega)];exact hr.mem.out i hi
   ·rcases hget i _ e with ⟨_,h⟩ | ⟨rfl,_,_⟩ | ⟨h6,h7,row0,e1,e2⟩
    ·cases h
    ·exact hμq
    ·rw [hμo i h7 h6]
     cases row0<;>simp [Xi] at e2
     exact hr.mem.dead i e1
   ·have hlt:=w0.pinLt i pi e
    rw [hμo i (by omega) (by omega)]
    exact hr.mem.pin i pi e
  ·cases h
 ·cases h
def X8j (T:TypeId→Option TD) (np:Nat) (st:St) (op:Op) (ans:List Ans):Option (St × Option AV × List Ans × List Prop) :=
 match op with
 | .makeMap t none=>match T t with
  | some d=>match d.kind with
   | .map e=>some (⟨st.tm,st.rows ++ [.mapN e [] none]⟩,some (.mp st.rows.length),ans,[])
   | _=>none
  | none=>none
 | .lookup t x k false=>match T t,opd st x,opd st k,ans with
  | some d, .mp r, .agg [.i .i64 a, .i .i64 b], .keep l :: ans=>match d.kind,st.rows[r]?,l with
   | .map e,some (.mapN _ kv none),[j]=>some (st,some (.inn r j),ans,[(kv.map (·.1))[j]? = some (a,b)])
   | .map e,some (.mapN _ kv none),[]=>some (st,some .nils,ans,[(a,b) ∉ kv.map (·.1)])
   | _,_,_=>none
  | _,_,_,_=>none
 | .mapEntry t x k=>match T t,opd st x,opd st k,ans with
  | some d, .mp r, .agg [.i .i64 a, .i .i64 b], .keep l :: ans=>match d.kind,st.rows[r]?,l with
   | .map e,some (.mapN _ kv none),[j]=>some (st,some (.tup [.inn r j, .i .i64 j]),ans,[(kv.map (·.1))[j]? = some (a,b)])
   | .map e,some (.mapN t' kv none),[]=>match Nat.ble np r with
    | true=>some (⟨st.tm.map (scM st.rows.length),(st.rows.map (Xi st.rows.length)).set r (.mapN t' (kv ++ [((a,b),[])]) none)⟩,some (.tup [.nils, .i .i64 kv.length]),ans,[(a,b) ∉ kv.map (·.1)])
    | false=>none
   | _,_,_=>none
  | _,_,_,_=>none
 | .entryStore _ x s v=>match opd st x,opd st s,opd st v,ans with
  | .mp r, .i .i64 n, .own q, .keep [j] :: ans=>match X8i np st r j q with
   | some (st',C)=>some (st',none,ans,(n=(j:Int)) :: C)
   | none=>none
  | _,_,_,_=>none
 | _=>none
section
variable {P:Program} {w0:Old0} {w:World} {μ:Nat→Option FP}
theorem X2w {H:Array Obj} {a b:Int} {v:Value} (h:Rep H μ (.agg [.i .i64 a, .i .i64 b]) v):v=keyV (a,b):=by
 cases h with
 | agg _ vs hz hh =>
 have h0:=hh 0 _ rfl
 have h1:=hh 1 _ rfl
 obtain ⟨l⟩:=vs
 match l,hz with
 | [x,y],_ =>
  cases h0;cases h1
  rfl
theorem X3u {kt k2:TypeId} {inf:TypeInfo} (hk:P.underlying kt=some (.array 2 k2)) (h2:P.underlying k2=some (.int .i64)) (hi:P.info? k2=some inf) (hs:inf.size=1)
  {H:Array Obj} {p:FP} {t:TypeId} {kv:List ((Int × Int) × List (List AV))} (hok:X4 H μ w.heap (some p) (.mapN t kv none)) (k:Int × Int) :
  ∃ es,w.heap[p.blk]? = some (.map es kv.length)∧es.size=kv.length ∧
   (∀ j,(kv.map (·.1))[j]? = some k→∃ e,es[j]? = some e∧e.born=j∧e.key=keyV k∧e.val=innV (p.inn.getD j none)∧j < p.inn.length∧(Instr.findKey kt (keyV k) es.toList).run P w = .ok (some (j,e.val)) w) ∧
   (k ∉ kv.map (·.1)→(Instr.findKey kt (keyV k) es.toList).run P w = .ok none w):=by
 have hl:=hok.2.1
 obtain ⟨es,h3,h4,hall,hat⟩:=X9w hok
 have hw:(match P.underlying kt with | some (.array _ _) | some (.struct _)=>true | _=>false)=true:=by rw [hk]
 refine ⟨es,h3,h4,fun j hj => ?_,fun hn => ?_⟩
 ·obtain ⟨e,g1,g2,g3,g4,g5⟩:=hat j k hj
  have hjl:j < kv.length:=by
   rcases Nat.lt_or_ge j kv.length with h | h
   ·exact h
   ·rw [List.getElem?_eq_none (by simpa using h)] at hj;cases hj
  refine ⟨e,g1,g2,g3,g4 (by simp),by omega,?_⟩
  rw [run_findKey_eq w hw]
  have:=X38 hk h2 hi hs k w es.toList 0 j e (by rw [Array.getElem?_toList];exact g1) g3 g5
  rw [Nat.zero_add] at this;exact this
 ·rw [run_findKey_eq w hw]
  refine X2m hk h2 hi hs k w _ 0 fun e he => ?_
  obtain ⟨q,hq,hk⟩:=hall e he
  exact ⟨q,hk,fun h=>hn (h ▸ hq)⟩
theorem X7P {T:TypeId→Option TD} (hT:TOk P T) {st st':St} {a:Act} (hr:RelM w0 μ st a w) {np:Nat} (hnp:w0.np≤np) {o:Oper} {ans ans':List Ans} {C:List Prop} {v:Option AV}
  (h:X8j T np st o.op ans=some (st',v,ans',C)) (hC:All C) :
  (∃ u w' μ' c,v=some c∧(execOp a.eval o).run P w = .ok (.value u) w'∧RelM w0 μ' st' a w'∧Rep w0.heap μ' c u)∨(∃ w' μ',v=none∧(execOp a.eval o).run P w = .ok .skip w'∧RelM w0 μ' st' a w'):=by
 unfold X8j at h
 split at h
 ·-- makeMap
  rename_i t ho
  split at h
  ·rename_i d hd
   split at h
   ·rename_i e hkd
    simp only [Option.some.injEq,Prod.mk.injEq] at h
    obtain ⟨rfl,rfl,rfl,rfl⟩:=h
    left
    have hb:Bw w.heap.size w (w.alloc (.map #[] 0)):=⟨⟨rfl,rfl,rfl,by simp,fun k hk=>Below.heap_alloc _ _ _ hk⟩,Nat.le_refl _⟩
    have hn:=hr.mem.out st.rows.length (Nat.le_refl _)
    let p:FP:=⟨w.heap.size,0,0,0,[],false⟩
    have hg:Grow w0.heap μ (setμ μ st.rows.length p) st.rows.length [.mapN e [] none] w.heap.size (w.alloc (.map #[] 0)).heap:=by
     refine Grow.one ⟨rfl,rfl,by simp,#[],?_,rfl,fun i x hi=>by simp at hi⟩ rfl (Nat.le_refl _) (by simp [p]) rfl
     show (w.heap.push _)[w.heap.size]? = _;simp
    have:=hr.grow hb hg (Nat.le_refl _) (fun q hq _=>hr.mem.out q hq)
    rw [X1J] at this
    refine ⟨_,_,_,_,rfl,?_,this, .mp _ p (by simp [setμ]) rfl⟩
    simp [execOp,ho,Instr.makeMap,p]
   ·cases h
  ·cases h
 ·-- lookup
  rename_i t x k ho
  split at h
  ·rename_i d r ka kb l ans1 hd hx hk
   obtain ⟨u,hu,hkd,_⟩:=(hT t d hd).desc
   have hxv:=hr.opd x
   have hkv:=hr.opd k
   rw [hx] at hxv
   rw [hk] at hkv
   have hkey:=X2w hkv
   generalize hxe:a.eval x=xv at hxv
   cases hxv with
   | mp _ p hp hz =>
   have core:∀ e kv t',d.kind = .map e→st.rows[r]? = some (.mapN t' kv none)→∃ kt el k2 inf inf2,P.underlying t=some (.map kt el)∧P.underlying kt=some (.array 2 k2)∧P.underlying k2=some (.int .i64)∧P.info? k2=some inf∧inf.size=1∧P.info? el=some inf2∧inf2.zero=some (.slice none 0 0)∧X4 w0.heap μ w.heap (some p) (.mapN t' kv none):=by
    intro e kv t' hke hrr
    rw [hke] at hkd
    cases u<;>simp only [Xa] at hkd
    obtain ⟨k2,inf,inf2,q1,q2,q3,q4,_,q6,q7⟩:=hkd
    have hok:=hr.mem.row r _ hrr
    rw [hp] at hok
    exact ⟨_,_,k2,inf,inf2,hu,q1,q2,q3,q4,q6,q7,hok⟩
   split at h
   ·rename_i e t' kv j hke hrr
    simp only [Option.some.injEq,Prod.mk.injEq] at h
    obtain ⟨rfl,rfl,rfl,rfl⟩:=h
    obtain ⟨kt,el,k2,inf,inf2,c1,c2,c3,c4,c5,c6,c7,hok⟩:=core e kv t' hke hrr
    obtain ⟨es,g1,g2,g3,_⟩:=X3u c2 c3 c4 c5 hok (ka,kb)
    obtain ⟨en,f1,f2,f3,f4,f5,f6⟩:=g3 j hC.1
    left
    refine ⟨en.val,w,μ,_,rfl,?_,hr,?_⟩
    ·simp [execOp,ho,Instr.lookup,hxe,hkey,run_underlying c1,XV g1,Xg c2 c3 c4 c5,f6]
    ·rw [f4]
     exact .inn r j p _ hp (by rw [List.getD_eq_getElem?_getD,List.getElem?_eq_getElem f5];rfl)
   ·rename_i e t' kv hke hrr
    simp only [Option.some.injEq,Prod.mk.injEq] at h
    obtain ⟨rfl,rfl,rfl,rfl⟩:=h
    obtain ⟨kt,el,k2,inf,inf2,c1,c2,c3,c4,c5,c6,c7,hok⟩:=core e kv t' hke hrr
    obtain ⟨es,g1,g2,_,g4⟩:=X3u c2 c3 c4 c5 hok (ka,kb)
    left
    refine ⟨.slice none 0 0,w,μ,_,rfl,?_,hr, .nils⟩
    simp [execOp,ho,Instr.lookup,hxe,hkey,run_underlying c1,XV g1,Xg c2 c3 c4 c5,g4 hC.1,run_zeroValue' w c6 c7]
   ·cases h
  ·cases h
 ·-- mapEntry
  rename_i t x k ho
  split at h
  ·rename_i d r ka kb l ans1 hd hx hk
   obtain ⟨u,hu,hkd,_⟩:=(hT t d hd).desc
   have hxv:=hr.opd x
   have hkv:=hr.opd k
   rw [hx] at hxv
   rw [hk] at hkv
   have hkey:=X2w hkv
   generalize hxe:a.eval x=xv at hxv
   cases hxv with
   | mp _ p hp hz =>
   have core:∀ e kv t',d.kind = .map e→st.rows[r]? = some (.mapN t' kv none)→∃ kt el k2 inf inf2,P.underlying t=some (.map kt el)∧P.underlying kt=some (.array 2 k2)∧P.underlying k2=some (.int .i64)∧P.info? k2=some inf∧inf.size=1∧P.info? el=some inf2∧inf2.zero=some (.slice none 0 0)∧X4 w0.heap μ w.heap (some p) (.mapN t' kv none):=by
    intro e kv t' hke hrr
    rw [hke] at hkd
    cases u<;>simp only [Xa] at hkd
    obtain ⟨k2,inf,inf2,q1,q2,q3,q4,_,q6,q7⟩:=hkd
    have hok:=hr.mem.row r _ hrr
    rw [hp] at hok
    exact ⟨_,_,k2,inf,inf2,hu,q1,q2,q3,q4,q6,q7,hok⟩
   split at h
   ·rename_i e t' kv j hke hrr
    simp only [Option.some.injEq,Prod.mk.injEq] at h
    obtain ⟨rfl,rfl,rfl,rfl⟩:=h
    obtain ⟨kt,el,k2,inf,inf2,c1,c2,c3,c4,c5,c6,c7,hok⟩:=core e kv t' hke hrr
    obtain ⟨es,g1,g2,g3,_⟩:=X3u c2 c3 c4 c5 hok (ka,kb)
    obtain ⟨en,f1,f2,f3,f4,f5,f6⟩:=g3 j hC.1
    left
    have hjs:j < es.size:=by
     rcases Nat.lt_or_ge j es.size with h | h
     ·exact h
     ·rw [Array.getElem?_eq_none h] at f1;cases f1
    have hmod:(es.modify j fun e => { e with key:=keyV (ka,kb) })=es:=by
     apply Array.ext_getElem?
     intro i
     rw [Array.getElem?_modify]
     by_cases hij:j=i
     ·subst hij
      rw [if_pos rfl,f1,Option.map_some,← f3]
     ·rw [if_neg hij]
    have hheap:({ w with heap:=w.heap.setIfInBounds p.blk (.map es kv.length) }:World)=w:=by
     have:w.heap.setIfInBounds p.blk (.map es kv.length)=w.heap:=by
      apply Array.ext_getElem?
      intro i
      by_cases hi:p.blk=i
      ·subst hi
       have hlt:p.blk < w.heap.size:=by
        rcases Nat.lt_or_ge p.blk w.heap.size with h | h
        ·exact h
        ·rw [Array.getElem?_eq_none h] at g1;cases g1
       rw [Array.getElem?_setIfInBounds_self,if_pos hlt,g1]
      ·rw [Array.getElem?_setIfInBounds_ne hi]
     rw [this]
    have hstay:(Instr.keyThatStays (keyV (ka,kb)) (keyV (ka,kb))).run P w = .ok (keyV (ka,kb)) w:=by
     have:Instr.sameBits 10000 (keyV (ka,kb)) (keyV (ka,kb))=true:=by
      show Instr.sameBits (9999 + 1) _ _=true
      generalize 9999=n
      unfold keyV
      cases n<;>simp [Instr.sameBits]
     simp [Instr.keyThatStays,this]
    refine ⟨.tuple #[en.val, .int .i64 j],w,μ,_,rfl,?_,hr, .tup _ _ rfl fun i c e => ?_⟩
    ·simp only [execOp,ho,Instr.mapEntry,hxe,hkey,Sem.run_bind,run_underlying c1,Result.andThen_ok,XV g1,Xg c2 c3 c4 c5,f6,f1,Option.map_some,Option.getD_some,f3,hstay,hmod,X2h _ g1,hheap,f2]
     simp [goInt]
    ·match i,e with
     | 0,e=>simp at e;subst e;show Rep _ _ _ en.val;rw [f4];exact .inn r j p _ hp (by rw [List.getD_eq_getElem?_getD,List.getElem?_eq_getElem f5];rfl)
     | 1,e=>simp at e;subst e;exact .i .i64 j
   ·rename_i e t' kv hke hrr
    split at h
    ·rename_i hble
     rw [Nat.ble_eq] at hble
     simp only [Option.some.injEq,Prod.mk.injEq] at h
     obtain ⟨rfl,rfl,rfl,rfl⟩:=h
     obtain ⟨kt,el,k2,inf,inf2,c1,c2,c3,c4,c5,c6,c7,hok⟩:=core e kv t' hke hrr
     obtain ⟨es,g1,g2,_,g4⟩:=X3u c2 c3 c4 c5 hok (ka,kb)
     have hnk:=hC.1
     left
     obtain ⟨_,h1,h2,es',h3,h4,h5⟩:=hok
     rw [g1] at h3
     cases h3
     let p':FP:={ p with inn:=p.inn ++ [none] }
     have hpz:p'.nul=false:=hz
     have hib':p'.ib.filterMap id=p.ib.filterMap id:=by simp [p',FP.ib]
     have hblk:p'.blks=p.blks:=by rw [FP.blks_of hpz,FP.blks_of hz,hib']
     let μ':Nat→Option FP:=fun i=>if i=r then some p' else μ i
     have hμr:μ' r=some p':=if_pos rfl
     have hμo:∀ i,i≠r→μ' i=μ i:=fun i h=>if_neg h
     have hal:X16 st.rows.length μ μ':=by
      intro i pi hi e
      by_cases hir:i=r
      ·subst hir
       rw [hp] at e;cases e
       exact ⟨p',hμr,rfl,rfl,rfl,rfl,rfl⟩
      ·exact ⟨pi,by rw [hμo i hir];exact e,rfl,rfl,rfl,rfl,rfl⟩
     have hownr:=hr.mem.own r p p.blk hp (FP.mem_blk hz)
     have hbl:p.blk < w.heap.size:=hownr.2
     have hnd:=hr.mem.nodup r p hp
     rw [FP.blks_of hz] at hnd
     obtain ⟨hnd1,hnd2⟩:=List.nodup_cons.1 hnd
     generalize hes:(es.push { key:=keyV (ka,kb),val := .slice none 0 0,born:=kv.length }:Array MapEntry)=es2
     have hother:∀ b,b≠p.blk→(w.heap.setIfInBounds p.blk (.map es2 (kv.length + 1)))[b]? = w.heap[b]? := fun b hb=>Array.getElem?_setIfInBounds_ne (fun e=>hb e.symm)
     have hself:(w.heap.setIfInBounds p.blk (.map es2 (kv.length + 1)))[p.blk]? = some (.map es2 (kv.length + 1)):=by rw [Array.getElem?_setIfInBounds_self,if_pos hbl]
     have hrl:r < st.rows.length:=by
      rcases Nat.lt_or_ge r st.rows.length with h | h
      ·exact h
      ·rw [List.getElem?_eq_none h] at hrr;cases hrr
     have hcase:∀ i pi,μ' i=some pi→(∃ pk,μ i=some pk∧pk.blks=pi.blks):=by
      intro i pi e
      by_cases hir:i=r
      ·subst hir;rw [hμr] at e;cases e;exact ⟨p,hp,hblk.symm⟩
      ·rw [hμo i hir] at e;exact ⟨pi,e,rfl⟩
     have hget:∀ i row,((st.rows.map (Xi st.rows.length)).set r (.mapN t' (kv ++ [((ka,kb),[])]) none))[i]? = some row →
       (i=r∧row = .mapN t' (kv ++ [((ka,kb),[])]) none)∨(i≠r∧∃ row0,st.rows[i]? = some row0∧row=Xi st.rows.length row0):=by
      intro i row e
      by_cases hir:r=i
      ·subst hir
       rw [List.getElem?_set_self (by simpa using hrl)] at e
       exact .inl ⟨rfl,by simpa using e.symm⟩
      ·rw [List.getElem?_set_ne hir,List.getElem?_map,Option.map_eq_some_iff] at e
       obtain ⟨row0,e1,e2⟩:=e
       exact .inr ⟨fun x=>hir x.symm,row0,e1,e2.symm⟩
     refine ⟨.tuple #[.slice none 0 0, .int .i64 kv.length],{ w with heap:=w.heap.setIfInBounds p.blk (.map es2 (kv.length + 1)) },μ',_,rfl,?_,⟨hr.defers,by simpa using hr.size,fun s u hu => ?_,
      hr.mem.anew (hr.mem.bel.set hownr.1 rfl rfl rfl (by simp) (fun k hk=>hother k hk)) (by simp) (fun i pi b e hm => ?_) (fun i row e => ?_) (fun i i' pi pi' b e e' hm hm' => ?_) (fun i pi e => ?_) (fun i hi => ?_) (fun i e => ?_) (fun i pi e => ?_)⟩, .tup _ _ rfl fun i c e => ?_⟩
     ·simp only [execOp,ho,Instr.mapEntry,hxe,hkey,Sem.run_bind,run_underlying c1,Result.andThen_ok,XV g1,Xg c2 c3 c4 c5,g4 hnk,run_zeroValue' w c6 c7,X2h _ g1,hes]
      simp [goInt]
     ·simp only [List.getElem?_map,Option.map_eq_some_iff] at hu
      obtain ⟨u0,e0,rfl⟩:=hu
      exact X2v hal (hr.tmps s u0 e0)
     ·obtain ⟨pk,e1,e2⟩:=hcase i pi e
      exact ⟨i,pk,e1,by rw [e2];exact hm⟩
     ·rcases hget i row e with ⟨rfl,rfl⟩ | ⟨h6,row0,e1,rfl⟩
      ·rw [hμr]
       refine ⟨hpz,by simp [p',h1],?_,es2,by rw [hself];simp,by rw [← hes];simp [h4],fun i x hi => ?_⟩
       ·rw [List.map_append,List.map_cons,List.map_nil]
        exact List.nodup_append.2 ⟨h2,by simp,fun x hx y hy=>by simp at hy;subst hy;intro he;subst he;exact hnk hx⟩
       ·rcases Nat.lt_or_ge i kv.length with hil | hil
        ·rw [List.getElem?_append_left hil] at hi
         obtain ⟨e,f1,f2,f3,f4,f5⟩:=h5 i x hi
         have hin:p'.inn.getD i none=p.inn.getD i none:=by
          simp only [p']
          rw [List.getD_eq_getElem?_getD,List.getElem?_append_left (by omega),← List.getD_eq_getElem?_getD]
         rw [hin]
         refine ⟨e,by rw [← hes,Array.getElem?_push_lt (by omega)];rw [Array.getElem?_eq_getElem (by omega)] at f1;exact f1,f2,f3,?_,f5⟩
         cases hib:p.inn.getD i none with
         | none=>rw [hib] at f4;exact f4
         | some bnc =>
          obtain ⟨b,n2,c2⟩:=bnc
          rw [hib] at f4
          obtain ⟨q1,q2,arr2,q3,q4,q5⟩:=f4
          have hbm:b∈p.ib.filterMap id:=by
           have hjl:i < p.inn.length:=by omega
           rw [List.getD_eq_getElem?_getD,List.getElem?_eq_getElem hjl,Option.getD_some] at hib
           exact List.mem_filterMap.2 ⟨some b,List.mem_map.2 ⟨_,hib ▸ List.getElem_mem hjl,rfl⟩,rfl⟩
          have hbne:b≠p.blk:=fun e=>hnd1 (e ▸ hbm)
          exact ⟨q1,q2,arr2,by rw [hother b hbne];exact q3,q4,q5⟩
        ·rw [List.getElem?_append_right hil] at hi
         have hi0:i - kv.length=0:=by
          rcases Nat.eq_zero_or_pos (i - kv.length) with h | h
          ·exact h
          ·rw [List.getElem?_eq_none (by simp;omega)] at hi;cases hi
         rw [hi0] at hi
         simp at hi;subst hi
         have hie:i=es.size:=by omega
         have hin:p'.inn.getD i none=none:=by
          simp only [p']
          rw [List.getD_eq_getElem?_getD,List.getElem?_append_right (by omega)]
          have:i - p.inn.length=0:=by omega
          rw [this];rfl
         rw [hin]
         refine ⟨{ key:=keyV (ka,kb),val := .slice none 0 0,born:=kv.length },by rw [← hes,hie];simp,(show kv.length=i by omega),rfl,rfl,fun _=>rfl⟩
      ·rw [hμo i h6]
       refine X2R hal ((hr.mem.row i row0 e1).heap fun y hy b hb=>hother b fun e => ?_)
       subst e
       exact h6 (hr.mem.sep i r y p _ hy hp hb (FP.mem_blk hz))
     ·obtain ⟨pk,e1,e2⟩:=hcase i pi e
      obtain ⟨pk',e1',e2'⟩:=hcase i' pi' e'
      exact hr.mem.sep i i' pk pk' b e1 e1' (by rw [e2];exact hm) (by rw [e2'];exact hm')
     ·obtain ⟨pk,e1,e2⟩:=hcase i pi e
      rw [← e2];exact hr.mem.nodup i pk e1
     ·simp at hi
      rw [hμo i (by omega)];exact hr.mem.out i hi
     ·rcases hget i _ e with ⟨_,h⟩ | ⟨h6,row0,e1,e2⟩
      ·cases h
      ·rw [hμo i h6]
       cases row0<;>simp [Xi] at e2
       exact hr.mem.dead i e1
     ·have hlt:=w0.pinLt i pi e
      rw [hμo i (by omega)]
      exact hr.mem.pin i pi e
     ·match i,e with
      | 0,e=>simp at e;subst e;exact .nils
      | 1,e=>simp at e;subst e;exact .i .i64 kv.length
    ·cases h
   ·cases h
  ·cases h
 ·-- entryStore
  rename_i t x s y ho
  split at h
  ·rename_i r n q j ans1 hx hs hy
   split at h
   ·rename_i st1 C1 hput
    simp only [Option.some.injEq,Prod.mk.injEq] at h
    obtain ⟨rfl,rfl,rfl,rfl⟩:=h
    obtain ⟨hn,hC⟩:=hC
    have hxv:=hr.opd x
    have hsv:=hr.opd s
    have hyv:=hr.opd y
    rw [hx] at hxv
    rw [hs] at hsv
    rw [hy] at hyv
    generalize hxe:a.eval x=xv at hxv
    generalize hse:a.eval s=sv at hsv
    generalize hye:a.eval y=yv at hyv
    cases hxv with
    | mp _ p hp hz =>
    cases hsv with
    | i _ _ =>
    cases hyv with
    | own _ pq hpq =>
    obtain ⟨es,m,g1,g2,g3,g4,μ',g5⟩:=X7O hr hnp hp hpq hput hC
    right
    refine ⟨_,μ',rfl,?_,g5⟩
    have hfind:es.findIdx? (fun e=>(e.born:Int) == n)=some j:=by
     rw [Array.findIdx?_eq_some_iff_getElem]
     have hj:j < es.size:=by omega
     refine ⟨hj,?_,fun i hi => ?_⟩
     ·have:=g4 j _ (Array.getElem?_eq_getElem hj)
      rw [this,hn];simp
     ·have:=g4 i _ (Array.getElem?_eq_getElem (show i < es.size by omega))
      rw [this,hn];simp;omega
    simp only [execOp,ho,Instr.entryStore,hxe,hse,hye,Sem.run_bind,XV g1,Result.andThen_ok,asInt,asIntOf,Sem.run_pure,hfind,X2h _ g1]
   ·cases h
  ·cases h
 ·cases h
def X6N (T:TypeId→Option TD) (np:Nat) (st:St) (ts tx:TypeId) (s x:Operand) (ans:List Ans):Option (St × AV × List Ans × List Prop) :=
 match opd st s with
 | .inn r j=>match X5i np st r j with
  | some (st1,C1)=>match X68 T np st1 ts tx (.own st.rows.length) (opd st1 x) ans with
   | some (st2,v,ans2,C2)=>some (st2,v,ans2,C1 ++ C2)
   | none=>none
  | none=>none
 | _=>none
theorem X6O {T:TypeId→Option TD} (hT:TOk P T) {st st':St} {a:Act} (hr:RelM w0 μ st a w) {ts tx ty:TypeId} {s x:Operand} {v:AV} {ans ans':List Ans} {C:List Prop}
  {np:Nat} (hnp:w0.np≤np) (h:X6N T np st ts tx s x ans=some (st',v,ans',C)) (hC:All C) :
  ∃ u w',(Builtin.append_ #[ts,tx] ty #[a.eval s,a.eval x]).run P w = .ok u w'∧∃ μ',RelM w0 μ' st' a w'∧Rep w0.heap μ' v u:=by
 unfold X6N at h
 split at h
 ·rename_i r j hs
  split at h
  ·rename_i st1 C1 ht
   split at h
   ·rename_i st2 v2 ans2 C2 happ
    simp only [Option.some.injEq,Prod.mk.injEq] at h
    obtain ⟨rfl,rfl,rfl,rfl⟩:=h
    obtain ⟨hC1,hC2⟩:=All.append.1 hC
    have hsv:=hr.opd s
    rw [hs] at hsv
    obtain ⟨μ1,hr1,hq⟩:=X61 hr hnp hsv ht hC1
    exact X4g (P:=P) (ty:=ty) hT hr1 hnp hq (hr1.opd x) happ hC2
   ·cases h
  ·cases h
 ·cases h
end
end Go.Ab
