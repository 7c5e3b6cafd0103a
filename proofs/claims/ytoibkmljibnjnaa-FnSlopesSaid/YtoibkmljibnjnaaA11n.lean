/- A slice laid into an array of slices: its array is then the inner slice's. -/
import Derived.Test.YtoibkmljibnjnaaA11
set_option linter.unusedVariables false
set_option linter.unusedSimpArgs false
namespace Go.Ab
open Go.RowKit
def X12 (q:Nat):AV→Bool
 | .b _ | .i _ _ | .f _ _ | .any | .nils | .sl _ | .ref _ _=>true
 | .own r | .ptr r _ _ | .mp r => !(r == q)
 | _=>false
def X4N (q:Nat):AV→Bool
 | .agg cs=>cs.all (X12 q)
 | v=>X12 q v
def refN (q:Nat):AV→Bool
 | .tup vs=>vs.all (X4N q)
 | .fn _ cap=>cap.all (X12 q)
 | v=>X4N q v
def X3e (q:Nat) (v:AV):AV :=
 match refN q v with
 | true=>v
 | false => .any
def Xu (q:Nat):Row→Row
 | .box t cs => .box t (cs.map (X3e q))
 | .lits t cs => .lits t (cs.map (X3e q))
 | r=>r
def X16 (q:Nat) (μ μ':Nat→Option FP):Prop:=∀ i p,i≠q→μ i=some p→∃ p',μ' i=some p'∧p'.blk=p.blk∧p'.es=p.es∧p'.len=p.len∧p'.cap=p.cap∧p'.nul=p.nul
theorem X1K {H:Array Obj} {μ μ':Nat→Option FP} {q:Nat} (hs:X16 q μ μ') {c:AV} {v:Value} (hn:X12 q c=true) (h:Rep H μ c v):Rep H μ' c v:=by
 cases h with
 | any v=>exact .any v
 | b x=>exact .b x
 | i k n=>exact .i k n
 | f k x bits h e=>exact .f k x bits h e
 | nils=>exact .nils
 | slE a c=>exact .slE a c
 | sl l es bl off c val h h1 h2 hc=>exact .sl l es bl off c val h h1 h2 hc
 | ref cs off bl base val h h2=>exact .ref cs off bl base val h h2
 | own r p h =>
  simp only [X12,Bool.not_eq_true',beq_eq_false_iff_ne] at hn
  obtain ⟨p',e1,e2,e3,e4,e5,e6⟩:=hs r p hn h
  have:p.val=p'.val:=by unfold FP.val;rw [e6,e2,e4,e5]
  rw [this];exact .own r p' e1
 | ptr r idx off p h =>
  simp only [X12,Bool.not_eq_true',beq_eq_false_iff_ne] at hn
  obtain ⟨p',e1,e2,e3,e4,e5,e6⟩:=hs r p hn h
  rw [← e2,← e3];exact .ptr r idx off p' e1
 | mp r p h hz =>
  simp only [X12,Bool.not_eq_true',beq_eq_false_iff_ne] at hn
  obtain ⟨p',e1,e2,e3,e4,e5,e6⟩:=hs r p hn h
  rw [← e2];exact .mp r p' e1 (e6.trans hz)
 | bx=>simp [X12] at hn
 | inn=>simp [X12] at hn
 | ipt=>simp [X12] at hn
 | agg=>simp [X12] at hn
 | tup=>simp [X12] at hn
 | fn=>simp [X12] at hn
theorem X5z {H:Array Obj} {μ μ':Nat→Option FP} {q:Nat} (hs:X16 q μ μ') {c:AV} {v:Value} (hn:X4N q c=true) (h:Rep H μ c v):Rep H μ' c v:=by
 cases c with
 | agg cs =>
  cases h with | agg _ vs hz hh =>
  simp only [X4N,List.all_eq_true] at hn
  exact .agg cs vs hz fun j c e=>X1K hs (hn c (List.mem_of_getElem? e)) (hh j c e)
 | _=>exact X1K hs (by simpa only [X4N] using hn) h
theorem X3s {H:Array Obj} {μ μ':Nat→Option FP} {q:Nat} (hs:X16 q μ μ') {c:AV} {v:Value} (h:Rep H μ c v):Rep H μ' (X3e q c) v:=by
 unfold X3e
 split
 ·rename_i hn
  cases c with
  | tup cs =>
   cases h with | tup _ vs hz hh =>
   simp only [refN,List.all_eq_true] at hn
   exact .tup cs vs hz fun j c e=>X5z hs (hn c (List.mem_of_getElem? e)) (hh j c e)
  | fn g cap =>
   cases h with | fn _ _ vs hz hh =>
   simp only [refN,List.all_eq_true] at hn
   exact .fn g cap vs hz fun j c e=>X1K hs (hn c (List.mem_of_getElem? e)) (hh j c e)
  | _=>exact X5z hs (by simpa only [refN] using hn) h
 ·exact .any v
theorem X6B {H:Array Obj} {μ μ':Nat→Option FP} {q:Nat} (hs:X16 q μ μ') {heap:Array Obj} {p:Option FP} {row:Row} (h:X4 H μ heap p row):X4 H μ' heap p (Xu q row):=by
 cases row with
 | box t cs =>
  cases p with
  | none=>exact h.elim
  | some p =>
   obtain ⟨ez,e1,e2,arr,e3,e4,e5⟩:=h
   refine ⟨ez,by simpa [Xu] using e1,e2,arr,e3,by simpa [Xu] using e4,fun j c e => ?_⟩
   rw [List.getElem?_map,Option.map_eq_some_iff] at e
   obtain ⟨c0,e0,rfl⟩:=e
   exact X3s hs (e5 j c0 e0)
 | lits t cs =>
  cases p with
  | none=>exact h.elim
  | some p =>
   obtain ⟨ez,e1,e2,e2',e2'',arr,e3,e4,e5⟩:=h
   refine ⟨ez,e1,e2,by simpa [Xu] using e2',by simpa [Xu] using e2'',arr,e3,by simpa [Xu] using e4,fun j c e => ?_⟩
   rw [List.getElem?_map,Option.map_eq_some_iff] at e
   obtain ⟨c0,e0,rfl⟩:=e
   exact X3s hs (e5 j c0 e0)
 | vec=>cases p<;>exact h
 | nest=>cases p<;>exact h
 | mapN=>cases p<;>exact h
 | mapS=>cases p<;>exact h
 | nestD=>cases p<;>exact h
 | vecU=>cases p<;>exact h
 | dead=>cases p<;>exact h
theorem X1q:∀ (l:List (Option Nat)) (i:Nat) (o:Option Nat),(l.filterMap id).Nodup→(∀ b,o=some b→b ∉ l.filterMap id)→((l.set i o).filterMap id).Nodup
 | [],i,o,h,_=>by simp
 | x :: l,0,o,h,hb=>by
  simp only [List.set_cons_zero]
  have hl:(l.filterMap id).Nodup:=by
   cases x with
   | none=>simpa using h
   | some y=>simp at h;exact h.2
  cases o with
  | none=>simpa using hl
  | some b =>
   have hb':b ∉ l.filterMap id:=fun hm=>hb b rfl (by cases x<;>simp_all)
   simp only [List.filterMap_cons,id]
   exact List.nodup_cons.2 ⟨hb',hl⟩
 | x :: l,i + 1,o,h,hb=>by
  simp only [List.set_cons_succ]
  cases x with
  | none =>
   simp only [List.filterMap_cons,id] at h hb ⊢
   exact X1q l i o h hb
  | some y =>
   simp only [List.filterMap_cons,id] at h hb ⊢
   obtain ⟨h1,h2⟩:=List.nodup_cons.1 h
   simp only [List.mem_cons,not_or] at hb
   refine List.nodup_cons.2 ⟨fun hm => ?_,X1q l i o h2 fun b e=>(hb b e).2⟩
   obtain ⟨z,hz,hzb⟩:=List.mem_filterMap.1 hm
   simp only [id] at hzb;subst hzb
   rcases List.mem_or_eq_of_mem_set hz with h | h
   ·exact h1 (List.mem_filterMap.2 ⟨_,h,rfl⟩)
   ·exact (hb y h.symm).1 rfl
def FP.inv (p:FP):Option (Nat × Nat × Nat):=match p.nul with
 | true=>none
 | false=>some (p.blk,p.len,p.cap)
theorem FP.inv_val (p:FP):innV p.inv=p.val:=by unfold FP.inv FP.val;cases p.nul<;>rfl
theorem FP.inv_blk {p:FP} {b:Nat} (h:p.inv.map (·.1)=some b):b∈p.blks∧p.nul=false∧b=p.blk:=by
 unfold FP.inv at h
 cases hz:p.nul with
 | true=>rw [hz] at h;cases h
 | false =>
  rw [hz] at h
  simp only [Option.map_some,Option.some.injEq] at h
  exact ⟨by rw [← h];exact FP.mem_blk hz,rfl,h.symm⟩
theorem FP.inv_ok {H:Array Obj} {μ:Nat→Option FP} {heap heap':Array Obj} {p:FP} {t:TypeId} {l:List (List AV)} {full:Bool} (h:X4 H μ heap (some p) (.vec t 1 l full)) (hb:∀ b,b∈p.blks→heap'[b]? = heap[b]?):X44 heap' p.inv l p.val:=by
 refine ⟨(FP.inv_val p).symm,?_⟩
 unfold FP.inv
 rcases h with ⟨hz,rfl,_⟩ | ⟨hz,b1,b2,b3,b4,b5,arq,b6,b7,b8⟩
 ·rw [hz]
 ·rw [hz]
  exact ⟨b3,b4,arq,t,by rw [hb _ (FP.mem_blk hz)];exact b6,by rw [b7,Nat.mul_one],b8⟩
def X6C (T:TypeId→Option TD) (np:Nat) (st:St) (t:TypeId) (x v:AV):Option (St × List Prop) :=
 match T t,x with
 | some d, .ptr r idx off=>match v,off == 0 && d.size == 1 with
  | .own q,true=>match st.rows[r]?,st.rows[q]? with
   | some (.nest t2 ll full),some (.vec _ es l _)=>match es == 1 && !(r == q) && Nat.ble np r && Nat.ble np q with
    | true=>some (⟨st.tm.map (X3e q),((st.rows.map (Xu q)).set q .dead).set r (.nest t2 (ll.set idx l) full)⟩,[idx < ll.length])
    | false=>none
   | _,_=>none
  | _,_=>none
 | _,_=>none
theorem X6D {P:Program} {w0:Old0} {w:World} {μ:Nat→Option FP} {T:TypeId→Option TD} (hT:TOk P T) {st st':St} {a:Act} (hr:RelM w0 μ st a w) {t:TypeId} {x v:AV} {vx vv:Value} {C:List Prop}
  {np:Nat} (hnp:w0.np≤np) (hx:Rep w0.heap μ x vx) (hv:Rep w0.heap μ v vv) (h:X6C T np st t x v=some (st',C)) (hC:All C) :
  ∃ w',(Instr.storeAt t vx vv).run P w = .ok () w'∧Rel w0 st' a w':=by
 unfold X6C at h
 split at h
 ·rename_i d r idx off hts
  have hd:=hT t d hts
  split at h
  ·rename_i q hoff
   simp only [Bool.and_eq_true,beq_iff_eq] at hoff
   obtain ⟨rfl,hd1⟩:=hoff
   split at h
   ·rename_i t2 ll full tv es l fv hrr hrq
    split at h
    ·rename_i hes
     simp only [Bool.and_eq_true,beq_iff_eq,Bool.not_eq_true',beq_eq_false_iff_ne,Nat.ble_eq] at hes
     obtain ⟨⟨⟨rfl,hne⟩,hnr⟩,hnq⟩:=hes
     simp only [Option.some.injEq,Prod.mk.injEq] at h
     obtain ⟨rfl,rfl⟩:=h
     obtain ⟨hidx,_⟩:=hC
     cases hx with
     | ptr _ _ _ p hp =>
     cases hv with
     | own _ pq hpq =>
     have hokr:=hr.mem.row r _ hrr
     have hokq:=hr.mem.row q _ hrq
     rw [hp] at hokr
     rw [hpq] at hokq
     rcases hokr with ⟨_,rfl,_⟩ | ⟨az,a1,a2,a3,a4,a5,arr,a6,a7,a8⟩
     ·simp at hidx
     have hlt:idx < arr.size:=by omega
     have hst:=X2l (P:=P) (w:=w) hd (g:=p.blk) (off:=idx) (cur:=arr) (e:=t2) (v:=pq.val) a6 (by rw [FP.val_cells];simp [hd1]) (by rw [FP.val_cells];simp;omega) (by rw [FP.val_cells];simp [FP.val_one])
     rw [a1,Nat.mul_one,Nat.add_zero]
     refine ⟨_,hst,?_⟩
     generalize harr':(arr.toList.take idx ++ pq.val.cells.toList ++ arr.toList.drop (idx + pq.val.cells.toList.length)).toArray=arr'
     have hset:arr'=arr.set idx pq.val hlt:=by
      rw [← harr']
      apply Array.ext'
      rw [FP.val_cells]
      simp only [Array.toList_set]
      rw [List.set_eq_take_append_cons_drop,if_pos (by simpa using hlt)]
      simp
     let p':FP:={ p with inn:=p.inn.set idx pq.inv }
     have hib':p'.ib=p.ib.set idx (pq.inv.map (·.1)):=by simp [p',FP.ib,List.map_set]
     have hpz:p'.nul=false:=az
     let μ':Nat→Option FP:=fun i=>if i=q then none else if i=r then some p' else μ i
     have hμq:μ' q=none:=if_pos rfl
     have hμr:μ' r=some p':=by show (if r=q then _ else _)=_;rw [if_neg hne,if_pos rfl]
     have hμo:∀ i,i≠q→i≠r→μ' i=μ i:=fun i h1 h2=>by show (if i=q then _ else _)=_;rw [if_neg h1,if_neg h2]
     have hal:X16 q μ μ':=by
      intro i pi hi e
      by_cases hir:i=r
      ·subst hir
       rw [hp] at e;cases e
       exact ⟨p',hμr,rfl,rfl,rfl,rfl,rfl⟩
      ·exact ⟨pi,by rw [hμo i hi hir];exact e,rfl,rfl,rfl,rfl,rfl⟩
     have hblks':∀ b,b∈p'.blks→b∈p.blks∨b∈pq.blks:=by
      intro b hb
      rw [FP.blks_of hpz] at hb
      rcases List.mem_cons.1 hb with rfl | hb
      ·exact .inl (FP.mem_blk az)
      ·obtain ⟨z,hz,hzb⟩:=List.mem_filterMap.1 hb
       simp only [id] at hzb;subst hzb
       rw [hib'] at hz
       rcases List.mem_or_eq_of_mem_set hz with h | h
       ·exact .inl (by rw [FP.blks_of az];exact List.mem_cons_of_mem _ (List.mem_filterMap.2 ⟨_,h,rfl⟩))
       ·exact .inr (FP.inv_blk h.symm).1
     have hownr:=hr.mem.own r p p.blk hp (FP.mem_blk az)
     have hpr_notq:∀ b,b∈pq.blks→b ∉ p.blks:=fun b hbq hb=>hne (hr.mem.sep r q p pq b hp hpq hb hbq)
     have hother:∀ b,b≠p.blk→(w.setRow p.blk arr').heap[b]? = w.heap[b]? := fun b hb=>setRow_other _ _ _ _ hb
     have hsz:(w.setRow p.blk arr').heap.size=w.heap.size:=by simp
     have hlen:(((st.rows.map (Xu q)).set q .dead).set r (.nest t2 (ll.set idx l) full)).length=st.rows.length:=by simp
     have hget:∀ i row,(((st.rows.map (Xu q)).set q .dead).set r (.nest t2 (ll.set idx l) full))[i]? = some row →
       (i=r∧row = .nest t2 (ll.set idx l) full)∨(i=q∧i≠r∧row = .dead)∨(i≠r∧i≠q∧∃ row0,st.rows[i]? = some row0∧row=Xu q row0):=by
      intro i row e
      by_cases hir:r=i
      ·subst hir
       rw [List.getElem?_set_self'] at e
       left;refine ⟨rfl,?_⟩
       cases hh:((st.rows.map (Xu q)).set q .dead)[r]? with
       | none=>rw [hh] at e;simp at e
       | some y=>rw [hh] at e;simpa using e.symm
      ·rw [List.getElem?_set_ne hir] at e
       by_cases hiq:q=i
       ·subst hiq
        rw [List.getElem?_set_self'] at e
        right;left;refine ⟨rfl,fun x=>hir x.symm,?_⟩
        cases hh:(st.rows.map (Xu q))[q]? with
        | none=>rw [hh] at e;simp at e
        | some y=>rw [hh] at e;simpa using e.symm
       ·rw [List.getElem?_set_ne hiq,List.getElem?_map,Option.map_eq_some_iff] at e
        obtain ⟨row0,e1,e2⟩:=e
        exact .inr (.inr ⟨fun x=>hir x.symm,fun x=>hiq x.symm,row0,e1,e2.symm⟩)
     have hrep:∀ {c:AV} {y:Value},Rep w0.heap μ c y→Rep w0.heap μ' (X3e q c) y:=fun h=>X3s hal h
     refine ⟨μ',hr.defers,by simpa using hr.size,fun s u hu => ?_,⟨⟨hr.mem.bel.set hownr.1 rfl rfl rfl (by simp) (fun k hk=>setRow_other _ _ _ _ hk),fun i row e => ?_,fun i j pi pj b e e' hm hm' => ?_,fun i pi e => ?_,fun i pi b e hm => ?_⟩,fun i hi => ?_,fun i e => ?_,fun i pi e => ?_⟩⟩
     ·simp only [List.getElem?_map,Option.map_eq_some_iff] at hu
      obtain ⟨u0,e0,rfl⟩:=hu
      exact hrep (hr.tmps s u0 e0)
     ·rcases hget i row e with ⟨rfl,rfl⟩ | ⟨rfl,_,rfl⟩ | ⟨h1,h2,row0,e1,rfl⟩
      ·rw [hμr]
       refine .inr ⟨az,a1,by simpa using a2,by simpa using a3,fun hf=>by simpa using a4 hf,by simp only [p',List.length_set];exact a5,arr',setRow_heap _ _ _ _ _ _ a6,by rw [hset];simpa using a7,fun j lj hj => ?_⟩
       by_cases hji:idx=j
       ·subst hji
        rw [List.getElem?_set_self hidx] at hj
        simp only [Option.some.injEq] at hj;subst hj
        have hin:p'.inn.getD idx none=pq.inv:=by
         simp only [p']
         rw [List.getD_eq_getElem?_getD,List.getElem?_set_self (by omega)];rfl
        have hv1:arr'.getD idx undef=pq.val:=by
         rw [hset,Array.getD_eq_getD_getElem?,Array.getElem?_set_self];rfl
        rw [hin,hv1]
        exact FP.inv_ok hokq fun b hb=>hother b fun e=>hpr_notq b hb (by rw [e];exact FP.mem_blk az)
       ·rw [List.getElem?_set_ne hji] at hj
        have hold:=a8 j lj hj
        have hin:p'.inn.getD j none=p.inn.getD j none:=by
         simp only [p']
         rw [List.getD_eq_getElem?_getD,List.getElem?_set_ne hji,← List.getD_eq_getElem?_getD]
        have hvj:arr'.getD j undef=arr.getD j undef:=by
         rw [hset,Array.getD_eq_getD_getElem?,Array.getElem?_set_ne _ hji,← Array.getD_eq_getD_getElem?]
        rw [hin,hvj]
        cases hib:p.inn.getD j none with
        | none=>rw [hib] at hold;exact hold
        | some bnc =>
         obtain ⟨b,n2,c2⟩:=bnc
         rw [hib] at hold
         obtain ⟨f0,f1,f2,arr2,tt,f3,f4,f5⟩:=hold
         have hbm:b∈p.ib.filterMap id:=by
          have hjl:j < p.inn.length:=by
           rcases Nat.lt_or_ge j p.inn.length with h | h
           ·exact h
           ·rw [List.getD_eq_getElem?_getD,List.getElem?_eq_none h] at hib;cases hib
          rw [List.getD_eq_getElem?_getD,List.getElem?_eq_getElem hjl,Option.getD_some] at hib
          exact List.mem_filterMap.2 ⟨some b,List.mem_map.2 ⟨_,hib ▸ List.getElem_mem hjl,rfl⟩,rfl⟩
         have hnd:=hr.mem.nodup _ p hp
         rw [FP.blks_of az] at hnd
         have hbne:b≠p.blk:=fun e=>(List.nodup_cons.1 hnd).1 (e ▸ hbm)
         exact ⟨f0,f1,f2,arr2,tt,by rw [hother b hbne];exact f3,f4,f5⟩
      ·cases μ' i<;>exact trivial
      ·rw [hμo i h2 h1]
       refine X6B hal ((hr.mem.row i row0 e1).heap fun y hy b hb=>hother b fun e => ?_)
       subst e
       exact h1 (hr.mem.sep i r y p _ hy hp hb (FP.mem_blk az))
     ·have hcase:∀ i pi b,μ' i=some pi→b∈pi.blks→(i≠q∧((μ i=some pi∧i≠r)∨(i=r∧pi=p'∧(b∈p.blks∨b∈pq.blks)))):=by
       intro i pi b e hm
       have hiq:i≠q:=fun h=>by subst h;rw [hμq] at e;cases e
       refine ⟨hiq,?_⟩
       by_cases hir:i=r
       ·subst hir
        rw [hμr] at e;cases e
        exact .inr ⟨rfl,rfl,hblks' b hm⟩
       ·rw [hμo i hiq hir] at e
        exact .inl ⟨e,hir⟩
      obtain ⟨iq,hi⟩:=hcase i pi b e hm
      obtain ⟨jq,hj⟩:=hcase j pj b e' hm'
      rcases hi with ⟨hi,hir⟩ | ⟨hi,rfl,hi'⟩<;>rcases hj with ⟨hj,hjr⟩ | ⟨hj,rfl,hj'⟩
      ·exact hr.mem.sep i j pi pj b hi hj hm hm'
      ·subst hj
       rcases hj' with hb | hb
       ·exact absurd (hr.mem.sep i j pi p b hi hp hm hb) hir
       ·exact absurd (hr.mem.sep i q pi pq _ hi hpq hm hb) iq
      ·subst hi
       rcases hi' with hb | hb
       ·exact absurd (hr.mem.sep i j p pj b hp hj hb hm').symm hjr
       ·exact absurd (hr.mem.sep j q pj pq _ hj hpq hm' hb) jq
      ·rw [hi,hj]
     ·by_cases hiq:i=q
      ·subst hiq;rw [hμq] at e;cases e
      ·by_cases hir:i=r
       ·subst hir
        rw [hμr] at e;cases e
        have hnd:=hr.mem.nodup i p hp
        rw [FP.blks_of az] at hnd
        have hnd1:=List.nodup_cons.1 hnd
        rw [FP.blks_of hpz]
        refine List.nodup_cons.2 ⟨fun hb => ?_,?_⟩
        ·obtain ⟨z,hz,hzb⟩:=List.mem_filterMap.1 hb
         simp only [id] at hzb;subst hzb
         rw [hib'] at hz
         rcases List.mem_or_eq_of_mem_set hz with h | h
         ·exact hnd1.1 (List.mem_filterMap.2 ⟨_,h,rfl⟩)
         ·exact hpr_notq _ (FP.inv_blk h.symm).1 (FP.mem_blk az)
        ·rw [hib'];exact X1q _ _ _ hnd1.2 fun b hb hbm=>hpr_notq b (FP.inv_blk hb).1 (by rw [FP.blks_of az];exact List.mem_cons_of_mem _ hbm)
       ·rw [hμo i hiq hir] at e
        exact hr.mem.nodup i pi e
     ·rw [hsz]
      by_cases hiq:i=q
      ·subst hiq;rw [hμq] at e;cases e
      ·by_cases hir:i=r
       ·subst hir
        rw [hμr] at e;cases e
        rcases hblks' b hm with h | h
        ·exact hr.mem.own i p b hp h
        ·exact hr.mem.own q pq b hpq h
       ·rw [hμo i hiq hir] at e
        exact hr.mem.own i pi b e hm
     ·rw [hlen] at hi
      have hrl:r < st.rows.length:=by
       rcases Nat.lt_or_ge r st.rows.length with h | h
       ·exact h
       ·rw [List.getElem?_eq_none h] at hrr;cases hrr
      by_cases hiq:i=q
      ·subst hiq;exact hμq
      ·rw [hμo i hiq (by omega)];exact hr.mem.out i hi
     ·rcases hget i _ e with ⟨_,h⟩ | ⟨rfl,_,_⟩ | ⟨h1,h2,row0,e1,h0⟩
      ·cases h
      ·exact hμq
      ·rw [hμo i h2 h1]
       refine hr.mem.dead i ?_
       cases row0<;>simp [Xu] at h0
       exact e1
     ·have:=w0.pinLt i pi e
      rw [hμo i (by omega) (by omega)]
      exact hr.mem.pin i pi e
    ·cases h
   ·cases h
  ·cases h
 ·cases h
end Go.Ab
