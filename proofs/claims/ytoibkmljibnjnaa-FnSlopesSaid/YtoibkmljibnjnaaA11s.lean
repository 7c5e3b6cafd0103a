/- Operations on maps whose values are numbers or truth values. -/
import Derived.Test.YtoibkmljibnjnaaA11p
set_option linter.unusedVariables false
set_option linter.unusedSimpArgs false
namespace Go.Ab
open Go.RowKit
theorem Mem.setHeap {w0:Old0} {w:World} {μ:Nat→Option FP} {rows:List Row} (h:Mem w0 μ rows w) {r:Nat} {p:FP} {row':Row} {o:Obj} (hp:μ r=some p) (hz:p.nul=false)
  (hrow:X4 w0.heap μ (w.heap.setIfInBounds p.blk o) (some p) row') (hd:X1i row'=false:=by rfl):Mem w0 μ (rows.set r row') { w with heap:=w.heap.setIfInBounds p.blk o }:=by
 have hown:=h.own r p p.blk hp (FP.mem_blk hz)
 have hoth:∀ k,k≠p.blk→(w.heap.setIfInBounds p.blk o)[k]? = w.heap[k]? := fun k hk=>Array.getElem?_setIfInBounds_ne (fun e=>hk e.symm)
 refine ⟨⟨h.bel.set hown.1 rfl rfl rfl (by simp) (fun k hk=>hoth k hk),fun q row e => ?_,h.sep,h.nodup,fun q p' b e hm=>by simpa using h.own q p' b e hm⟩,fun q hq=>h.out q (by simpa using hq),fun q e => ?_,h.pin⟩
 by_cases hqr:q=r
 ·subst hqr
  rw [List.getElem?_set_self'] at e
  have:row=row':=by
   cases hx:rows[q]? with
   | none=>rw [hx] at e;simp at e
   | some y=>rw [hx] at e;simpa using e.symm
  subst this
  rw [hp];exact hrow
 ·rw [List.getElem?_set_ne (fun e=>hqr e.symm)] at e
  refine (h.row q row e).heap fun p' hp' b hb=>hoth _ fun hbe => ?_
  subst hbe
  exact hqr (h.sep q r p' p _ hp' hp hb (FP.mem_blk hz))
 ·by_cases hqr:q=r
  ·subst hqr
   rw [List.getElem?_set_self'] at e
   cases hx:rows[q]? with
   | none=>rw [hx] at e;simp at e
   | some y=>rw [hx] at e;simp at e;subst e;simp [X1i] at hd
  ·rw [List.getElem?_set_ne (fun e=>hqr e.symm)] at e
   exact h.dead q e
theorem Mem.repl {w0:Old0} {w:World} {μ:Nat→Option FP} {rows:List Row} (h:Mem w0 μ rows w) {r:Nat} {row':Row} (hrow:X4 w0.heap μ w.heap (μ r) row') (hd:X1i row'=false):Mem w0 μ (rows.set r row') w:=by
 refine ⟨⟨h.bel,fun q row e => ?_,h.sep,h.nodup,h.own⟩,fun q hq=>h.out q (by simpa using hq),fun q e => ?_,h.pin⟩
 ·by_cases hqr:r=q
  ·subst hqr
   rw [List.getElem?_set_self'] at e
   cases hx:rows[r]? with
   | none=>rw [hx] at e;simp at e
   | some y =>
    rw [hx] at e
    have:row=row':=by simpa using e.symm
    subst this;exact hrow
  ·rw [List.getElem?_set_ne hqr] at e;exact h.row q row e
 ·by_cases hqr:r=q
  ·subst hqr
   rw [List.getElem?_set_self'] at e
   cases hx:rows[r]? with
   | none=>rw [hx] at e;simp at e
   | some y=>rw [hx] at e;simp at e;subst e;simp [X1i] at hd
  ·rw [List.getElem?_set_ne hqr] at e;exact h.dead q e
section
variable {kv:List ((Int × Int) × Int)} {k q:Int × Int}
theorem memS:(kv.any (fun x=>x.1 == k))=decide (k∈kv.map (·.1)):=by
 rw [Bool.eq_iff_iff,decide_eq_true_iff,List.any_eq_true,List.mem_map]
 constructor
 ·rintro ⟨x,h1,h2⟩;exact ⟨x,h1,by simpa using h2⟩
 ·rintro ⟨x,h1,h2⟩;exact ⟨x,h1,by simpa using h2⟩
theorem X2F (h:k∈kv.map (·.1)):X27 kv k=kv:=by unfold X27;rw [memS,decide_eq_true h];rfl
theorem X2i (h:k ∉ kv.map (·.1)):X27 kv k=kv ++ [(k,0)]:=by unfold X27;rw [memS,decide_eq_false h];rfl
theorem X3N (h:k ∉ kv.map (·.1)):XE kv k=kv.length:=by
 unfold XE
 rw [List.findIdx_eq_length]
 intro x hx
 rw [beq_eq_false_iff_ne]
 intro e
 exact h (List.mem_map.2 ⟨x,hx,e⟩)
theorem X2S (h:k ∉ kv.map (·.1)):X1f kv k=0:=by
 unfold X1f
 rw [List.find?_eq_none.2 fun x hx e=>h (List.mem_map.2 ⟨x,hx,by simpa using e⟩)]
theorem X9S (h:k∈kv.map (·.1)):kv[XE kv k]? = some (k,X1f kv k):=by
 obtain ⟨x,h1,h2⟩:=List.mem_map.1 h
 have hlt:XE kv k < kv.length:=List.findIdx_lt_length.2 ⟨x,h1,by simpa using h2⟩
 have hf:kv.find? (fun x=>x.1 == k)=some (kv[XE kv k]'hlt):=by
  rw [List.find?_eq_getElem?_findIdx]
  exact List.getElem?_eq_getElem hlt
 have hk:(kv[XE kv k]'hlt).1=k:=by
  have:=List.findIdx_getElem (p:=fun (x:(Int × Int) × Int)=>x.1 == k) (xs:=kv) (w:=hlt)
  exact eq_of_beq this
 rw [List.getElem?_eq_getElem hlt]
 unfold X1f
 rw [hf]
 simp only [Option.some.injEq]
 generalize kv[XE kv k]'hlt=y at *
 obtain ⟨y1,y2⟩:=y
 simp only at hk ⊢
 rw [hk]
theorem XaA:(X27 kv k)[XE kv k]? = some (k,X1f kv k):=by
 by_cases h:k∈kv.map (·.1)
 ·rw [X2F h];exact X9S h
 ·rw [X2i h,X3N h,X2S h];simp
theorem X90:X1f (X27 kv q) k=X1f kv k:=by
 by_cases h:q∈kv.map (·.1)
 ·rw [X2F h]
 ·rw [X2i h]
  unfold X1f
  rw [List.find?_append]
  cases hf:kv.find? (fun x=>x.1 == k) with
  | some x=>rfl
  | none =>
   simp only [Option.none_or]
   by_cases e:q=k
   ·subst e;simp
   ·have:(q == k)=false:=by rw [beq_eq_false_iff_ne];exact e
    simp [this]
theorem X5j {pend:Option (Int × Int)}:X1f (kvE kv pend) k=X1f kv k:=by
 cases pend with
 | none=>rfl
 | some q=>exact X90
theorem X91 (h:(kv.map (·.1)).Nodup):((X27 kv k).map (·.1)).Nodup:=by
 by_cases hk:k∈kv.map (·.1)
 ·rw [X2F hk];exact h
 ·rw [X2i hk,List.map_append]
  exact List.nodup_append.2 ⟨h,by simp,fun x hx y hy=>by simp at hy;subst hy;intro he;subst he;exact hk hx⟩
theorem X4P {f:(Int × Int) × Int→(Int × Int) × Int} {y:(Int × Int) × Int}:∀ l:List ((Int × Int) × Int),(l ++ [y]).modify l.length f=l ++ [f y]
 | []=>rfl
 | x :: l=>by rw [List.cons_append,List.length_cons,List.modify_succ_cons,X4P l];rfl
theorem X4h {j:Nat} {v:Int}:∀ (l:List ((Int × Int) × Int)) (j:Nat),(l.modify j (fun x=>(x.1,v))).map (·.1)=l.map (·.1)
 | [],j=>by simp
 | x :: l,0=>by simp
 | x :: l,j + 1=>by simp [X4h (j:=j) l j]
end
section
variable {P:Program} {w0:Old0} {w:World} {μ:Nat→Option FP}
theorem X9x {H:Array Obj} {heap:Array Obj} {p:FP} {t:TypeId} {kd:Option IntKind} {kv:List ((Int × Int) × Int)} {pend:Option (Int × Int)} (hok:X4 H μ heap (some p) (.mapS t kd kv pend)) :
  ∃ es:Array MapEntry,heap[p.blk]? = some (.map es (kvE kv pend).length)∧es.size=(kvE kv pend).length∧(∀ e∈es.toList,∃ q∈(kvE kv pend).map (·.1),e.key=keyV q) ∧
   (∀ (j:Nat) (x:(Int × Int) × Int),(kvE kv pend)[j]? = some x→∃ e,es[j]? = some e∧e.born=j∧e.key=keyV x.1∧e.val=scV kd x.2∧∀ i e',i < j→es.toList[i]? = some e'→∃ q,e'.key=keyV q∧q≠x.1):=by
 obtain ⟨hz,h1,h2,es,h3,h4,h5⟩:=hok
 generalize kvE kv pend=kv at *
 have at':∀ (i:Nat) (e:MapEntry),es.toList[i]? = some e→∃ x,kv[i]? = some x∧e.key=keyV x.1:=fun i e he=>by
  have hi:i < kv.length:=by
   rcases Nat.lt_or_ge i es.toList.length with h | h
   ·rw [Array.length_toList] at h;omega
   ·rw [List.getElem?_eq_none h] at he;cases he
  obtain ⟨e2,g1,_,g2,_⟩:=h5 i _ (List.getElem?_eq_getElem hi)
  rw [← Array.getElem?_toList,he] at g1;cases g1
  exact ⟨_,List.getElem?_eq_getElem hi,g2⟩
 refine ⟨es,h3,h4,fun e he => ?_,fun j x hx => ?_⟩
 ·obtain ⟨i,hi,rfl⟩:=List.getElem_of_mem he
  obtain ⟨x,hx,hk⟩:=at' i _ (List.getElem?_eq_getElem hi)
  exact ⟨x.1,List.mem_map.2 ⟨x,List.mem_of_getElem? hx,rfl⟩,hk⟩
 ·obtain ⟨e,g1,g2,g3,g4⟩:=h5 j x hx
  refine ⟨e,g1,g2,g3,g4,fun i e' hi he' => ?_⟩
  obtain ⟨y,hy,hk⟩:=at' i e' he'
  refine ⟨y.1,hk,fun heq => ?_⟩
  have hil:i < (kv.map (·.1)).length:=by
   rw [List.length_map]
   rcases Nat.lt_or_ge i kv.length with h | h
   ·exact h
   ·rw [List.getElem?_eq_none h] at hy;cases hy
  have hjl:j < (kv.map (·.1)).length:=by
   rw [List.length_map]
   rcases Nat.lt_or_ge j kv.length with h | h
   ·exact h
   ·rw [List.getElem?_eq_none h] at hx;cases hx
  have:(kv.map (·.1))[i]=(kv.map (·.1))[j]:=by
   have a1:=List.getElem?_eq_getElem hil
   have a2:=List.getElem?_eq_getElem hjl
   rw [List.getElem?_map,hy] at a1
   rw [List.getElem?_map,hx] at a2
   simp only [Option.map_some,Option.some.injEq] at a1 a2
   rw [← a1,← a2,heq]
  have:=(List.getElem_inj h2).1 this
  omega
theorem X69 {kt k2:TypeId} {inf:TypeInfo} (hk:P.underlying kt=some (.array 2 k2)) (h2:P.underlying k2=some (.int .i64)) (hi:P.info? k2=some inf) (hs:inf.size=1)
  {H:Array Obj} {p:FP} {t:TypeId} {kd:Option IntKind} {kv:List ((Int × Int) × Int)} {pend:Option (Int × Int)} (hok:X4 H μ w.heap (some p) (.mapS t kd kv pend)) (k:Int × Int) :
  ∃ es:Array MapEntry,w.heap[p.blk]? = some (.map es (kvE kv pend).length)∧es.size=(kvE kv pend).length ∧
   (k∈(kvE kv pend).map (·.1)→∃ e,es[XE (kvE kv pend) k]? = some e∧e.born=XE (kvE kv pend) k∧e.key=keyV k∧e.val=scV kd (X1f kv k)∧(Instr.findKey kt (keyV k) es.toList).run P w = .ok (some (XE (kvE kv pend) k,e.val)) w) ∧
   (k ∉ (kvE kv pend).map (·.1)→(Instr.findKey kt (keyV k) es.toList).run P w = .ok none w):=by
 obtain ⟨es,h3,h4,hall,hat⟩:=X9x hok
 have hw:(match P.underlying kt with | some (.array _ _) | some (.struct _)=>true | _=>false)=true:=by rw [hk]
 refine ⟨es,h3,h4,fun hm => ?_,fun hn => ?_⟩
 ·obtain ⟨e,g1,g2,g3,g4,g5⟩:=hat _ _ (X9S hm)
  refine ⟨e,g1,g2,g3,by rw [g4,X5j],?_⟩
  rw [run_findKey_eq w hw]
  have:=X38 hk h2 hi hs k w es.toList 0 _ e (by rw [Array.getElem?_toList];exact g1) g3 g5
  rw [Nat.zero_add] at this;exact this
 ·rw [run_findKey_eq w hw]
  refine X2m hk h2 hi hs k w _ 0 fun e he => ?_
  obtain ⟨q,hq,hk⟩:=hall e he
  exact ⟨q,hk,fun h=>hn (h ▸ hq)⟩
end
def scI:Option IntKind→AV→Option Int
 | some k, .i k' n=>match decide (k=k') with
  | true=>some n
  | false=>none
 | none, .b x=>some (cond x 1 0)
 | _,_=>none
theorem X7W {H:Array Obj} {μ:Nat→Option FP} {kd:Option IntKind} {c:AV} {v:Value} {m:Int} (h:scI kd c=some m) (hr:Rep H μ c v):v=scV kd m:=by
 unfold scI at h
 split at h
 ·split at h
  ·rename_i hk
   cases h;cases hr
   have:=of_decide_eq_true hk
   subst this;rfl
  ·cases h
 ·cases h;cases hr
  rename_i x
  cases x<;>rfl
 ·cases h
theorem X2x {H:Array Obj} {μ:Nat→Option FP} (kd:Option IntKind) (n:Int):Rep H μ (scA kd n) (scV kd n):=by
 cases kd with
 | none=>exact .b _
 | some k=>exact .i k n
def X6P (T:TypeId→Option TD) (np:Nat) (st:St) (op:Op):Option (St × Option AV × List Prop) :=
 match op with
 | .makeMap t none=>match T t with
  | some d=>match d.kind with
   | .smap kd=>some (⟨st.tm,st.rows ++ [.mapS t kd [] none]⟩,some (.mp st.rows.length),[])
   | _=>none
  | none=>none
 | .lookup t x k false=>match T t,opd st x,opd st k with
  | some d, .mp r, .agg [.i .i64 a, .i .i64 b]=>match d.kind,st.rows[r]? with
   | .smap kd,some (.mapS _ kd' kv _)=>match decide (kd=kd') with
    | true=>some (st,some (scA kd (X1f kv (a,b))),[])
    | false=>none
   | _,_=>none
  | _,_,_=>none
 | .mapEntry t x k=>match T t,opd st x,opd st k with
  | some d, .mp r, .agg [.i .i64 a, .i .i64 b]=>match d.kind,st.rows[r]? with
   | .smap kd,some (.mapS t' kd' kv none)=>match decide (kd=kd') && Nat.ble np r with
    | true=>some (⟨st.tm,st.rows.set r (.mapS t' kd kv (some (a,b)))⟩,some (.tup [scA kd (X1f kv (a,b)), .i .i64 (XE kv (a,b))]),[])
    | false=>none
   | _,_=>none
  | _,_,_=>none
 | .entryStore _ x s v=>match opd st x,opd st s with
  | .mp r, .i .i64 n=>match st.rows[r]? with
   | some (.mapS t' kd kv (some key))=>match scI kd (opd st v),Nat.ble np r with
    | some m,true=>some (⟨st.tm,st.rows.set r (.mapS t' kd (X3p kv key m) none)⟩,none,[n=(XE kv key:Int)])
    | _,_=>none
   | _=>none
  | _,_=>none
 | .mapUpdate t x k v=>match T t,opd st x,opd st k with
  | some d, .mp r, .agg [.i .i64 a, .i .i64 b]=>match d.kind,st.rows[r]? with
   | .smap kd,some (.mapS t' kd' kv none)=>match scI kd (opd st v),decide (kd=kd') && Nat.ble np r with
    | some m,true=>some (⟨st.tm,st.rows.set r (.mapS t' kd (X3p kv (a,b) m) none)⟩,none,[])
    | _,_=>none
   | _,_=>none
  | _,_,_=>none
 | _=>none
section
variable {P:Program} {w0:Old0} {w:World} {μ:Nat→Option FP}
theorem X8k {h:Array Obj} {i:Nat} {o:Obj} (g:h[i]? = some o):h.setIfInBounds i o=h:=by
 apply Array.ext_getElem?
 intro j
 by_cases hi:i=j
 ·subst hi
  have hlt:i < h.size:=by
   rcases Nat.lt_or_ge i h.size with q | q
   ·exact q
   ·rw [Array.getElem?_eq_none q] at g;cases g
  rw [Array.getElem?_setIfInBounds_self,if_pos hlt,g]
 ·rw [Array.getElem?_setIfInBounds_ne hi]
theorem X5D (k:Int × Int):(Instr.keyThatStays (keyV k) (keyV k)).run P w = .ok (keyV k) w:=by
 have:Instr.sameBits 10000 (keyV k) (keyV k)=true:=by
  show Instr.sameBits (9999 + 1) _ _=true
  generalize 9999=n
  unfold keyV
  cases n<;>simp [Instr.sameBits]
 simp [Instr.keyThatStays,this]
theorem Xa4 {es:Array MapEntry} {j:Nat} {e:MapEntry} {k:Int × Int} (f1:es[j]? = some e) (f3:e.key=keyV k):(es.modify j fun e => { e with key:=keyV k })=es:=by
 apply Array.ext_getElem?
 intro i
 rw [Array.getElem?_modify]
 by_cases hij:j=i
 ·subst hij
  rw [if_pos rfl,f1,Option.map_some,← f3]
 ·rw [if_neg hij]
theorem X3O {T:TypeId→Option TD} (hT:TOk P T) {st:St} {a:Act} (hr:RelM w0 μ st a w) {t:TypeId} {d:TD} (hd:T t=some d) {kd:Option IntKind} (hke:d.kind = .smap kd) :
  ∃ kt el k2 inf inf2,P.underlying t=some (.map kt el)∧P.underlying kt=some (.array 2 k2)∧P.underlying k2=some (.int .i64)∧P.info? k2=some inf∧inf.size=1∧P.info? el=some inf2∧inf2.zero=some (scV kd 0):=by
 obtain ⟨u,hu,hkd,_⟩:=(hT t d hd).desc
 rw [hke] at hkd
 cases u<;>simp only [Xa] at hkd
 obtain ⟨k2,inf,inf2,q1,q2,q3,q4,q6,q7⟩:=hkd
 exact ⟨_,_,k2,inf,inf2,hu,q1,q2,q3,q4,q6,q7⟩
theorem X5E {H:Array Obj} {heap:Array Obj} {p:FP} {t:TypeId} {kd:Option IntKind} {kv:List ((Int × Int) × Int)} {es:Array MapEntry} {k:Int × Int} {v:Int} (hz:p.nul=false) (hi:p.inn=[])
  (hnd:(kv.map (·.1)).Nodup) (hn:k ∉ kv.map (·.1)) (hs:es.size=kv.length) (hat:∀ (i:Nat) (x:(Int × Int) × Int),kv[i]? = some x→∃ e:MapEntry,es[i]? = some e∧e.born=i∧e.key=keyV x.1∧e.val=scV kd x.2)
  {kv':List ((Int × Int) × Int)} {pend:Option (Int × Int)} (hE:kvE kv' pend=kv ++ [(k,v)]) (hb:p.blk < heap.size) :
  X4 H μ (heap.setIfInBounds p.blk (.map (es.push { key:=keyV k,val:=scV kd v,born:=kv.length }) (kv.length + 1))) (some p) (.mapS t kd kv' pend):=by
 refine ⟨hz,hi,?_,es.push { key:=keyV k,val:=scV kd v,born:=kv.length },?_,?_,fun i x hx => ?_⟩
 ·rw [hE,List.map_append]
  exact List.nodup_append.2 ⟨hnd,by simp,fun x hx y hy=>by simp at hy;subst hy;intro he;subst he;exact hn hx⟩
 ·rw [Array.getElem?_setIfInBounds_self,if_pos hb,hE];simp
 ·rw [hE];simp [hs]
 ·rw [hE] at hx
  rcases Nat.lt_or_ge i kv.length with hil | hil
  ·rw [List.getElem?_append_left hil] at hx
   obtain ⟨e,f1,f2⟩:=hat i x hx
   refine ⟨e,?_,f2⟩
   rw [Array.getElem?_push_lt (by omega)];rw [Array.getElem?_eq_getElem (by omega)] at f1;exact f1
  ·rw [List.getElem?_append_right hil] at hx
   have hi0:i - kv.length=0:=by
    rcases Nat.eq_zero_or_pos (i - kv.length) with h | h
    ·exact h
    ·rw [List.getElem?_eq_none (by simp;omega)] at hx;cases hx
   rw [hi0] at hx
   simp at hx;subst hx
   have hie:i=es.size:=by omega
   exact ⟨{ key:=keyV k,val:=scV kd v,born:=kv.length },by rw [hie];simp,(show kv.length=i by omega),rfl,rfl⟩
theorem X6Q {H:Array Obj} {heap:Array Obj} {p:FP} {t:TypeId} {kd:Option IntKind} {kv:List ((Int × Int) × Int)} {es:Array MapEntry} {j:Nat} {v:Int} (hz:p.nul=false) (hi:p.inn=[])
  (hnd:(kv.map (·.1)).Nodup) (hs:es.size=kv.length) (hat:∀ (i:Nat) (x:(Int × Int) × Int),kv[i]? = some x→∃ e:MapEntry,es[i]? = some e∧e.born=i∧e.key=keyV x.1∧e.val=scV kd x.2)
  {f:MapEntry→MapEntry} (hf:∀ e,es[j]? = some e→(f e).born=e.born∧(f e).key=e.key∧(f e).val=scV kd v)
  {kv':List ((Int × Int) × Int)} {pend:Option (Int × Int)} (hE:kvE kv' pend=kv.modify j (fun x=>(x.1,v))) (hb:p.blk < heap.size) :
  X4 H μ (heap.setIfInBounds p.blk (.map (es.modify j f) kv.length)) (some p) (.mapS t kd kv' pend):=by
 refine ⟨hz,hi,?_,es.modify j f,?_,?_,fun i x hx => ?_⟩
 ·rw [hE,X4h (j:=j)];exact hnd
 ·rw [Array.getElem?_setIfInBounds_self,if_pos hb,hE];simp
 ·rw [hE];simp [hs]
 ·rw [hE,List.getElem?_modify] at hx
  by_cases hij:j=i
  ·subst hij
   simp only [if_true,Option.map_eq_map,Option.map_eq_some_iff] at hx
   obtain ⟨y,hy,rfl⟩:=hx
   obtain ⟨e,f1,f2,f3,f4⟩:=hat j y hy
   obtain ⟨g1,g2,g3⟩:=hf e f1
   exact ⟨f e,by rw [Array.getElem?_modify,if_pos rfl,f1];rfl,by rw [g1,f2],by rw [g2,f3],g3⟩
  ·simp only [if_neg hij,Option.map_eq_map,Option.map_id'] at hx
   obtain ⟨e,f1,f2⟩:=hat i x hx
   exact ⟨e,by rw [Array.getElem?_modify,if_neg hij];exact f1,f2⟩
theorem X6R {T:TypeId→Option TD} (hT:TOk P T) {st st':St} {a:Act} (hr:RelM w0 μ st a w) {np:Nat} (hnp:w0.np≤np) {o:Oper} {C:List Prop} {v:Option AV}
  (h:X6P T np st o.op=some (st',v,C)) (hC:All C) :
  (∃ u w' μ' c,v=some c∧(execOp a.eval o).run P w = .ok (.value u) w'∧RelM w0 μ' st' a w'∧Rep w0.heap μ' c u)∨(∃ w' μ',v=none∧(execOp a.eval o).run P w = .ok .skip w'∧RelM w0 μ' st' a w'):=by
 unfold X6P at h
 split at h
 ·-- makeMap
  rename_i t ho
  split at h
  ·rename_i d hd
   split at h
   ·rename_i e hkd
    simp only [Option.some.injEq,Prod.mk.injEq] at h
    obtain ⟨rfl,rfl,rfl⟩:=h
    left
    have hb:Bw w.heap.size w (w.alloc (.map #[] 0)):=⟨⟨rfl,rfl,rfl,by simp,fun k hk=>Below.heap_alloc _ _ _ hk⟩,Nat.le_refl _⟩
    have hn:=hr.mem.out st.rows.length (Nat.le_refl _)
    let p:FP:=⟨w.heap.size,0,0,0,[],false⟩
    have hg:Grow w0.heap μ (setμ μ st.rows.length p) st.rows.length [.mapS t e [] none] w.heap.size (w.alloc (.map #[] 0)).heap:=by
     refine Grow.one ⟨rfl,rfl,by simp [kvE],#[],?_,rfl,fun i x hi=>by simp [kvE] at hi⟩ rfl (Nat.le_refl _) (by simp [p]) rfl
     show (w.heap.push _)[w.heap.size]? = _;simp [kvE]
    have:=hr.grow hb hg (Nat.le_refl _) (fun q hq _=>hr.mem.out q hq)
    rw [X1J] at this
    refine ⟨_,_,_,_,rfl,?_,this, .mp _ p (by simp [setμ]) rfl⟩
    simp [execOp,ho,Instr.makeMap,p]
   ·cases h
  ·cases h
 ·-- lookup
  rename_i t x k ho
  split at h
  ·rename_i d r ka kb hd hx hk
   have hxv:=hr.opd x
   have hkv:=hr.opd k
   rw [hx] at hxv
   rw [hk] at hkv
   have hkey:=X2w hkv
   generalize hxe:a.eval x=xv at hxv
   cases hxv with
   | mp _ p hp hz =>
   split at h
   ·rename_i kd t' kd' kv pend hke hrr
    split at h
    ·rename_i hde
     have hde:=of_decide_eq_true hde
     subst hde
     simp only [Option.some.injEq,Prod.mk.injEq] at h
     obtain ⟨rfl,rfl,rfl⟩:=h
     obtain ⟨kt,el,k2,inf,inf2,c1,c2,c3,c4,c5,c6,c7⟩:=X3O hT hr hd hke
     have hok:=hr.mem.row r _ hrr
     rw [hp] at hok
     obtain ⟨es,g1,g2,g3,g4⟩:=X69 (w:=w) c2 c3 c4 c5 hok (ka,kb)
     left
     by_cases hm:(ka,kb)∈(kvE kv pend).map (·.1)
     ·obtain ⟨en,f1,f2,f3,f4,f6⟩:=g3 hm
      refine ⟨en.val,w,μ,_,rfl,?_,hr,by rw [f4];exact X2x _ _⟩
      simp [execOp,ho,Instr.lookup,hxe,hkey,run_underlying c1,XV g1,Xg c2 c3 c4 c5,f6]
     ·refine ⟨scV kd 0,w,μ,_,rfl,?_,hr,?_⟩
      ·simp [execOp,ho,Instr.lookup,hxe,hkey,run_underlying c1,XV g1,Xg c2 c3 c4 c5,g4 hm,run_zeroValue' w c6 c7]
      ·rw [← X5j (pend:=pend),X2S hm];exact X2x _ _
    ·cases h
   ·cases h
  ·cases h
 ·-- mapEntry
  rename_i t x k ho
  split at h
  ·rename_i d r ka kb hd hx hk
   have hxv:=hr.opd x
   have hkv:=hr.opd k
   rw [hx] at hxv
   rw [hk] at hkv
   have hkey:=X2w hkv
   generalize hxe:a.eval x=xv at hxv
   cases hxv with
   | mp _ p hp hz =>
   split at h
   ·rename_i kd t' kd' kv hke hrr
    split at h
    ·rename_i hde
     rw [Bool.and_eq_true] at hde
     have hde:=of_decide_eq_true hde.1
     subst hde
     simp only [Option.some.injEq,Prod.mk.injEq] at h
     obtain ⟨rfl,rfl,rfl⟩:=h
     obtain ⟨kt,el,k2,inf,inf2,c1,c2,c3,c4,c5,c6,c7⟩:=X3O hT hr hd hke
     have hok:=hr.mem.row r _ hrr
     rw [hp] at hok
     obtain ⟨es,g1,g2,g3,g4⟩:=X69 (w:=w) c2 c3 c4 c5 hok (ka,kb)
     obtain ⟨_,q1,q2,es',q3,q4,q5⟩:=hok
     simp only [kvE] at g1 g2 g3 g4 q2 q3 q4 q5
     rw [g1] at q3
     cases q3
     have hbl:p.blk < w.heap.size:=(hr.mem.own r p p.blk hp (FP.mem_blk hz)).2
     left
     by_cases hm:(ka,kb)∈kv.map (·.1)
     ·obtain ⟨en,f1,f2,f3,f4,f6⟩:=g3 hm
      have hsame:=X8k g1
      have hrow:X4 w0.heap μ w.heap (some p) (.mapS t' kd kv (some (ka,kb))):=by
       refine ⟨hz,q1,by simp only [kvE];exact X91 q2,es,?_,?_,?_⟩<;>simp only [kvE]<;>rw [X2F hm]
       ·exact g1
       ·exact q4
       ·exact q5
      refine ⟨.tuple #[en.val, .int .i64 (XE kv (ka,kb))],w,μ,_,rfl,?_,⟨hr.defers,hr.size,hr.tmps,hr.mem.repl (by rw [hp];exact hrow) rfl⟩, .tup _ _ rfl fun i c e => ?_⟩
      ·have hheap:({ w with heap:=w.heap.setIfInBounds p.blk (.map es kv.length) }:World)=w:=by rw [hsame]
       simp only [execOp,ho,Instr.mapEntry,hxe,hkey,Sem.run_bind,run_underlying c1,Result.andThen_ok,XV g1,Xg c2 c3 c4 c5,f6,f1,Option.map_some,Option.getD_some,f3,X5D,Xa4 f1 f3,X2h _ g1,hheap,f2]
       simp [goInt]
      ·match i,e with
       | 0,e=>simp at e;subst e;show Rep _ _ _ en.val;rw [f4];exact X2x _ _
       | 1,e=>simp at e;subst e;exact .i .i64 _
     ·have hrow:=X5E (μ:=μ) (H:=w0.heap) (t:=t') (kd:=kd) (k:=(ka,kb)) (v:=0) (heap:=w.heap) hz q1 q2 hm q4 q5 (kv':=kv) (pend:=some (ka,kb)) (by simp only [kvE];exact X2i hm) hbl
      refine ⟨.tuple #[scV kd 0, .int .i64 kv.length],_,μ,_,rfl,?_,⟨hr.defers,hr.size,hr.tmps,hr.mem.setHeap hp hz hrow⟩, .tup _ _ rfl fun i c e => ?_⟩
      ·simp only [execOp,ho,Instr.mapEntry,hxe,hkey,Sem.run_bind,run_underlying c1,Result.andThen_ok,XV g1,Xg c2 c3 c4 c5,g4 hm,run_zeroValue' w c6 c7,X2h _ g1]
       simp [goInt]
      ·match i,e with
       | 0,e=>simp at e;subst e;show Rep _ _ _ (scV kd 0);rw [X2S hm];exact X2x _ _
       | 1,e=>simp at e;subst e;show Rep _ _ _ (.int .i64 kv.length);rw [X3N hm];exact .i .i64 _
    ·cases h
   ·cases h
  ·cases h
 ·-- entryStore
  rename_i t x s y ho
  split at h
  ·rename_i r n hx hs
   have hxv:=hr.opd x
   have hsv:=hr.opd s
   have hyv:=hr.opd y
   rw [hx] at hxv
   rw [hs] at hsv
   generalize hxe:a.eval x=xv at hxv
   generalize hse:a.eval s=sv at hsv
   cases hxv with
   | mp _ p hp hz =>
   cases hsv
   split at h
   ·rename_i t' kd kv key hrr
    split at h
    ·rename_i m hsc hble
     simp only [Option.some.injEq,Prod.mk.injEq] at h
     obtain ⟨rfl,rfl,rfl⟩:=h
     have hn:=hC.1
     subst hn
     have hval:=X7W hsc hyv
     have hok:=hr.mem.row r _ hrr
     rw [hp] at hok
     obtain ⟨_,q1,q2,es,q3,q4,q5⟩:=hok
     simp only [kvE] at q2 q3 q4 q5
     have hbl:p.blk < w.heap.size:=(hr.mem.own r p p.blk hp (FP.mem_blk hz)).2
     obtain ⟨e,f1,f2,f3,f4⟩:=q5 _ _ XaA
     have hrow:=X6Q (μ:=μ) (H:=w0.heap) (t:=t') (kd:=kd) (heap:=w.heap) (j:=XE kv key) (v:=m) (f:=fun e => { e with val:=scV kd m }) hz q1 q2 q4 q5 (fun e _=>⟨rfl,rfl,rfl⟩) (kv':=X3p kv key m) (pend:=none) (by simp only [kvE];rfl) hbl
     have hfi:es.findIdx? (fun e=>(e.born:Int) == ((XE kv key:Nat):Int))=some (XE kv key):=by
      rw [Array.findIdx?_eq_some_iff_getElem]
      have hlt:XE kv key < es.size:=by
       rcases Nat.lt_or_ge (XE kv key) es.size with h | h
       ·exact h
       ·rw [Array.getElem?_eq_none h] at f1;cases f1
      refine ⟨hlt,?_,fun i hi => ?_⟩
      ·rw [Array.getElem?_eq_getElem hlt] at f1
       cases f1
       rw [f2];simp
      ·have hil:i < (X27 kv key).length:=by omega
       obtain ⟨e2,g1,g2,_⟩:=q5 i _ (List.getElem?_eq_getElem hil)
       rw [Array.getElem?_eq_getElem (by omega)] at g1
       have he:=Option.some.inj g1
       rw [he,g2]
       simp;omega
     right
     refine ⟨_,μ,rfl,?_,⟨hr.defers,hr.size,hr.tmps,hr.mem.setHeap hp hz hrow⟩⟩
     simp only [execOp,ho,Instr.entryStore,hxe,hse,hval,Sem.run_bind,Result.andThen_ok,XV q3]
     simp [asInt,asIntOf,hfi,X2h _ q3]
    ·cases h
   ·cases h
  ·cases h
 ·-- mapUpdate
  rename_i t x k y ho
  split at h
  ·rename_i d r ka kb hd hx hk
   have hxv:=hr.opd x
   have hkv:=hr.opd k
   have hyv:=hr.opd y
   rw [hx] at hxv
   rw [hk] at hkv
   have hkey:=X2w hkv
   generalize hxe:a.eval x=xv at hxv
   cases hxv with
   | mp _ p hp hz =>
   split at h
   ·rename_i kd t' kd' kv hke hrr
    split at h
    ·rename_i m hsc hde
     rw [Bool.and_eq_true] at hde
     have hde:=of_decide_eq_true hde.1
     subst hde
     simp only [Option.some.injEq,Prod.mk.injEq] at h
     obtain ⟨rfl,rfl,rfl⟩:=h
     have hval:=X7W hsc hyv
     obtain ⟨kt,el,k2,inf,inf2,c1,c2,c3,c4,c5,c6,c7⟩:=X3O hT hr hd hke
     have hok:=hr.mem.row r _ hrr
     rw [hp] at hok
     obtain ⟨es,g1,g2,g3,g4⟩:=X69 (w:=w) c2 c3 c4 c5 hok (ka,kb)
     obtain ⟨_,q1,q2,es',q3,q4,q5⟩:=hok
     simp only [kvE] at g1 g2 g3 g4 q2 q3 q4 q5
     rw [g1] at q3
     cases q3
     have hbl:p.blk < w.heap.size:=(hr.mem.own r p p.blk hp (FP.mem_blk hz)).2
     right
     by_cases hm:(ka,kb)∈kv.map (·.1)
     ·obtain ⟨en,f1,f2,f3,f4,f6⟩:=g3 hm
      have hrow:=X6Q (μ:=μ) (H:=w0.heap) (t:=t') (kd:=kd) (heap:=w.heap) (j:=XE kv (ka,kb)) (v:=m) (f:=fun e => { e with key:=keyV (ka,kb),val:=scV kd m }) hz q1 q2 q4 q5 (fun e he=>⟨rfl,by rw [f1] at he;cases he;exact f3.symm,rfl⟩) (kv':=X3p kv (ka,kb) m) (pend:=none) (by simp only [kvE,X3p,X2F hm]) hbl
      refine ⟨_,μ,rfl,?_,⟨hr.defers,hr.size,hr.tmps,hr.mem.setHeap hp hz hrow⟩⟩
      simp only [execOp,ho,Instr.mapUpdate,hxe,hkey,hval,Sem.run_bind,run_underlying c1,Result.andThen_ok,XV g1,Xg c2 c3 c4 c5,f6,f1,Option.map_some,Option.getD_some,f3,X5D,X2h _ g1]
      simp
     ·have hrow:=X5E (μ:=μ) (H:=w0.heap) (t:=t') (kd:=kd) (k:=(ka,kb)) (v:=m) (heap:=w.heap) hz q1 q2 hm q4 q5 (kv':=X3p kv (ka,kb) m) (pend:=none) (by
       simp only [kvE,X3p,X2i hm,X3N hm]
       rw [X4P]) hbl
      refine ⟨_,μ,rfl,?_,⟨hr.defers,hr.size,hr.tmps,hr.mem.setHeap hp hz hrow⟩⟩
      simp only [execOp,ho,Instr.mapUpdate,hxe,hkey,hval,Sem.run_bind,run_underlying c1,Result.andThen_ok,XV g1,Xg c2 c3 c4 c5,g4 hm,X2h _ g1]
      simp
    ·cases h
   ·cases h
  ·cases h
 ·cases h
def X92 (T:TypeId→Option TD) (st:St) (t:TypeId) (x k:Operand):Option AV :=
 match T t,opd st x,opd st k with
 | some d, .mp r, .agg [.i .i64 a, .i .i64 b]=>match d.kind,st.rows[r]? with
  | .smap kd,some (.mapS _ kd' kv _)=>match decide (kd=kd') with
   | true=>some (scA kd (X1f kv (a,b)))
   | false=>none
  | _,_=>none
 | _,_,_=>none
def evpL (P:Program) (E:Env) (st:St) (lo:Nat) (op:Op) (ans:List Ans):Option PR :=
 match op with
 | .lookup t x k false=>match X92 E.T st t x k with
  | some av=>some ⟨av,[],ans,[]⟩
  | none=>evp P E st lo (.lookup t x k false) ans
 | op=>evp P E st lo op ans
theorem X4Q {E:Env} (hE:EOk P E) {st:St} {a:Act} (hr:RelW w0 μ st a w) {lo:Nat} {o:Oper} {ans:List Ans} {r:PR} (h:evpL P E st lo o.op ans=some r) (hC:All r.C)
  (hn:∀ q,lo≤q→q < lo + r.new.length→μ q=none):Xb P o a w (Post w0 μ lo w r):=by
 unfold evpL at h
 split at h
 ·rename_i t x k ho
  split at h
  ·rename_i av hl
   simp only [Option.some.injEq] at h
   subst h
   unfold X92 at hl
   split at hl
   ·rename_i d r ka kb hd hx hk
    have hxv:=hr.opd x
    have hkv:=hr.opd k
    rw [hx] at hxv
    rw [hk] at hkv
    have hkey:=X2w hkv
    generalize hxe:a.eval x=xv at hxv
    cases hxv with
    | mp _ p hp hz =>
    split at hl
    ·rename_i kd t' kd' kv pend hke hrr
     split at hl
     ·rename_i hde
      have hde:=of_decide_eq_true hde
      subst hde
      simp only [Option.some.injEq] at hl
      subst hl
      obtain ⟨u,hu,hkd,_⟩:=(hE.T t d hd).desc
      rw [hke] at hkd
      cases u<;>simp only [Xa] at hkd
      obtain ⟨k2,inf,inf2,c2,c3,c4,c5,c6,c7⟩:=hkd
      have c1:=hu
      have hok:=hr.mem.row r _ hrr
      rw [hp] at hok
      obtain ⟨es,g1,g2,g3,g4⟩:=X69 (w:=w) c2 c3 c4 c5 hok (ka,kb)
      by_cases hm:(ka,kb)∈(kvE kv pend).map (·.1)
      ·obtain ⟨en,f1,f2,f3,f4,f6⟩:=g3 hm
       refine Xb.value (v:=en.val) ?_ (Post.plain (by rw [f4];exact X2x _ _))
       simp [execOp,ho,Instr.lookup,hxe,hkey,run_underlying c1,XV g1,Xg c2 c3 c4 c5,f6]
      ·refine Xb.value (v:=scV kd 0) ?_ (Post.plain (by rw [← X5j (pend:=pend),X2S hm];exact X2x _ _))
       simp [execOp,ho,Instr.lookup,hxe,hkey,run_underlying c1,XV g1,Xg c2 c3 c4 c5,g4 hm,run_zeroValue' w c6 c7]
     ·cases hl
    ·cases hl
   ·cases hl
  ·rw [← ho] at h
   exact X2N hE hr h hC hn
 ·exact X2N hE hr h hC hn
end
end Go.Ab
