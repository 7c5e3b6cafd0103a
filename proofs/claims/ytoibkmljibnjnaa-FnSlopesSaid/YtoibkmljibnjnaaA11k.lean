/- Maps by pairs of numbers to slices: what the machine does, and what the evaluator tells. -/
import Derived.Test.YtoibkmljibnjnaaA11m
import Derived.WideKeyRuns
set_option linter.unusedVariables false
set_option linter.unusedSimpArgs false
namespace Go.Ab
open Go.RowKit
section
variable {P:Program} {w:World} {kt k2:TypeId} {inf:TypeInfo}
theorem X1C (h2:P.underlying k2=some (.int .i64)) (k:Int × Int) (w:World):(part k2 #[Value.int .i64 k.1, .int .i64 k.2] 0).run P w = .ok (.int .i64 k.1) w∧(part k2 #[Value.int .i64 k.1, .int .i64 k.2] 1).run P w = .ok (.int .i64 k.2) w:=by
 have hp:P.plainKey k2=true:=by simp [Program.plainKey,h2]
 exact ⟨run_part_plain w hp rfl,run_part_plain w hp rfl⟩
theorem X5B (h2:P.underlying k2=some (.int .i64)) (d:Nat) (a b:Int) (w:World):(Op.equalIn (d + 1) k2 (.int .i64 a) (.int .i64 b)).run P w = .ok (a == b) w:=by
 simp [Op.equalIn,run_underlying h2]
theorem X3t (hk:P.underlying kt=some (.array 2 k2)) (h2:P.underlying k2=some (.int .i64)) (hi:P.info? k2=some inf) (hs:inf.size=1) (a b:Int × Int) (w:World) :
  (Op.equal kt (keyV a) (keyV b)).run P w = .ok (decide (a=b)) w:=by
 have hc:P.cellsOf k2=1:=by simp [Program.cellsOf,hi,hs]
 have:=run_equalIn_array w 9999 (t:=kt) #[Value.int .i64 a.1, .int .i64 a.2] #[Value.int .i64 b.1, .int .i64 b.2] hk hi
 rw [hc] at this
 have e0:(Op.equal kt (keyV a) (keyV b)).run P w=(Op.equalIn (9999 + 1) kt (.agg #[Value.int .i64 a.1, .int .i64 a.2]) (.agg #[Value.int .i64 b.1, .int .i64 b.2])).run P w:=rfl
 rw [e0,this]
 obtain ⟨a1,a2⟩:=a
 obtain ⟨b1,b2⟩:=b
 have l:List.range 2=[0,1]:=rfl
 rw [l]
 have p1:=X1C h2 (a1,a2) w
 have p2:=X1C h2 (b1,b2) w
 simp only [Op.eqItems,Sem.run_bind,Nat.zero_mul,Nat.one_mul,p1.1,p1.2,p2.1,p2.2,Result.andThen_ok,X5B h2 9998]
 by_cases h1:a1=b1
 ·have hq:∀ x y:Int,(part k2 #[Value.int .i64 x, .int .i64 y] 1).run P w = .ok (.int .i64 y) w:=fun x y=>(X1C h2 (x,y) w).2
  by_cases h3:a2=b2<;>simp [h1,h3,hq,X5B h2 9998]
 ·simp [h1]
theorem run_checkPair' (hk:P.underlying kt=some (.array 2 k2)) (h2:P.underlying k2=some (.int .i64)) (hi:P.info? k2=some inf) (hs:inf.size=1) (em:Bool) (a:Int × Int) (w:World) (d:Nat) :
  (Instr.checkKey em (d + 1 + 1) kt (keyV a)).run P w = .ok () w:=by
 have hc:P.cellsOf k2=1:=by simp [Program.cellsOf,hi,hs]
 have p1:=X1C h2 a w
 have hch:∀ n:Int,(Instr.checkKey em (d + 1) k2 (.int .i64 n)).run P w = .ok () w:=fun n=>by
  simp [Instr.checkKey,run_underlying h2]
 generalize hd:d + 1=q at hch
 unfold keyV
 simp only [Instr.checkKey,Sem.run_bind,run_underlying hk,Result.andThen_ok]
 simp only [Std.Legacy.Range.forIn_eq_forIn_range',Std.Legacy.Range.size,Nat.sub_zero,Nat.add_one_sub_one,Nat.div_one,show List.range' 0 2=[0,1] from rfl,List.forIn_cons,List.forIn_nil,Sem.run_bind,run_sizeOf w hi,hc,Result.andThen_ok,Nat.zero_mul,Nat.one_mul,p1.1,p1.2,hch,Sem.run_pure]
theorem Xg (hk:P.underlying kt=some (.array 2 k2)) (h2:P.underlying k2=some (.int .i64)) (hi:P.info? k2=some inf) (hs:inf.size=1) (em:Bool) (a:Int × Int) (w:World) :
  (Instr.checkKey em 10000 kt (keyV a)).run P w = .ok () w:=run_checkPair' hk h2 hi hs em a w 9998
theorem X2m (hk:P.underlying kt=some (.array 2 k2)) (h2:P.underlying k2=some (.int .i64)) (hi:P.info? k2=some inf) (hs:inf.size=1) (k:Int × Int) (w:World) :
  ∀ (es:List MapEntry) (i:Nat),(∀ e∈es,∃ q,e.key=keyV q∧q≠k)→(Instr.findAsking kt (keyV k) es i).run P w = .ok none w
 | [],i,_=>by simp [Instr.findAsking]
 | e :: es,i,h=>by
  obtain ⟨q,hq,hne⟩:=h e List.mem_cons_self
  have:decide (k=q)=false:=decide_eq_false fun x=>hne x.symm
  simp only [Instr.findAsking,Sem.run_bind,hq,X3t hk h2 hi hs,this,Result.andThen_ok]
  simpa using X2m hk h2 hi hs k w es (i + 1) fun e he=>h e (List.mem_cons_of_mem _ he)
theorem X38 (hk:P.underlying kt=some (.array 2 k2)) (h2:P.underlying k2=some (.int .i64)) (hi:P.info? k2=some inf) (hs:inf.size=1) (k:Int × Int) (w:World) :
  ∀ (es:List MapEntry) (i j:Nat) (e:MapEntry),es[j]? = some e→e.key=keyV k→(∀ i e',i < j→es[i]? = some e'→∃ q,e'.key=keyV q∧q≠k)→(Instr.findAsking kt (keyV k) es i).run P w = .ok (some (i + j,e.val)) w
 | [],i,j,e,h,_,_=>by simp at h
 | e0 :: es,i,0,e,h,hq,_=>by
  simp at h;subst h
  simp [Instr.findAsking,hq,X3t hk h2 hi hs]
 | e0 :: es,i,j + 1,e,h,hq,hb=>by
  obtain ⟨q,hq0,hne⟩:=hb 0 e0 (by omega) rfl
  have:decide (k=q)=false:=decide_eq_false fun x=>hne x.symm
  simp only [Instr.findAsking,Sem.run_bind,hq0,X3t hk h2 hi hs,this,Result.andThen_ok]
  have:=X38 hk h2 hi hs k w es (i + 1) j e (by simpa using h) hq (fun i' e' hi' he'=>hb (i' + 1) e' (by omega) (by simpa using he'))
  rw [show i + (j + 1)=i + 1 + j from by omega]
  simpa using this
end
theorem X4O {l:List (Option Nat)} (h:(l.filterMap id).Nodup) {i j b:Nat} (hi:l[i]? = some (some b)) (hj:l[j]? = some (some b)):i=j:=by
 induction l generalizing i j with
 | nil=>simp at hi
 | cons x l ih =>
  have tail:∀ k:Nat,l[k]? = some (some b)→b∈l.filterMap id:=fun k hk=>List.mem_filterMap.2 ⟨some b,List.mem_of_getElem? hk,rfl⟩
  cases i with
  | zero =>
   simp at hi;subst hi
   cases j with
   | zero=>rfl
   | succ j =>
    simp only [List.filterMap_cons,id] at h
    exact absurd (tail j (by simpa using hj)) (List.nodup_cons.1 h).1
  | succ i =>
   cases j with
   | zero =>
    simp at hj;subst hj
    simp only [List.filterMap_cons,id] at h
    exact absurd (tail i (by simpa using hi)) (List.nodup_cons.1 h).1
   | succ j =>
    have h':(l.filterMap id).Nodup:=by
     cases x with
     | none=>simpa using h
     | some y=>simp only [List.filterMap_cons,id] at h;exact (List.nodup_cons.1 h).2
    exact congrArg (· + 1) (ih h' (by simpa using hi) (by simpa using hj))
theorem X9w {H:Array Obj} {μ:Nat→Option FP} {heap:Array Obj} {p:FP} {t:TypeId} {kv:List ((Int × Int) × List (List AV))} {hole:Option Nat} (hok:X4 H μ heap (some p) (.mapN t kv hole)) :
  ∃ es,heap[p.blk]? = some (.map es kv.length)∧es.size=kv.length∧(∀ e∈es.toList,∃ q∈kv.map (·.1),e.key=keyV q) ∧
   ∀ j k,(kv.map (·.1))[j]? = some k→∃ e,es[j]? = some e∧e.born=j∧e.key=keyV k∧(hole≠some j→e.val=innV (p.inn.getD j none))∧∀ i e',i < j→es.toList[i]? = some e'→∃ q,e'.key=keyV q∧q≠k:=by
 obtain ⟨hz,h1,h2,es,h3,h4,h5⟩:=hok
 have at':∀ (i:Nat) (e:MapEntry),es.toList[i]? = some e→∃ x,kv[i]? = some x∧e.key=keyV x.1:=fun i e he=>by
  have hi:i < kv.length:=by
   rcases Nat.lt_or_ge i es.toList.length with h | h
   ·rw [Array.length_toList] at h;omega
   ·rw [List.getElem?_eq_none h] at he;cases he
  obtain ⟨e2,g1,_,g2,_⟩:=h5 i _ (List.getElem?_eq_getElem hi)
  rw [← Array.getElem?_toList,he] at g1;cases g1
  exact ⟨_,List.getElem?_eq_getElem hi,g2⟩
 refine ⟨es,h3,h4,fun e he => ?_,fun j k hj => ?_⟩
 ·obtain ⟨i,hi,rfl⟩:=List.getElem_of_mem he
  obtain ⟨x,hx,hk⟩:=at' i _ (List.getElem?_eq_getElem hi)
  exact ⟨x.1,List.mem_map.2 ⟨x,List.mem_of_getElem? hx,rfl⟩,hk⟩
 ·rw [List.getElem?_map,Option.map_eq_some_iff] at hj
  obtain ⟨x,hx,rfl⟩:=hj
  obtain ⟨e,g1,g2,g3,g4,g5⟩:=h5 j x hx
  refine ⟨e,g1,g2,g3,g5,fun i e' hi he' => ?_⟩
  obtain ⟨y,hy,hk⟩:=at' i e' he'
  refine ⟨y.1,hk,fun heq => ?_⟩
  have hil:i < (kv.map (·.1)).length:=by
   rw [List.length_map]
   rcases Nat.lt_or_ge i kv.length with h | h
   ·exact h
   ·rw [List.getElem?_eq_none h] at hy;cases hy
  have hjl:j < (kv.map (·.1)).length:=by
   rw [List.length_map]
   rcases Nat.lt_or_ge j kv.length with h | h
   ·exact h
   ·rw [List.getElem?_eq_none h] at hx;cases hx
  have:(kv.map (·.1))[i]=(kv.map (·.1))[j]:=by
   have a1:=List.getElem?_eq_getElem hil
   have a2:=List.getElem?_eq_getElem hjl
   rw [List.getElem?_map,hy] at a1
   rw [List.getElem?_map,hx] at a2
   simp only [Option.map_some,Option.some.injEq] at a1 a2
   rw [← a1,← a2,heq]
  have:=(List.getElem_inj h2).1 this
  omega
/- references to a row, and to inner slices, let go -/
def scM1 (q:Nat):AV→AV
 | .own r=>match Nat.beq r q with
  | true => .any
  | false => .own r
 | .ptr r i o=>match Nat.beq r q with
  | true => .any
  | false => .ptr r i o
 | .mp r=>match Nat.beq r q with
  | true => .any
  | false => .mp r
 | .inn _ _ | .ipt _ _ _ | .agg _ | .tup _ | .fn _ _ | .bx _ _ => .any
 | v=>v
def scM2 (q:Nat):AV→AV
 | .agg cs => .agg (cs.map (scM1 q))
 | v=>scM1 q v
def scM (q:Nat):AV→AV
 | .tup vs => .tup (vs.map (scM2 q))
 | .fn g cap => .fn g (cap.map (scM1 q))
 | v=>scM2 q v
def Xi (q:Nat):Row→Row
 | .box t cs => .box t (cs.map (scM q))
 | .lits t cs => .lits t (cs.map (scM q))
 | r=>r
section
variable {H:Array Obj} {μ μ':Nat→Option FP} {q:Nat}
theorem X4t (hs:X16 q μ μ') {c:AV} {v:Value} (h:Rep H μ c v):Rep H μ' (scM1 q c) v:=by
 cases h with
 | any v=>exact .any v
 | b x=>exact .b x
 | i k n=>exact .i k n
 | f k x bits h e=>exact .f k x bits h e
 | nils=>exact .nils
 | slE a c=>exact .slE a c
 | sl l es bl off c val h h1 h2 hc=>exact .sl l es bl off c val h h1 h2 hc
 | ref cs off bl base val h h2=>exact .ref cs off bl base val h h2
 | own r p h =>
  simp only [scM1]
  split
  ·exact .any _
  ·rename_i hb
   exact X1K hs (c := .own r) (by simp only [X12];simpa using Nat.ne_of_beq_eq_false hb) (.own r p h)
 | ptr r idx off p h =>
  simp only [scM1]
  split
  ·exact .any _
  ·rename_i hb
   exact X1K hs (c := .ptr r idx off) (by simp only [X12];simpa using Nat.ne_of_beq_eq_false hb) (.ptr r idx off p h)
 | mp r p h hz =>
  simp only [scM1]
  split
  ·exact .any _
  ·rename_i hb
   exact X1K hs (c := .mp r) (by simp only [X12];simpa using Nat.ne_of_beq_eq_false hb) (.mp r p h hz)
 | inn=>exact .any _
 | ipt=>exact .any _
 | bx=>exact .any _
 | agg=>exact .any _
 | tup=>exact .any _
 | fn=>exact .any _
theorem X6J (hs:X16 q μ μ') {c:AV} {v:Value} (h:Rep H μ c v):Rep H μ' (scM2 q c) v:=by
 cases c with
 | agg cs =>
  cases h with | agg _ vs hz hh =>
  refine .agg _ vs (by simpa using hz) fun j c e => ?_
  rw [List.getElem?_map,Option.map_eq_some_iff] at e
  obtain ⟨c0,e0,rfl⟩:=e
  exact X4t hs (hh j c0 e0)
 | _=>exact X4t hs h
theorem X2v (hs:X16 q μ μ') {c:AV} {v:Value} (h:Rep H μ c v):Rep H μ' (scM q c) v:=by
 cases c with
 | tup cs =>
  cases h with | tup _ vs hz hh =>
  refine .tup _ vs (by simpa using hz) fun j c e => ?_
  rw [List.getElem?_map,Option.map_eq_some_iff] at e
  obtain ⟨c0,e0,rfl⟩:=e
  exact X6J hs (hh j c0 e0)
 | fn g cap =>
  cases h with | fn _ _ vs hz hh =>
  refine .fn g _ vs (by simpa using hz) fun j c e => ?_
  rw [List.getElem?_map,Option.map_eq_some_iff] at e
  obtain ⟨c0,e0,rfl⟩:=e
  exact X4t hs (hh j c0 e0)
 | _=>exact X6J hs h
theorem X2R (hs:X16 q μ μ') {heap:Array Obj} {p:Option FP} {row:Row} (h:X4 H μ heap p row):X4 H μ' heap p (Xi q row):=by
 cases row with
 | box t cs =>
  cases p with
  | none=>exact h.elim
  | some p =>
   obtain ⟨ez,e1,e2,arr,e3,e4,e5⟩:=h
   refine ⟨ez,by simpa [Xi] using e1,e2,arr,e3,by simpa [Xi] using e4,fun j c e => ?_⟩
   rw [List.getElem?_map,Option.map_eq_some_iff] at e
   obtain ⟨c0,e0,rfl⟩:=e
   exact X2v hs (e5 j c0 e0)
 | lits t cs =>
  cases p with
  | none=>exact h.elim
  | some p =>
   obtain ⟨ez,e1,e2,e2',e2'',arr,e3,e4,e5⟩:=h
   refine ⟨ez,e1,e2,by simpa [Xi] using e2',by simpa [Xi] using e2'',arr,e3,by simpa [Xi] using e4,fun j c e => ?_⟩
   rw [List.getElem?_map,Option.map_eq_some_iff] at e
   obtain ⟨c0,e0,rfl⟩:=e
   exact X2v hs (e5 j c0 e0)
 | vec=>cases p<;>exact h
 | nest=>cases p<;>exact h
 | mapN=>cases p<;>exact h
 | mapS=>cases p<;>exact h
 | nestD=>cases p<;>exact h
 | vecU=>cases p<;>exact h
 | dead=>cases p<;>exact h
end
theorem Mem.anew {w0:Old0} {w w':World} {μ μ':Nat→Option FP} {rows rows':List Row} (h:Mem w0 μ rows w) (hb:Bel w0 w') (hsz:w'.heap.size=w.heap.size)
  (hown:∀ i p b,μ' i=some p→b∈p.blks→∃ k pk,μ k=some pk∧b∈pk.blks)
  (hrow:∀ i row,rows'[i]? = some row→X4 w0.heap μ' w'.heap (μ' i) row)
  (hsep:∀ i j p p' b,μ' i=some p→μ' j=some p'→b∈p.blks→b∈p'.blks→i=j) (hnd:∀ i p,μ' i=some p→p.blks.Nodup)
  (hout:∀ i,rows'.length≤i→μ' i=none) (hdead:∀ i,rows'[i]? = some .dead→μ' i=none) (hpin:Sub w0.pin μ'):Mem w0 μ' rows' w' :=
 ⟨⟨hb,hrow,hsep,hnd,fun i p b e hm=>by
  obtain ⟨k,pk,e1,e2⟩:=hown i p b e hm
  rw [hsz];exact h.own k pk b e1 e2⟩,hout,hdead,hpin⟩
def X5i (np:Nat) (st:St) (r j:Nat):Option (St × List Prop) :=
 match st.rows[r]? with
 | some (.mapN t kv none)=>match Nat.ble np r with
  | true=>some (⟨st.tm.map (scM st.rows.length),((st.rows.map (Xi st.rows.length)).set r (.mapN t (kv.set j ((kv.getD j default).1,[])) (some j))) ++ [.vec t 1 (kv.getD j default).2 false]⟩,[j < kv.length])
  | false=>none
 | _=>none
def fpOf:Option (Nat × Nat × Nat)→FP
 | none=>⟨0,0,0,0,[],true⟩
 | some (b,n,c)=>⟨b,1,n,c,[],false⟩
theorem X6K (ib:Option (Nat × Nat × Nat)):(fpOf ib).val=innV ib:=by
 cases ib with
 | none=>rfl
 | some x=>obtain ⟨b,n,c⟩:=x;rfl
theorem X5C {ib:Option (Nat × Nat × Nat)} {b:Nat}:b∈(fpOf ib).blks↔ib.map (·.1)=some b:=by
 cases ib with
 | none=>simp [fpOf,FP.blks]
 | some x=>obtain ⟨b,n,c⟩:=x;simp [fpOf,FP.blks,FP.ib,eq_comm]
theorem X7V {β:Type} (kv:List ((Int × Int) × β)) (j:Nat) (y:β) [Inhabited β] (hj:j < kv.length):(kv.set j ((kv.getD j default).1,y)).map (·.1)=kv.map (·.1):=by
 rw [List.map_set]
 apply List.ext_getElem?
 intro i
 by_cases hi:j=i
 ·subst hi
  rw [List.getElem?_set_self (by simpa using hj),List.getElem?_map,List.getD_eq_getElem?_getD,List.getElem?_eq_getElem hj];rfl
 ·rw [List.getElem?_set_ne hi]
theorem X61 {w0:Old0} {w:World} {μ:Nat→Option FP} {st st1:St} {a:Act} (hr:RelM w0 μ st a w) {np r j:Nat} (hnp:w0.np≤np) {C:List Prop} {v:Value}
  (hv:Rep w0.heap μ (.inn r j) v) (h:X5i np st r j=some (st1,C)) (hC:All C):∃ μ',RelM w0 μ' st1 a w∧Rep w0.heap μ' (.own st.rows.length) v:=by
 unfold X5i at h
 split at h
 ·rename_i t kv hrr
  split at h
  ·rename_i hble
   rw [Nat.ble_eq] at hble
   simp only [Option.some.injEq,Prod.mk.injEq] at h
   obtain ⟨rfl,rfl⟩:=h
   obtain ⟨hj,_⟩:=hC
   cases hv with
   | inn _ _ p ib hp hb =>
   have hok:=hr.mem.row r _ hrr
   rw [hp] at hok
   have hI:=X47 hok hb
   obtain ⟨hz,h1,h2,es,h3,h4,h5⟩:=hok
   have hrl:r < st.rows.length:=by
    rcases Nat.lt_or_ge r st.rows.length with h | h
    ·exact h
    ·rw [List.getElem?_eq_none h] at hrr;cases hrr
   generalize hq:st.rows.length=q at *
   have hqn:μ q=none:=hr.mem.out q (by omega)
   let p':FP:={ p with inn:=p.inn.set j none }
   have hpz:p'.nul=false:=hz
   have hib':p'.ib=p.ib.set j none:=by simp [p',FP.ib,List.map_set]
   let μ':Nat→Option FP:=fun i=>if i=q then some (fpOf ib) else if i=r then some p' else μ i
   have hμq:μ' q=some (fpOf ib):=if_pos rfl
   have hμr:μ' r=some p':=by show (if r=q then _ else _)=_;rw [if_neg (by omega),if_pos rfl]
   have hμo:∀ i,i≠q→i≠r→μ' i=μ i:=fun i h1 h2=>by show (if i=q then _ else _)=_;rw [if_neg h1,if_neg h2]
   have hal:X16 q μ μ':=by
    intro i pi hi e
    by_cases hir:i=r
    ·subst hir
     rw [hp] at e;cases e
     exact ⟨p',hμr,rfl,rfl,rfl,rfl,rfl⟩
    ·exact ⟨pi,by rw [hμo i hi hir];exact e,rfl,rfl,rfl,rfl,rfl⟩
   have hnd:=hr.mem.nodup r p hp
   rw [FP.blks_of hz] at hnd
   obtain ⟨hnd1,hnd2⟩:=List.nodup_cons.1 hnd
   have hinl:j < p.inn.length:=by omega
   have hibj:p.ib[j]? = some (ib.map (·.1)):=by
    show (p.inn.map _)[j]? = _
    rw [List.getElem?_map,hb];rfl
   have hset:∀ b,b∈p'.ib.filterMap id→b∈p.ib.filterMap id∧ib.map (·.1)≠some b:=by
    intro b hbm
    obtain ⟨z,hz1,hz2⟩:=List.mem_filterMap.1 hbm
    simp only [id] at hz2;subst hz2
    obtain ⟨i,hi⟩:=List.mem_iff_getElem?.1 hz1
    rw [hib'] at hi
    have hij:j≠i:=by
     intro e;subst e
     rw [List.getElem?_set_self (by simpa [FP.ib] using hinl)] at hi;cases hi
    rw [List.getElem?_set_ne hij] at hi
    refine ⟨List.mem_filterMap.2 ⟨some b,List.mem_of_getElem? hi,rfl⟩,fun e=>hij ?_⟩
    rw [e] at hibj
    exact X4O hnd2 hibj hi
   have hp_sub:∀ b,b∈p'.blks→b∈p.blks:=by
    intro b hbm
    rw [FP.blks_of hpz] at hbm
    rw [FP.blks_of hz]
    rcases List.mem_cons.1 hbm with rfl | hbm
    ·exact List.mem_cons_self
    ·exact List.mem_cons_of_mem _ (hset b hbm).1
   have hq_sub:∀ b,b∈(fpOf ib).blks→b∈p.blks∧b ∉ p'.blks:=by
    intro b hbm
    rw [X5C] at hbm
    rw [hbm] at hibj
    have hm:b∈p.ib.filterMap id:=List.mem_filterMap.2 ⟨some b,List.mem_of_getElem? hibj,rfl⟩
    refine ⟨by rw [FP.blks_of hz];exact List.mem_cons_of_mem _ hm,fun hc => ?_⟩
    rw [FP.blks_of hpz] at hc
    rcases List.mem_cons.1 hc with e | hc
    ·exact hnd1 (by rw [show p.blk=b from e.symm];exact hm)
    ·exact (hset b hc).2 hbm
   have hcase:∀ i pi b,μ' i=some pi→b∈pi.blks→(i=q∧b∈p.blks∧b ∉ p'.blks)∨(i=r∧b∈p'.blks∧b∈p.blks)∨(i≠q∧i≠r∧μ i=some pi):=by
    intro i pi b e hm
    by_cases hiq:i=q
    ·subst hiq;rw [hμq] at e;cases e
     exact .inl ⟨rfl,hq_sub b hm⟩
    ·by_cases hir:i=r
     ·subst hir;rw [hμr] at e;cases e
      exact .inr (.inl ⟨rfl,hm,hp_sub b hm⟩)
     ·exact .inr (.inr ⟨hiq,hir,by rw [← hμo i hiq hir];exact e⟩)
   have hget:∀ i row,(((st.rows.map (Xi q)).set r (.mapN t (kv.set j ((kv.getD j default).1,[])) (some j))) ++ [.vec t 1 (kv.getD j default).2 false])[i]? = some row →
     (i=q∧row = .vec t 1 (kv.getD j default).2 false)∨(i=r∧row = .mapN t (kv.set j ((kv.getD j default).1,[])) (some j))∨(i≠q∧i≠r∧∃ row0,st.rows[i]? = some row0∧row=Xi q row0):=by
    intro i row e
    have hl:((st.rows.map (Xi q)).set r (.mapN t (kv.set j ((kv.getD j default).1,[])) (some j))).length=q:=by simp [hq]
    rcases Nat.lt_or_ge i q with hi | hi
    ·rw [List.getElem?_append_left (by omega)] at e
     by_cases hir:r=i
     ·subst hir
      rw [List.getElem?_set_self (by simp;omega)] at e
      exact .inr (.inl ⟨rfl,by simpa using e.symm⟩)
     ·rw [List.getElem?_set_ne hir,List.getElem?_map,Option.map_eq_some_iff] at e
      obtain ⟨row0,e1,e2⟩:=e
      exact .inr (.inr ⟨by omega,fun x=>hir x.symm,row0,e1,e2.symm⟩)
    ·rw [List.getElem?_append_right (by omega),hl] at e
     have:i - q=0:=by
      rcases Nat.eq_zero_or_pos (i - q) with h | h
      ·exact h
      ·rw [List.getElem?_eq_none (by simp;omega)] at e;cases e
     rw [this] at e
     exact .inl ⟨by omega,by simpa using e.symm⟩
   refine ⟨μ',⟨hr.defers,by simpa using hr.size,fun s u hu => ?_,hr.mem.anew hr.mem.bel rfl (fun i pi b e hm => ?_) (fun i row e => ?_) (fun i i' pi pi' b e e' hm hm' => ?_) (fun i pi e => ?_) (fun i hi => ?_) (fun i e => ?_) (fun i pi e => ?_)⟩,?_⟩
   ·simp only [List.getElem?_map,Option.map_eq_some_iff] at hu
    obtain ⟨u0,e0,rfl⟩:=hu
    exact X2v hal (hr.tmps s u0 e0)
   ·rcases hcase i pi b e hm with ⟨_,h,_⟩ | ⟨_,_,h⟩ | ⟨_,_,h⟩
    ·exact ⟨r,p,hp,h⟩
    ·exact ⟨r,p,hp,h⟩
    ·exact ⟨i,pi,h,hm⟩
   ·rcases hget i row e with ⟨rfl,rfl⟩ | ⟨rfl,rfl⟩ | ⟨h6,h7,row0,e1,rfl⟩
    ·rw [hμq]
     have hl0:(kv.map (·.2)).getD j []=(kv.getD j default).2:=by
      rw [List.getD_eq_getElem?_getD,List.getElem?_map,List.getD_eq_getElem?_getD,List.getElem?_eq_getElem hj];rfl
     rw [hl0] at hI
     cases ib with
     | none=>exact .inl ⟨rfl,hI,rfl⟩
     | some bnc =>
      obtain ⟨b,n,c⟩:=bnc
      obtain ⟨g1,g2,arr,g3,g4,g5⟩:=hI
      exact .inr ⟨rfl,rfl,rfl,g1,g2,(fun h=>by cases h),arr,g3,by rw [g4];exact (Nat.mul_one _).symm,g5⟩
    ·rw [hμr]
     refine ⟨hpz,by simp [p',h1],by rw [X7V kv j [] hj];exact h2,es,by simpa using h3,by simpa using h4,fun i x hi => ?_⟩
     by_cases hji:j=i
     ·subst hji
      rw [List.getElem?_set_self hj] at hi
      simp only [Option.some.injEq] at hi;subst hi
      obtain ⟨e,g1,g2,g3,_,_⟩:=h5 j _ (List.getElem?_eq_getElem hj)
      refine ⟨e,g1,g2,?_,?_,fun h=>absurd rfl h⟩
      ·rw [g3,List.getD_eq_getElem?_getD,List.getElem?_eq_getElem hj];rfl
      ·have:p'.inn.getD j none=none:=by
        simp only [p']
        rw [List.getD_eq_getElem?_getD,List.getElem?_set_self hinl];rfl
       rw [this];rfl
     ·rw [List.getElem?_set_ne hji] at hi
      obtain ⟨e,g1,g2,g3,g4,g5⟩:=h5 i x hi
      have:p'.inn.getD i none=p.inn.getD i none:=by
       simp only [p']
       rw [List.getD_eq_getElem?_getD,List.getElem?_set_ne hji,← List.getD_eq_getElem?_getD]
      rw [this]
      exact ⟨e,g1,g2,g3,g4,fun _=>g5 (by simp)⟩
    ·rw [hμo i h6 h7]
     exact X2R hal (hr.mem.row i row0 e1)
   ·rcases hcase i pi b e hm with ⟨hi,ha,hb1⟩ | ⟨hi,ha,hb1⟩ | ⟨hiq,hir,hi⟩<;>rcases hcase i' pi' b e' hm' with ⟨hi',ha',hb'⟩ | ⟨hi',ha',hb'⟩ | ⟨hiq',hir',hi'⟩
    ·omega
    ·exact absurd ha' hb1
    ·exact absurd (hr.mem.sep r i' p pi' b hp hi' ha hm').symm hir'
    ·exact absurd ha hb'
    ·omega
    ·exact absurd (hr.mem.sep r i' p pi' b hp hi' hb1 hm').symm hir'
    ·exact absurd (hr.mem.sep i r pi p b hi hp hm ha') hir
    ·exact absurd (hr.mem.sep i r pi p b hi hp hm hb') hir
    ·exact hr.mem.sep i i' pi pi' b hi hi' hm hm'
   ·by_cases hiq:i=q
    ·subst hiq;rw [hμq] at e;cases e
     cases ib with
     | none=>exact List.nodup_nil
     | some bnc=>obtain ⟨b,n,c⟩:=bnc;simp [fpOf,FP.blks,FP.ib]
    ·by_cases hir:i=r
     ·subst hir;rw [hμr] at e;cases e
      rw [FP.blks_of hpz]
      refine List.nodup_cons.2 ⟨fun hc=>hnd1 (hset _ hc).1,?_⟩
      rw [hib']
      exact X1q _ j none hnd2 (fun b h=>by cases h)
     ·rw [hμo i hiq hir] at e;exact hr.mem.nodup i pi e
   ·simp [hq] at hi
    rw [hμo i (by omega) (by omega)]
    exact hr.mem.out i (by omega)
   ·rcases hget i _ e with ⟨_,h⟩ | ⟨_,h⟩ | ⟨h6,h7,row0,e1,e2⟩
    ·cases h
    ·cases h
    ·rw [hμo i h6 h7]
     cases row0<;>simp [Xi] at e2
     exact hr.mem.dead i e1
   ·have hlt:=w0.pinLt i pi e
    rw [hμo i (by omega) (by omega)]
    exact hr.mem.pin i pi e
   ·rw [← X6K];exact .own q _ hμq
  ·cases h
 ·cases h
def X6L (np:Nat) (st:St) (r j d':Nat):Option (St × List Prop) :=
 match st.rows[r]? with
 | some (.nestD t ll d)=>match Nat.ble np r with
  | true=>some (⟨st.tm.map (scM st.rows.length),((st.rows.map (Xi st.rows.length)).set r (.nestD t ll d')) ++ [.vecU (ll.getD j [])]⟩,[j < ll.length,d≤j,j < d'])
  | false=>none
 | _=>none
theorem X6M {w0:Old0} {w:World} {μ:Nat→Option FP} {st st1:St} {a:Act} (hr:RelM w0 μ st a w) {np r j d':Nat} (hnp:w0.np≤np) {C:List Prop} {v:Value}
  (hv:Rep w0.heap μ (.inn r j) v) (h:X6L np st r j d'=some (st1,C)) (hC:All C):∃ μ',RelM w0 μ' st1 a w∧Rep w0.heap μ' (.own st.rows.length) v:=by
 unfold X6L at h
 split at h
 ·rename_i t ll d hrr
  split at h
  ·rename_i hble
   rw [Nat.ble_eq] at hble
   simp only [Option.some.injEq,Prod.mk.injEq] at h
   obtain ⟨rfl,rfl⟩:=h
   obtain ⟨hj,hdj,hjd,_⟩:=hC
   cases hv with
   | inn _ _ p ib hp hb =>
   have hok:=hr.mem.row r _ hrr
   rw [hp] at hok
   rcases hok with ⟨hz,rfl,_⟩ | ⟨hz,n1,n2,n3,h1,arr0,n4,n5,h5⟩
   ·simp at hj
   have hI:=h5 j _ hdj (List.getElem?_eq_getElem hj)
   rw [List.getD_eq_getElem?_getD,hb,Option.getD_some] at hI
   have hrl:r < st.rows.length:=by
    rcases Nat.lt_or_ge r st.rows.length with h | h
    ·exact h
    ·rw [List.getElem?_eq_none h] at hrr;cases hrr
   generalize hq:st.rows.length=q at *
   have hqn:μ q=none:=hr.mem.out q (by omega)
   let p':FP:={ p with inn:=p.inn.set j none }
   have hpz:p'.nul=false:=hz
   have hib':p'.ib=p.ib.set j none:=by simp [p',FP.ib,List.map_set]
   let μ':Nat→Option FP:=fun i=>if i=q then some (fpOf ib) else if i=r then some p' else μ i
   have hμq:μ' q=some (fpOf ib):=if_pos rfl
   have hμr:μ' r=some p':=by show (if r=q then _ else _)=_;rw [if_neg (by omega),if_pos rfl]
   have hμo:∀ i,i≠q→i≠r→μ' i=μ i:=fun i h1 h2=>by show (if i=q then _ else _)=_;rw [if_neg h1,if_neg h2]
   have hal:X16 q μ μ':=by
    intro i pi hi e
    by_cases hir:i=r
    ·subst hir
     rw [hp] at e;cases e
     exact ⟨p',hμr,rfl,rfl,rfl,rfl,rfl⟩
    ·exact ⟨pi,by rw [hμo i hi hir];exact e,rfl,rfl,rfl,rfl,rfl⟩
   have hnd:=hr.mem.nodup r p hp
   rw [FP.blks_of hz] at hnd
   obtain ⟨hnd1,hnd2⟩:=List.nodup_cons.1 hnd
   have hinl:j < p.inn.length:=by omega
   have hibj:p.ib[j]? = some (ib.map (·.1)):=by
    show (p.inn.map _)[j]? = _
    rw [List.getElem?_map,hb];rfl
   have hset:∀ b,b∈p'.ib.filterMap id→b∈p.ib.filterMap id∧ib.map (·.1)≠some b:=by
    intro b hbm
    obtain ⟨z,hz1,hz2⟩:=List.mem_filterMap.1 hbm
    simp only [id] at hz2;subst hz2
    obtain ⟨i,hi⟩:=List.mem_iff_getElem?.1 hz1
    rw [hib'] at hi
    have hij:j≠i:=by
     intro e;subst e
     rw [List.getElem?_set_self (by simpa [FP.ib] using hinl)] at hi;cases hi
    rw [List.getElem?_set_ne hij] at hi
    refine ⟨List.mem_filterMap.2 ⟨some b,List.mem_of_getElem? hi,rfl⟩,fun e=>hij ?_⟩
    rw [e] at hibj
    exact X4O hnd2 hibj hi
   have hp_sub:∀ b,b∈p'.blks→b∈p.blks:=by
    intro b hbm
    rw [FP.blks_of hpz] at hbm
    rw [FP.blks_of hz]
    rcases List.mem_cons.1 hbm with rfl | hbm
    ·exact List.mem_cons_self
    ·exact List.mem_cons_of_mem _ (hset b hbm).1
   have hq_sub:∀ b,b∈(fpOf ib).blks→b∈p.blks∧b ∉ p'.blks:=by
    intro b hbm
    rw [X5C] at hbm
    rw [hbm] at hibj
    have hm:b∈p.ib.filterMap id:=List.mem_filterMap.2 ⟨some b,List.mem_of_getElem? hibj,rfl⟩
    refine ⟨by rw [FP.blks_of hz];exact List.mem_cons_of_mem _ hm,fun hc => ?_⟩
    rw [FP.blks_of hpz] at hc
    rcases List.mem_cons.1 hc with e | hc
    ·exact hnd1 (by rw [show p.blk=b from e.symm];exact hm)
    ·exact (hset b hc).2 hbm
   have hcase:∀ i pi b,μ' i=some pi→b∈pi.blks→(i=q∧b∈p.blks∧b ∉ p'.blks)∨(i=r∧b∈p'.blks∧b∈p.blks)∨(i≠q∧i≠r∧μ i=some pi):=by
    intro i pi b e hm
    by_cases hiq:i=q
    ·subst hiq;rw [hμq] at e;cases e
     exact .inl ⟨rfl,hq_sub b hm⟩
    ·by_cases hir:i=r
     ·subst hir;rw [hμr] at e;cases e
      exact .inr (.inl ⟨rfl,hm,hp_sub b hm⟩)
     ·exact .inr (.inr ⟨hiq,hir,by rw [← hμo i hiq hir];exact e⟩)
   have hget:∀ i row,(((st.rows.map (Xi q)).set r (.nestD t ll d')) ++ [.vecU (ll.getD j [])])[i]? = some row →
     (i=q∧row = .vecU (ll.getD j []))∨(i=r∧row = .nestD t ll d')∨(i≠q∧i≠r∧∃ row0,st.rows[i]? = some row0∧row=Xi q row0):=by
    intro i row e
    have hl:((st.rows.map (Xi q)).set r (.nestD t ll d')).length=q:=by simp [hq]
    rcases Nat.lt_or_ge i q with hi | hi
    ·rw [List.getElem?_append_left (by omega)] at e
     by_cases hir:r=i
     ·subst hir
      rw [List.getElem?_set_self (by simp;omega)] at e
      exact .inr (.inl ⟨rfl,by simpa using e.symm⟩)
     ·rw [List.getElem?_set_ne hir,List.getElem?_map,Option.map_eq_some_iff] at e
      obtain ⟨row0,e1,e2⟩:=e
      exact .inr (.inr ⟨by omega,fun x=>hir x.symm,row0,e1,e2.symm⟩)
    ·rw [List.getElem?_append_right (by omega),hl] at e
     have:i - q=0:=by
      rcases Nat.eq_zero_or_pos (i - q) with h | h
      ·exact h
      ·rw [List.getElem?_eq_none (by simp;omega)] at e;cases e
     rw [this] at e
     exact .inl ⟨by omega,by simpa using e.symm⟩
   refine ⟨μ',⟨hr.defers,by simpa using hr.size,fun s u hu => ?_,hr.mem.anew hr.mem.bel rfl (fun i pi b e hm => ?_) (fun i row e => ?_) (fun i i' pi pi' b e e' hm hm' => ?_) (fun i pi e => ?_) (fun i hi => ?_) (fun i e => ?_) (fun i pi e => ?_)⟩,?_⟩
   ·simp only [List.getElem?_map,Option.map_eq_some_iff] at hu
    obtain ⟨u0,e0,rfl⟩:=hu
    exact X2v hal (hr.tmps s u0 e0)
   ·rcases hcase i pi b e hm with ⟨_,h,_⟩ | ⟨_,_,h⟩ | ⟨_,_,h⟩
    ·exact ⟨r,p,hp,h⟩
    ·exact ⟨r,p,hp,h⟩
    ·exact ⟨i,pi,h,hm⟩
   ·rcases hget i row e with ⟨rfl,rfl⟩ | ⟨rfl,rfl⟩ | ⟨h6,h7,row0,e1,rfl⟩
    ·rw [hμq]
     have hl0:ll.getD j []=ll[j]:=by rw [List.getD_eq_getElem?_getD,List.getElem?_eq_getElem hj];rfl
     rw [hl0]
     obtain ⟨_,hI⟩:=hI
     cases ib with
     | none=>exact .inl ⟨rfl,hI⟩
     | some bnc =>
      obtain ⟨b,n,c⟩:=bnc
      obtain ⟨g1,g2,arr,t2,g3,g4,g5⟩:=hI
      exact .inr ⟨rfl,rfl,rfl,g1,g2,arr,t2,g3,by rw [g4];exact (Nat.mul_one _).symm,g5⟩
    ·rw [hμr]
     refine .inr ⟨hpz,n1,n2,n3,by simp [p',h1],arr0,n4,n5,fun i x hdi hi => ?_⟩
     have hji:j≠i:=by omega
     have hI:=h5 i x (by omega) hi
     have:p'.inn.getD i none=p.inn.getD i none:=by
      simp only [p']
      rw [List.getD_eq_getElem?_getD,List.getElem?_set_ne hji,← List.getD_eq_getElem?_getD]
     rw [this]
     exact hI
    ·rw [hμo i h6 h7]
     exact X2R hal (hr.mem.row i row0 e1)
   ·rcases hcase i pi b e hm with ⟨hi,ha,hb1⟩ | ⟨hi,ha,hb1⟩ | ⟨hiq,hir,hi⟩<;>rcases hcase i' pi' b e' hm' with ⟨hi',ha',hb'⟩ | ⟨hi',ha',hb'⟩ | ⟨hiq',hir',hi'⟩
    ·omega
    ·exact absurd ha' hb1
    ·exact absurd (hr.mem.sep r i' p pi' b hp hi' ha hm').symm hir'
    ·exact absurd ha hb'
    ·omega
    ·exact absurd (hr.mem.sep r i' p pi' b hp hi' hb1 hm').symm hir'
    ·exact absurd (hr.mem.sep i r pi p b hi hp hm ha') hir
    ·exact absurd (hr.mem.sep i r pi p b hi hp hm hb') hir
    ·exact hr.mem.sep i i' pi pi' b hi hi' hm hm'
   ·by_cases hiq:i=q
    ·subst hiq;rw [hμq] at e;cases e
     cases ib with
     | none=>exact List.nodup_nil
     | some bnc=>obtain ⟨b,n,c⟩:=bnc;simp [fpOf,FP.blks,FP.ib]
    ·by_cases hir:i=r
     ·subst hir;rw [hμr] at e;cases e
      rw [FP.blks_of hpz]
      refine List.nodup_cons.2 ⟨fun hc=>hnd1 (hset _ hc).1,?_⟩
      rw [hib']
      exact X1q _ j none hnd2 (fun b h=>by cases h)
     ·rw [hμo i hiq hir] at e;exact hr.mem.nodup i pi e
   ·simp [hq] at hi
    rw [hμo i (by omega) (by omega)]
    exact hr.mem.out i (by omega)
   ·rcases hget i _ e with ⟨_,h⟩ | ⟨_,h⟩ | ⟨h6,h7,row0,e1,e2⟩
    ·cases h
    ·cases h
    ·rw [hμo i h6 h7]
     cases row0<;>simp [Xi] at e2
     exact hr.mem.dead i e1
   ·have hlt:=w0.pinLt i pi e
    rw [hμo i (by omega) (by omega)]
    exact hr.mem.pin i pi e
   ·rw [← X6K];exact .own q _ hμq
  ·cases h
 ·cases h
def X8h (np:Nat) (st:St) (dst:Option Tmp) (d':Nat):Option (St × List Prop):=match dst with
 | some t=>match st.tm[t]? with
  | some (.inn r j)=>match X6L np st r j d' with
   | some (st1,C)=>some (⟨st1.tm.set t (.own st.rows.length),st1.rows⟩,C)
   | none=>none
  | _=>none
 | none=>none
theorem X7N {w0:Old0} {w:World} {st st':St} {a:Act} {np d':Nat} {dst:Option Tmp} {C:List Prop} (hnp:w0.np≤np) (h:X8h np st dst d'=some (st',C)) (hC:All C) (hr:Rel w0 st a w):Rel w0 st' a w:=by
 obtain ⟨μ,hr⟩:=hr
 unfold X8h at h
 split at h
 ·rename_i t
  split at h
  ·rename_i r j htm
   split at h
   ·rename_i st1 C1 ht
    simp only [Option.some.injEq,Prod.mk.injEq] at h
    obtain ⟨rfl,rfl⟩:=h
    obtain ⟨μ',hr1,hv⟩:=X6M hr hnp (hr.tmps t _ htm) ht hC
    refine ⟨μ',hr1.defers,by simpa using hr1.size,fun i u e => ?_,hr1.mem⟩
    simp only at e
    by_cases hti:t=i
    ·subst hti
     rw [List.getElem?_set_self'] at e
     cases hx:st1.tm[t]? with
     | none=>rw [hx] at e;simp at e
     | some y=>rw [hx] at e;simp at e;subst e;exact hv
    ·rw [List.getElem?_set_ne hti] at e;exact hr1.tmps i u e
   ·cases h
  ·cases h
 ·cases h
end Go.Ab
