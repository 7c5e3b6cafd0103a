/- slices.SortFunc over own rows of pairs: the kit's contract, told as a call that writes a row. -/
import Derived.Test.YtiddhiepmakopaaA22
import Derived.Shelf.SlSortCmp.NoneTotal
set_option linter.unusedVariables false
set_option linter.unusedSimpArgs false
namespace Go.Ab
open Go.RowKit Go.Shelf Go.Proofs
theorem X6L {w w':World} (h:Bw w.heap.size w w'):∃ q os,w'=Sort.grow (w.drewN q) os:=by
 refine ⟨w'.drawn - w.drawn,w'.heap.extract w.heap.size w'.heap.size,?_⟩
 obtain ⟨⟨h1,h2,h3,h4,h5⟩,h6⟩:=h
 have hh:w'.heap=w.heap ++ w'.heap.extract w.heap.size w'.heap.size:=by
  apply Array.ext_getElem?
  intro i
  rcases Nat.lt_or_ge i w.heap.size with hi | hi
  ·rw [Array.getElem?_append_left hi];exact h5 i hi
  ·rw [Array.getElem?_append_right hi]
   rcases Nat.lt_or_ge i w'.heap.size with hj | hj
   ·rw [Array.getElem?_extract,if_pos (by omega)];congr 1;omega
   ·rw [Array.getElem?_eq_none hj,Array.getElem?_eq_none (by simp;omega)]
 have hd:w.drawn + (w'.drawn - w.drawn)=w'.drawn:=by omega
 cases w' with
 | mk heap tape drawn os output =>
  simp only at h1 h2 h3 hh hd
  subst h1;subst h2;subst h3
  unfold Sort.grow World.drewN
  simp only
  rw [hd,← hh]
def encP {α:Type} (ck:α→Int × Int) (x:α):List Value:=[.int .i64 (ck x).1, .int .i64 (ck x).2]
theorem swoP {α:Type} (ck:α→Int × Int):Sort.SWO (ltOf fun x y:α=>cmpP (ck x) (ck y)) where
 irrefl x:=by unfold ltOf cmpP;simp
 trans x y z h1 h2:=by
  unfold ltOf cmpP at *
  simp only [decide_eq_true_eq] at *
  repeat' split at h1
  all_goals repeat' split at h2
  all_goals first | omega | (repeat' split)<;>omega
 ntrans x y z h1 h2:=by
  unfold ltOf cmpP at *
  simp only [decide_eq_false_iff_not] at *
  repeat' split at h1
  all_goals repeat' split at h2
  all_goals first | omega | (repeat' split)<;>omega
set_option maxHeartbeats 1000000 in
theorem X7x {P:Program} {ρ:Ren} (L:SlLaysF0.n6 P ρ) (aE:∀ w,(isAgg (ρ.t 24)).run P w = .ok true w) (zE:∀ w,(Go.sizeOf (ρ.t 24)).run P w = .ok 2 w)
  {α:Type} [Inhabited α] (ck:α→Int × Int) (hinj:∀ x y,ck x=ck y→x=y) (c:α→List AV) (hc:∀ x,c x=[.i .i64 (ck x).1, .i .i64 (ck x).2])
  (t:TypeId) (g:FuncId) (hb:X2u P (ρ.f 6)) (hg:X2u P g) (hcmp:∀ (a b:α) (W:World),Calls P g #[keyV (ck a),keyV (ck b)] W fun e w'=>e = .returned (.int .i64 (cmpP (ck a) (ck b)))∧Bw W.heap.size W w')
  (l:List α) (hl:l.length≤1073741824):Xv P (ρ.f 6) [.vec t 2 (l.map c) false] [.own 0, .fn g []] (.tup []) [.vec t 2 ((X1V ck l).map c) false]:=by
 refine ⟨hb,fun w0 μ w vs hm hp => ?_⟩
 obtain ⟨v0,v1,rfl,hv0,hv1⟩:=X3J hp
 cases hv1 with
 | fn _ _ caps hcs hch =>
 have hcaps:caps=#[]:=by apply Array.eq_empty_of_size_eq_zero;simpa using hcs
 subst hcaps
 cases hv0 with
 | own _ p hμ =>
 have hok:=hm.row 0 _ rfl
 rw [hμ] at hok
 rcases hok with ⟨hz,hlm,_⟩ | ⟨hz,e1,e2,e3,e4,_,arr,e6,e7,e8⟩
 ·have:l=[]:=by simpa using hlm
  subst this
  rw [FP.val_nul hz]
  refine (AnyF.slices_SortFunc_none L none 0 _ w).mono fun e w' ⟨he,hw⟩ => ?_
  subst hw
  exact ⟨_,μ,he,Sub.refl _,by simpa [X1V] using hm, .tup [] #[] rfl (fun j c e=>by simp at e)⟩
 ·rw [FP.val_of hz,e3]
  have hblk:=(hm.own 0 p p.blk hμ (FP.mem_blk hz)).2
  let d:Array α:=l.toArray
  have hds:d.size=l.length:=by simp [d]
  have hcell:∀ j,j < d.size * 2→arr[j]? = some ((Sort.flatK (encP ck) 2 d)[j]!):=by
   intro j hj
   rw [Sort.get_flatK _ _ _ _ hj]
   have hi:j / 2 < l.length:=by omega
   have hx:(l.map c)[j / 2]? = some (c l[j / 2]):=by rw [List.getElem?_map,List.getElem?_eq_getElem hi];rfl
   have hd:d[j / 2]! = l[j / 2]:=by simp [d,hi]
   have h0:=(e8 (j / 2) _ hx).2
   rw [hc] at h0
   have hm2:j % 2=0∨j % 2=1:=by omega
   rcases hm2 with h2 | h2
   ·obtain ⟨v,hv,hr⟩:=h0 0 _ rfl
    cases hr
    have:j=j / 2 * 2 + 0:=by omega
    rw [← this] at hv
    have hv:arr[j]? = _:=hv
    rw [hv,h2,hd];rfl
   ·obtain ⟨v,hv,hr⟩:=h0 1 _ rfl
    cases hr
    have:j=j / 2 * 2 + 1:=by omega
    rw [← this] at hv
    have hv:arr[j]? = _:=hv
    rw [hv,h2,hd];rfl
  have hH:Sort.HoldsK (encP ck) 2 w p.blk 0 d:=by
   intro j hj
   rw [Sort.size_flatK] at hj
   refine ⟨?_,by simp only [World.frozen?,e6];simp⟩
   rw [X1h];unfold X3;rw [e6,Nat.zero_add]
   exact hcell j hj
  have eg:∀ args w,(callFunc g args).run P w = .ok (.enter g args) w:=fun args w=>X1O hg args w
  have hT:∀ x y,(ltOf fun x y:α=>cmpP (ck x) (ck y)) x y=false→(ltOf fun x y:α=>cmpP (ck x) (ck y)) y x=false→x=y:=by
   intro x y h1 h2
   apply hinj
   unfold ltOf cmpP at h1 h2
   simp only [decide_eq_false_iff_not] at h1 h2
   have ha:(ck x).1=(ck y).1∧(ck x).2=(ck y).2:=by
    repeat' split at h1
    all_goals repeat' split at h2
    all_goals first | omega
   exact Prod.ext ha.1 ha.2
  have hlays:CmpLays P g #[] (encP ck) 2 (fun x y=>cmpP (ck x) (ck y)) p.blk 0 d.size w:=fun m os dk _ x y =>
   (hcmp x y _).mono fun e w' ⟨he,hw⟩=>⟨he,X6L hw⟩
  have hsort:=AnyQ.slices_SortFunc_total L 2 aE zE (encP ck) (fun _=>rfl) (fun x v hv=>by simp [encP] at hv;rcases hv with rfl | rfl<;>rfl) (fun x y=>cmpP (ck x) (ck y)) (swoP ck) g #[] p.blk 0 p.cap d w eg hlays hH hblk (by omega) hT
  rw [hds] at hsort
  have hlen:(l.map c).length=l.length:=by simp
  rw [hlen]
  refine hsort.mono fun e w' ⟨he,n,os,hw⟩=>⟨_,μ,he,Sub.refl _,?_, .tup [] #[] rfl (fun j c e=>by simp at e)⟩
  generalize hd':(d.toList.mergeSort fun x y => !(ltOf fun x y:α=>cmpP (ck x) (ck y)) y x).toArray=d' at hw
  have hdl:d'.toList=X1V ck l:=by rw [← hd'];rfl
  have hds':d'.size=l.length:=by rw [← Array.length_toList,hdl];simp
  have hother:∀ b,b < w.heap.size→b≠p.blk→w'.heap[b]? = w.heap[b]? := by
   intro b hbs hbn
   rw [hw]
   unfold Go.Proofs.sortWorldK Sort.grow Sort.putRowK Sort.putRow Sort.mapBlock Sort.ahead
   simp only
   rw [Array.getElem?_append_left (by simpa using hbs),Array.getElem?_modify,if_neg (fun e=>hbn e.symm)]
  have hself:w'.heap[p.blk]? = some (.cells (Sort.putCells id 0 (Sort.flatK (encP ck) 2 d') arr) t (0,0)):=by
   rw [hw]
   unfold Go.Proofs.sortWorldK Sort.grow Sort.putRowK Sort.putRow Sort.mapBlock Sort.ahead
   simp only
   rw [Array.getElem?_append_left (by simpa using hblk),Array.getElem?_modify,if_pos rfl,e6]
   rfl
  have hsize:w.heap.size≤w'.heap.size:=by
   rw [hw]
   unfold Go.Proofs.sortWorldK Sort.grow Sort.putRowK Sort.putRow Sort.mapBlock Sort.ahead
   simp
  have hown:=hm.own 0 p p.blk hμ (FP.mem_blk hz)
  refine ⟨⟨hm.bel.step (by rw [hw];rfl) (by rw [hw];rfl) (by rw [hw];rfl) hsize (by rw [hw];exact Nat.le_add_right _ _) (fun k hk ho=>hother k (Nat.lt_of_lt_of_le hk hm.bel.size) fun e=>by subst e;exact hown.1.elim (fun h=>ho h) (fun h=>by omega)),fun r row e => ?_,hm.sep,hm.nodup,fun r q b e hb => ?_⟩,hm.out,fun r e => ?_,hm.pin⟩
  ·cases r with
   | succ r=>simp at e
   | zero =>
    simp at e;subst e
    rw [hμ]
    refine .inr ⟨hz,e1,e2,by rw [e3];simp,by simpa using e4,(fun h=>by cases h),_,hself,by simp [Sort.putCells,e7],fun i cs hi => ?_⟩
    rw [List.getElem?_map,Option.map_eq_some_iff] at hi
    obtain ⟨x,hx,rfl⟩:=hi
    have hil:i < l.length:=by
     rcases Nat.lt_or_ge i (X1V ck l).length with h | h
     ·simpa using h
     ·rw [List.getElem?_eq_none h] at hx;cases hx
    have hdx:d'[i]! = x:=by
     have:d'[i]? = some x:=by rw [← Array.getElem?_toList,hdl];exact hx
     rw [Array.getElem!_eq_getD,Array.getD_eq_getD_getElem?,this];rfl
    have hpc:∀ j,j < l.length * 2→(Sort.putCells id 0 (Sort.flatK (encP ck) 2 d') arr)[j]? = some ((encP ck d'[j / 2]!)[j % 2]!):=by
     intro j hj
     have hja:j < arr.size:=by rw [e7];simp at e4;omega
     simp only [Sort.putCells,Array.getElem?_mapIdx,Array.getElem?_eq_getElem hja,Option.map_some]
     rw [if_pos ⟨Nat.zero_le _,by rw [Sort.size_flatK,hds'];omega⟩]
     simp only [Nat.sub_zero,id]
     rw [Sort.get_flatK _ _ _ _ (by rw [hds'];exact hj)]
    refine ⟨by rw [hc];rfl,fun j y hy => ?_⟩
    rw [hc] at hy
    match j,hy with
    | 0,hy =>
     simp at hy;subst hy
     refine ⟨_,hpc (i * 2 + 0) (by omega),?_⟩
     rw [show (i * 2 + 0) / 2=i from by omega,show (i * 2 + 0) % 2=0 from by omega,hdx];rfl
    | 1,hy =>
     simp at hy;subst hy
     refine ⟨_,hpc (i * 2 + 1) (by omega),?_⟩
     rw [show (i * 2 + 1) / 2=i from by omega,show (i * 2 + 1) % 2=1 from by omega,hdx];rfl
  ·obtain ⟨h1,h2⟩:=hm.own r q b e hb
   exact ⟨h1,by omega⟩
  ·cases r<;>simp at e
end Go.Ab

set_option linter.unusedVariables false
set_option linter.unusedSimpArgs false
namespace Go.Ab
def mR:Bool→List Nat→List Bool
 | _,[] => []
 | b,n :: l=>List.replicate n b ++ mR (!b) l
def an:Nat→List AV→List AV
 | 0,l=>l
 | n + 1,l => .any :: an n l
theorem odt {p:Prop} [Decidable p] (h:decide p=true):p:=of_decide_eq_true h
theorem odf {p:Prop} [Decidable p] (h:decide p=false):¬p:=of_decide_eq_false h
end Go.Ab

set_option linter.unusedVariables false
set_option linter.unusedSimpArgs false
namespace Go.Ab
open Go.RowKit
def rdyB (ops:List Oper) (D i:Nat):Bool:=!D.testBit i && match ops[i]? with
 | some o=>o.after.toList.all fun e => !Region.binds .any e || (D.testBit e.on && Nat.blt e.on ops.length)
 | none=>false
def X2c (ops:List Oper) (L:List Nat):List (Nat × Nat):=L.flatMap fun D=>((List.range ops.length).filter (rdyB ops D)).map fun i=>(D,i)
def X3n (ops:List Oper) (L:List Nat):Bool:=L.contains 0 && (X2c ops L).all (fun p=>L.contains (p.1 ||| 2 ^ p.2)) && L.all fun D=>(List.range ops.length).any (rdyB ops D) || D == 2 ^ ops.length - 1
structure Stp where
 a:List Ans
 C:List Prop
 p:Scr a C
def stA (S:List Stp) (i:Nat):List Ans:=match S[i]? with
 | some s=>s.a
 | none => []
def stC (S:List Stp) (i:Nat):List Prop:=match S[i]? with
 | some s=>s.C
 | none => []
theorem X7R (S:List Stp) (i:Nat):All (stC S i):=by
 unfold stC
 cases S[i]? with
 | none=>trivial
 | some s=>exact s.p
def X8d:Code→Array Oper
 | .region _ ops _=>ops
 | _ => #[]
def opAt (ops:List Oper) (i:Nat):Oper:=match ops[i]? with
 | some o=>o
 | none=>default
def X5M (rows:List Row) (lo n:Nat):Bool:=((rows.drop lo).take n).all XO && Nat.ble (lo + n) rows.length
theorem X6M {rows:List Row} {lo n:Nat} (h:X5M rows lo n=true):lo + n≤rows.length∧∀ q,lo≤q→q < lo + n→rows[q]? = some .dead:=by
 unfold X5M at h
 simp only [Bool.and_eq_true,Nat.ble_eq,List.all_eq_true] at h
 refine ⟨h.2,fun q h1 h2 => ?_⟩
 have hq:q < rows.length:=by omega
 have hm:rows[q]∈(rows.drop lo).take n:=by
  rw [List.mem_iff_getElem?]
  refine ⟨q - lo,?_⟩
  rw [List.getElem?_take_of_lt (by omega),List.getElem?_drop,show lo + (q - lo)=q from by omega,List.getElem?_eq_getElem hq]
 have:=h.1 _ hm
 rw [List.getElem?_eq_getElem hq]
 cases hr:rows[q]<;>rw [hr] at this<;>first | rfl | cases this
def X8e:Op→Bool
 | .call c=>match c.callee with
  | .builtin .append=>true
  | _=>false
 | _=>false
def evG (P:Program) (E:Env) (ops:List Oper) (st:St) (lo:Nat) (o:Oper) (ans:List Ans):Option (St × List Ans × List Prop) :=
 match o.guard with
 | some _=>none
 | none=>match X8e o.op with
  | true=>evo P E ops st o ans
  | false=>match evp P E st lo o.op ans with
   | some r=>match X5M st.rows lo r.new.length with
    | true=>some (({ st with rows:=lay st.rows lo r.new }:St).put o.dst r.av,r.ans,r.C)
    | false=>none
   | none=>evo P E ops st o ans
theorem X7a {P:Program} {E:Env} {w0:Old0} (hE:EOn P E w0) {ops:Array Oper} {st st':St} {a:Act} {w:World} {o:Oper} {lo:Nat} {ans ans':List Ans} {C:List Prop} (h:evG P E ops.toList st lo o ans=some (st',ans',C)) (hC:All C) (hr:Rel w0 st a w)
  {next:Act→World→Prop} {Q:Exit→Act→World→Prop} (hn:∀ a' w',Rel w0 st' a' w'→next a' w') :
  if Region.wanted o (yielded ops a.tmps) then o.wp P a w next Q∨(o.asks P a w∧LetsOut Q) else next (a.put o.dst undef) w:=by
 unfold evG at h
 cases hg:o.guard with
 | some g=>rw [hg] at h;cases h
 | none =>
  rw [hg] at h
  simp only at h
  split at h
  ·exact X1L hE h hC hr hn
  split at h
  ·rename_i r hev
   split at h
   ·rename_i hd
    simp only [Option.some.injEq,Prod.mk.injEq] at h
    obtain ⟨rfl,rfl,rfl⟩:=h
    obtain ⟨hl,hdead⟩:=X6M hd
    rw [if_pos (by simp [Region.wanted,hg])]
    obtain ⟨μ,hr⟩:=hr
    have hnone:∀ q,lo≤q→q < lo + r.new.length→μ q=none:=fun q h1 h2=>hr.mem.dead q (hdead q h1 h2)
    refine .inl (X2f hE.toEOk hr.toW hev hC hnone next Q fun v w' ⟨μ',hgr,hb,hv⟩=>hn _ _ ⟨μ',?_⟩)
    exact (hr.grow hb hgr (by omega) hnone).put o.dst hv
   ·cases h
  ·exact X1L hE h hC hr hn
theorem Rel.deads {w0:Old0} {st:St} {a:Act} {w:World} (h:Rel w0 st a w) (n:Nat):Rel w0 ⟨st.tm,st.rows ++ List.replicate n .dead⟩ a w:=by
 obtain ⟨μ,h⟩:=h
 have key:∀ (r:Nat) (row:Row),(st.rows ++ List.replicate n Row.dead)[r]? = some row→st.rows[r]? = some row∨(row = .dead∧μ r=none):=by
  intro r row e
  rcases Nat.lt_or_ge r st.rows.length with hr | hr
  ·rw [List.getElem?_append_left hr] at e;exact .inl e
  ·rw [List.getElem?_append_right hr,List.getElem?_replicate] at e
   split at e
   ·exact .inr ⟨by simpa using e.symm,h.mem.out r hr⟩
   ·cases e
 refine ⟨μ,h.defers,h.size,h.tmps,⟨⟨h.mem.bel,fun r row e => ?_,h.mem.sep,h.mem.nodup,h.mem.own⟩,fun r hr=>h.mem.out r (by simp at hr;omega),fun r e => ?_,h.mem.pin⟩⟩
 ·rcases key r row e with e | ⟨rfl,e⟩
  ·exact h.mem.row r row e
  ·cases μ r<;>exact trivial
 ·rcases key r .dead e with e | ⟨_,e⟩
  ·exact h.mem.dead r e
  ·exact e
theorem X7b {P:Program} {E:Env} {w0:Old0} (hE:EOn P E w0) {ops:Array Oper} {T:Nat→St} {S:List Stp} {L lo:List Nat} (hL:X3n ops.toList L=true)
  (hT:((X2c ops.toList L).map fun p=>evG P E ops.toList (T p.1) ((lo[p.2]?).getD 0) (opAt ops.toList p.2) (stA S p.2))=(X2c ops.toList L).map fun p=>some (T (p.1 ||| 2 ^ p.2),[],stC S p.2))
  {Q:Exit→Act→World→Prop} (hQ:∀ a' w',Rel w0 (T (2 ^ ops.toList.length - 1)) a' w'→Q .normal a' w') :
  ∀ (fuel D:Nat) (listed:Array Bool) (a:Act) (w:World),D∈L→listed.size=ops.size→(∀ j,j < ops.size→listed[j]? = some (D.testBit j))→listed.toList.countP (fun b => !b)≤fuel →
   Rel w0 (T D) a w→wpAny P .any ops Q fuel listed a w:=by
 unfold X3n at hL
 simp only [Bool.and_eq_true,List.all_eq_true,Bool.or_eq_true,List.any_eq_true,List.mem_range,beq_iff_eq,List.contains_iff_mem] at hL
 obtain ⟨⟨_,hL2⟩,hL3⟩:=hL
 rw [List.map_inj_left] at hT
 have hget:∀ (listed:Array Bool) (D:Nat),listed.size=ops.size→(∀ j,j < ops.size→listed[j]? = some (D.testBit j))→∀ j,listed.getD j false=true↔(j < ops.size∧D.testBit j=true):=by
  intro listed D hs hl j
  rw [Array.getD_eq_getD_getElem?]
  by_cases hj:j < ops.size
  ·rw [hl j hj];simp [hj]
  ·rw [Array.getElem?_eq_none (by omega)];simp [hj]
 have hrdy:∀ (listed:Array Bool) (D:Nat),listed.size=ops.size→(∀ j,j < ops.size→listed[j]? = some (D.testBit j))→∀ i,i∈Region.ready .any ops listed↔(i < ops.toList.length∧rdyB ops.toList D i=true):=by
  intro listed D hs hl i
  rw [Xz hs]
  unfold rdyB
  constructor
  ·rintro ⟨h1,h2,h3⟩
   have ho:ops.toList[i]? = some ops[i]:=by rw [Array.getElem?_toList];exact Array.getElem?_eq_getElem h1
   rw [hl i h1] at h2
   simp only [Option.some.injEq] at h2
   refine ⟨by simpa using h1,?_⟩
   rw [ho,h2]
   simp only [Bool.not_false,Bool.true_and,List.all_eq_true]
   intro e he
   cases hb:Region.binds .any e with
   | false=>rfl
   | true =>
    have:=(hget listed D hs hl e.on).1 (h3 _ ho e (by simpa using he) hb)
    simp [this.2,Nat.blt_eq,this.1]
  ·rintro ⟨h1,h2⟩
   have h1':i < ops.size:=by simpa using h1
   have ho:ops.toList[i]? = some ops[i]:=by rw [Array.getElem?_toList];exact Array.getElem?_eq_getElem h1'
   rw [ho] at h2
   simp only [Bool.and_eq_true,Bool.not_eq_true',List.all_eq_true] at h2
   refine ⟨h1',by rw [hl i h1',h2.1],fun o ho' e he hb => ?_⟩
   rw [ho] at ho';cases ho'
   have:=h2.2 e (by simpa using he)
   rw [hb] at this
   simp only [Bool.not_true,Bool.false_or,Bool.and_eq_true,Nat.blt_eq] at this
   exact (hget listed D hs hl e.on).2 ⟨by simpa using this.2,this.1⟩
 have hfull:∀ (listed:Array Bool) (D:Nat),D∈L→listed.size=ops.size→(∀ j,j < ops.size→listed[j]? = some (D.testBit j))→Region.ready .any ops listed=[]→D=2 ^ ops.toList.length - 1:=by
  intro listed D hD hs hl hnil
  rcases hL3 D hD with ⟨i,h1,h2⟩ | h
  ·have:=(hrdy listed D hs hl i).2 ⟨h1,h2⟩
   rw [hnil] at this;cases this
  ·exact h
 have nx:∀ (listed:Array Bool) (D k:Nat),listed.size=ops.size→k < ops.size→(∀ j,j < ops.size→listed[j]? = some (D.testBit j))→∀ j,j < ops.size→(listed.setIfInBounds k true)[j]? = some ((D ||| 2 ^ k).testBit j):=by
  intro listed D k hs hk hl j hj
  rw [Nat.testBit_or,Nat.testBit_two_pow]
  by_cases hjk:k=j
  ·subst hjk
   rw [Array.getElem?_setIfInBounds_self_of_lt (by omega)];simp
  ·rw [Array.getElem?_setIfInBounds_ne hjk,hl j hj];simp [hjk]
 intro fuel
 induction fuel with
 | zero =>
  intro D listed a w hD hs hl hcnt hr
  have hnil:Region.ready .any ops listed=[]:=by
   cases hx:Region.ready .any ops listed with
   | nil=>rfl
   | cons k ks =>
    have hk:k∈Region.ready .any ops listed:=by rw [hx];simp
    rw [Xz hs] at hk
    have h0:listed.toList.countP (fun b => !b)=0:=by omega
    rw [List.countP_eq_zero] at h0
    have:=h0 false (List.mem_of_getElem? (by rw [Array.getElem?_toList];exact hk.2.1))
    simp at this
  have:=hfull listed D hD hs hl hnil
  subst this
  exact ⟨hnil,hQ a w hr⟩
 | succ fuel ih =>
  intro D listed a w hD hs hl hcnt hr
  refine ⟨fun hnil => ?_,fun k hk => ?_⟩
  ·have:=hfull listed D hD hs hl hnil
   subst this
   exact hQ a w hr
  ·have hk':=(hrdy listed D hs hl k).1 hk
   have hkl:k < ops.size:=by simpa using hk'.1
   have hmem:(D,k)∈X2c ops.toList L:=by
    unfold X2c
    exact List.mem_flatMap.2 ⟨D,hD,List.mem_map.2 ⟨k,List.mem_filter.2 ⟨List.mem_range.2 hk'.1,hk'.2⟩,rfl⟩⟩
   have hev:=hT _ hmem
   have ho:ops.toList[k]? = some ops[k]:=by rw [Array.getElem?_toList];exact Array.getElem?_eq_getElem hkl
   have hop:opAt ops.toList k=ops[k]:=by unfold opAt;rw [ho]
   simp only [hop] at hev
   unfold wpOp
   rw [Array.getElem?_eq_getElem hkl]
   refine X7a hE hev (X7R S k) hr fun a' w' hr' => ?_
   refine ih (D ||| 2 ^ k) _ a' w' (hL2 _ hmem) (by simpa using hs) (nx listed D k hs hkl hl) ?_ hr'
   have:=X1U listed.toList k (by
    rw [Array.getElem?_toList]
    exact ((Xz hs).1 hk).2.1)
   rw [Array.toList_setIfInBounds];omega
def tmG:List (Nat × Nat × AV)→Nat→List AV→List AV
 | [],_,tm=>tm
 | (i,d,v) :: l,D,tm=>tmG l D (match D.testBit i with
  | true=>tm.set d v
  | false=>tm)
def rwG:List (Nat × Nat × Row)→Nat→List Row→List Row
 | [],_,rows=>rows
 | (i,k,r) :: l,D,rows=>rwG l D (match D.testBit i with
  | true=>rows.set k r
  | false=>rows)
def stG (st:St) (n:Nat) (A:List (Nat × Nat × AV)) (B:List (Nat × Nat × Row)) (D:Nat):St:=⟨tmG A D st.tm,rwG B D (st.rows ++ List.replicate n .dead)⟩
theorem X7S {P:Program} {E:Env} (hE:EOk P E) (hm:P.follows .mixedOrders=true) {id:Nat} {ops:Array Oper} (st st':St) (n:Nat) (A:List (Nat × Nat × AV)) (B:List (Nat × Nat × Row)) (lo:List Nat) (S:List Stp) (L:List Nat) (hL:X3n ops.toList L=true)
  (hT:((X2c ops.toList L).map fun p=>evG P E ops.toList (stG st n A B p.1) ((lo[p.2]?).getD 0) (opAt ops.toList p.2) (stA S p.2))=(X2c ops.toList L).map fun p=>some (stG st n A B (p.1 ||| 2 ^ p.2),[],stC S p.2))
  (h0:stG st n A B 0=⟨st.tm,st.rows ++ List.replicate n .dead⟩) (h1:stG st n A B (2 ^ ops.toList.length - 1)=st'):Ev P E.np (.region id ops true) st .norm st':=by
 intro w0 hp a w Q hr hQ
 refine wp_region_any hm (X7b ⟨hE,hp⟩ (T:=stG st n A B) (lo:=lo) hL hT (fun a' w' h=>hQ a' w' (by rw [h1] at h;exact h)) ops.size 0 _ a _ ?_ (by simp) (fun j hj => ?_) ?_ (by rw [h0];exact (hr.ext (Drew.one.below _)).deads n))
 ·unfold X3n at hL
  simp only [Bool.and_eq_true,List.contains_iff_mem] at hL
  exact hL.1.1
 ·simp [hj]
 ·refine Nat.le_trans List.countP_le_length ?_
  simp
theorem sR {P:Program} {N:Nat} {c:Code} {st st':St} {a:List Ans} {C:List Prop} (h:Ev P N c st .norm st') (s:Scr a C):Scr (.loop [] 0 .norm st' :: a) (Ev P N c st .norm st' :: C):=⟨h,s⟩
end Go.Ab
