/- A region whose order is open, by all the sets of its operations that can be done at a time. -/
import Derived.Test.YtpndflbllggeiaaGreatA39
set_option linter.unusedVariables false
set_option linter.unusedSimpArgs false
namespace Go.Ab
open Go.RowKit
def rdyB (ops:List Oper) (D i:Nat):Bool:=!D.testBit i && match ops[i]? with
 | some o => o.after.toList.all fun e => !Region.binds .any e || (D.testBit e.on && Nat.blt e.on ops.length)
 | none => false
def X2k (ops:List Oper) (L:List Nat):List (Nat × Nat):=L.flatMap fun D => ((List.range ops.length).filter (rdyB ops D)).map fun i => (D,i)
def X3r (ops:List Oper) (L:List Nat):Bool:=L.contains 0 && (X2k ops L).all (fun p => L.contains (p.1 ||| 2 ^ p.2)) && L.all fun D => (List.range ops.length).any (rdyB ops D) || D == 2 ^ ops.length - 1
structure Stp where
 a:List Ans
 C:List Prop
 p:Scr a C
def stA (S:List Stp) (i:Nat):List Ans:=match S[i]? with
 | some s => s.a
 | none => []
def stC (S:List Stp) (i:Nat):List Prop:=match S[i]? with
 | some s => s.C
 | none => []
theorem X7T (S:List Stp) (i:Nat):All (stC S i):=by
 unfold stC
 cases S[i]? with
 | none => trivial
 | some s => exact s.p
def X7D:Code→Array Oper
 | .region _ ops _ => ops
 | _ => #[]
def opAt (ops:List Oper) (i:Nat):Oper:=match ops[i]? with
 | some o => o
 | none => default
def X5M (rows:List Row) (lo n:Nat):Bool:=((rows.drop lo).take n).all X1d && Nat.ble (lo + n) rows.length
theorem X6O {rows:List Row} {lo n:Nat} (h:X5M rows lo n=true):lo + n≤rows.length∧∀ q,lo≤q→q < lo + n→rows[q]? = some .dead:=by
 unfold X5M at h
 simp only [Bool.and_eq_true,Nat.ble_eq,List.all_eq_true] at h
 refine ⟨h.2,fun q h1 h2 => ?_⟩
 have hq:q < rows.length:=by omega
 have hm:rows[q]∈(rows.drop lo).take n:=by
  rw [List.mem_iff_getElem?]
  refine ⟨q - lo,?_⟩
  rw [List.getElem?_take_of_lt (by omega),List.getElem?_drop,show lo + (q - lo)=q from by omega,List.getElem?_eq_getElem hq]
 have:=h.1 _ hm
 rw [List.getElem?_eq_getElem hq]
 cases hr:rows[q] <;> rw [hr] at this <;> first | rfl | cases this
def X8c:Op→Bool
 | .call c => match c.callee with
  | .builtin .append => true
  | _ => false
 | _ => false
def evG (P:Program) (E:Env) (ops:List Oper) (st:St) (lo:Nat) (o:Oper) (ans:List Ans):Option (St × List Ans × List Prop) :=
 match o.guard with
 | some _ => none
 | none => match X8c o.op with
  | true => evo P E ops st o ans
  | false => match evp P E st lo o.op ans with
   | some r => match X5M st.rows lo r.new.length with
    | true => some (({ st with rows:=lay st.rows lo r.new }:St).put o.dst r.av,r.ans,r.C)
    | false => none
   | none => evo P E ops st o ans
theorem X7c {P:Program} {E:Env} {w0:Old0} (hE:EOn P E w0) {ops:Array Oper} {st st':St} {a:Act} {w:World} {o:Oper} {lo:Nat} {ans ans':List Ans} {C:List Prop} (h:evG P E ops.toList st lo o ans=some (st',ans',C)) (hC:All C) (hr:Rel w0 st a w)
  {next:Act→World→Prop} {Q:Exit→Act→World→Prop} (hn:∀ a' w',Rel w0 st' a' w'→next a' w') :
  if Region.wanted o (yielded ops a.tmps) then o.wp P a w next Q∨(o.asks P a w∧LetsOut Q) else next (a.put o.dst undef) w:=by
 unfold evG at h
 cases hg:o.guard with
 | some g => rw [hg] at h; cases h
 | none =>
  rw [hg] at h
  simp only at h
  split at h
  ·exact X1U hE h hC hr hn
  split at h
  ·rename_i r hev
   split at h
   ·rename_i hd
    simp only [Option.some.injEq,Prod.mk.injEq] at h
    obtain ⟨rfl,rfl,rfl⟩:=h
    obtain ⟨hl,hdead⟩:=X6O hd
    rw [if_pos (by simp [Region.wanted,hg])]
    obtain ⟨μ,hr⟩:=hr
    have hnone:∀ q,lo≤q→q < lo + r.new.length→μ q=none:=fun q h1 h2 => hr.mem.dead q (hdead q h1 h2)
    refine .inl (X2o hE.toEOk hr.toW hev hC hnone next Q fun v w' ⟨μ',hgr,hb,hv⟩ => hn _ _ ⟨μ',?_⟩)
    exact (hr.grow hb hgr (by omega) hnone).put o.dst hv
   ·cases h
  ·exact X1U hE h hC hr hn
theorem Rel.deads {w0:Old0} {st:St} {a:Act} {w:World} (h:Rel w0 st a w) (n:Nat):Rel w0 ⟨st.tm,st.rows ++ List.replicate n .dead⟩ a w:=by
 obtain ⟨μ,h⟩:=h
 have key:∀ (r:Nat) (row:Row),(st.rows ++ List.replicate n Row.dead)[r]? = some row→st.rows[r]? = some row∨(row = .dead∧μ r=none):=by
  intro r row e
  rcases Nat.lt_or_ge r st.rows.length with hr | hr
  ·rw [List.getElem?_append_left hr] at e; exact .inl e
  ·rw [List.getElem?_append_right hr,List.getElem?_replicate] at e
   split at e
   ·exact .inr ⟨by simpa using e.symm,h.mem.out r hr⟩
   ·cases e
 refine ⟨μ,h.defers,h.size,h.tmps,⟨⟨h.mem.bel,fun r row e => ?_,h.mem.sep,h.mem.nodup,h.mem.own⟩,fun r hr => h.mem.out r (by simp at hr; omega),fun r e => ?_,h.mem.pin⟩⟩
 ·rcases key r row e with e | ⟨rfl,e⟩
  ·exact h.mem.row r row e
  ·cases μ r <;> exact trivial
 ·rcases key r .dead e with e | ⟨_,e⟩
  ·exact h.mem.dead r e
  ·exact e
theorem X7d {P:Program} {E:Env} {w0:Old0} (hE:EOn P E w0) {ops:Array Oper} {T:Nat→St} {S:List Stp} {L lo:List Nat} (hL:X3r ops.toList L=true)
  (hT:((X2k ops.toList L).map fun p => evG P E ops.toList (T p.1) ((lo[p.2]?).getD 0) (opAt ops.toList p.2) (stA S p.2))=(X2k ops.toList L).map fun p => some (T (p.1 ||| 2 ^ p.2),[],stC S p.2))
  {Q:Exit→Act→World→Prop} (hQ:∀ a' w',Rel w0 (T (2 ^ ops.toList.length - 1)) a' w'→Q .normal a' w') :
  ∀ (fuel D:Nat) (listed:Array Bool) (a:Act) (w:World),D∈L→listed.size=ops.size→(∀ j,j < ops.size→listed[j]? = some (D.testBit j))→listed.toList.countP (fun b => !b)≤fuel →
   Rel w0 (T D) a w→wpAny P .any ops Q fuel listed a w:=by
 unfold X3r at hL
 simp only [Bool.and_eq_true,List.all_eq_true,Bool.or_eq_true,List.any_eq_true,List.mem_range,beq_iff_eq,List.contains_iff_mem] at hL
 obtain ⟨⟨_,hL2⟩,hL3⟩:=hL
 rw [List.map_inj_left] at hT
 have hget:∀ (listed:Array Bool) (D:Nat),listed.size=ops.size→(∀ j,j < ops.size→listed[j]? = some (D.testBit j))→∀ j,listed.getD j false=true↔(j < ops.size∧D.testBit j=true):=by
  intro listed D hs hl j
  rw [Array.getD_eq_getD_getElem?]
  by_cases hj:j < ops.size
  ·rw [hl j hj]; simp [hj]
  ·rw [Array.getElem?_eq_none (by omega)]; simp [hj]
 have hrdy:∀ (listed:Array Bool) (D:Nat),listed.size=ops.size→(∀ j,j < ops.size→listed[j]? = some (D.testBit j))→∀ i,i∈Region.ready .any ops listed↔(i < ops.toList.length∧rdyB ops.toList D i=true):=by
  intro listed D hs hl i
  rw [XE hs]
  unfold rdyB
  constructor
  ·rintro ⟨h1,h2,h3⟩
   have ho:ops.toList[i]? = some ops[i]:=by rw [Array.getElem?_toList]; exact Array.getElem?_eq_getElem h1
   rw [hl i h1] at h2
   simp only [Option.some.injEq] at h2
   refine ⟨by simpa using h1,?_⟩
   rw [ho,h2]
   simp only [Bool.not_false,Bool.true_and,List.all_eq_true]
   intro e he
   cases hb:Region.binds .any e with
   | false => rfl
   | true =>
    have:=(hget listed D hs hl e.on).1 (h3 _ ho e (by simpa using he) hb)
    simp [this.2,Nat.blt_eq,this.1]
  ·rintro ⟨h1,h2⟩
   have h1':i < ops.size:=by simpa using h1
   have ho:ops.toList[i]? = some ops[i]:=by rw [Array.getElem?_toList]; exact Array.getElem?_eq_getElem h1'
   rw [ho] at h2
   simp only [Bool.and_eq_true,Bool.not_eq_true',List.all_eq_true] at h2
   refine ⟨h1',by rw [hl i h1',h2.1],fun o ho' e he hb => ?_⟩
   rw [ho] at ho'; cases ho'
   have:=h2.2 e (by simpa using he)
   rw [hb] at this
   simp only [Bool.not_true,Bool.false_or,Bool.and_eq_true,Nat.blt_eq] at this
   exact (hget listed D hs hl e.on).2 ⟨by simpa using this.2,this.1⟩
 have hfull:∀ (listed:Array Bool) (D:Nat),D∈L→listed.size=ops.size→(∀ j,j < ops.size→listed[j]? = some (D.testBit j))→Region.ready .any ops listed=[]→D=2 ^ ops.toList.length - 1:=by
  intro listed D hD hs hl hnil
  rcases hL3 D hD with ⟨i,h1,h2⟩ | h
  ·have:=(hrdy listed D hs hl i).2 ⟨h1,h2⟩
   rw [hnil] at this; cases this
  ·exact h
 have nx:∀ (listed:Array Bool) (D k:Nat),listed.size=ops.size→k < ops.size→(∀ j,j < ops.size→listed[j]? = some (D.testBit j))→∀ j,j < ops.size→(listed.setIfInBounds k true)[j]? = some ((D ||| 2 ^ k).testBit j):=by
  intro listed D k hs hk hl j hj
  rw [Nat.testBit_or,Nat.testBit_two_pow]
  by_cases hjk:k=j
  ·subst hjk
   rw [Array.getElem?_setIfInBounds_self_of_lt (by omega)]; simp
  ·rw [Array.getElem?_setIfInBounds_ne hjk,hl j hj]; simp [hjk]
 intro fuel
 induction fuel with
 | zero =>
  intro D listed a w hD hs hl hcnt hr
  have hnil:Region.ready .any ops listed=[]:=by
   cases hx:Region.ready .any ops listed with
   | nil => rfl
   | cons k ks =>
    have hk:k∈Region.ready .any ops listed:=by rw [hx]; simp
    rw [XE hs] at hk
    have h0:listed.toList.countP (fun b => !b)=0:=by omega
    rw [List.countP_eq_zero] at h0
    have:=h0 false (List.mem_of_getElem? (by rw [Array.getElem?_toList]; exact hk.2.1))
    simp at this
  have:=hfull listed D hD hs hl hnil
  subst this
  exact ⟨hnil,hQ a w hr⟩
 | succ fuel ih =>
  intro D listed a w hD hs hl hcnt hr
  refine ⟨fun hnil => ?_,fun k hk => ?_⟩
  ·have:=hfull listed D hD hs hl hnil
   subst this
   exact hQ a w hr
  ·have hk':=(hrdy listed D hs hl k).1 hk
   have hkl:k < ops.size:=by simpa using hk'.1
   have hmem:(D,k)∈X2k ops.toList L:=by
    unfold X2k
    exact List.mem_flatMap.2 ⟨D,hD,List.mem_map.2 ⟨k,List.mem_filter.2 ⟨List.mem_range.2 hk'.1,hk'.2⟩,rfl⟩⟩
   have hev:=hT _ hmem
   have ho:ops.toList[k]? = some ops[k]:=by rw [Array.getElem?_toList]; exact Array.getElem?_eq_getElem hkl
   have hop:opAt ops.toList k=ops[k]:=by unfold opAt; rw [ho]
   simp only [hop] at hev
   unfold wpOp
   rw [Array.getElem?_eq_getElem hkl]
   refine X7c hE hev (X7T S k) hr fun a' w' hr' => ?_
   refine ih (D ||| 2 ^ k) _ a' w' (hL2 _ hmem) (by simpa using hs) (nx listed D k hs hkl hl) ?_ hr'
   have:=X24 listed.toList k (by
    rw [Array.getElem?_toList]
    exact ((XE hs).1 hk).2.1)
   rw [Array.toList_setIfInBounds]; omega
def tmG:List (Nat × Nat × AV)→Nat→List AV→List AV
 | [],_,tm => tm
 | (i,d,v) :: l,D,tm => tmG l D (match D.testBit i with
  | true => tm.set d v
  | false => tm)
def rwG:List (Nat × Nat × Row)→Nat→List Row→List Row
 | [],_,rows => rows
 | (i,k,r) :: l,D,rows => rwG l D (match D.testBit i with
  | true => rows.set k r
  | false => rows)
def stG (st:St) (n:Nat) (A:List (Nat × Nat × AV)) (B:List (Nat × Nat × Row)) (D:Nat):St:=⟨tmG A D st.tm,rwG B D (st.rows ++ List.replicate n .dead)⟩
theorem X6h {P:Program} {E:Env} (hE:EOk P E) (hm:P.follows .mixedOrders=true) {id:Nat} {ops:Array Oper} (st st':St) (n:Nat) (A:List (Nat × Nat × AV)) (B:List (Nat × Nat × Row)) (lo:List Nat) (S:List Stp) (L:List Nat) (hL:X3r ops.toList L=true)
  (hT:((X2k ops.toList L).map fun p => evG P E ops.toList (stG st n A B p.1) ((lo[p.2]?).getD 0) (opAt ops.toList p.2) (stA S p.2))=(X2k ops.toList L).map fun p => some (stG st n A B (p.1 ||| 2 ^ p.2),[],stC S p.2))
  (h0:stG st n A B 0=⟨st.tm,st.rows ++ List.replicate n .dead⟩) (h1:stG st n A B (2 ^ ops.toList.length - 1)=st'):Ev P E.np (.region id ops true) st .norm st':=by
 intro w0 hp a w Q hr hQ
 refine wp_region_any hm (X7d ⟨hE,hp⟩ (T:=stG st n A B) (lo:=lo) hL hT (fun a' w' h => hQ a' w' (by rw [h1] at h; exact h)) ops.size 0 _ a _ ?_ (by simp) (fun j hj => ?_) ?_ (by rw [h0]; exact (hr.ext (Drew.one.below _)).deads n))
 ·unfold X3r at hL
  simp only [Bool.and_eq_true,List.contains_iff_mem] at hL
  exact hL.1.1
 ·simp [hj]
 ·refine Nat.le_trans List.countP_le_length ?_
  simp
theorem sR {P:Program} {N:Nat} {c:Code} {st st':St} {a:List Ans} {C:List Prop} (h:Ev P N c st .norm st') (s:Scr a C):Scr (.loop [] 0 .norm st' :: a) (Ev P N c st .norm st' :: C):=⟨h,s⟩
end Go.Ab
