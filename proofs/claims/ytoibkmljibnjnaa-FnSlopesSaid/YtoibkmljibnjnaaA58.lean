/- An open region in which one operation is a call that writes rows, beside operations that only fill slots. -/
import Derived.Test.YtoibkmljibnjnaaA22
set_option linter.unusedVariables false
set_option linter.unusedSimpArgs false
namespace Go.Ab
open Go.RowKit
def whoA:List (Nat × Nat × AV)→Nat→Option (Nat × AV)
 | [],_=>none
 | (i,d,v) :: l,t=>cond (Nat.beq d t) (some (i,v)) (whoA l t)
def tmPf (A:List (Nat × Nat × AV)) (D:Nat→Bool):Nat→List AV→List AV
 | _,[] => []
 | t,v :: l=>(match whoA A t with
  | some (i,u)=>cond (D i) u v
  | none=>v) :: tmPf A D (t + 1) l
def tmWf (A:List (Nat × Nat × AV)) (D:Nat):Nat→List AV→List AV
 | _,[] => []
 | t,v :: l=>(match whoA A t with
  | some (i,u)=>cond (D.testBit i) u .any
  | none=>v) :: tmWf A D (t + 1) l
theorem X26 (A:List (Nat × Nat × AV)) (D:Nat→Bool):∀ (l:List AV) (k t:Nat),(tmPf A D k l)[t]? = (l[t]?).map fun v=>match whoA A (k + t) with
  | some (i,u)=>cond (D i) u v
  | none=>v
 | [],k,t=>by simp [tmPf]
 | v :: l,k,0=>by simp [tmPf]
 | v :: l,k,t + 1=>by
  simp only [tmPf,List.getElem?_cons_succ]
  rw [X26 A D l (k + 1) t,show k + 1 + t=k + (t + 1) from by omega]
theorem X4E (A:List (Nat × Nat × AV)) (D:Nat):∀ (l:List AV) (k t:Nat),(tmWf A D k l)[t]? = (l[t]?).map fun v=>match whoA A (k + t) with
  | some (i,u)=>cond (D.testBit i) u .any
  | none=>v
 | [],k,t=>by simp [tmWf]
 | v :: l,k,0=>by simp [tmWf]
 | v :: l,k,t + 1=>by
  simp only [tmWf,List.getElem?_cons_succ]
  rw [X4E A D l (k + 1) t,show k + 1 + t=k + (t + 1) from by omega]
theorem X4n (A:List (Nat × Nat × AV)) (D:Nat→Bool):∀ (l:List AV) (k:Nat),(tmPf A D k l).length=l.length
 | [],k=>rfl
 | v :: l,k=>by simp [tmPf,X4n A D l (k + 1)]
theorem X4o (A:List (Nat × Nat × AV)) (D:Nat):∀ (l:List AV) (k:Nat),(tmWf A D k l).length=l.length
 | [],k=>rfl
 | v :: l,k=>by simp [tmWf,X4o A D l (k + 1)]
theorem Xb4 {w0:Old0} {μ:Nat→Option FP} {A:List (Nat × Nat × AV)} {D:Nat→Bool} {d:Nat} {tm:List AV} {rows:List Row} {a:Act} {w:World} (hd:∀ j,d.testBit j=true→D j=true)
  (h:RelM w0 μ ⟨tmPf A D 0 tm,rows⟩ a w):RelW w0 μ ⟨tmWf A d 0 tm,rows⟩ a w:=by
 refine ⟨by rw [h.size];show (tmPf A D 0 tm).length=(tmWf A d 0 tm).length;rw [X4n,X4o],fun t v e => ?_,h.mem.toMemW⟩
 have e:(tmWf A d 0 tm)[t]? = some v:=e
 rw [X4E,Option.map_eq_some_iff] at e
 obtain ⟨v0,e0,e1⟩:=e
 have q:=h.tmps t
 have hp:(tmPf A D 0 tm)[t]? = _:=X26 A D tm 0 t
 rw [e0,Option.map_some] at hp
 cases hw:whoA A (0 + t) with
 | none=>rw [hw] at e1 hp;subst e1;exact q _ hp
 | some iu =>
  obtain ⟨i,u⟩:=iu
  rw [hw] at e1 hp
  cases hb:d.testBit i with
  | false=>simp only [hb,cond_false] at e1;subst e1;exact .any _
  | true=>simp only [hb,cond_true] at e1;subst e1;simp only [hd i hb,cond_true] at hp;exact q _ hp
theorem putC {A:List (Nat × Nat × AV)} {D:Nat→Bool} {k d:Nat} {u:AV} {tm:List AV} (hk:whoA A d=some (k,u)) (hu:∀ t i v,whoA A t=some (i,v)→i=k→t=d) :
  (tmPf A D 0 tm).set d u=tmPf A (upd D k) 0 tm:=by
 apply List.ext_getElem?
 intro t
 rw [X26]
 by_cases ht:d=t
 ·subst ht
  rw [List.getElem?_set_self',X26]
  cases tm[d]? with
  | none=>rfl
  | some v =>
   simp only [Option.map_some,Nat.zero_add,hk]
   simp [upd]
 ·rw [List.getElem?_set_ne ht,X26]
  cases tm[t]? with
  | none=>rfl
  | some v =>
   simp only [Option.map_some,Nat.zero_add]
   cases hw:whoA A t with
   | none=>rfl
   | some iu =>
    obtain ⟨i,x⟩:=iu
    have hi:i≠k:=fun e=>ht (hu t i x hw e).symm
    simp [upd,hi]
def X57:AV→Bool
 | .any=>false
 | _=>true
def rwC (c b:Nat) (R0 R1 R2:List Row) (D:Nat→Bool):List Row:=cond (D b) R2 (cond (D c) R1 R0)
theorem X7B {A:List (Nat × Nat × AV)} {D:Nat→Bool} {d:Nat} {tm:List AV} {rows rows':List Row} (hd:∀ j,d.testBit j=true→D j=true) {x:Operand} (h:X57 (opd ⟨tmWf A d 0 tm,rows⟩ x)=true) :
  opd ⟨tmPf A D 0 tm,rows'⟩ x=opd ⟨tmWf A d 0 tm,rows⟩ x:=by
 cases x with
 | tmp t =>
  simp only [opd] at h ⊢
  rw [X4E] at h ⊢
  rw [X26]
  cases ht:tm[t]? with
  | none=>rfl
  | some v =>
   rw [ht] at h
   simp only [Option.map_some,Option.getD_some,Nat.zero_add] at h ⊢
   cases hw:whoA A t with
   | none=>rfl
   | some iu =>
    obtain ⟨i,u⟩:=iu
    rw [hw] at h
    cases hb:d.testBit i with
    | false=>simp only [hb,cond_false,X57] at h;cases h
    | true=>simp only [hb,hd i hb,cond_true]
 | const v=>rfl
 | func f=>rfl
 | global g=>rfl
def X2c (P:Program) (E:Env) (ops:List Oper) (A:List (Nat × Nat × AV)) (S:List Stp) (tm:List AV) (rows:List Row) (i:Nat):Option PR :=
 evp P E ⟨tmWf A (((X2 ops [])[i]?).getD 0) 0 tm,rows⟩ rows.length (opAt ops i).op (stA S i)
def X2d (ops:List Oper) (A:List (Nat × Nat × AV)) (S:List Stp) (i:Nat) (new:List Row):Option PR :=
 match (opAt ops i).dst with
 | some d=>(whoA A d).map fun p=>⟨p.2,new,[],stC S i⟩
 | none=>none
def X7C (ops:List Oper) (A:List (Nat × Nat × AV)) (m:Nat):Bool :=
 (List.range m).all (fun i=>(opAt ops i).guard.isNone && match (opAt ops i).dst with
  | some d=>match whoA A d with
   | some (j,_)=>Nat.beq j i
   | none=>false
  | none=>false) && A.all fun p=>match (opAt ops p.1).dst with
  | some d=>Nat.beq d p.2.1
  | none=>false
theorem X7D:∀ {A:List (Nat × Nat × AV)} {t i:Nat} {u:AV},whoA A t=some (i,u)→(i,t,u)∈A
 | (i',d,v) :: l,t,i,u,h=>by
  rw [whoA] at h
  cases hb:Nat.beq d t with
  | true =>
   rw [hb,cond_true] at h
   simp only [Option.some.injEq,Prod.mk.injEq] at h
   obtain ⟨rfl,rfl⟩:=h
   rw [Nat.eq_of_beq_eq_true hb];exact List.mem_cons_self
  | false=>rw [hb,cond_false] at h;exact List.mem_cons_of_mem _ (X7D h)
 | [],t,i,u,h=>by cases h
theorem X9O {P:Program} {E:Env} {w0:Old0} (hE:EOn P E w0) {ops:Array Oper} {tm:List AV} {R0 R1 R2 Rf newb:List Row} {A:List (Nat × Nat × AV)} {S:List Stp} {m c b:Nat} {st':St} {ansT:List Ans} {CT:List Prop}
  {Q:Exit→Act→World→Prop} {g:FuncId} {cap args:List AV} {r:AV} {cl:Call} {fo:Operand}
  (hedge:∀ j o,ops.toList[j]? = some o→X1r j o=true)
  (htail:∀ k o,m≤k→ops.toList[k]? = some o→∀ j,j < k→(((X2 ops.toList [])[k]?).getD 0).testBit j=true)
  (hm:m≤ops.size) (hsh:X7C ops.toList A m=true)
  (hP0:∀ i,i < m→i≠c→i≠b→(((X2 ops.toList [])[i]?).getD 0).testBit c=false→X2c P E ops.toList A S tm R0 i=X2d ops.toList A S i [])
  (hP1:∀ i,i < m→i≠c→i≠b→(((X2 ops.toList [])[i]?).getD 0).testBit b=false→X2c P E ops.toList A S tm R1 i=X2d ops.toList A S i [])
  (hP2:b < m→∀ i,i < m→i≠c→i≠b→X2c P E ops.toList A S tm R2 i=X2d ops.toList A S i [])
  (hPb:b < m→(((X2 ops.toList [])[b]?).getD 0).testBit c=true∧X2c P E ops.toList A S tm R1 b=X2d ops.toList A S b newb∧R2=R1 ++ newb) (hbc:b≠c)
  (hRf:cond (decide (b < m)) R2 R1=Rf)
  (hop:(opAt ops.toList c).op = .call cl) (hcal:cl.callee = .value fo) (hfo:opd ⟨tmWf A (((X2 ops.toList [])[c]?).getD 0) 0 tm,R0⟩ fo = .fn g cap) (hX:E.X g=none)
  (hna:cl.args.toList.all (fun x=>X57 (opd ⟨tmWf A (((X2 ops.toList [])[c]?).getD 0) 0 tm,R0⟩ x))=true)
  (hargs:cl.args.toList.map (opd ⟨tmWf A (((X2 ops.toList [])[c]?).getD 0) 0 tm,R0⟩) ++ cap=args)
  (hr1:∀ d,(opAt ops.toList c).dst=some d→whoA A d=some (c,r)) (hcs:X7 P g R0 args r R1)
  (hT:X17 P E ops.toList (ops.toList.drop m) ⟨tmPf A (fun j=>decide (j < m)) 0 tm,Rf⟩ ansT=some (st',[],CT)) (hCT:All CT) (hcm:c < m)
  (hQ:∀ a' w',Rel w0 st' a' w'→Q .normal a' w') :
  ∀ (fuel:Nat) (listed:Array Bool) (D:Nat→Bool) (a:Act) (w:World),listed.size=ops.size→(∀ j,j < ops.size→listed[j]? = some (D j))→(∀ j,m≤j→D j=false)→X2j ops.toList D →
   listed.toList.countP (fun b => !b)≤fuel→Rel w0 ⟨tmPf A D 0 tm,rwC c b R0 R1 R2 D⟩ a w→wpAny P .any ops Q fuel listed a w:=by
 unfold X7C at hsh
 rw [Bool.and_eq_true,List.all_eq_true,List.all_eq_true] at hsh
 obtain ⟨hs1,hs2⟩:=hsh
 have full:∀ (fuel:Nat) (listed:Array Bool) (D:Nat→Bool) (a:Act) (w:World),listed.size=ops.size→(∀ j,j < ops.size→listed[j]? = some (D j))→(∀ j,m≤j→D j=false)→(∀ j,j < m→D j=true) →
   listed.toList.countP (fun b => !b)≤fuel→Rel w0 ⟨tmPf A D 0 tm,rwC c b R0 R1 R2 D⟩ a w→wpAny P .any ops Q fuel listed a w:=by
  intro fuel listed D a w hs hl h1 h2 hc hr
  have hDe:D=fun j=>decide (j < m):=by
   funext j
   by_cases hj:j < m
   ·rw [h2 j hj,decide_eq_true hj]
   ·rw [h1 j (by omega),decide_eq_false hj]
  subst hDe
  have hcnt:ops.size - m≤fuel:=by
   refine Nat.le_trans ?_ hc
   have e:listed.toList=listed.toList.take m ++ listed.toList.drop m:=(List.take_append_drop m _).symm
   rw [e,List.countP_append]
   have e2:(listed.toList.drop m).countP (fun b => !b)=(listed.toList.drop m).length:=by
    rw [List.countP_eq_length]
    intro x hx
    obtain ⟨i,hi,rfl⟩:=List.getElem_of_mem hx
    rw [List.length_drop,Array.length_toList] at hi
    have:=hl (m + i) (by omega)
    have e3:decide (m + i < m)=false:=decide_eq_false (by omega)
    simp only [e3] at this
    rw [List.getElem_drop]
    rw [Array.getElem?_eq_getElem (by omega)] at this
    simpa using this
   rw [e2,List.length_drop,Array.length_toList];omega
  refine X4W hE hedge htail (ops.size - m) m fuel _ st' ansT [] CT listed a w rfl (Nat.le_refl _) hm hcnt hT hCT hs hl ?_ hQ
  have e:rwC c b R0 R1 R2 (fun j=>decide (j < m))=Rf:=by show cond (decide (b < m)) R2 (cond (decide (c < m)) R1 R0)=Rf;rw [decide_eq_true hcm];exact hRf
  rw [e] at hr
  exact hr
 have hrdy:∀ (listed:Array Bool) (D:Nat→Bool),listed.size=ops.size→(∀ j,j < ops.size→listed[j]? = some (D j))→(∀ j,m≤j→D j=false)→∀ (k:Nat) (o:Oper),ops.toList[k]? = some o →
   ((∀ e∈o.after,Region.binds .any e=true→listed.getD e.on false=true)↔∀ e∈o.after,Region.binds .any e=true→D e.on=true):=by
  intro listed D hs hl h1 k o ho
  have hg:∀ j,listed.getD j false=D j:=by
   intro j
   rw [Array.getD_eq_getD_getElem?]
   by_cases hj:j < ops.size
   ·rw [hl j hj];rfl
   ·rw [Array.getElem?_eq_none (by omega),h1 j (by omega)];rfl
  constructor
  ·intro h e he hb;rw [← hg];exact h e he hb
  ·intro h e he hb;rw [hg];exact h e he hb
 intro fuel
 induction fuel with
 | zero =>
  intro listed D a w hs hl h1 hcl hc hr
  refine full 0 listed D a w hs hl h1 (fun j hj => ?_) hc hr
  have h0:listed.toList.countP (fun b => !b)=0:=by omega
  rw [List.countP_eq_zero] at h0
  cases hD:D j with
  | true=>rfl
  | false =>
   have:=hl j (by omega)
   rw [hD] at this
   have:=h0 false (List.mem_of_getElem? (by rw [Array.getElem?_toList];exact this))
   simp at this
 | succ fuel ih =>
  intro listed D a w hs hl h1 hcl hc hr
  by_cases hf:∀ j,j < m→D j=true
  ·exact full (fuel + 1) listed D a w hs hl h1 hf hc hr
  ·have hsub:∀ (k:Nat) (o:Oper),ops.toList[k]? = some o→(∀ e∈o.after,Region.binds .any e=true→D e.on=true)→∀ b,(((X2 ops.toList [])[k]?).getD 0).testBit b=true→D b=true:=fun k o ho hD=>X3f hcl hedge k o ho hD
   refine ⟨fun hnil=>absurd (fun j hj => ?_) hf,fun k hk => ?_⟩
   ·-- the least one that is not done is ready
    induction j using Nat.strongRecOn with
    | _ j ihj =>
     cases hD:D j with
     | true=>rfl
     | false =>
      exfalso
      have hjs:j < ops.size:=by omega
      have hmem:j∈Region.ready .any ops listed:=by
       rw [XY hs]
       refine ⟨hjs,by rw [hl j hjs,hD],fun o ho => ?_⟩
       rw [hrdy listed D hs hl h1 j o ho]
       intro e he hb
       have hlt:=XF (hedge j o ho) he hb
       exact ihj e.on hlt (by omega)
      rw [hnil] at hmem;cases hmem
   ·have hk':=(XY hs).1 hk
    have hks:k < ops.size:=hk'.1
    have ho:ops.toList[k]? = some ops[k]:=by rw [Array.getElem?_toList];exact Array.getElem?_eq_getElem hks
    have hDk:D k=false:=by have:=hl k hks;rw [hk'.2.1] at this;exact (Option.some.inj this).symm
    have hed:=(hrdy listed D hs hl h1 k _ ho).1 (hk'.2.2 _ ho)
    have hdep:=hsub k _ ho hed
    have hkm:k < m:=by
     refine Nat.lt_of_not_le fun hmk=>hf fun j hj => ?_
     exact hdep j (htail k _ hmk ho j (by omega))
    have hopk:opAt ops.toList k=ops[k]:=by unfold opAt;rw [ho]
    have hsh:=hs1 k (List.mem_range.2 hkm)
    rw [Bool.and_eq_true,hopk] at hsh
    have hguard:ops[k].guard=none:=by have:=hsh.1;simpa using this
    obtain ⟨d,u,hd,hw⟩:∃ d u,ops[k].dst=some d∧whoA A d=some (k,u):=by
     have h2:=hsh.2
     cases hdst:ops[k].dst with
     | none=>rw [hdst] at h2;cases h2
     | some d =>
      rw [hdst] at h2
      cases hw:whoA A d with
      | none=>simp only [hw] at h2;cases h2
      | some p =>
       obtain ⟨j,u⟩:=p
       simp only [hw] at h2
       have e:j=k:=Nat.eq_of_beq_eq_true h2
       subst e
       exact ⟨d,u,rfl,hw⟩
    have huniq:∀ t i v,whoA A t=some (i,v)→i=k→t=d:=by
     intro t i v hw2 hi
     have h3:=hs2 _ (X7D hw2)
     simp only at h3
     rw [hi,hopk,hd] at h3
     exact (Nat.eq_of_beq_eq_true h3).symm
    have hput:=putC (D:=D) (tm:=tm) hw huniq
    have hcl':X2j ops.toList (upd D k):=by
     intro j o hj hDj e he hb
     unfold upd at hDj ⊢
     rw [Bool.or_eq_true] at hDj ⊢
     rcases hDj with hDj | hDj
     ·have:=of_decide_eq_true hDj
      subst this
      rw [ho] at hj;cases hj
      exact .inr (hed e he hb)
     ·exact .inr (hcl j o hj hDj e he hb)
    have hnext:∀ a' w',Rel w0 ⟨tmPf A (upd D k) 0 tm,rwC c b R0 R1 R2 (upd D k)⟩ a' w'→wpAny P .any ops Q fuel (listed.setIfInBounds k true) a' w':=by
     intro a' w' hr'
     refine ih _ (upd D k) a' w' (by simpa using hs) (fun j hj => ?_) (fun j hj => ?_) hcl' ?_ hr'
     ·unfold upd
      by_cases hjk:j=k
      ·subst hjk
       rw [Array.getElem?_setIfInBounds_self_of_lt (by omega)];simp
      ·rw [Array.getElem?_setIfInBounds_ne (fun e=>hjk e.symm),hl j hj];simp [hjk]
     ·unfold upd;rw [h1 j hj];simp;omega
     ·have:=X2q listed.toList k (by rw [Array.getElem?_toList];exact hk'.2.1)
      rw [Array.toList_setIfInBounds];omega
    unfold wpOp
    rw [Array.getElem?_eq_getElem hks]
    show if Region.wanted ops[k] (yielded ops a.tmps) then _ else _
    rw [if_pos (by simp [Region.wanted,hguard])]
    left
    obtain ⟨μ,hr⟩:=hr
    have hDbc:D b=true→D c=true:=by
     intro hb
     have hbm:b < m:=by
      refine Nat.lt_of_not_le fun h => ?_
      rw [h1 b h] at hb;cases hb
     have hob:ops.toList[b]? = some ops[b]:=by rw [Array.getElem?_toList];exact Array.getElem?_eq_getElem (by omega)
     exact hsub b _ hob (hcl b _ hob hb) c (hPb hbm).1
    by_cases hkc:k=c
    ·subst hkc
     have hDb:D b=false:=by
      cases hb:D b with
      | false=>rfl
      | true=>rw [hDbc hb] at hDk;cases hDk
     have hDc:rwC k b R0 R1 R2 D=R0:=by unfold rwC;rw [hDb,hDk];rfl
     have hU:rwC k b R0 R1 R2 (upd D k)=R1:=by unfold rwC upd;simp [hDb,hbc]
     rw [hDc] at hr
     have hwk:u=r:=by
      have:=hr1 d (by rw [hopk];exact hd)
      rw [hw] at this
      simp only [Option.some.injEq,Prod.mk.injEq,true_and] at this
      exact this
     have hfo':opd ⟨tmPf A D 0 tm,R0⟩ fo = .fn g cap:=by rw [X7B hdep (by rw [hfo];rfl),hfo]
     have hargs':cl.args.toList.map (opd ⟨tmPf A D 0 tm,R0⟩) ++ cap=args:=by
      rw [← hargs]
      congr 1
      refine List.map_congr_left fun x hx => ?_
      exact X7B hdep (List.all_eq_true.1 hna x hx)
     have hev:evs P E ⟨tmPf A D 0 tm,R0⟩ ops[k] [.calls r R1]=some ((⟨tmPf A D 0 tm,R1⟩:St).put ops[k].dst r,[],[X7 P g R0 args r R1]):=by
      unfold evs
      rw [← hopk,hop]
      simp only [hcal,hfo',hX,hargs']
     refine X3P hE hev ⟨hcs,trivial⟩ ⟨μ,hr⟩ fun a' w' hr'=>hnext a' w' ?_
     rw [hU,← hput,hwk]
     rw [hd] at hr'
     exact hr'
    ·have step:∀ new,X2c P E ops.toList A S tm (rwC c b R0 R1 R2 D) k=some ⟨u,new,[],stC S k⟩→rwC c b R0 R1 R2 (upd D k)=rwC c b R0 R1 R2 D ++ new→Oper.wp P ops[k] a w (fun a w=>wpAny P .any ops Q fuel (listed.setIfInBounds k true) a w) Q:=by
      intro new hev hU
      unfold X2c at hev
      rw [hopk] at hev
      have hwk:=Xb4 (d:=((X2 ops.toList [])[k]?).getD 0) hdep hr
      have hout:∀ q,(rwC c b R0 R1 R2 D).length≤q→μ q=none:=fun q h2=>hr.mem.out q h2
      refine X2N hE.toEOk hwk hev (Xah S k) (fun q h2 h3=>hout q h2) _ Q fun v w' ⟨μ',hgr,hb,hv⟩=>hnext _ _ ⟨μ',?_⟩
      rw [hU,← hput]
      have h4:=(hr.grow hb hgr (Nat.le_refl _) (fun q h2 h3=>hout q h2)).put (some d) hv
      rw [X1J] at h4
      rw [hd]
      exact h4
     have hwant:∀ new,X2d ops.toList A S k new=some ⟨u,new,[],stC S k⟩:=by intro new;unfold X2d;rw [hopk,hd];simp [hw]
     by_cases hkb:k=b
     ·subst hkb
      obtain ⟨g1,g2,g3⟩:=hPb hkm
      have hDc:D c=true:=hdep c g1
      have hR:rwC c k R0 R1 R2 D=R1:=by unfold rwC;rw [hDk,hDc];rfl
      refine step newb (by rw [hR,g2,hwant]) ?_
      rw [hR,← g3]
      unfold rwC upd;simp
     ·refine step [] ?_ (by rw [List.append_nil];unfold rwC upd;simp [Ne.symm hkc,Ne.symm hkb])
      rw [← hwant]
      unfold rwC
      cases hDb:D b with
      | true =>
       have hbm:b < m:=by
        refine Nat.lt_of_not_le fun h => ?_
        rw [h1 b h] at hDb;cases hDb
       exact hP2 hbm k hkm hkc hkb
      | false =>
       cases hDc:D c with
       | true =>
        refine hP1 k hkm hkc hkb ?_
        cases hb:(((X2 ops.toList [])[k]?).getD 0).testBit b with
        | false=>rfl
        | true=>rw [hdep b hb] at hDb;cases hDb
       | false =>
        refine hP0 k hkm hkc hkb ?_
        cases hb:(((X2 ops.toList [])[k]?).getD 0).testBit c with
        | false=>rfl
        | true=>rw [hdep c hb] at hDc;cases hDc
theorem X5R (A:List (Nat × Nat × AV)):∀ (l:List AV) (k:Nat),tmPf A (fun _=>false) k l=l
 | [],k=>rfl
 | v :: l,k=>by
  rw [tmPf,X5R A l (k + 1)]
  cases whoA A k with
  | none=>rfl
  | some p=>rfl
def X9X (E:Env) (ops:List Oper) (A:List (Nat × Nat × AV)) (tm:List AV) (R0:List Row) (c:Nat):Option (FuncId × List AV) :=
 match (opAt ops c).op with
 | .call cl=>match cl.callee with
  | .value fo=>match opd ⟨tmWf A (((X2 ops [])[c]?).getD 0) 0 tm,R0⟩ fo with
   | .fn g cap=>match E.X g with
    | none=>match cl.args.toList.all (fun x=>X57 (opd ⟨tmWf A (((X2 ops [])[c]?).getD 0) 0 tm,R0⟩ x)) with
     | true=>some (g,cl.args.toList.map (opd ⟨tmWf A (((X2 ops [])[c]?).getD 0) 0 tm,R0⟩) ++ cap)
     | false=>none
    | some _=>none
   | _=>none
  | _=>none
 | _=>none
def chkC (ops:List Oper) (A:List (Nat × Nat × AV)) (m c b:Nat):Bool :=
 !(Nat.beq b c) && (X1H ops 0 && (X2G ((X2 ops []).drop m) m && (Nat.ble m ops.length && (Nat.blt c m && X7C ops A m))))
def ixC (m c b x:Nat) (deps:List Nat):List Nat:=(List.range m).filter fun i => !(Nat.beq i c) && (!(Nat.beq i b) && !(((deps[i]?).getD 0).testBit x))
theorem X5u {m c b x i:Nat} {deps:List Nat} (h1:i < m) (h2:Nat.beq i c=false) (h3:Nat.beq i b=false) (h4:((deps[i]?).getD 0).testBit x=false):i∈ixC m c b x deps:=by
 unfold ixC
 exact List.mem_filter.2 ⟨List.mem_range.2 h1,by rw [h2,h3,h4];rfl⟩
def bOkC (P:Program) (E:Env) (ops:List Oper) (A:List (Nat × Nat × AV)) (S:List Stp) (tm:List AV) (R1 newb:List Row) (m c b:Nat):Prop :=
 b < m→(((X2 ops [])[b]?).getD 0).testBit c=true∧X2c P E ops A S tm R1 b=X2d ops A S b newb
theorem Xat {P:Program} {E:Env} (hE:EOk P E) (hm:P.follows .mixedOrders=true) {id:Nat} {ops:Array Oper} (st st':St) (m c b:Nat) (A:List (Nat × Nat × AV)) (S:List Stp) (R1 R2 newb:List Row) (g:FuncId) (args:List AV) (r:AV) (ansT:List Ans) {CT:List Prop}
  (hchk:chkC ops.toList A m c b=true)
  (hP0:(ixC m c b c (X2 ops.toList [])).map (X2c P E ops.toList A S st.tm st.rows)=(ixC m c b c (X2 ops.toList [])).map fun i=>X2d ops.toList A S i [])
  (hP1:(ixC m c b b (X2 ops.toList [])).map (X2c P E ops.toList A S st.tm R1)=(ixC m c b b (X2 ops.toList [])).map fun i=>X2d ops.toList A S i [])
  (hP2:(ixC m c b m []).map (X2c P E ops.toList A S st.tm R2)=(ixC m c b m []).map fun i=>X2d ops.toList A S i [])
  (hPb:bOkC P E ops.toList A S st.tm R1 newb m c b) (hR2:R2=R1 ++ newb) (hPn:¬ b < m→newb=[])
  (hC:X9X E ops.toList A st.tm st.rows c=some (g,args)) (hr1:((opAt ops.toList c).dst).bind (whoA A)=some (c,r)) (hcs:X7 P g st.rows args r R1) (sT:Scr ansT CT)
  (hT:X17 P E ops.toList (ops.toList.drop m) ⟨tmPf A (fun j=>decide (j < m)) 0 st.tm,R2⟩ ansT=some (st',[],CT)):Ev P E.np (.region id ops true) st .norm st':=by
 intro w0 hp a w Q hr hQ
 unfold chkC at hchk
 simp only [Bool.and_eq_true,Nat.ble_eq,Nat.blt_eq] at hchk
 obtain ⟨k0,k1,k2,k3,k4,k5⟩:=hchk
 have k0:b≠c:=fun e=>by subst e;simp [Nat.beq_refl] at k0
 rw [List.map_inj_left] at hP0 hP1 hP2
 have hnb:∀ i c,i≠c→Nat.beq i c=false:=fun i c h=>by
  cases hb:Nat.beq i c with
  | false=>rfl
  | true=>exact absurd (Nat.eq_of_beq_eq_true hb) h
 unfold X9X at hC
 split at hC
 ·rename_i cl hop
  split at hC
  ·rename_i fo hcal
   split at hC
   ·rename_i g' cap hfo
    split at hC
    ·rename_i hX
     split at hC
     ·rename_i hna
      simp only [Option.some.injEq,Prod.mk.injEq] at hC
      obtain ⟨rfl,hargs⟩:=hC
      refine wp_region_any hm (X9O ⟨hE,hp⟩ (tm:=st.tm) (R0:=st.rows) (R1:=R1) (R2:=R2) (newb:=newb) (b:=b) (A:=A) (S:=S) (m:=m) (c:=c) (r:=r) (fun j o h=>by have:=X2n _ 0 j o k1 h;rwa [Nat.zero_add] at this)
       (fun k o hmk hk j hj => ?_) (by simpa using k3) k5
       (fun i h1 h2 h4 h3=>hP0 i (X5u h1 (hnb i c h2) (hnb i b h4) h3))
       (fun i h1 h2 h4 h3=>hP1 i (X5u h1 (hnb i c h2) (hnb i b h4) h3))
       (fun _ i h1 h2 h4=>hP2 i (X5u h1 (hnb i c h2) (hnb i b h4) (by simp)))
       (fun hb=>⟨(hPb hb).1,(hPb hb).2,hR2⟩) k0 (Rf:=R2) ?_
       hop hcal hfo hX hna hargs (fun d hd=>by rw [hd] at hr1;exact hr1) hcs hT sT k4 hQ ops.size _ (fun _=>false) a _ (by simp) (fun j hj => ?_) (fun _ _=>rfl) (fun j o _ h=>by cases h) ?_ ?_)
      ·have hkl:k < (X2 ops.toList []).length:=by
        obtain ⟨t,e1,e2⟩:=X29 ops.toList []
        rw [e1,List.nil_append,e2]
        rcases Nat.lt_or_ge k ops.toList.length with h | h
        ·exact h
        ·rw [List.getElem?_eq_none h] at hk;cases hk
       rw [List.getElem?_eq_getElem hkl]
       refine X39 _ m (k - m) _ k2 (by rw [List.getElem?_drop,show m + (k - m)=k from by omega];exact List.getElem?_eq_getElem hkl) j (by omega)
      ·cases hb:decide (b < m) with
       | true=>rfl
       | false =>
        show R1=R2
        rw [hR2,hPn (of_decide_eq_false hb),List.append_nil]
      ·simp [hj]
      ·refine Nat.le_trans List.countP_le_length ?_
       simp
      ·have h2:=hr.ext (Drew.one.below _)
       show Rel w0 ⟨tmPf A (fun _=>false) 0 st.tm,st.rows⟩ a _
       rw [X5R]
       exact h2
     ·cases hC
    ·cases hC
   ·cases hC
  ·cases hC
 ·cases hC
end Go.Ab

set_option linter.unusedVariables false
set_option linter.unusedSimpArgs false
namespace Go.Ab
theorem X9p {α β:Type} [Inhabited α] {f:β→α→β} {a:List α} {lo:Nat→β→Int→β}
  (h:∀ k s i,lo (k + 1) s i=cond (decide (i < (a.length:Int))) (lo k (f s (a.getD i.toNat default)) (i + 1)) s) :
  ∀ (k:Nat) (s:β) (i:Int),0≤i→((a.length:Int) - i).toNat < k→lo k s i=(a.drop i.toNat).foldl f s:=by
 intro k
 induction k with
 | zero=>intro s i _ hk;exact absurd hk (Nat.not_lt_zero _)
 | succ k ih =>
  intro s i h0 hk
  rw [h]
  by_cases hi:i < (a.length:Int)
  ·have hn:i.toNat < a.length:=by omega
   rw [decide_eq_true hi,cond_true,ih _ _ (by omega) (by omega),List.drop_eq_getElem_cons hn,List.foldl_cons,show (i + 1).toNat=i.toNat + 1 from by omega,
    List.getD_eq_getElem?_getD,List.getElem?_eq_getElem hn];rfl
  ·rw [decide_eq_false hi,cond_false,List.drop_eq_nil_of_le (by omega)];rfl
theorem XZ {α β:Type} [Inhabited α] {f:β→α→β} {a:List α} {lo:Nat→β→Int→β}
  (h:∀ k s i,lo (k + 1) s i=cond (decide (i < (a.length:Int))) (lo k (f s (a.getD i.toNat default)) (i + 1)) s) (s:β) :
  lo (((a.length:Int) - 0).toNat + 1) s 0=a.foldl f s:=X9p h _ s 0 (Int.le_refl 0) (Nat.lt_succ_self _)
def OkB (l:List Int):Prop:=∀ x∈l,0≤x∧x < 256
theorem X58 {l:List Int} (h:∀ a∈l,(Lit.int .u8 a).wf=true):OkB l:=by
 intro x hx
 have q:=h x hx
 unfold Lit.wf at q
 simp only [Bool.and_eq_true,decide_eq_true_eq] at q
 have h1:IntKind.u8.min=0:=by decide
 have h2:IntKind.u8.max=255:=by decide
 omega
end Go.Ab

set_option linter.unusedVariables false
set_option linter.unusedSimpArgs false
namespace Go.Ab
theorem X9P {n:Nat} (h:n < 18446744073709551616):IntKind.wrap .u64 (n:Int)=(n:Int):=by
 unfold IntKind.wrap
 simp only [IntKind.bits,IntKind.signed]
 simp
 omega
theorem XaS (a:Int):0≤bitsOf .and .u64 a 255∧bitsOf .and .u64 a 255≤255:=by
 unfold bitsOf
 simp only
 have h:(BitVec.ofInt (IntKind.bits .u64) a &&& BitVec.ofInt (IntKind.bits .u64) 255).toNat≤255:=by
  rw [BitVec.toNat_and]
  refine Nat.le_trans Nat.and_le_right ?_
  decide
 generalize (BitVec.ofInt (IntKind.bits .u64) a &&& BitVec.ofInt (IntKind.bits .u64) 255).toNat=n at *
 rw [X9P (by omega)]
 omega
end Go.Ab

set_option linter.unusedVariables false
set_option linter.unusedSimpArgs false
namespace Go.Ab
open Go.RowKit
def X8P (P:Program) (E:Env) (fn:Func) (c:Code) (rows:List Row) (args:List AV) (ans:List Ans) (ps:List (NPos × Row)):Option (AV × List Row × List Prop) :=
 match Nat.beq rows.length E.np with
 | false=>none
 | true=>match evc P E c ⟨args ++ List.replicate (fn.ntmps - args.length) .any,rows⟩ ans with
  | some (.exit _,_,_,_)=>none
  | some (_,st0,ans',C)=>match X1x ps st0 with
   | none=>none
   | some st=>match X49 E.T st fn.results.toList,ans' with
   | some r,[.keep ks]=>match X10 st.rows (X8 0 rows.length ++ ks) with
    | some rs=>match XU (X8 0 rows.length ++ ks) with
     | true=>some (rn (X8 0 rows.length ++ ks) r,rs.map (X1h (X8 0 rows.length ++ ks)),C)
     | false=>none
    | none=>none
   | _,_=>none
  | none=>none
theorem X66 {P:Program} {E:Env} (hE:EOk P E) (hm:P.follows .mixedOrders=true) {f:FuncId} {fn:Func} {c:Code} {rows rows':List Row} {args:List AV} {ans:List Ans} {ps:List (NPos × Row)} {r:AV} {C:List Prop}
  (hf : P.funcs[f]? = some fn) (hb : fn.body = some c) (hn : (fn.name == "runtime.NumGoroutine") = false) (h : X8P P E fn c rows args ans ps = some (r, rows', C)) (hC : All C) : X7 P f rows args r rows' := by
 refine ⟨⟨fn,hf,by rw [hb];rfl,hn⟩,fun w0 μ0 w vs hmem hp => ?_⟩
 unfold X8P at h
 split at h
 ·cases h
 rename_i hnp
 rw [Nat.beq_eq] at hnp
 have hlt:∀ q p,μ0 q=some p→q < rows.length:=fun q p e=>by
  rcases Nat.lt_or_ge q rows.length with h | h
  ·exact h
  ·rw [hmem.out q h] at e;cases e
 let w1:Old0:={ w0 with pin:=μ0,np:=rows.length,pinLt:=hlt }
 have fin:∀ (e:Ex) (st0 st:St) (ans':List Ans) (C':List Prop),(∀ id,e ≠ .exit id)→evc P E c ⟨args ++ List.replicate (fn.ntmps - args.length) .any,rows⟩ ans=some (e,st0,ans',C')→X1x ps st0=some st →
   (match X49 E.T st fn.results.toList,ans' with
   | some r,[.keep ks]=>match X10 st.rows (X8 0 rows.length ++ ks) with
    | some rs=>match XU (X8 0 rows.length ++ ks) with
     | true=>some (rn (X8 0 rows.length ++ ks) r,rs.map (X1h (X8 0 rows.length ++ ks)),C')
     | false=>none
    | none=>none
   | _,_=>none)=some (r,rows',C)→Calls P f vs w fun e w' => ∃ v μ',e = .returned v∧Sub μ0 μ'∧Mem w0 μ' rows' w'∧Rep w0.heap μ' r v:=by
  intro e st0 st ans' C' hex hev hps h
  split at h
  ·rename_i r0 ks1 hres
   generalize hks:X8 0 rows.length ++ ks1=ks at h
   split at h
   ·rename_i rs hpick
    split at h
    ·rename_i hok
     simp only [Option.some.injEq,Prod.mk.injEq] at h
     obtain ⟨rfl,rfl,rfl⟩:=h
     obtain ⟨hpl,hpg⟩:=X1n hpick
     have hnd:=XM hok
     have hEv:=X2W hE hm c hev hC
     have hkn:∀ i,i < rows.length→ks[i]? = some i:=fun i hi=>by
      rw [← hks,List.getElem?_append_left (by rw [X1D];exact hi),X2r _ _ _ hi,Nat.zero_add]
     refine calls_of_wp hf hb (hEv w1 (Nat.le_of_eq hnp) _ w _ ⟨μ0,rfl,?_,?_,⟨⟨⟨hmem.bel.os,hmem.bel.tape,hmem.bel.output,hmem.bel.size,hmem.bel.block,hmem.bel.drawn⟩,hmem.row,hmem.sep,hmem.nodup,hmem.own⟩,hmem.out,hmem.dead,Sub.refl _⟩⟩ fun a' w' hr' => ?_)
     ·simp [hp.1]
     ·intro t v e
      simp only at e ⊢
      rw [Array.getD_eq_getD_getElem?]
      by_cases ht:t < args.length
      ·rw [List.getElem?_append_left ht] at e
       rw [Array.getElem?_append_left (by rw [hp.1];exact ht),← Array.getD_eq_getD_getElem?]
       exact hp.2 t v e
      ·rw [List.getElem?_append_right (by omega),List.getElem?_replicate] at e
       split at e
       ·cases e;exact .any _
       ·cases e
     ·obtain ⟨μ,hr'⟩:=X18 hps hr'
      obtain ⟨x,hx1,hx2⟩:=X4j hE.T hr' hres
      let μ':Nat→Option FP:=fun i=>(ks[i]?).bind μ
      have hμ:∀ i k,ks[i]? = some k→μ' i=μ k:=fun i k e=>by show (ks[i]?).bind μ=μ k;rw [e];rfl
      have hμ0:∀ i p,μ' i=some p→∃ k,ks[i]? = some k∧μ k=some p:=by
       intro i p e
       cases hk:ks[i]? with
       | none =>
        have e2:(ks[i]?).bind μ=some p:=e
        rw [hk] at e2;cases e2
       | some k=>exact ⟨k,rfl,by rw [← hμ i k hk];exact e⟩
      have hsub:Sub μ0 μ':=fun q p e=>by
       have hq:q < rows.length:=w1.pinLt q p e
       rw [hμ q q (hkn q hq)]
       exact hr'.mem.pin q p e
      have hbel:=hr'.mem.bel
      have hpost:a'.defers=[]∧∃ v,(results fn a'.tmps).run P w' = .ok v w'∧∃ v' μ',Ending.returned v = .returned v'∧Sub μ0 μ'∧Mem w0 μ' (rs.map (X1h ks)) w'∧Rep w0.heap μ' (rn ks r0) v':=by
       refine ⟨hr'.defers,x,hx1,x,μ',rfl,hsub,⟨⟨⟨hbel.os,hbel.tape,hbel.output,hbel.size,hbel.block,hbel.drawn⟩,fun i row hi => ?_,fun i j p p' b h5 h6 h7 h8 => ?_,fun i p h3 => ?_,fun i p b h3 h4 => ?_⟩,fun i hi => ?_,fun i hi => ?_,hmem.pin.trans hsub⟩,X4Z hμ hx2⟩
       ·rw [List.getElem?_map,Option.map_eq_some_iff] at hi
        obtain ⟨row0,hi0,rfl⟩:=hi
        have hil:i < ks.length:=by
         rw [← hpl]
         rcases Nat.lt_or_ge i rs.length with h | h
         ·exact h
         ·rw [List.getElem?_eq_none h] at hi0;cases hi0
        have hi1:=hi0
        rw [hpg i _ (List.getElem?_eq_getElem hil)] at hi1
        rw [hμ i _ (List.getElem?_eq_getElem hil)]
        exact X7b hμ (hr'.mem.row _ _ hi1)
       ·obtain ⟨k,g1,g2⟩:=hμ0 i p h5
        obtain ⟨k',g3,g4⟩:=hμ0 j p' h6
        have:=hr'.mem.sep k k' p p' b g2 g4 h7 h8
        subst this
        have hil:i < ks.length:=by
         rcases Nat.lt_or_ge i ks.length with h | h
         ·exact h
         ·rw [List.getElem?_eq_none h] at g1;cases g1
        have hjl:j < ks.length:=by
         rcases Nat.lt_or_ge j ks.length with h | h
         ·exact h
         ·rw [List.getElem?_eq_none h] at g3;cases g3
        rw [List.getElem?_eq_getElem hil] at g1
        rw [List.getElem?_eq_getElem hjl] at g3
        exact X2Y hnd hil hjl ((Option.some.inj g1).trans (Option.some.inj g3).symm)
       ·obtain ⟨k,g1,g2⟩:=hμ0 i p h3
        exact hr'.mem.nodup k p g2
       ·obtain ⟨k,g1,g2⟩:=hμ0 i p h3
        exact hr'.mem.own k p b g2 h4
       ·show (ks[i]?).bind μ=none
        rw [List.length_map,hpl] at hi
        rw [List.getElem?_eq_none hi];rfl
       ·rw [List.getElem?_map,Option.map_eq_some_iff] at hi
        obtain ⟨row0,hi0,h0⟩:=hi
        have hd:row0 = .dead:=by cases row0<;>simp [X1h] at h0<;>rfl
        have hil:i < ks.length:=by
         rw [← hpl]
         rcases Nat.lt_or_ge i rs.length with h | h
         ·exact h
         ·rw [List.getElem?_eq_none h] at hi0;cases hi0
        rw [hpg i _ (List.getElem?_eq_getElem hil),hd] at hi0
        rw [hμ i _ (List.getElem?_eq_getElem hil)]
        exact hr'.mem.dead _ hi0
      cases e with
      | norm=>exact hpost
      | ret=>exact hpost
      | exit id=>exact absurd rfl (hex id)
    ·cases h
   ·cases h
  ·cases h
 split at h
 ·cases h
 ·rename_i e st0 ans' C' hne hev
  split at h
  ·cases h
  ·rename_i st hps
   exact fin e st0 st ans' C' (fun id he=>hne id he) hev hps h
 ·cases h
theorem Xd {P:Program} {E:Env} (hE:EOk P E) (hm:P.follows .mixedOrders=true) {f:FuncId} {fn:Func} {c:Code} (rows:List Row) {rows':List Row} {args:List AV} {ans:List Ans} (ps:List (NPos × Row)) (r:AV) (R:List Row) {C:List Prop}
  (hf : P.funcs[f]? = some fn) (s : Scr ans C) (hb : fn.body = some c) (hn : (fn.name == "runtime.NumGoroutine") = false) (h : X8P P E fn c rows args ans ps = some (r, R, C)) {r' : AV} (hr : r = r') (hR : R = rows') : X7 P f rows args r' rows' := by
 subst hr;subst hR;exact X66 hE hm hf hb hn h s
end Go.Ab

set_option linter.unusedVariables false
set_option linter.unusedSimpArgs false
namespace Go.Ab
def okEb (n:Nat) (ts:List (List Int)):Bool:=decide (n≤64) && (decide (ts.length≤128) && ts.all fun t=>match t with
 | [a,b,c]=>decide ((0≤a∧a < (n:Int))∧(0≤b∧b < (n:Int))∧(0≤c∧c < (n:Int))∧a≠b∧b≠c∧a≠c)
 | _=>false)
theorem Xau {n:Nat} {ts:List (List Int)} (h:okEb n ts=true):OkE n ts:=by
 unfold okEb at h
 rw [Bool.and_eq_true,Bool.and_eq_true,decide_eq_true_iff,decide_eq_true_iff,List.all_eq_true] at h
 refine ⟨h.1,h.2.1,fun t ht => ?_⟩
 have q:=h.2.2 t ht
 split at q
 ·rename_i a b c
  exact ⟨a,b,c,rfl,of_decide_eq_true q⟩
 ·cases q
end Go.Ab
