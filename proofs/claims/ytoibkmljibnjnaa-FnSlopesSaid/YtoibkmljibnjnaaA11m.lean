/- append to an array of slices: the arrays of what is appended become its own. -/
import Derived.Test.YtoibkmljibnjnaaA11n
set_option linter.unusedVariables false
set_option linter.unusedSimpArgs false
namespace Go.Ab
open Go.RowKit
def idx:List Nat→Nat→Option Nat
 | [],_=>none
 | k :: ks,r=>match k == r with
  | true=>some 0
  | false=>(idx ks r).map (· + 1)
theorem XD:∀ {ks:List Nat} {r i:Nat},idx ks r=some i→ks[i]? = some r
 | [],r,i,h=>by simp [idx] at h
 | k :: ks,r,i,h=>by
  simp only [idx] at h
  split at h
  ·rename_i hk
   simp only [beq_iff_eq] at hk
   simp only [Option.some.injEq] at h;subst h;simp [hk]
  ·rw [Option.map_eq_some_iff] at h
   obtain ⟨j,hj,rfl⟩:=h
   simpa using XD hj
theorem X6E:∀ {ks:List Nat} {r:Nat},idx ks r=none→r ∉ ks
 | [],r,h=>by simp
 | k :: ks,r,h=>by
  simp only [idx] at h
  split at h
  ·cases h
  ·rename_i hne
   simp only [beq_eq_false_iff_ne] at hne
   simp only [Option.map_eq_none_iff] at h
   simp only [List.mem_cons,not_or]
   exact ⟨fun e=>hne e.symm,X6E h⟩
def XU:List Nat→Bool
 | []=>true
 | a :: l => !l.contains a && XU l
theorem XM:∀ {l:List Nat},XU l=true→l.Nodup
 | [],_=>List.nodup_nil
 | a :: l,h=>by
  simp only [XU,Bool.and_eq_true,Bool.not_eq_true',List.contains_eq_mem,decide_eq_false_iff_not] at h
  exact List.nodup_cons.2 ⟨h.1,XM h.2⟩
def Xh (ks:List Nat):Nat→List Row→List Row
 | _,[] => []
 | i,r :: rs=>(match idx ks i with
  | some _ => .dead
  | none=>r) :: Xh ks (i + 1) rs
theorem X2P (ks:List Nat):∀ (rs:List Row) (i:Nat),(Xh ks i rs).length=rs.length
 | [],_=>rfl
 | r :: rs,i=>by simp [Xh,X2P ks rs]
theorem X1B (ks:List Nat):∀ (rs:List Row) (i j:Nat) (row:Row),(Xh ks i rs)[j]? = some row→(i + j∈ks∧row = .dead)∨(i + j ∉ ks∧rs[j]? = some row)
 | [],i,j,row,h=>by simp [Xh] at h
 | r :: rs,i,0,row,h=>by
  simp only [Xh,List.getElem?_cons_zero,Option.some.injEq] at h
  split at h
  ·rename_i k hk
   exact .inl ⟨List.mem_of_getElem? (XD hk),h.symm⟩
  ·rename_i hn;exact .inr ⟨X6E hn,by simp [h]⟩
 | r :: rs,i,j + 1,row,h=>by
  simp only [Xh,List.getElem?_cons_succ] at h
  have:=X1B ks rs (i + 1) j row h
  rw [show i + 1 + j=i + (j + 1) from by omega] at this
  simpa using this
theorem X6F (ks:List Nat) (rs:List Row) (i j:Nat) (row:Row) (h:(Xh ks i rs)[j]? = some row):row = .dead∨((idx ks (i + j))=none∧rs[j]? = some row):=by
 rcases X1B ks rs i j row h with ⟨_,h⟩ | ⟨h1,h2⟩
 ·exact .inl h
 ·refine .inr ⟨?_,h2⟩
  cases hi:idx ks (i + j) with
  | none=>rfl
  | some k=>exact absurd (List.mem_of_getElem? (XD hi)) h1
def innL (rows:List Row):List AV→Option (List Nat × List (List (List AV)))
 | []=>some ([],[])
 | c :: cs=>match c,innL rows cs with
  | .own r,some (rs,ls)=>match rows[r]? with
   | some (.vec _ 1 l _)=>some (r :: rs,l :: ls)
   | some (.vecU l)=>some (r :: rs,l :: ls)
   | _=>none
  | _,_=>none
theorem X4.toU {H:Array Obj} {μ:Nat→Option FP} {heap:Array Obj} {p:FP} {t:TypeId} {l:List (List AV)} {full:Bool} (h:X4 H μ heap (some p) (.vec t 1 l full)):X4 H μ heap (some p) (.vecU l):=by
 rcases h with ⟨hz,hl,_⟩ | ⟨hz,b1,b2,b3,b4,b5,arq,b6,b7,b8⟩
 ·exact .inl ⟨hz,hl⟩
 ·exact .inr ⟨hz,b1,b2,b3,b4,arq,t,b6,b7,b8⟩
theorem FP.invU_ok {H:Array Obj} {μ:Nat→Option FP} {heap heap':Array Obj} {p:FP} {l:List (List AV)} (h:X4 H μ heap (some p) (.vecU l)) (hb:∀ b,b∈p.blks→heap'[b]? = heap[b]?):X44 heap' p.inv l p.val:=by
 refine ⟨(FP.inv_val p).symm,?_⟩
 unfold FP.inv
 rcases h with ⟨hz,rfl⟩ | ⟨hz,b1,b2,b3,b4,arq,t,b6,b7,b8⟩
 ·rw [hz]
 ·rw [hz]
  exact ⟨b3,b4,arq,t,by rw [hb _ (FP.mem_blk hz)];exact b6,by rw [b7,Nat.mul_one],b8⟩
theorem X2Q {w0:Old0} {w:World} {μ:Nat→Option FP} {rows:List Row} (hm:Mem w0 μ rows w):∀ {cs:List AV} {rs:List Nat} {ls:List (List (List AV))},innL rows cs=some (rs,ls)→(∀ (j:Nat) (c:AV),cs[j]? = some c→∃ v,Rep w0.heap μ c v) →
  ∃ prs:List FP,rs.length=cs.length∧ls.length=cs.length∧prs.length=cs.length∧∀ (j:Nat) (c:AV),cs[j]? = some c→∃ r l pr row,∃ _:Bool,c = .own r∧rs[j]? = some r∧ls[j]? = some l∧prs[j]? = some pr∧μ r=some pr∧rows[r]? = some row∧X4 w0.heap μ w.heap (some pr) (.vecU l)
 | [],rs,ls,h,_=>by
  simp only [innL,Option.some.injEq,Prod.mk.injEq] at h
  obtain ⟨rfl,rfl⟩:=h
  exact ⟨[],rfl,rfl,rfl,fun j c e=>by simp at e⟩
 | c :: cs,rs,ls,h,hrep=>by
  simp only [innL] at h
  split at h
  ·rename_i r rs1 ls1 h1
   split at h
   ·rename_i t l full hrow
    simp only [Option.some.injEq,Prod.mk.injEq] at h
    obtain ⟨rfl,rfl⟩:=h
    obtain ⟨prs,e1,e2,e3,e4⟩:=X2Q hm h1 (fun j c e=>hrep (j + 1) c (by simpa using e))
    obtain ⟨v,hv⟩:=hrep 0 (.own r) rfl
    cases hv with
    | own _ pr hpr =>
    have hok:=hm.row r _ hrow
    rw [hpr] at hok
    refine ⟨pr :: prs,by simp [e1],by simp [e2],by simp [e3],fun j c e => ?_⟩
    cases j with
    | zero=>simp at e;subst e;exact ⟨r,l,pr,_,false,rfl,rfl,rfl,rfl,hpr,hrow,hok.toU⟩
    | succ j=>simp at e;simpa using e4 j c e
   ·rename_i l hrow
    simp only [Option.some.injEq,Prod.mk.injEq] at h
    obtain ⟨rfl,rfl⟩:=h
    obtain ⟨prs,e1,e2,e3,e4⟩:=X2Q hm h1 (fun j c e=>hrep (j + 1) c (by simpa using e))
    obtain ⟨v,hv⟩:=hrep 0 (.own r) rfl
    cases hv with
    | own _ pr hpr =>
    have hok:=hm.row r _ hrow
    rw [hpr] at hok
    refine ⟨pr :: prs,by simp [e1],by simp [e2],by simp [e3],fun j c e => ?_⟩
    cases j with
    | zero=>simp at e;subst e;exact ⟨r,l,pr,_,false,rfl,rfl,rfl,rfl,hpr,hrow,hok⟩
    | succ j=>simp at e;simpa using e4 j c e
   ·cases h
  ·cases h
theorem X5A {w0:Old0} {w:World} {μ:Nat→Option FP} {rows:List Row} (hm:Mem w0 μ rows w):∀ (rs:List Nat) (prs:List FP),rs.length=prs.length→rs.Nodup→(∀ (j r:Nat),rs[j]? = some r→∃ pr,prs[j]? = some pr∧μ r=some pr) →
  ((prs.map fun p=>p.inv.map (·.1)).filterMap id).Nodup∧∀ b,b∈(prs.map fun p=>p.inv.map (·.1)).filterMap id→∃ r pr,r∈rs∧μ r=some pr∧b∈pr.blks
 | [],prs,hl,_,_=>by
  have:prs=[]:=List.eq_nil_of_length_eq_zero (by simpa using hl.symm)
  subst this;simp
 | r :: rs,[],hl,_,_=>by simp at hl
 | r :: rs,pr :: prs,hl,hnd,h=>by
  obtain ⟨h1,h2⟩:=List.nodup_cons.1 hnd
  obtain ⟨k1,k2⟩:=X5A hm rs prs (by simpa using hl) h2 (fun j r e=>by simpa using h (j + 1) r (by simpa using e))
  obtain ⟨pr',e1,e2⟩:=h 0 r rfl
  simp at e1;subst e1
  simp only [List.map_cons,List.filterMap_cons,id]
  cases hi:pr.inv.map (·.1) with
  | none=>exact ⟨k1,fun b hb=>let ⟨r',pr',m1,m2,m3⟩:=k2 b hb;⟨r',pr',List.mem_cons_of_mem _ m1,m2,m3⟩⟩
  | some b0 =>
   have hb0:=(FP.inv_blk hi).1
   refine ⟨List.nodup_cons.2 ⟨fun hm' => ?_,k1⟩,fun b hb => ?_⟩
   ·obtain ⟨r',pr',m1,m2,m3⟩:=k2 b0 hm'
    have:=hm.sep r r' pr pr' b0 e2 m2 hb0 m3
    subst this;exact h1 m1
   ·rcases List.mem_cons.1 hb with rfl | hb
    ·exact ⟨r,pr,List.mem_cons_self,e2,hb0⟩
    ·obtain ⟨r',pr',m1,m2,m3⟩:=k2 b hb
     exact ⟨r',pr',List.mem_cons_of_mem _ m1,m2,m3⟩
theorem X6G {w0:Old0} {w w':World} {μ:Nat→Option FP} {st:St} {a:Act} (hr:RelM w0 μ st a w) {q:Nat} {ks rs:List Nat} {p p':FP} {prs:List FP} {row:Row}
  (hp:μ q=some p) (hlt:∀ r,r∈q :: ks→r < st.rows.length) (hnd:(q :: ks).Nodup) (hpin:∀ r,r∈q :: ks→w0.pin r=none) (hl:rs.length=prs.length) (hsub:∀ r,r∈rs→r∈ks) (hrsnd:rs.Nodup)
  (hprs:∀ (j r:Nat),rs[j]? = some r→∃ pr,prs[j]? = some pr∧μ r=some pr) (hbel:Bel w0 w') (hsz:w.heap.size≤w'.heap.size)
  (hkeep:∀ b,b < w.heap.size→(p.nul=false→b≠p.blk)→w'.heap[b]? = w.heap[b]?) (hz:p'.nul=false) (hinn:p'.inn=p.inn ++ prs.map FP.inv) (hn0:p.nul=true→p.inn=[])
  (hblk:(p.nul=false∧p'.blk=p.blk)∨w.heap.size≤p'.blk) (hblk2:p'.blk < w'.heap.size) (hd:row ≠ .dead) (hrow:∀ μ',X4 w0.heap μ' w'.heap (some p') row) :
  ∃ μ',RelM w0 μ' ⟨st.tm.map (X1A (q :: ks)),(Xh (q :: ks) 0 (st.rows.map (Xr (q :: ks)))).set q row⟩ a w'∧Rep w0.heap μ' (.own q) p'.val:=by
 have hm:=hr.mem
 let μ':Nat→Option FP:=fun i=>if i=q then some p' else if i∈ks then none else μ i
 have hμq:μ' q=some p':=if_pos rfl
 have hμs:∀ r,r ∉ q :: ks→μ' r=μ r:=fun r h=>by
  simp only [List.mem_cons,not_or] at h
  show (if r=q then _ else if r∈ks then _ else _)=_
  rw [if_neg h.1,if_neg h.2]
 have hμn:∀ r,r∈q :: ks→r≠q→μ' r=none:=fun r h hne=>by
  show (if r=q then _ else if r∈ks then _ else _)=_
  rw [if_neg hne,if_pos (by simpa [hne] using h)]
 have hnd1:=List.nodup_cons.1 hnd
 obtain ⟨i1,i2⟩:=X5A hm rs prs hl hrsnd hprs
 have hib:p'.ib=p.ib ++ prs.map fun p=>p.inv.map (·.1):=by simp [FP.ib,hinn]
 have hpib:∀ b,b∈p.ib.filterMap id→b∈p.blks∧p.nul=false:=fun b hb=>by
  cases hpz:p.nul with
  | true=>simp [FP.ib,hn0 hpz] at hb
  | false=>exact ⟨by rw [FP.blks_of hpz];exact List.mem_cons_of_mem _ hb,rfl⟩
 have hmem:∀ b,b∈p'.blks→(b=p'.blk∧w.heap.size≤b)∨∃ r pr,r∈q :: rs∧μ r=some pr∧b∈pr.blks:=by
  intro b hb
  rw [FP.blks_of hz] at hb
  rcases List.mem_cons.1 hb with rfl | hb
  ·rcases hblk with ⟨h1,h2⟩ | h
   ·exact .inr ⟨q,p,List.mem_cons_self,hp,by rw [h2];exact FP.mem_blk h1⟩
   ·exact .inl ⟨rfl,h⟩
  ·rw [hib,List.filterMap_append,List.mem_append] at hb
   rcases hb with hb | hb
   ·exact .inr ⟨q,p,List.mem_cons_self,hp,(hpib b hb).1⟩
   ·obtain ⟨r,pr,m1,m2,m3⟩:=i2 b hb
    exact .inr ⟨r,pr,List.mem_cons_of_mem _ m1,m2,m3⟩
 refine ⟨μ',⟨hr.defers,by simpa using hr.size,fun i v hv => ?_,?_⟩, .own q p' hμq⟩
 ·rw [List.getElem?_map,Option.map_eq_some_iff] at hv
  obtain ⟨v0,hv0,rfl⟩:=hv
  exact X2O hμs (hr.tmps i v0 hv0)
 ·have hlenk:(Xh (q :: ks) 0 (st.rows.map (Xr (q :: ks)))).length=st.rows.length:=by rw [X2P];simp
  have hqlt:=hlt q List.mem_cons_self
  refine hm.change (qs:=q :: ks) hbel hμs hpin (by simp [hlenk]) (fun r row' hrq hrow' => ?_) (fun r p2 b hrq hp2 hb2 => ?_) hsz (fun r row' hrq hrow' => ?_) (fun r hrq hlen => ?_) (fun r hrq hdd => ?_) (fun r p2 hrq hp2 => ?_)
  ·have hrne:q≠r:=fun e=>hrq (e ▸ List.mem_cons_self)
   rw [List.getElem?_set_ne hrne] at hrow'
   rcases X1B _ _ _ _ _ hrow' with ⟨h1,_⟩ | ⟨_,h2⟩
   ·rw [Nat.zero_add] at h1;exact absurd h1 hrq
   ·rw [List.getElem?_map,Option.map_eq_some_iff] at h2
    obtain ⟨row0,h0,rfl⟩:=h2
    exact ⟨row0,h0,rfl⟩
  ·refine hkeep b (hm.own r p2 b hp2 hb2).2 fun hpz hbe => ?_
   subst hbe
   exact hrq (hm.sep q r p p2 _ hp hp2 (FP.mem_blk hpz) hb2 ▸ List.mem_cons_self)
  ·by_cases hrne:q=r
   ·subst hrne
    rw [List.getElem?_set_self (by rw [hlenk];exact hqlt)] at hrow'
    simp only [Option.some.injEq] at hrow';subst hrow'
    rw [hμq];exact hrow μ'
   ·rw [List.getElem?_set_ne hrne] at hrow'
    rcases X1B _ _ _ _ _ hrow' with ⟨_,h1⟩ | ⟨h1,_⟩
    ·subst h1;cases μ' r<;>exact trivial
    ·rw [Nat.zero_add] at h1;exact absurd hrq h1
  ·have:=hlt r hrq;omega
  ·by_cases hrne:q=r
   ·subst hrne
    rw [List.getElem?_set_self (by rw [hlenk];exact hqlt)] at hdd
    simp only [Option.some.injEq] at hdd;exact absurd hdd hd
   ·exact hμn r hrq fun e=>hrne e.symm
  ·have hrq':r=q:=by
    by_cases h:r=q
    ·exact h
    ·rw [hμn r hrq h] at hp2;cases hp2
   subst hrq'
   rw [hμq] at hp2
   simp only [Option.some.injEq] at hp2;subst hp2
   refine ⟨?_,fun b hb2=>⟨?_,fun r' p3 hne hp3 hb3 => ?_⟩⟩
   ·rw [FP.blks_of hz,hib,List.filterMap_append]
    have hold:∀ b,b∈p.ib.filterMap id→b < w.heap.size:=fun b hb=>(hm.own _ p b hp (hpib b hb).1).2
    have hnew:∀ b,b∈(prs.map fun p=>p.inv.map (·.1)).filterMap id→b < w.heap.size∧b ∉ p.blks:=fun b hb=>by
     obtain ⟨r2,pr,m1,m2,m3⟩:=i2 b hb
     refine ⟨(hm.own r2 pr b m2 m3).2,fun hbp => ?_⟩
     have:=hm.sep _ r2 p pr b hp m2 hbp m3
     subst this
     exact hnd1.1 (hsub _ m1)
    refine List.nodup_cons.2 ⟨fun hb => ?_,?_⟩
    ·rcases hblk with ⟨h1,h2⟩ | h
     ·rw [h2] at hb
      rcases List.mem_append.1 hb with hb | hb
      ·have:=hm.nodup _ p hp
       rw [FP.blks_of h1] at this
       exact (List.nodup_cons.1 this).1 hb
      ·exact (hnew _ hb).2 (FP.mem_blk h1)
     ·rcases List.mem_append.1 hb with hb | hb
      ·have:=hold _ hb;omega
      ·have:=(hnew _ hb).1;omega
    ·refine List.nodup_append.2 ⟨?_,i1,fun x hx y hy e => ?_⟩
     ·cases hpz:p.nul with
      | true=>simp [FP.ib,hn0 hpz]
      | false =>
       have:=hm.nodup _ p hp
       rw [FP.blks_of hpz] at this
       exact (List.nodup_cons.1 this).2
     ·subst e
      exact (hnew x hy).2 (hpib x hx).1
   ·rcases hmem b hb2 with ⟨rfl,h⟩ | ⟨r2,pr,_,m2,m3⟩
    ·exact ⟨.inr (Nat.le_trans hm.bel.size h),hblk2⟩
    ·have:=hm.own r2 pr b m2 m3
     exact ⟨this.1,by omega⟩
   ·have hr':r' ∉ r :: ks:=fun h=>by rw [hμn r' h hne] at hp3;cases hp3
    rw [hμs r' hr'] at hp3
    rcases hmem b hb2 with ⟨_,h⟩ | ⟨r2,pr,m1,m2,m3⟩
    ·have:=(hm.own r' p3 b hp3 hb3).2;omega
    ·have:=hm.sep r2 r' pr p3 b m2 hp3 m3 hb3
     subst this
     refine hr' ?_
     rcases List.mem_cons.1 m1 with rfl | m1
     ·exact List.mem_cons_self
     ·exact List.mem_cons_of_mem _ (hsub _ m1)
theorem X4s {w0:Old0} {w w':World} {μ:Nat→Option FP} {st:St} {a:Act} (hr:RelM w0 μ st a w) {q s:Nat} {rs:List Nat} {p p':FP} {prs:List FP} {row:Row}
  (hp:μ q=some p) (hlt:∀ r,r∈q :: s :: rs→r < st.rows.length) (hnd:(q :: s :: rs).Nodup) (hpin:∀ r,r∈q :: s :: rs→w0.pin r=none) (hl:rs.length=prs.length)
  (hprs:∀ (j r:Nat),rs[j]? = some r→∃ pr,prs[j]? = some pr∧μ r=some pr) (hbel:Bel w0 w') (hsz:w.heap.size≤w'.heap.size)
  (hkeep:∀ b,b < w.heap.size→(p.nul=false→b≠p.blk)→w'.heap[b]? = w.heap[b]?) (hz:p'.nul=false) (hinn:p'.inn=p.inn ++ prs.map FP.inv) (hn0:p.nul=true→p.inn=[])
  (hblk:(p.nul=false∧p'.blk=p.blk)∨w.heap.size≤p'.blk) (hblk2:p'.blk < w'.heap.size) (hd:row ≠ .dead) (hrow:∀ μ',X4 w0.heap μ' w'.heap (some p') row) :
  ∃ μ',RelM w0 μ' ⟨st.tm.map (X1A (q :: s :: rs)),(Xh (q :: s :: rs) 0 (st.rows.map (Xr (q :: s :: rs)))).set q row⟩ a w'∧Rep w0.heap μ' (.own q) p'.val :=
 X6G hr hp hlt hnd hpin hl (fun r h=>List.mem_cons_of_mem _ h) (List.nodup_cons.1 (List.nodup_cons.1 hnd).2).2 hprs hbel hsz hkeep hz hinn hn0 hblk hblk2 hd hrow
def X6H (T:TypeId→Option TD) (np:Nat) (st:St) (ts tx:TypeId) (s x:AV) (ans:List Ans):Option (St × AV × List Ans × List Prop) :=
 match T ts,ts == tx,s,x with
 | some d,true, .own q, .own s=>match d.kind with
  | .slice e=>match T e with
   | some de=>match st.rows[q]?,st.rows[s]? with
    | some (.nest t ll _),some (.lits _ cs)=>match innL st.rows cs with
     | some (rs,ls)=>match Nat.ble de.bytes 65536 && (de.zero.length == 1) && (de.size == 1) && (t == e) && XU (q :: s :: rs) && (q :: s :: rs).all (Nat.ble np) && !cs.isEmpty with
      | true=>some (⟨st.tm.map (X1A (q :: s :: rs)),(Xh (q :: s :: rs) 0 (st.rows.map (Xr (q :: s :: rs)))).set q (.nest e (ll ++ ls) false)⟩, .own q,ans,[ll.length + ls.length≤1073741824])
      | false=>none
     | none=>none
    | _,_=>none
   | none=>none
  | _=>none
 | _,_,_,_=>none
theorem X6I {P:Program} {w0:Old0} {w:World} {μ:Nat→Option FP} {T:TypeId→Option TD} (hT:TOk P T) {st st':St} {a:Act} (hr:RelM w0 μ st a w) {ts tx ty:TypeId} {s x v:AV} {vs vx:Value} {ans ans':List Ans} {C:List Prop}
  {np:Nat} (hnp:w0.np≤np) (hs:Rep w0.heap μ s vs) (hx:Rep w0.heap μ x vx) (h:X6H T np st ts tx s x ans=some (st',v,ans',C)) (hC:All C) :
  ∃ u w',(Builtin.append_ #[ts,tx] ty #[vs,vx]).run P w = .ok u w'∧∃ μ',RelM w0 μ' st' a w'∧Rep w0.heap μ' v u:=by
 have hm:=hr.mem
 unfold X6H at h
 split at h
 ·rename_i d q sx hts htt
  have htt':ts=tx:=by simpa using htt
  subst htt'
  obtain ⟨u,hu,hk,hagg⟩:=(hT ts d hts).desc
  split at h
  ·rename_i e hkd
   rw [hkd] at hk
   cases u<;>simp only [Xa] at hk
   rw [hk] at hu
   split at h
   ·rename_i de he
    obtain ⟨inf,z,hinf,hsz,hby,hz,hpw1,hpw2⟩:=(hT e de he).inf
    split at h
    ·rename_i t ll full tl cs hrq hrs
     split at h
     ·rename_i rs ls hin
      split at h
      ·rename_i hchk
       simp only [Bool.and_eq_true,beq_iff_eq,Nat.ble_eq,List.all_eq_true,Bool.not_eq_true'] at hchk
       obtain ⟨⟨⟨⟨⟨⟨hbyt,hzl⟩,hsz1⟩,hte⟩,hnd⟩,hnpq⟩,hne⟩:=hchk
       subst hte
       simp only [Option.some.injEq,Prod.mk.injEq] at h
       obtain ⟨rfl,rfl,rfl,rfl⟩:=h
       obtain ⟨hlen,_⟩:=hC
       have hnd:=XM hnd
       cases hs with
       | own _ p hp =>
       cases hx with
       | own _ psx hps =>
       have hokq:=hm.row q _ hrq
       have hoks:=hm.row sx _ hrs
       rw [hp] at hokq
       rw [hps] at hoks
       obtain ⟨sz,s1,s2,s3,s4,arrs,s5,s6,s7⟩:=hoks
       obtain ⟨prs,hl1,hl2,hl3,hall⟩:=X2Q hm hin (fun j c e=>⟨_,s7 j c e⟩)
       have hqlt:∀ r,r∈q :: sx :: rs→r < st.rows.length:=fun r hr'=>by
        have key:∀ row,st.rows[r]? = some row→r < st.rows.length:=fun row e=>by
         rcases Nat.lt_or_ge r st.rows.length with h | h
         ·exact h
         ·rw [List.getElem?_eq_none h] at e;cases e
        rcases List.mem_cons.1 hr' with rfl | hr'
        ·exact key _ hrq
        ·rcases List.mem_cons.1 hr' with rfl | hr'
         ·exact key _ hrs
         ·obtain ⟨j,hj,rfl⟩:=List.getElem_of_mem hr'
          obtain ⟨r2,l,pr,t2,f2,g1,g2,g3,g4,g5,g6,g7⟩:=hall j cs[j] (List.getElem?_eq_getElem (by omega))
          rw [List.getElem?_eq_getElem hj] at g2
          rw [Option.some.inj g2]
          rcases Nat.lt_or_ge r2 st.rows.length with h | h
          ·exact h
          ·rw [List.getElem?_eq_none h] at g6;cases g6
       have hpin:∀ r,r∈q :: sx :: rs→w0.pin r=none:=fun r hr'=>by
        cases hpn:w0.pin r with
        | none=>rfl
        | some pz=>have:=w0.pinLt r pz hpn;have:=hnpq r hr';omega
       have hprs:∀ (j r:Nat),rs[j]? = some r→∃ pr,prs[j]? = some pr∧μ r=some pr:=fun j r e=>by
        have hj:j < rs.length:=by
         rcases Nat.lt_or_ge j rs.length with h | h
         ·exact h
         ·rw [List.getElem?_eq_none h] at e;cases e
        obtain ⟨r2,l,pr,t2,f2,g1,g2,g3,g4,g5,g6,g7⟩:=hall j cs[j] (List.getElem?_eq_getElem (by omega))
        rw [e] at g2;cases g2
        exact ⟨pr,g4,g5⟩
       have hvals:∀ j,j < cs.length→∃ r l pr,∃ _:Row,∃ _:Bool,rs[j]? = some r∧ls[j]? = some l∧prs[j]? = some pr∧μ r=some pr∧arrs[j]? = some pr.val∧X4 w0.heap μ w.heap (some pr) (.vecU l):=fun j hj=>by
        obtain ⟨r2,l,pr,t2,f2,g1,g2,g3,g4,g5,g6,g7⟩:=hall j cs[j] (List.getElem?_eq_getElem hj)
        have hrep:=s7 j cs[j] (List.getElem?_eq_getElem hj)
        rw [g1] at hrep
        rw [Array.getD_eq_getD_getElem?,Array.getElem?_eq_getElem (by omega),Option.getD_some] at hrep
        generalize hgv:arrs[j]=gv at hrep
        cases hrep with
        | own _ pr2 hpr2 =>
        rw [g5] at hpr2;cases hpr2
        exact ⟨r2,l,pr,t2,f2,g2,g3,g4,g5,by rw [Array.getElem?_eq_getElem (by omega),hgv],g7⟩
       have hpos:0 < cs.length:=by cases cs with | nil=>simp at hne | cons=>simp
       have hnl:arrs.toList.length=cs.length * inf.size:=by rw [Array.length_toList,s6,hsz,hsz1,Nat.mul_one]
       have hnews:∀ (j:Nat) (v:Value),arrs.toList[j]? = some v→w.cell? ((⟨psx.blk,0,none⟩:Addr).add j)=some v:=fun j v e=>by
        rw [Xy,X1d]
        unfold X5;rw [s5];simpa using e
       have hone:∀ u∈arrs.toList,u.oneCell'=true:=fun u hu2=>by
        obtain ⟨j,hj,rfl⟩:=List.getElem_of_mem hu2
        rw [Array.length_toList] at hj
        obtain ⟨_,_,pr,_,_,_,_,_,_,g,_⟩:=hvals j (by omega)
        rw [Array.getElem?_eq_getElem hj] at g
        rw [Array.getElem_toList,Option.some.inj g]
        exact FP.val_one pr
       rw [FP.val_of sz,s3]
       have hbig:cs.length≤1073741824:=by omega
       have hrowN:∀ (w':World) (p':FP) (arr':Array Value),(∀ b,b < w.heap.size→(p.nul=false→b≠p.blk)→w'.heap[b]? = w.heap[b]?)→p'.nul=false→p'.es=1→p'.inn=p.inn ++ prs.map FP.inv→p'.len=ll.length + cs.length→ll.length + cs.length≤p'.cap →
         w'.heap[p'.blk]? = some (.cells arr' t (0,0))→arr'.size=p'.cap→p.inn.length=ll.length→(∀ i l,ll[i]? = some l→X44 w'.heap (p.inn.getD i none) l (arr'.getD i undef)) →
         (∀ j v,arrs[j]? = some v→arr'[ll.length + j]? = some v)→∀ μ',X4 w0.heap μ' w'.heap (some p') (.nest t (ll ++ ls) false):=by
        intro w' p' arr' hkeep f0 f1 f2 f3 f4 f5 f6 f7 f8 f9 μ'
        refine .inr ⟨f0,f1,by rw [f3,List.length_append,hl2],by rw [List.length_append,hl2];exact f4,(fun hf=>by cases hf),by rw [f2];simp [f7,hl2,hl3],arr',f5,f6,fun i l hi => ?_⟩
        rw [f2]
        by_cases hil:i < ll.length
        ·rw [List.getElem?_append_left hil] at hi
         have:=f8 i l hi
         rw [List.getD_eq_getElem?_getD,List.getElem?_append_left (by omega),← List.getD_eq_getElem?_getD]
         exact this
        ·rw [List.getElem?_append_right (by omega)] at hi
         have hjl:i - ll.length < cs.length:=by
          rw [← hl2]
          rcases Nat.lt_or_ge (i - ll.length) ls.length with h | h
          ·exact h
          ·rw [List.getElem?_eq_none h] at hi;cases hi
         obtain ⟨r2,l2,pr,t2,ff2,g1,g2,g3,g4,g5,g6⟩:=hvals _ hjl
         rw [hi] at g2;cases g2
         have ha:=f9 _ _ g5
         rw [show ll.length + (i - ll.length)=i from by omega] at ha
         rw [List.getD_eq_getElem?_getD,List.getElem?_append_right (by omega),f7,List.getElem?_map,g3,Array.getD_eq_getD_getElem?,ha]
         refine FP.invU_ok g6 fun b hb=>hkeep b (hm.own r2 pr b g4 hb).2 fun hpz hbe => ?_
         subst hbe
         have:=hm.sep q r2 p pr _ hp g4 (FP.mem_blk hpz) hb
         subst this
         exact (List.nodup_cons.1 hnd).1 (List.mem_cons_of_mem _ (List.mem_of_getElem? g1))
       rcases hokq with ⟨hzq,hll,hinn⟩ | ⟨hzq,a1,a2,a3,a4,a5,arr,a6,a7,a8⟩
       ·subst hll
        rw [FP.val_nul hzq]
        have hfit:cs.length * inf.bytes≤281474976710656:=by
         have:cs.length * inf.bytes≤1073741824 * 65536:=Nat.mul_le_mul hbig (by rw [hby];exact hbyt)
         omega
        have hrun:=run_append_nil (P:=P) w ts ty t inf z hu hinf hz ⟨psx.blk,0,none⟩ cs.length psx.cap arrs.toList hnl hnews hpos (by omega) hfit
        refine ⟨_,_,hrun,?_⟩
        have hge:=grownCap_ge w cs.length 0 t
        have hnb:=X1R w.drew (arrs.toList.toArray ++ Builtin.zeroCells z.cells (grownCap w cs.length 0 t - cs.length)) t
        have hkeep:∀ b,b < w.heap.size→(p.nul=false→b≠p.blk)→(newB w.drew (arrs.toList.toArray ++ Builtin.zeroCells z.cells (grownCap w cs.length 0 t - cs.length)) t).heap[b]? = w.heap[b]? := fun b hb _=>hnb.block b hb
        exact X4s (p':=⟨w.heap.size,1,cs.length,grownCap w cs.length 0 t,prs.map FP.inv,false⟩) hr hp hqlt hnd hpin (by omega) hprs (hm.bel.ext ⟨⟨hnb.os,hnb.tape,hnb.output,hnb.size,hnb.block⟩,Nat.le_trans (Nat.le_succ _) hnb.drawn⟩) hnb.size
         hkeep rfl (by rw [hinn];rfl) (fun _=>hinn) (.inr (Nat.le_refl _)) (by show w.heap.size < (newB w.drew _ t).heap.size;rw [X2e];exact Nat.lt_succ_self _) (by simp)
         (hrowN _ ⟨w.heap.size,1,cs.length,grownCap w cs.length 0 t,prs.map FP.inv,false⟩ _ hkeep rfl rfl (by rw [hinn];rfl) (by simp) (by simpa using hge) (Xq _ _ _) (by
          simp only [Array.size_append,List.size_toArray,Array.length_toList,s6,size_zeroCells,hpw1,hzl]
          rw [Nat.mul_one];omega) (by rw [hinn];rfl) (fun i l hi=>by simp at hi) (fun j v e=>by
          have hj:j < arrs.size:=by
           rcases Nat.lt_or_ge j arrs.size with h | h
           ·exact h
           ·rw [Array.getElem?_eq_none h] at e;cases e
          simp only [List.length_nil,Nat.zero_add]
          rw [Array.getElem?_append_left (by simpa using hj)];simpa using e))
       ·rw [FP.val_of hzq,a2]
        have hownq:=hm.own q p p.blk hp (FP.mem_blk hzq)
        have hndp:=hm.nodup q p hp
        rw [FP.blks_of hzq] at hndp
        have hinO:∀ (w':World) (arr':Array Value),(∀ b,b < w.heap.size→(p.nul=false→b≠p.blk)→w'.heap[b]? = w.heap[b]?)→(∀ i,i < ll.length→arr'[i]? = arr[i]?) →
          ∀ i l,ll[i]? = some l→X44 w'.heap (p.inn.getD i none) l (arr'.getD i undef):=by
         intro w' arr' hkeep harr i l hi
         have hil:i < ll.length:=by
          rcases Nat.lt_or_ge i ll.length with h | h
          ·exact h
          ·rw [List.getElem?_eq_none h] at hi;cases hi
         have hI:=a8 i l hi
         rw [Array.getD_eq_getD_getElem?,harr i hil,← Array.getD_eq_getD_getElem?]
         cases hib:p.inn.getD i none with
         | none=>rw [hib] at hI;exact hI
         | some bnc =>
          obtain ⟨b,n,c⟩:=bnc
          rw [hib] at hI
          obtain ⟨e1,e2,e3,arr2,t2,e4,e5,e6⟩:=hI
          have hbm:b∈p.ib.filterMap id:=by
           rw [List.getD_eq_getElem?_getD,List.getElem?_eq_getElem (by omega),Option.getD_some] at hib
           exact List.mem_filterMap.2 ⟨some b,List.mem_map.2 ⟨_,hib ▸ List.getElem_mem _,rfl⟩,rfl⟩
          have hb2:b∈p.blks:=by rw [FP.blks_of hzq];exact List.mem_cons_of_mem _ hbm
          exact ⟨e1,e2,e3,arr2,t2,by rw [hkeep b (hm.own q p b hp hb2).2 fun _ e=>(List.nodup_cons.1 hndp).1 (e ▸ hbm)];exact e4,e5,e6⟩
        by_cases hroom:ll.length + cs.length≤p.cap
        ·have hfit:ll.length * inf.size + arrs.toList.length≤arr.size:=by
          rw [hnl,hsz,hsz1,a7];omega
         have hrun:=run_append_room (P:=P) w ts ty t inf hu hinf p.blk ll.length p.cap arr a6 ⟨psx.blk,0,none⟩ cs.length psx.cap arrs.toList hnl hnews hone hroom hfit
         refine ⟨_,_,hrun,?_⟩
         have ha:arr.toList.length=arr.size:=Array.length_toList
         have has:arrs.toList.length=cs.length:=by rw [Array.length_toList,s6]
         have h1:inf.size=1:=by rw [hsz,hsz1]
         rw [h1,Nat.mul_one]
         have hkeep:∀ b,b < w.heap.size→(p.nul=false→b≠p.blk)→(w.setRow p.blk (arr.toList.take ll.length ++ arrs.toList ++ arr.toList.drop (ll.length + arrs.toList.length)).toArray).heap[b]? = w.heap[b]? := fun b _ hb=>setRow_other _ _ _ _ (hb hzq)
         have:=X4s (w':=w.setRow p.blk (arr.toList.take ll.length ++ arrs.toList ++ arr.toList.drop (ll.length + arrs.toList.length)).toArray) (p':={ p with len:=ll.length + cs.length,inn:=p.inn ++ prs.map FP.inv }) (row := .nest t (ll ++ ls) false) hr hp hqlt hnd hpin (by omega) hprs
          (hm.bel.set hownq.1 rfl rfl rfl (by simp) (fun k hk=>setRow_other _ _ _ _ hk)) (by simp) hkeep hzq rfl (fun h=>by rw [hzq] at h;cases h) (.inl ⟨hzq,rfl⟩) (by simpa using hownq.2) (by simp)
          (hrowN _ { p with len:=ll.length + cs.length,inn:=p.inn ++ prs.map FP.inv } _ hkeep hzq a1 rfl rfl hroom (setRow_heap _ _ _ _ _ _ a6) (by rw [List.size_toArray,X28 _ _ _ (by omega),ha,a7]) a5
           (hinO _ _ hkeep fun i hi=>by rw [List.getElem?_toArray,getElem?_lay3 _ _ _ (by omega),if_pos hi,Array.getElem?_toList]) (fun j v e=>by
            have hj:j < arrs.size:=by
             rcases Nat.lt_or_ge j arrs.size with h | h
             ·exact h
             ·rw [Array.getElem?_eq_none h] at e;cases e
            rw [List.getElem?_toArray,getElem?_lay3 _ _ _ (by omega),if_neg (by omega),if_pos (by omega),Nat.add_sub_cancel_left,Array.getElem?_toList]
            exact e))
         rw [FP.val_of (p:={ p with len:=ll.length + cs.length,inn:=p.inn ++ prs.map FP.inv }) hzq] at this
         exact this
        ·have h1:inf.size=1:=by rw [hsz,hsz1]
         have hold:(arr.toList.take ll.length).length=ll.length * inf.size:=by
          have e9:arr.toList.length=p.cap:=by rw [Array.length_toList,a7]
          rw [List.length_take,e9,h1];omega
         have hcells:∀ (j:Nat) (v:Value),(arr.toList.take ll.length)[j]? = some v→w.cell? ((⟨p.blk,0,none⟩:Addr).add j)=some v:=by
          intro j v ev
          rw [Xy,X1d]
          rw [List.getElem?_take] at ev
          split at ev
          ·unfold X5;rw [a6];simpa using ev
          ·cases ev
         have hfit:Builtin.nextslicecap (ll.length + cs.length) p.cap * inf.bytes≤281474976710656:=by
          refine growslice_fits (by omega) ?_
          have:(ll.length + cs.length) * inf.bytes≤1073741824 * 65536:=Nat.mul_le_mul (by omega) (by rw [hby];exact hbyt)
          omega
         have hrun:=run_append_grow (P:=P) w ts ty t inf z hu hinf hz ⟨p.blk,0,none⟩ ll.length p.cap _ hold hcells ⟨psx.blk,0,none⟩ cs.length psx.cap arrs.toList hnl hnews (by omega) (by omega) hfit
         refine ⟨_,_,hrun,?_⟩
         have hge:=grownCap_ge w (ll.length + cs.length) p.cap t
         rw [h1,Nat.mul_one] at hold
         have hnb:=X1R w.drew ((arr.toList.take ll.length).toArray ++ arrs.toList.toArray ++ Builtin.zeroCells z.cells (grownCap w (ll.length + cs.length) p.cap t - (ll.length + cs.length))) t
         have hkeep:∀ b,b < w.heap.size→(p.nul=false→b≠p.blk)→(newB w.drew ((arr.toList.take ll.length).toArray ++ arrs.toList.toArray ++ Builtin.zeroCells z.cells (grownCap w (ll.length + cs.length) p.cap t - (ll.length + cs.length))) t).heap[b]? = w.heap[b]? := fun b hb _=>hnb.block b hb
         exact X4s (p':=⟨w.heap.size,1,ll.length + cs.length,grownCap w (ll.length + cs.length) p.cap t,p.inn ++ prs.map FP.inv,false⟩) hr hp hqlt hnd hpin (by omega) hprs (hm.bel.ext ⟨⟨hnb.os,hnb.tape,hnb.output,hnb.size,hnb.block⟩,Nat.le_trans (Nat.le_succ _) hnb.drawn⟩) hnb.size
          hkeep rfl rfl (fun h=>by rw [hzq] at h;cases h) (.inr (Nat.le_refl _)) (by show w.heap.size < (newB w.drew _ t).heap.size;rw [X2e];exact Nat.lt_succ_self _) (by simp)
          (hrowN _ ⟨w.heap.size,1,ll.length + cs.length,grownCap w (ll.length + cs.length) p.cap t,p.inn ++ prs.map FP.inv,false⟩ _ hkeep rfl rfl rfl rfl hge (Xq _ _ _) (by
           simp only [Array.size_append,List.size_toArray,hold,Array.length_toList,s6,size_zeroCells,hpw1,hzl]
           rw [Nat.mul_one];omega) a5
           (hinO _ _ hkeep fun i hi=>by
            rw [Array.getElem?_append_left (by simp [hold];omega),Array.getElem?_append_left (by simp [hold];omega)]
            simp [hi]) (fun j v e=>by
            have hj:j < arrs.size:=by
             rcases Nat.lt_or_ge j arrs.size with h | h
             ·exact h
             ·rw [Array.getElem?_eq_none h] at e;cases e
            rw [Array.getElem?_append_left (by simp [hold];omega),Array.getElem?_append_right (by simp [hold])]
            simp only [List.size_toArray,hold,Nat.add_sub_cancel_left]
            simpa using e))
      ·cases h
     ·cases h
    ·cases h
   ·cases h
  ·cases h
 ·cases h
def X5h (np:Nat) (st:St) (d:Option Tmp):Option St:=match d with
 | some t=>match st.tm[t]? with
  | some (.own q)=>match st.rows[q]? with
   | some (.lits ty cs)=>match innL st.rows cs with
    | some (rs,ls)=>match XU (q :: rs) && (q :: rs).all (Nat.ble np) with
     | true=>some ⟨(st.tm.map (X1A (q :: rs))).set t (.own q),(Xh (q :: rs) 0 (st.rows.map (Xr (q :: rs)))).set q (.nest ty ls true)⟩
     | false=>none
    | none=>none
   | _=>none
  | _=>none
 | none=>none
theorem X60 {w0:Old0} {w:World} {st st':St} {a:Act} {np:Nat} {d:Option Tmp} (hnp:w0.np≤np) (h:X5h np st d=some st') (hr:Rel w0 st a w):Rel w0 st' a w:=by
 obtain ⟨μ,hr⟩:=hr
 have hm:=hr.mem
 unfold X5h at h
 split at h
 ·rename_i t
  split at h
  ·rename_i q htm
   split at h
   ·rename_i ty cs hrq
    split at h
    ·rename_i rs ls hin
     split at h
     ·rename_i hchk
      simp only [Bool.and_eq_true,List.all_eq_true,Nat.ble_eq] at hchk
      obtain ⟨hnd,hnpq⟩:=hchk
      simp only [Option.some.injEq] at h
      subst h
      have hnd:=XM hnd
      have htv:=hr.tmps t _ htm
      generalize hav:a.tmps.getD t undef=av at htv
      cases htv with
      | own _ p hp =>
      have hok:=hm.row q _ hrq
      rw [hp] at hok
      obtain ⟨sz,s1,s2,s3,s4,arr,s5,s6,s7⟩:=hok
      obtain ⟨prs,hl1,hl2,hl3,hall⟩:=X2Q hm hin (fun j c e=>⟨_,s7 j c e⟩)
      have hqlt:∀ r,r∈q :: rs→r < st.rows.length:=fun r hr'=>by
       have key:∀ row,st.rows[r]? = some row→r < st.rows.length:=fun row e=>by
        rcases Nat.lt_or_ge r st.rows.length with h | h
        ·exact h
        ·rw [List.getElem?_eq_none h] at e;cases e
       rcases List.mem_cons.1 hr' with rfl | hr'
       ·exact key _ hrq
       ·obtain ⟨j,hj,rfl⟩:=List.getElem_of_mem hr'
        obtain ⟨r2,l,pr,t2,f2,g1,g2,g3,g4,g5,g6,g7⟩:=hall j cs[j] (List.getElem?_eq_getElem (by omega))
        rw [List.getElem?_eq_getElem hj] at g2
        rw [Option.some.inj g2]
        rcases Nat.lt_or_ge r2 st.rows.length with h | h
        ·exact h
        ·rw [List.getElem?_eq_none h] at g6;cases g6
      have hpin:∀ r,r∈q :: rs→w0.pin r=none:=fun r hr'=>by
       cases hpn:w0.pin r with
       | none=>rfl
       | some pz=>have:=w0.pinLt r pz hpn;have:=hnpq r hr';omega
      have hprs:∀ (j r:Nat),rs[j]? = some r→∃ pr,prs[j]? = some pr∧μ r=some pr:=fun j r e=>by
       have hj:j < rs.length:=by
        rcases Nat.lt_or_ge j rs.length with h | h
        ·exact h
        ·rw [List.getElem?_eq_none h] at e;cases e
       obtain ⟨r2,l,pr,t2,f2,g1,g2,g3,g4,g5,g6,g7⟩:=hall j cs[j] (List.getElem?_eq_getElem (by omega))
       rw [e] at g2;cases g2
       exact ⟨pr,g4,g5⟩
      let p':FP:={ p with inn:=prs.map FP.inv }
      have hrow:∀ μ',X4 w0.heap μ' w.heap (some p') (.nest ty ls true):=by
       intro μ'
       refine .inr ⟨sz,s1,by rw [hl2];exact s3,by rw [hl2,← s4];exact Nat.le_refl _,(fun _=>by rw [hl2];exact s4),by simp [p',hl2,hl3],arr,s5,by rw [s6];exact s4.symm,fun i l hi => ?_⟩
       have hil:i < cs.length:=by
        rw [← hl2]
        rcases Nat.lt_or_ge i ls.length with h | h
        ·exact h
        ·rw [List.getElem?_eq_none h] at hi;cases hi
       obtain ⟨r2,l2,pr,t2,f2,g1,g2,g3,g4,g5,g6,g7⟩:=hall i cs[i] (List.getElem?_eq_getElem hil)
       rw [hi] at g3;cases g3
       have hrep:=s7 i cs[i] (List.getElem?_eq_getElem hil)
       rw [g1] at hrep
       have hpi:p'.inn.getD i none=pr.inv:=by
        show (prs.map FP.inv).getD i none=_
        rw [List.getD_eq_getElem?_getD,List.getElem?_map,g4];rfl
       rw [hpi]
       generalize hgv:arr.getD i undef=gv at hrep
       cases hrep with
       | own _ pr2 hpr2 =>
       rw [g5] at hpr2;cases hpr2
       exact FP.invU_ok g7 fun b hb=>rfl
      obtain ⟨μ',k1,k2⟩:=X6G (w':=w) (p':=p') (row := .nest ty ls true) (ks:=rs) (rs:=rs) hr hp hqlt hnd hpin (by omega) (fun r h=>h) (List.nodup_cons.1 hnd).2 hprs hm.bel (Nat.le_refl _) (fun b _ _=>rfl) sz (by show prs.map FP.inv=p.inn ++ _;rw [s2];rfl) (fun _=>s2) (.inl ⟨sz,rfl⟩) (hm.own q p p.blk hp (FP.mem_blk sz)).2 (by simp) hrow
      refine ⟨μ',k1.defers,by simpa using k1.size,fun i v hv => ?_,k1.mem⟩
      by_cases hit:t=i
      ·subst hit
       have htl:t < (st.tm.map (X1A (q :: rs))).length:=by
        rw [List.length_map]
        rcases Nat.lt_or_ge t st.tm.length with h | h
        ·exact h
        ·rw [List.getElem?_eq_none h] at htm;cases htm
       rw [List.getElem?_set_self htl] at hv
       cases hv
       rw [hav]
       exact k2
      ·rw [List.getElem?_set_ne hit] at hv
       exact k1.tmps i v hv
     ·cases h
    ·cases h
   ·cases h
  ·cases h
 ·cases h
end Go.Ab
