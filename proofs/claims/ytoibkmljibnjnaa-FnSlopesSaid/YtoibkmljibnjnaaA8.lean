/- make, append to a slice without spare room, calls; all pure operations together. -/
import Derived.Test.YtoibkmljibnjnaaA7
set_option linter.unusedVariables false
set_option linter.unusedSimpArgs false
namespace Go.Ab
open Go.RowKit
def X4G (T:TypeId→Option TD) (lo:Nat) (t:TypeId) (l c:AV) (ans:List Ans):Option PR :=
 match T t,l,c with
 | some d, .i _ n, .i _ m=>match d.kind with
  | .slice e=>match T e with
   | some de=>match de.zero.length == de.size && Nat.ble de.bytes 65536 with
    | true=>match de.kind with
     | .slice _=>match de.zero with
      | [.nils]=>some ⟨.own lo,[.nest e (List.replicate n.toNat []) true],ans,[n=m,0≤n,n≤2147483648]⟩
      | _=>none
     | _=>match de.zero.all isS with
      | true=>some ⟨.own lo,[.vec e de.size (List.replicate n.toNat de.zero) true],ans,[n=m,0≤n,n≤2147483648]⟩
      | false=>none
    | false=>none
   | none=>none
  | _=>none
 | _,_,_=>none
theorem X6r {z:Value} {n j:Nat} (h:j < n) (hz:0 < z.cells.size):(madeCells z.cells n)[j]? = some (z.cells.getD (j % z.cells.size) undef):=by
 have hlt:j % z.cells.size < z.cells.size:=Nat.mod_lt _ hz
 simp only [madeCells,Array.getElem?_map,Array.getElem?_range,h,if_true,Option.map_some]
 rw [getElem!_pos z.cells _ hlt,Array.getD_eq_getD_getElem?,Array.getElem?_eq_getElem hlt];rfl
theorem X6s {P:Program} {w0:Old0} {w:World} {μ:Nat→Option FP} {T:TypeId→Option TD} (hT:TOk P T) {lo:Nat} (hn:μ lo=none) {t:TypeId} {l c:AV} {vl vc:Value} {ans:List Ans} {r:PR}
  (hl:Rep w0.heap μ l vl) (hc:Rep w0.heap μ c vc) (h:X4G T lo t l c ans=some r) (hC:All r.C) :
  ∃ v w',(Instr.makeSlice t vl vc).run P w = .ok v w'∧Post w0 μ lo w r v w':=by
 unfold X4G at h
 cases hs:T t with
 | none=>rw [hs] at h;cases h
 | some d =>
  rw [hs] at h
  obtain ⟨u,hu,hk,hagg⟩:=(hT t d hs).desc
  cases hl with
  | i k n =>
   cases hc with
   | i k' m =>
    simp only at h
    cases hkd:d.kind with
    | slice e =>
     rw [hkd] at h hk;simp only at h
     cases u<;>simp only [Xa] at hk
     rw [hk] at hu
     cases he:T e with
     | none=>rw [he] at h;cases h
     | some de =>
      rw [he] at h;simp only at h
      obtain ⟨inf,z,hinf,hsz,hby,hz,hpw1,hpw2⟩:=(hT e de he).inf
      split at h
      ·rename_i hb
       simp only [Bool.and_eq_true,beq_iff_eq,Nat.ble_eq] at hb
       have key:n=m→0≤n→n≤2147483648→(Instr.makeSlice t (.int k n) (.int k' m)).run P w = .ok (.slice (some ⟨w.heap.size,0,none⟩) n.toNat n.toNat) (newB w (madeCells z.cells (n.toNat * de.size)) e):=by
        intro h1 h2 h3
        subst h1
        have h4:(inf.bytes:Int) * n≤65536 * 2147483648:=by
         have:(inf.bytes:Int)≤65536:=by omega
         exact Int.mul_le_mul this h3 h2 (by omega)
        have:=run_make (P:=P) w t e inf z hu hinf hz k k' n n h2 (Int.le_refl _) (by omega) (by omega)
        rw [hsz] at this
        exact this
       split at h
       ·split at h
        ·rename_i hzero
         simp only [Option.some.injEq] at h;subst h
         obtain ⟨c1,c2,c3,_⟩:=hC
         refine ⟨_,_,key c1 c2 c3,?_⟩
         rw [hzero] at hpw1 hpw2
         have hone:de.size=1:=by rw [← hb.1,hzero];rfl
         have hcell:z.cells.getD 0 undef = .slice none 0 0:=by
          have:=hpw2 0 .nils rfl #[] (fun _=>none)
          generalize z.cells.getD 0 undef=q at this
          cases this;rfl
         refine Post.new (p:=⟨w.heap.size,1,n.toNat,n.toNat,List.replicate n.toNat none,false⟩) hn rfl (by simp [FP.ib,List.filterMap_replicate_of_none]) (fun μ' hs' => ?_) (fun μ' e => .own lo _ e)
         rw [hone,Nat.mul_one]
         refine .inr ⟨rfl,rfl,by simp,by simp,fun _=>by simp,by simp,_,Xq _ _ _,by rw [size_madeCells],fun i l hi => ?_⟩
         have hi2:=List.getElem?_replicate (a:=([]:List (List AV))) (n:=n.toNat) (i:=i)
         rw [hi] at hi2
         split at hi2
         ·rename_i hlt
          simp only [Option.some.injEq] at hi2;subst hi2
          have e1:(List.replicate n.toNat (none:Option (Nat × Nat × Nat))).getD i none=none:=by
           rw [List.getD_eq_getElem?_getD,List.getElem?_replicate];split<;>rfl
          rw [e1]
          refine ⟨?_,rfl⟩
          have hz1:z.cells.size=1:=hpw1
          rw [Array.getD_eq_getD_getElem?,X6r hlt (by omega),hz1,Nat.mod_one,hcell];rfl
         ·cases hi2
        ·cases h
       ·split at h
        ·rename_i hall
         simp only [Option.some.injEq] at h;subst h
         obtain ⟨c1,c2,c3,_⟩:=hC
         refine ⟨_,_,key c1 c2 c3,?_⟩
         refine Post.new (p:=⟨w.heap.size,de.size,n.toNat,n.toNat,[],false⟩) hn rfl rfl (fun μ' hs' => ?_) (fun μ' e => .own lo _ e)
         refine .inr ⟨rfl,rfl,rfl,by simp,by simp,fun _=>by simp,_,Xq _ _ _,by rw [size_madeCells],?_⟩
         intro i cs hi
         have hi2:=List.getElem?_replicate (a:=de.zero) (n:=n.toNat) (i:=i)
         rw [hi] at hi2
         split at hi2
         ·rename_i hlt
          simp only [Option.some.injEq] at hi2;subst hi2
          refine ⟨hb.1,fun j x hj => ?_⟩
          have hjlt:j < de.zero.length:=by
           rcases Nat.lt_or_ge j de.zero.length with h | h
           ·exact h
           ·rw [List.getElem?_eq_none h] at hj;cases hj
          have hle:i * de.size + de.size≤n.toNat * de.size:=by
           have:(i + 1) * de.size≤n.toNat * de.size:=Nat.mul_le_mul_right _ hlt
           rw [Nat.succ_mul] at this;exact this
          refine ⟨_,X6r (by have:=hb.1;omega) (by omega),?_⟩
          rw [hpw1,hb.1,Nat.mul_comm i,Nat.mul_add_mod,Nat.mod_eq_of_lt (by omega)]
          rw [List.all_eq_true] at hall
          exact X46 (hpw2 j x hj w0.heap μ) (hall x (List.mem_of_getElem? hj))
         ·cases hi2
        ·cases h
      ·cases h
    | _=>rw [hkd] at h;cases h
   | _=>cases h
  | _=>cases h
/- what is appended -/
def srcOf (rows:List Row) (es:Nat):AV→Option (List (List AV) × List Prop)
 | .sl l=>some (l,[l.all (fun cs=>cs.length == es && cs.all isS)=true])
 | .own r=>match rows[r]? with
  | some (.vec _ es' l _)=>if es'=es then some (l,[]) else none
  | _=>none
 | _=>none
theorem X8e {c:AV} {v:Value} (h:RepS c v):v.oneCell'=true:=by
 cases c<;>simp only [RepS] at h
 ·subst h;rfl
 ·subst h;rfl
 ·obtain ⟨_,rfl,_⟩:=h;rfl
theorem X6t {cell:Nat→Option Value} {es:Nat} {l:List (List AV)} (h:XS cell es l) {j:Nat} (hj:j < l.length * es):∃ v x,cell j=some v∧RepS x v:=by
 have hes:0 < es:=by
  rcases Nat.eq_zero_or_pos es with h0 | h0
  ·rw [h0] at hj;omega
  ·exact h0
 have hi:j / es < l.length:=by rw [Nat.div_lt_iff_lt_mul hes];exact hj
 obtain ⟨h1,h2⟩:=h (j / es) l[j / es] (List.getElem?_eq_getElem hi)
 have hm:j % es < l[j / es].length:=by rw [h1];exact Nat.mod_lt _ hes
 obtain ⟨v,e1,e2⟩:=h2 (j % es) _ (List.getElem?_eq_getElem hm)
 rw [show j / es * es + j % es=j from by rw [Nat.mul_comm];exact Nat.div_add_mod j es] at e1
 exact ⟨v,_,e1,e2⟩
theorem X2f {w0:Old0} {w:World} {μ:Nat→Option FP} {rows:List Row} (hm:MemW w0 μ rows w) {es:Nat} {x:AV} {vx:Value} {l:List (List AV)} {C:List Prop} (hx:Rep w0.heap μ x vx)
  (h:srcOf rows es x=some (l,C)) (hC:All C):(l=[]∧∃ a c,vx = .slice a 0 c) ∨
   ∃ (b o c:Nat) (news:List Value),vx = .slice (some ⟨b,o,none⟩) l.length c∧news.length=l.length * es∧(∀ (j:Nat) (v:Value),news[j]? = some v→w.cell? ((⟨b,o,none⟩:Addr).add j)=some v) ∧
    (∀ u∈news,u.oneCell'=true)∧XS (news[·]?) es l:=by
 have build:∀ (b o c:Nat),vx = .slice (some ⟨b,o,none⟩) l.length c→XS (fun j=>X5 w.heap b (o + j)) es l →
   ∃ (b o c:Nat) (news:List Value),vx = .slice (some ⟨b,o,none⟩) l.length c∧news.length=l.length * es∧(∀ (j:Nat) (v:Value),news[j]? = some v→w.cell? ((⟨b,o,none⟩:Addr).add j)=some v) ∧
    (∀ u∈news,u.oneCell'=true)∧XS (news[·]?) es l:=by
  intro b o c hv hE
  have hget:∀ j v,(((List.range (l.length * es)).map fun j=>(X5 w.heap b (o + j)).getD undef))[j]? = some v↔j < l.length * es∧X5 w.heap b (o + j)=some v:=by
   intro j v
   rw [List.getElem?_map]
   by_cases hj:j < l.length * es
   ·rw [List.getElem?_range hj]
    obtain ⟨u,x,eu,_⟩:=X6t hE hj
    have eu':X5 w.heap b (o + j)=some u:=eu
    simp [hj,eu']
   ·rw [List.getElem?_eq_none (by simpa using hj)]
    simp [hj]
  refine ⟨b,o,c,(List.range (l.length * es)).map fun j=>(X5 w.heap b (o + j)).getD undef,hv,by simp,fun j v e => ?_,fun u hu => ?_,fun i cs hi => ?_⟩
  ·rw [Xy,X1d];exact ((hget j v).1 e).2
  ·obtain ⟨j,hj,rfl⟩:=List.getElem_of_mem hu
   have e:=(hget j _).1 (List.getElem?_eq_getElem hj)
   obtain ⟨v,x,ev,rv⟩:=X6t hE e.1
   have ev':X5 w.heap b (o + j)=some v:=ev
   rw [e.2] at ev'
   cases ev'
   exact X8e rv
  ·obtain ⟨h1,h2⟩:=hE i cs hi
   refine ⟨h1,fun j c e => ?_⟩
   obtain ⟨v,ev,rv⟩:=h2 j c e
   refine ⟨v,(hget _ v).2 ⟨?_,ev⟩,rv⟩
   have hi':i < l.length:=by
    rcases Nat.lt_or_ge i l.length with h | h
    ·exact h
    ·rw [List.getElem?_eq_none h] at hi;cases hi
   have hj':j < cs.length:=by
    rcases Nat.lt_or_ge j cs.length with h | h
    ·exact h
    ·rw [List.getElem?_eq_none h] at e;cases e
   have:(i + 1) * es≤l.length * es:=Nat.mul_le_mul_right _ hi'
   rw [Nat.succ_mul] at this
   omega
 cases hx with
 | slE a c=>simp [srcOf] at h;exact .inl ⟨h.1,a,c,rfl⟩
 | sl l' es' bl off c val h1 h2 h3 =>
  simp only [srcOf,Option.some.injEq,Prod.mk.injEq] at h
  obtain ⟨rfl,rfl⟩:=h
  obtain ⟨hC,_⟩:=hC
  rw [List.all_eq_true] at hC
  have hold:Old w0.heap w.heap:=hm.bel.old
  by_cases hl:l'=[]
  ·subst hl;exact .inl ⟨rfl,_,c,rfl⟩
  ·right
   refine build bl off c rfl fun i cs hi => ?_
   have hcs:=hC cs (List.mem_of_getElem? hi)
   simp only [Bool.and_eq_true,beq_iff_eq,List.all_eq_true] at hcs
   have hes:es'=es:=by rw [← h1 i cs hi];exact hcs.1
   refine ⟨hcs.1,fun j x e=>⟨_,hold.cellAt (by rw [← hes];exact h2 i cs j x hi e),X46 (h3 i cs j x hi e) (hcs.2 x (List.mem_of_getElem? e))⟩⟩
 | own r p hp =>
  simp only [srcOf] at h
  cases hrow:rows[r]? with
  | none=>rw [hrow] at h;cases h
  | some row =>
   rw [hrow] at h
   have hok:=hm.row r row hrow
   rw [hp] at hok
   cases row with
   | vec t es' l' full =>
    simp only at h
    split at h
    ·rename_i hes;subst hes
     simp only [Option.some.injEq,Prod.mk.injEq] at h
     obtain ⟨rfl,rfl⟩:=h
     rcases hok with ⟨hz,rfl,_⟩ | ⟨hz,e1,e2,e3,e4,e5,arr,e6,e7,e8⟩
     ·exact .inl ⟨rfl,none,0,FP.val_nul hz⟩
     right
     refine build p.blk 0 p.cap (by rw [FP.val_of hz,e3]) fun i cs hi => ?_
     obtain ⟨a1,a2⟩:=e8 i cs hi
     refine ⟨a1,fun j c e => ?_⟩
     obtain ⟨v,ev,rv⟩:=a2 j c e
     refine ⟨v,?_,rv⟩
     unfold X5;rw [e6];simpa using ev
    ·cases h
   | _=>cases h
 | _=>simp [srcOf] at h
theorem X2p {cell cell' c:Nat→Option Value} {es:Nat} {l l':List (List AV)} (h:XS cell es l) (h':XS cell' es l') (h1:∀ j,j < l.length * es→c j=cell j) (h2:∀ j,j < l'.length * es→c (l.length * es + j)=cell' j) :
  XS c es (l ++ l'):=by
 intro i cs hi
 by_cases hlt:i < l.length
 ·rw [List.getElem?_append_left hlt] at hi
  obtain ⟨a1,a2⟩:=h i cs hi
  refine ⟨a1,fun j x e => ?_⟩
  obtain ⟨v,ev,rv⟩:=a2 j x e
  have hj':j < cs.length:=by
   rcases Nat.lt_or_ge j cs.length with h | h
   ·exact h
   ·rw [List.getElem?_eq_none h] at e;cases e
  have:(i + 1) * es≤l.length * es:=Nat.mul_le_mul_right _ hlt
  rw [Nat.succ_mul] at this
  exact ⟨v,by rw [h1 _ (by omega)];exact ev,rv⟩
 ·rw [List.getElem?_append_right (by omega)] at hi
  obtain ⟨a1,a2⟩:=h' _ cs hi
  refine ⟨a1,fun j x e => ?_⟩
  obtain ⟨v,ev,rv⟩:=a2 j x e
  have hi':i - l.length < l'.length:=by
   rcases Nat.lt_or_ge (i - l.length) l'.length with h | h
   ·exact h
   ·rw [List.getElem?_eq_none h] at hi;cases hi
  have hj':j < cs.length:=by
   rcases Nat.lt_or_ge j cs.length with h | h
   ·exact h
   ·rw [List.getElem?_eq_none h] at e;cases e
  have:(i - l.length + 1) * es≤l'.length * es:=Nat.mul_le_mul_right _ hi'
  rw [Nat.succ_mul] at this
  refine ⟨v,?_,rv⟩
  rw [show i * es + j=l.length * es + ((i - l.length) * es + j) from by
   have:i * es=l.length * es + (i - l.length) * es:=by rw [← Nat.add_mul];congr 1;omega
   omega,h2 _ (by omega)]
  exact ev
def X4H (T:TypeId→Option TD) (rows:List Row) (lo:Nat) (ts tx:TypeId) (s x:AV) (ans:List Ans):Option PR :=
 match T ts,ts == tx,s with
 | some d,true, .own r=>match d.kind with
  | .slice e=>match T e with
   | some de=>match rows[r]?,Nat.ble de.bytes 65536 && (de.zero.length == de.size) with
    | some (.vec t es l true),true=>match es == de.size,t == e,srcOf rows es x with
     | true,true,some (l',C)=>some ⟨.own lo,[.vec e es (l ++ l') false],ans,(l'≠[]) :: (l.length + l'.length≤1073741824) :: C⟩
     | _,_,_=>none
    | _,_=>none
   | none=>none
  | _=>none
 | _,_,_=>none
theorem X6u {P:Program} {w0:Old0} {w:World} {μ:Nat→Option FP} {T:TypeId→Option TD} (hT:TOk P T) {rows:List Row} (hm:MemW w0 μ rows w) {lo:Nat} (hn:μ lo=none) {ts tx ty:TypeId} {s x:AV} {vs vx:Value} {ans:List Ans} {r:PR}
  (hs:Rep w0.heap μ s vs) (hx:Rep w0.heap μ x vx) (h:X4H T rows lo ts tx s x ans=some r) (hC:All r.C) :
  ∃ v w',(Builtin.append_ #[ts,tx] ty #[vs,vx]).run P w = .ok v w'∧Post w0 μ lo w r v w':=by
 unfold X4H at h
 cases hts:T ts with
 | none=>rw [hts] at h;cases h
 | some d =>
  rw [hts] at h
  cases htt:ts == tx with
  | false=>rw [htt] at h;cases h
  | true =>
   rw [htt] at h
   have htt':ts=tx:=by simpa using htt
   subst htt'
   obtain ⟨u,hu,hk,hagg⟩:=(hT ts d hts).desc
   cases hs with
   | own q p hp =>
    simp only at h
    cases hkd:d.kind with
    | slice e =>
     rw [hkd] at h hk;simp only at h
     cases u<;>simp only [Xa] at hk
     rw [hk] at hu
     cases he:T e with
     | none=>rw [he] at h;cases h
     | some de =>
      rw [he] at h;simp only at h
      obtain ⟨inf,z,hinf,hsz,hby,hz,hpw1,hpw2⟩:=(hT e de he).inf
      split at h
      ·rename_i t es l hrow hb
       simp only [Bool.and_eq_true,beq_iff_eq,Nat.ble_eq] at hb
       have hok:=hm.row q _ hrow
       rw [hp] at hok
       split at h
       ·rename_i l' C hes hte hsrc
        simp only [beq_iff_eq] at hes hte
        subst hte;subst hes
        simp only [Option.some.injEq] at h;subst h
        obtain ⟨c1,c2,c3⟩:=hC
        rcases hok with ⟨_,_,hff⟩ | ⟨hzz,e1,e2,e3,e4,e5,arr,e6,e7,e8⟩
        ·cases hff
        have hcap:=e5 rfl
        rw [FP.val_of hzz]
        rcases X2f hm hx hsrc c3 with ⟨h0,_⟩ | ⟨b,o,c,news,hv,hl,hnews,hone,hE⟩
        ·exact absurd h0 c1
        ·subst hv
         have hl'pos:0 < l'.length:=by cases l' with | nil=>exact absurd rfl c1 | cons=>simp
         have hold:(arr.toList.take (l.length * de.size)).length=l.length * inf.size:=by
          have e9:arr.toList.length=l.length * de.size:=by rw [Array.length_toList,e7,hcap]
          rw [List.length_take,e9,hsz];omega
         have hcells:∀ (j:Nat) (v:Value),(arr.toList.take (l.length * de.size))[j]? = some v→w.cell? ((⟨p.blk,0,none⟩:Addr).add j)=some v:=by
          intro j v ev
          rw [Xy,X1d]
          rw [List.getElem?_take] at ev
          split at ev
          ·unfold X5;rw [e6];simpa using ev
          ·cases ev
         have hfit:Builtin.nextslicecap (l.length + l'.length) p.cap * inf.bytes≤281474976710656:=by
          refine growslice_fits (by rw [hcap];omega) ?_
          have:(l.length + l'.length) * inf.bytes≤1073741824 * 65536:=Nat.mul_le_mul c2 (by rw [hby];exact hb.1)
          omega
         have hrun:=run_append_grow (P:=P) w ts ty t inf z hu hinf hz ⟨p.blk,0,none⟩ l.length p.cap _ hold hcells ⟨b,o,none⟩ l'.length c news (by rw [hl,hsz]) hnews (by rw [hcap];omega) (by omega) hfit
         refine ⟨_,_,by rw [e3];exact hrun,?_⟩
         obtain ⟨μ',g1,g2,g3⟩:=Post.new (w0:=w0) (μ:=μ) (lo:=lo) (w:=w.drew) (av := .own lo) (row := .vec t de.size (l ++ l') false) (ans:=ans) (C:=[]) (t:=t)
          (v := .slice (some ⟨w.heap.size,0,none⟩) (l.length + l'.length) (grownCap w (l.length + l'.length) p.cap t))
          (arr:=((arr.toList.take (l.length * de.size)).toArray ++ news.toArray ++ Builtin.zeroCells z.cells (grownCap w (l.length + l'.length) p.cap t - (l.length + l'.length))))
          (p:=⟨w.heap.size,de.size,l.length + l'.length,grownCap w (l.length + l'.length) p.cap t,[],false⟩) hn rfl rfl (fun μ' hs'=>by
           have hge:=grownCap_ge w (l.length + l'.length) p.cap t
           refine .inr ⟨rfl,rfl,rfl,by simp,by simpa using hge,fun hf=>(by cases hf),_,Xq _ _ _,?_,?_⟩
           ·rw [hsz] at hold
            simp only [Array.size_append,List.size_toArray,hold,hl,size_zeroCells,hpw1,hb.2]
            rw [← Nat.add_mul,← Nat.add_mul];congr 1;omega
           ·rw [hsz] at hold
            refine X2p e8 hE (fun j hj => ?_) (fun j hj => ?_)
            ·rw [Array.getElem?_append_left (by simp [hold];omega),Array.getElem?_append_left (by simp [hold];omega)]
             simp [hj]
            ·rw [Array.getElem?_append_left (by simp [hold,hl];omega),Array.getElem?_append_right (by simp [hold])]
             simp [hold]) (fun μ' e => .own lo _ e)
         exact ⟨μ',g1,⟨⟨g2.os,g2.tape,g2.output,g2.size,g2.block⟩,Nat.le_trans (Nat.le_succ _) g2.drawn⟩,g3⟩
       ·cases h
      ·cases h
    | _=>rw [hkd] at h;cases h
   | _=>cases h
end Go.Ab
