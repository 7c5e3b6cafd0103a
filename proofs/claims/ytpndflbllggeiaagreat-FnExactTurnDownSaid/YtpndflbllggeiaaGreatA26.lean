/- A function that writes a slice, called on an inner slice of an array of slices. -/
import Derived.Test.YtpndflbllggeiaaGreatA25
set_option linter.unusedVariables false
set_option linter.unusedSimpArgs false
namespace Go.Ab
open Go.RowKit
theorem X2Z:∀ {l:List (Option Nat)} {i j b:Nat},(l.filterMap id).Nodup→l[i]? = some (some b)→l[j]? = some (some b)→i=j
 | [],i,j,b,_,h,_=>by simp at h
 | a :: as,0,0,b,_,_,_=>rfl
 | a :: as,0,j + 1,b,hn,h,h'=>by
  simp only [List.getElem?_cons_zero,Option.some.injEq] at h;subst h
  simp only [List.getElem?_cons_succ] at h'
  simp only [List.filterMap_cons,id] at hn
  exact absurd (List.mem_filterMap (f:=id).2 ⟨some b,List.mem_of_getElem? h',rfl⟩) (List.nodup_cons.1 hn).1
 | a :: as,i + 1,0,b,hn,h,h'=>by
  simp only [List.getElem?_cons_zero,Option.some.injEq] at h';subst h'
  simp only [List.getElem?_cons_succ] at h
  simp only [List.filterMap_cons,id] at hn
  exact absurd (List.mem_filterMap (f:=id).2 ⟨some b,List.mem_of_getElem? h,rfl⟩) (List.nodup_cons.1 hn).1
 | a :: as,i + 1,j + 1,b,hn,h,h'=>by
  simp only [List.getElem?_cons_succ] at h h'
  have hn':(as.filterMap id).Nodup:=by
   cases a with
   | none=>simpa using hn
   | some x=>simp only [List.filterMap_cons,id] at hn;exact (List.nodup_cons.1 hn).2
  rw [X2Z hn' h h']
theorem X4.frameInn {P:Program} {g:FuncId} {l l':List (List AV)} {args:List AV} {r:AV} (h:∀ t,X4 P g [.vec t 1 l false] (.own 0 :: args) r [.vec t 1 l' false])
  (hs:args.all isS=true) (hr:isS r=true) (hl:l'.length=l.length) {R:List Row} {q j:Nat} {t2:TypeId} {ll:List (List (List AV))} {full:Bool}
  (hq:R[q]? = some (.nest t2 ll full)) (hj:ll[j]? = some l):X4 P g R (.inn q j :: args) r (R.set q (.nest t2 (ll.set j l') full)):=by
 refine ⟨(h 0).1,fun W0 M W vs hm hp => ?_⟩
 rw [List.all_eq_true] at hs
 obtain ⟨hp1,hp2⟩:=hp
 have hrowq:=hm.row q _ hq
 have hv0:=hp2 0 (.inn q j) rfl
 have hscal:∀ (H:Array Obj) (μ:Nat→Option FP) (i:Nat) (c:AV),args[i]? = some c→Rep H μ c (vs.getD (i + 1) undef):=fun H μ i c e =>
  Rep.of_S (X1E (hp2 (i + 1) c (by simpa using e)) (hs c (List.mem_of_getElem? e)))
 generalize hx:vs.getD 0 undef=x at hv0
 cases hv0 with
 | inn _ _ p ib hMq hib =>
 rw [hMq] at hrowq
 have hjlt:j < ll.length:=by
  rcases Nat.lt_or_ge j ll.length with h | h
  ·exact h
  ·rw [List.getElem?_eq_none h] at hj;cases hj
 rcases hrowq with ⟨_,hn,_⟩ | ⟨ez,e1,e3,e4,e5,e6,arr,e7,e8,e9⟩
 ·rw [hn] at hjlt;simp at hjlt
 have hI:=e9 j l hj
 rw [List.getD_eq_getElem?_getD,hib,Option.getD_some] at hI
 have hqlt:q < R.length:=by
  rcases Nat.lt_or_ge q R.length with h | h
  ·exact h
  ·rw [List.getElem?_eq_none h] at hq;cases hq
 cases ib with
 | none =>
  have hl0:l=[]:=hI.2
  have hl1:l'=[]:=List.eq_nil_of_length_eq_zero (by rw [hl,hl0];rfl)
  have hset:ll.set j l'=ll:=by
   apply List.ext_getElem?
   intro i
   by_cases hij:j=i
   ·subst hij;rw [List.getElem?_set_self hjlt,hj,hl0,hl1]
   ·rw [List.getElem?_set_ne hij]
  have hR:R.set q (.nest t2 (ll.set j l') full)=R:=by
   rw [hset]
   apply List.ext_getElem?
   intro i
   by_cases hij:q=i
   ·subst hij;rw [List.getElem?_set_self hqlt,hq]
   ·rw [List.getElem?_set_ne hij]
  rw [hR]
  let fp:FP:=⟨0,1,0,0,[],true⟩
  let μ:Nat→Option FP:=fun i=>if i=0 then some fp else none
  have hμ0:∀ i p2,μ i=some p2→i=0∧p2=fp:=fun i p2 e=>by
   have e2:(if i=0 then some fp else none)=some p2:=e
   split at e2
   ·rename_i hi;exact ⟨hi,(Option.some.inj e2).symm⟩
   ·cases e2
  have mem:Mem (Old0.of W) μ [.vec 0 1 l false] W:=by
   refine ⟨⟨⟨rfl,rfl,rfl,Nat.le_refl _,fun _ _ _=>rfl,Nat.le_refl _⟩,fun i row e => ?_,fun i j p p' b e e' hb hb' => ?_,fun i p e => ?_,fun i p b' e hb => ?_⟩,fun i hi => ?_,fun i e => ?_,fun i p e=>by cases e⟩
   ·cases i with
    | zero =>
     simp at e;subst e
     exact .inl ⟨rfl,hl0,rfl⟩
    | succ i=>simp at e
   ·rw [(hμ0 i p e).1,(hμ0 j p' e').1]
   ·rw [(hμ0 i p e).2];exact List.nodup_nil
   ·rw [(hμ0 i p e).2] at hb;cases hb
   ·exact if_neg (by simp at hi;omega)
   ·cases i<;>simp at e
  refine ((h 0).2 (Old0.of W) μ W vs mem ⟨by simpa using hp1,fun i c e => ?_⟩).mono fun e w' ⟨v,μ',he,hsub,hm',hrep⟩=>⟨v,M,he,Sub.refl _,hm.ext hm'.bel.of,Rep.of_S (X1E hrep hr)⟩
  cases i with
  | zero=>simp at e;subst e;rw [hx];exact .own 0 fp rfl
  | succ i=>simp at e;exact hscal _ _ i c e
 | some bnc =>
  obtain ⟨b,n,c⟩:=bnc
  obtain ⟨_,g1,g2,arr2,t3,g3,g4,g5⟩:=hI
  have hbp:b∈p.ib.filterMap id:=List.mem_filterMap.2 ⟨some b,List.mem_of_getElem? (i:=j) (by simp [FP.ib,hib]),rfl⟩
  have hbb:b∈p.blks:=by rw [FP.blks_of ez];exact List.mem_cons_of_mem _ hbp
  have hnd0:=hm.nodup q p hMq
  rw [FP.blks_of ez] at hnd0
  have hnd:=List.nodup_cons.1 hnd0
  have hown:=hm.own q p b hMq hbb
  let w0:Old0:={ toWorld:={ W with heap:=dark [b] W.heap },opn:=(· ∈ [b]),dark:=fun b hb o=>X61 hb o,pin:=fun _=>none,np:=0,pinLt:=fun _ _ e=>by cases e }
  have hh0:w0.heap=dark [b] W.heap:=rfl
  let fp:FP:=⟨b,1,n,c,[],false⟩
  let μ:Nat→Option FP:=fun i=>if i=0 then some fp else none
  have hfb:fp.blks=[b]:=rfl
  have hμ0:∀ i p2,μ i=some p2→i=0∧p2=fp:=fun i p2 e=>by
   have e2:(if i=0 then some fp else none)=some p2:=e
   split at e2
   ·rename_i hi;exact ⟨hi,(Option.some.inj e2).symm⟩
   ·cases e2
  have mem:Mem w0 μ [.vec t3 1 l false] W:=by
   refine ⟨⟨⟨rfl,rfl,rfl,by rw [hh0,XN];exact Nat.le_refl _,fun k _ ho=>(X1J ho).symm,Nat.le_refl _⟩,fun i row e => ?_,fun i j p p' b e e' hb hb' => ?_,fun i p e => ?_,fun i p b' e hb => ?_⟩,fun i hi => ?_,fun i e => ?_,fun i p e=>by cases e⟩
   ·cases i with
    | zero =>
     simp at e;subst e
     exact .inr ⟨rfl,rfl,rfl,g1,g2,(fun h=>by cases h),arr2,g3,by rw [g4];exact (Nat.mul_one c).symm,g5⟩
    | succ i=>simp at e
   ·rw [(hμ0 i p e).1,(hμ0 j p' e').1]
   ·rw [(hμ0 i p e).2];simp [FP.blks,FP.ib,fp]
   ·rw [(hμ0 i p e).2,hfb] at hb
    simp only [List.mem_singleton] at hb;subst hb
    exact ⟨.inl (List.mem_singleton.2 rfl),hown.2⟩
   ·exact if_neg (by simp at hi;omega)
   ·cases i<;>simp at e
  refine ((h t3).2 w0 μ W vs mem ⟨by simpa using hp1,fun i c2 e => ?_⟩).mono fun e w' ⟨v,μ',he,hsub,hm',hrep⟩=>⟨v,M,he,Sub.refl _,?_,Rep.of_S (X1E hrep hr)⟩
  ·cases i with
   | zero=>simp at e;subst e;rw [hx];exact .own 0 fp rfl
   | succ i=>simp at e;exact hscal _ _ i c2 e
  have hμ':μ' 0=some fp:=hsub 0 fp rfl
  have hrow':=hm'.row 0 _ rfl
  rw [hμ'] at hrow'
  rcases hrow' with ⟨kz,_⟩ | ⟨_,_,_,k3,k4,_,arr3,k6,k7,k8⟩
  ·cases kz
  have hsz:W.heap.size≤w'.heap.size:=by have:=hm'.bel.size;rw [hh0,XN] at this;exact this
  have hblk:∀ b',b' < W.heap.size→b'≠b→w'.heap[b']? = W.heap[b']? := fun b' hb hn=>by
   rw [hm'.bel.block b' (by rw [hh0,XN];exact hb) (by show ¬ b'∈[b];simpa using hn),hh0,X1J (by simpa using hn)]
  have hpb:p.blk≠b:=fun e=>hnd.1 (e ▸ hbp)
  refine ⟨⟨hm.bel.step hm'.bel.os hm'.bel.tape hm'.bel.output hsz hm'.bel.drawn fun k hk ho=>hblk k (Nat.lt_of_lt_of_le hk hm.bel.size) fun hkb => ?_,fun i row e => ?_,hm.sep,hm.nodup,fun i p2 b2 e hb2 => ?_⟩,fun i hi=>hm.out i (by simpa using hi),fun i e => ?_,hm.pin⟩
  ·subst hkb
   rcases hown.1 with h | h
   ·exact ho h
   ·omega
  ·by_cases hqi:q=i
   ·subst hqi
    rw [List.getElem?_set_self hqlt,Option.some.injEq] at e;subst e
    rw [hMq]
    refine .inr ⟨ez,e1,by simpa using e3,by simpa using e4,fun hf=>by simpa using e5 hf,by simpa using e6,arr,?_,e8,fun i li hi => ?_⟩
    ·rw [hblk p.blk (hm.own q p p.blk hMq (FP.mem_blk ez)).2 hpb];exact e7
    ·by_cases hji:j=i
     ·subst hji
      rw [List.getElem?_set_self hjlt,Option.some.injEq] at hi;subst hi
      have hI2:=(e9 j l hj).1
      rw [List.getD_eq_getElem?_getD,hib,Option.getD_some] at hI2 ⊢
      exact ⟨hI2,k3,k4,arr3,t3,k6,by rw [k7];exact Nat.mul_one c,k8⟩
     ·rw [List.getElem?_set_ne hji] at hi
      have hI2:=e9 i li hi
      cases hb2:p.inn.getD i none with
      | none=>rw [hb2] at hI2;exact hI2
      | some bnc2 =>
       obtain ⟨b2,n2,c2⟩:=bnc2
       rw [hb2] at hI2
       obtain ⟨f1,f2,f3,arr4,t4,f4,f5,f6⟩:=hI2
       have hil:i < p.inn.length:=by
        rcases Nat.lt_or_ge i p.inn.length with h | h
        ·exact h
        ·rw [List.getD_eq_getElem?_getD,List.getElem?_eq_none h] at hb2;cases hb2
       have hib2:p.inn[i]? = some (some (b2,n2,c2)):=by
        rw [List.getD_eq_getElem?_getD,List.getElem?_eq_getElem hil,Option.getD_some] at hb2
        rw [List.getElem?_eq_getElem hil,hb2]
       have hbe:b2≠b:=fun e=>by
        subst e
        exact hji (X2Z (l:=p.ib) (b:=b2) hnd.2 (by simp [FP.ib,hib]) (by simp [FP.ib,hib2]))
       have hb2m:b2∈p.blks:=by rw [FP.blks_of ez];exact List.mem_cons_of_mem _ (List.mem_filterMap.2 ⟨some b2,List.mem_of_getElem? (i:=i) (by simp [FP.ib,hib2]),rfl⟩)
       exact ⟨f1,f2,f3,arr4,t4,by rw [hblk b2 (hm.own q p b2 hMq hb2m).2 hbe];exact f4,f5,f6⟩
   ·rw [List.getElem?_set_ne hqi] at e
    exact (hm.row i row e).heap fun p2 hp2' b2 hb2=>hblk b2 (hm.own i p2 b2 hp2' hb2).2 fun hbe=>by
     subst hbe
     exact hqi (hm.sep i q p2 p b2 hp2' hMq hb2 hbb).symm
  ·have:=hm.own i p2 b2 e hb2
   exact ⟨this.1,by omega⟩
  ·by_cases hqi:q=i
   ·subst hqi
    rw [List.getElem?_set_self hqlt] at e;cases e
   ·rw [List.getElem?_set_ne hqi] at e
    exact hm.dead i e
end Go.Ab
