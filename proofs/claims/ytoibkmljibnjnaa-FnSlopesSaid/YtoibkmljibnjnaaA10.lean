/- Operations that write the call's own rows. -/
import Derived.Test.YtoibkmljibnjnaaA9
set_option linter.unusedVariables false
set_option linter.unusedSimpArgs false
namespace Go.Ab
open Go.RowKit
theorem Mem.setRow {w0:Old0} {w:World} {μ:Nat→Option FP} {rows:List Row} (h:Mem w0 μ rows w) {r:Nat} {p:FP} {row':Row} {arr':Array Value} (hp:μ r=some p) (hz:p.nul=false)
  (hrow:X4 w0.heap μ (w.setRow p.blk arr').heap (some p) row') (hd:X1i row'=false:=by rfl):Mem w0 μ (rows.set r row') (w.setRow p.blk arr'):=by
 have hown:=h.own r p p.blk hp (FP.mem_blk hz)
 refine ⟨⟨h.bel.set hown.1 rfl rfl rfl (by simp) (fun k hk=>setRow_other _ _ _ _ hk),fun q row e => ?_,h.sep,h.nodup,fun q p' b e hm=>by simpa using h.own q p' b e hm⟩,fun q hq=>h.out q (by simpa using hq),fun q e => ?_,h.pin⟩
 by_cases hqr:q=r
 ·subst hqr
  rw [List.getElem?_set_self'] at e
  have:row=row':=by
   cases hx:rows[q]? with
   | none=>rw [hx] at e;simp at e
   | some y=>rw [hx] at e;simpa using e.symm
  subst this
  rw [hp];exact hrow
 ·rw [List.getElem?_set_ne (fun e=>hqr e.symm)] at e
  refine (h.row q row e).heap fun p' hp' b hb=>setRow_other _ _ _ _ fun hbe => ?_
  subst hbe
  exact hqr (h.sep q r p' p _ hp' hp hb (FP.mem_blk hz))
 ·by_cases hqr:q=r
  ·subst hqr
   rw [List.getElem?_set_self'] at e
   cases hx:rows[q]? with
   | none=>rw [hx] at e;simp at e
   | some y=>rw [hx] at e;simp at e;subst e;simp [X1i] at hd
  ·rw [List.getElem?_set_ne (fun e=>hqr e.symm)] at e
   exact h.dead q e
def X6A:AV→Bool
 | .any | .agg _ | .tup _=>false
 | _=>true
theorem X5f {H:Array Obj} {μ:Nat→Option FP} {c:AV} {v:Value} (h:Rep H μ c v) (hc:X6A c=true):v.oneCell'=true:=by
 cases h<;>simp [X6A] at hc<;>first | rfl | exact FP.val_one _ | (rename_i ib _ _;cases ib<;>rfl)
theorem getElem?_lay3 {α:Type} (l m:List α) (o:Nat) (h:o + m.length≤l.length) (j:Nat) :
  (l.take o ++ m ++ l.drop (o + m.length))[j]? = if j < o then l[j]? else if j < o + m.length then m[j - o]? else l[j]? := by
 have hl:(l.take o).length=o:=by simp;omega
 by_cases h1:j < o
 ·rw [if_pos h1,List.append_assoc,List.getElem?_append_left (by omega),List.getElem?_take_of_lt h1]
 ·rw [if_neg h1]
  by_cases h2:j < o + m.length
  ·rw [if_pos h2,List.append_assoc,List.getElem?_append_right (by omega),hl,List.getElem?_append_left (by omega)]
  ·rw [if_neg h2,List.getElem?_append_right (by simp [hl];omega)]
   simp only [List.length_append,hl,List.getElem?_drop]
   congr 1;omega
theorem X28 {α:Type} (l m:List α) (o:Nat) (h:o + m.length≤l.length):(l.take o ++ m ++ l.drop (o + m.length)).length=l.length:=by
 simp;omega
theorem Xa2 {H:Array Obj} {μ:Nat→Option FP} {cs vs:List AV} {arr u:Array Value} {off:Nat} (h:cs.length≤arr.size∧∀ (j:Nat) (c:AV),cs[j]? = some c→Rep H μ c (arr.getD j undef)) (hv:PW H μ vs u) (hl:off + vs.length≤cs.length) :
  (XT cs off vs).length≤(arr.toList.take off ++ u.toList ++ arr.toList.drop (off + u.toList.length)).toArray.size∧∀ (j:Nat) (c:AV),(XT cs off vs)[j]? = some c→Rep H μ c ((arr.toList.take off ++ u.toList ++ arr.toList.drop (off + u.toList.length)).toArray.getD j undef):=by
 have hu:u.toList.length=vs.length:=by rw [Array.length_toList];exact hv.1
 have ha:cs.length≤arr.toList.length:=by rw [Array.length_toList];exact h.1
 refine ⟨by rw [List.size_toArray,X28 _ _ _ (by omega),X1c _ _ _ hl];exact ha,fun j c e => ?_⟩
 rw [getElem?_splice _ _ _ hl] at e
 rw [Array.getD_eq_getD_getElem?,List.getElem?_toArray,getElem?_lay3 _ _ _ (by omega),hu]
 by_cases a1:j < off
 ·rw [if_pos a1] at e ⊢
  have:=h.2 j c e
  rwa [Array.getD_eq_getD_getElem?,← Array.getElem?_toList] at this
 ·rw [if_neg a1] at e ⊢
  by_cases a2:j < off + vs.length
  ·rw [if_pos a2] at e ⊢
   have:=hv.2 _ c e
   rwa [Array.getD_eq_getD_getElem?,← Array.getElem?_toList] at this
  ·rw [if_neg a2] at e ⊢
   have:=h.2 j c e
   rwa [Array.getD_eq_getD_getElem?,← Array.getElem?_toList] at this
theorem X2l {P:Program} {w:World} {T:TypeId} {d:TD} (hd:TyOk P T d) {g off:Nat} {cur:Array Value} {e:TypeId} {v:Value} (hg:w.heap[g]? = some (.cells cur e (0,0))) (hs:v.cells.size=d.size)
  (hf:off + v.cells.size≤cur.size) (h1:∀ u∈v.cells.toList,u.oneCell'=true) :
  (Instr.storeAt T (.pointer (some ⟨g,off,none⟩)) v).run P w = .ok () (w.setRow g (cur.toList.take off ++ v.cells.toList ++ cur.toList.drop (off + v.cells.toList.length)).toArray):=by
 obtain ⟨inf,z,hi,hz,_⟩:=hd.inf
 have:=run_storeCells_at P g off e v.cells.toList 0 cur w hg (by rw [Array.length_toList];omega) h1
 simp only [Nat.add_zero] at this
 simp only [Instr.storeAt,Sem.run_bind,Instr.sureAddr,Sem.run_pure,Result.andThen_ok,storeVar,run_sizeOf' w hi]
 rw [if_neg (by rw [hs,hz];simp)]
 exact this
def X5g (T:TypeId→Option TD) (rows:List Row) (t:TypeId) (x v:AV) (ans:List Ans):Option (List Row × List Ans × List Prop) :=
 match T t,x,Xj v with
 | some d, .ptr r idx off,some vs=>match vs.length == d.size && vs.all X6A with
  | true=>match rows[r]? with
   | some (.box t2 cs)=>match idx,Nat.ble (off + vs.length) cs.length with
    | 0,true=>some (rows.set r (.box t2 (XT cs off vs)),ans,[])
    | _,_=>none
   | some (.vec t2 es l full)=>match vs.all isS with
    | true=>match off,vs.length == es with
     | 0,true=>some (rows.set r (.vec t2 es (l.set idx vs) full),ans,[idx < l.length])
     | off,_=>match ans with
      | .el cs :: ans=>match Nat.ble (off + vs.length) cs.length with
       | true=>some (rows.set r (.vec t2 es (l.set idx (XT cs off vs)) full),ans,[l[idx]? = some cs])
       | false=>none
      | _=>none
    | false=>none
   | _=>none
  | false=>none
 | _,_,_=>none
theorem Xa3 {arr u:Array Value} {es:Nat} {l:List (List AV)} {idx off:Nat} {cs:List AV} {vs:List AV} {H:Array Obj} {μ:Nat→Option FP} (h:XS (arr[·]?) es l) (hi:l[idx]? = some cs) (hv:PW H μ vs u) (hs:vs.all isS=true) (hl:off + vs.length≤cs.length)
  (hz:l.length * es≤arr.size):XS ((arr.toList.take (idx * es + off) ++ u.toList ++ arr.toList.drop (idx * es + off + u.toList.length)).toArray[·]?) es (l.set idx (XT cs off vs)):=by
 have hu:u.toList.length=vs.length:=by rw [Array.length_toList];exact hv.1
 have hcs:=(h idx cs hi).1
 have hidx:idx < l.length:=by
  rcases Nat.lt_or_ge idx l.length with h | h
  ·exact h
  ·rw [List.getElem?_eq_none h] at hi;cases hi
 have hle:idx * es + es≤l.length * es:=by
  have:(idx + 1) * es≤l.length * es:=Nat.mul_le_mul_right _ hidx
  rw [Nat.succ_mul] at this;exact this
 have hget:∀ j,((arr.toList.take (idx * es + off) ++ u.toList ++ arr.toList.drop (idx * es + off + u.toList.length)).toArray)[j]? = if j < idx * es + off then arr[j]? else if j < idx * es + off + vs.length then u[j - (idx * es + off)]? else arr[j]? := by
  intro j
  rw [List.getElem?_toArray,getElem?_lay3 _ _ _ (by have ha:arr.toList.length=arr.size:=Array.length_toList;omega),hu]
  simp only [Array.getElem?_toList]
 intro i c hc
 by_cases hii:i=idx
 ·subst hii
  rw [List.getElem?_set_self hidx] at hc
  simp only [Option.some.injEq] at hc;subst hc
  refine ⟨by rw [X1c _ _ _ hl];exact hcs,fun j x hj => ?_⟩
  rw [getElem?_splice _ _ _ hl] at hj
  simp only
  rw [hget]
  by_cases a1:j < off
  ·rw [if_pos a1] at hj
   rw [if_pos (by omega)]
   exact (h i cs hi).2 j x hj
  ·rw [if_neg a1] at hj
   rw [if_neg (by omega)]
   by_cases a2:j < off + vs.length
   ·rw [if_pos a2] at hj
    rw [if_pos (by omega),show i * es + j - (i * es + off)=j - off from by omega]
    have hr:=hv.2 _ x hj
    have hlt:j - off < u.size:=by rw [hv.1];omega
    rw [Array.getElem?_eq_getElem hlt]
    rw [Array.getD_eq_getD_getElem?,Array.getElem?_eq_getElem hlt] at hr
    rw [List.all_eq_true] at hs
    exact ⟨_,rfl,X46 hr (hs x (List.mem_of_getElem? hj))⟩
   ·rw [if_neg a2] at hj
    rw [if_neg (by omega)]
    exact (h i cs hi).2 j x hj
 ·rw [List.getElem?_set_ne (fun e=>hii e.symm)] at hc
  obtain ⟨b1,b2⟩:=h i c hc
  refine ⟨b1,fun j x hj => ?_⟩
  obtain ⟨v,ev,rv⟩:=b2 j x hj
  refine ⟨v,?_,rv⟩
  simp only
  rw [hget]
  have hj':j < es:=by
   rw [← b1]
   rcases Nat.lt_or_ge j c.length with h | h
   ·exact h
   ·rw [List.getElem?_eq_none h] at hj;cases hj
  rcases Nat.lt_or_ge i idx with hlt | hge
  ·have:(i + 1) * es≤idx * es:=Nat.mul_le_mul_right _ hlt
   rw [Nat.succ_mul] at this
   rw [if_pos (by omega)];exact ev
  ·have:(idx + 1) * es≤i * es:=Nat.mul_le_mul_right _ (by omega)
   rw [Nat.succ_mul] at this
   rw [if_neg (by omega),if_neg (by omega)];exact ev
theorem X7L {cs vs:List AV} (h:vs.length=cs.length):XT cs 0 vs=vs:=by
 simp [XT,h]
theorem X5Z {P:Program} {w0:Old0} {w:World} {μ:Nat→Option FP} {T:TypeId→Option TD} (hT:TOk P T) {rows:List Row} (hm:Mem w0 μ rows w) {t:TypeId} {x v:AV} {vx vv:Value} {ans ans':List Ans} {rows':List Row} {C:List Prop}
  (hx:Rep w0.heap μ x vx) (hv:Rep w0.heap μ v vv) (h:X5g T rows t x v ans=some (rows',ans',C)) (hC:All C) :
  ∃ w',(Instr.storeAt t vx vv).run P w = .ok () w'∧Mem w0 μ rows' w':=by
 unfold X5g at h
 split at h
 ·rename_i d r idx off vs hts hcells
  have hd:=hT t d hts
  have hpw:=X4p hv hcells
  split at h
  ·rename_i hb
   simp only [Bool.and_eq_true,beq_iff_eq,List.all_eq_true] at hb
   have hone:∀ u∈vv.cells.toList,u.oneCell'=true:=by
    intro u hu
    obtain ⟨j,hj,rfl⟩:=List.getElem_of_mem hu
    have hj':j < vs.length:=by rw [← hpw.1,← Array.length_toList];exact hj
    have:=hpw.2 j vs[j] (List.getElem?_eq_getElem hj')
    rw [Array.getD_eq_getD_getElem?,← Array.getElem?_toList,List.getElem?_eq_getElem hj] at this
    exact X5f this (hb.2 _ (List.getElem_mem hj'))
   have hsz:vv.cells.size=d.size:=by rw [hpw.1,hb.1]
   cases hx with
   | ptr _ _ _ p hp =>
   cases hrow:rows[r]? with
   | none=>rw [hrow] at h;cases h
   | some row =>
    rw [hrow] at h
    have hok:=hm.row r row hrow
    rw [hp] at hok
    cases row with
    | box t2 cs =>
     simp only at h
     split at h
     ·rename_i hle
      simp only [Nat.ble_eq] at hle
      simp only [Option.some.injEq,Prod.mk.injEq] at h
      obtain ⟨rfl,rfl,rfl⟩:=h
      obtain ⟨hz,e1,e2,arr,e3,e4,e5⟩:=hok
      rw [Nat.zero_mul,Nat.zero_add]
      refine ⟨_,X2l hd e3 hsz (by rw [hpw.1];exact Nat.le_trans hle e4) hone,?_⟩
      refine hm.setRow hp hz ?_
      have hl:=Xa2 ⟨e4,e5⟩ hpw hle
      exact ⟨hz,by rw [X1c _ _ _ hle];exact e1,e2,_,setRow_heap _ _ _ _ _ _ e3,hl.1,hl.2⟩
     ·cases h
    | vec t2 es l full =>
     simp only at h
     rcases hok with ⟨hz,rfl,_⟩ | ⟨hz,e1,e2,e3,e4,e5,arr,e6,e7,e8⟩
     ·exfalso
      repeat' split at h
      all_goals first | (cases h;done) | (simp only [Option.some.injEq,Prod.mk.injEq] at h;obtain ⟨rfl,rfl,rfl⟩:=h;simp [All] at hC)
     have hfull:l.length * es≤arr.size:=by rw [e7];exact Nat.mul_le_mul_right _ e4
     have hall:∀ (cs:List AV),l[idx]? = some cs→off + vs.length≤cs.length→vs.all isS=true →
       ∃ w',(Instr.storeAt t (.pointer (some ⟨p.blk,idx * p.es + off,none⟩)) vv).run P w = .ok () w'∧Mem w0 μ (rows.set r (.vec t2 es (l.set idx (XT cs off vs)) full)) w':=by
      intro cs hcs hle hS
      have hidx:idx < l.length:=by
       rcases Nat.lt_or_ge idx l.length with h | h
       ·exact h
       ·rw [List.getElem?_eq_none h] at hcs;cases hcs
      have hce:=(e8 idx cs hcs).1
      have hle2:idx * es + es≤l.length * es:=by
       have:(idx + 1) * es≤l.length * es:=Nat.mul_le_mul_right _ hidx
       rw [Nat.succ_mul] at this;exact this
      refine ⟨_,X2l hd e6 hsz (by rw [hpw.1,e1];omega) hone,?_⟩
      refine hm.setRow hp hz ?_
      rw [e1]
      refine .inr ⟨hz,e1,e2,by simpa using e3,by simpa using e4,fun hf=>by simpa using e5 hf,_,setRow_heap _ _ _ _ _ _ e6,?_,Xa3 e8 hcs hpw hS hle hfull⟩
      rw [List.size_toArray,X28 _ _ _ (by rw [Array.length_toList,Array.length_toList,hpw.1];omega),Array.length_toList,e7]
     split at h
     ·rename_i hS
      split at h
      ·rename_i hes
       simp only [beq_iff_eq] at hes
       simp only [Option.some.injEq,Prod.mk.injEq] at h
       obtain ⟨rfl,rfl,rfl⟩:=h
       have hidx:=hC.1
       have hce:=(e8 idx _ (List.getElem?_eq_getElem hidx)).1
       obtain ⟨w',r1,r2⟩:=hall _ (List.getElem?_eq_getElem hidx) (by omega) hS
       rw [X7L (by omega)] at r2
       exact ⟨w',r1,r2⟩
      ·split at h
       ·split at h
        ·rename_i hle
         simp only [Nat.ble_eq] at hle
         simp only [Option.some.injEq,Prod.mk.injEq] at h
         obtain ⟨rfl,rfl,rfl⟩:=h
         exact hall _ hC.1 hle hS
        ·cases h
       ·cases h
     ·cases h
    | _=>cases h
  ·cases h
 ·cases h
end Go.Ab
