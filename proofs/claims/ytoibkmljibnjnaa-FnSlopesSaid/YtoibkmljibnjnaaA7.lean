/- Operations that make blocks. -/
import Derived.Test.YtoibkmljibnjnaaA6
set_option linter.unusedVariables false
set_option linter.unusedSimpArgs false
namespace Go.Ab
open Go.RowKit
/- composite values -/
def fillAV (place:Nat→Option (Nat × Nat)) (val:Operand→AV):List AV→List (Nat × Operand)→Option (List AV)
 | cs,[]=>some cs
 | cs,(i,x) :: rest=>match place i with
  | none=>none
  | some (off,size)=>match Xj (val x) with
   | none=>none
   | some vs=>match vs.length == size && Nat.ble (off + size) cs.length with
    | true=>fillAV place val (XT cs off vs) rest
    | false=>none
theorem X3q {H:Array Obj} {μ:Nat→Option FP} {place place':Nat→Option (Nat × Nat)} (hpl:∀ i q,place i=some q→place' i=some q) {val:Operand→AV} {ρ:Operand→Value} (hv:∀ x,Rep H μ (val x) (ρ x)) :
  ∀ (parts:List (Nat × Operand)) (cs cs':List AV) (arr:Array Value),PW H μ cs arr→fillAV place val cs parts=some cs' →
   ∃ arr',Instr.fill place' arr (parts.map fun (i,x)=>(i,ρ x))=some arr'∧PW H μ cs' arr':=by
 intro parts
 induction parts with
 | nil=>intro cs cs' arr hp h;simp [fillAV] at h;subst h;exact ⟨arr,rfl,hp⟩
 | cons q rest ih =>
  intro cs cs' arr hp h
  obtain ⟨i,x⟩:=q
  simp only [fillAV] at h
  cases hi:place i with
  | none=>rw [hi] at h;cases h
  | some oz =>
   obtain ⟨off,size⟩:=oz
   rw [hi] at h;simp only at h
   cases hc:Xj (val x) with
   | none=>rw [hc] at h;cases h
   | some vs =>
    rw [hc] at h;simp only at h
    cases hb:vs.length == size && Nat.ble (off + size) cs.length with
    | false=>rw [hb] at h;cases h
    | true =>
     rw [hb] at h;simp only at h
     simp only [Bool.and_eq_true,beq_iff_eq,Nat.ble_eq] at hb
     have hpc:=X4p (hv x) hc
     obtain ⟨arr',h1,h2⟩:=ih _ cs' _ (X8U hp hpc (by omega)) h
     refine ⟨arr',?_,h2⟩
     simp only [List.map_cons,Instr.fill,hpl i _ hi]
     have hz:(ρ x).cells.size=size:=by rw [hpc.1,hb.1]
     have ha:=hp.1
     rw [if_neg (by simp only [hz,ne_eq,not_true_eq_false,decide_false,Bool.false_or,decide_eq_true_eq];omega)]
     exact h1
def X5a (T:TypeId→Option TD) (val:Operand→AV) (t:TypeId) (parts:List (Nat × Operand)) (ans:List Ans):Option PR :=
 match T t with
 | some d=>match d.kind with
  | .struct fs=>match fillAV (fun i=>fs[i]?) val d.zero parts with
   | some cs=>some ⟨.agg cs,[],ans,[]⟩
   | none=>none
  | .arr _ e=>match T e with
   | some de=>match fillAV (fun i=>some (i * de.size,de.size)) val d.zero parts with
    | some cs=>some ⟨.agg cs,[],ans,[]⟩
    | none=>none
   | none=>none
  | _=>none
 | none=>none
theorem X5V {α β:Type} {P:Program} {w:World} (f:α→Sem β):∀ (l:List α) (g:α→β),(∀ x∈l,(f x).run P w = .ok (g x) w)→(l.mapM f).run P w = .ok (l.map g) w:=by
 intro l g h
 induction l with
 | nil=>simp
 | cons x l ih =>
  rw [List.mapM_cons]
  simp [h x (by simp),ih (fun y hy=>h y (by simp [hy]))]
theorem X5b {α β:Type} {P:Program} {w:World} (f:α→Sem β) (l:Array α) (g:α→β) (h:∀ x∈l.toList,(f x).run P w = .ok (g x) w):(l.mapM f).run P w = .ok (l.toList.map g).toArray w:=by
 rw [Array.mapM_eq_mapM_toList]
 simp [X5V f l.toList g h]
theorem X5c {P:Program} {t:TypeId} {d:TD} (hd:TyOk P t d) (H:Array Obj) (μ:Nat→Option FP) (w:World):∃ z,(zeroValue t).run P w = .ok z w∧PW H μ d.zero z.cells:=by
 obtain ⟨inf,z,hi,_,_,hz,h1,h2⟩:=hd.inf
 exact ⟨z,run_zeroValue' w hi hz,h1,fun j c e=>h2 j c e H μ⟩
theorem X5W {P:Program} {w:World} {H:Array Obj} {μ:Nat→Option FP} {T:TypeId→Option TD} (hT:TOk P T) {val:Operand→AV} {ρ:Operand→Value} (hv:∀ x,Rep H μ (val x) (ρ x))
  {t:TypeId} {parts:Array (Nat × Operand)} {ans:List Ans} {r:PR} (h:X5a T val t parts.toList ans=some r) :
  r.new=[]∧∃ v,(Instr.build t (parts.map fun (i,x)=>(i,ρ x))).run P w = .ok v w∧Rep H μ r.av v:=by
 unfold X5a at h
 cases hs:T t with
 | none=>rw [hs] at h;cases h
 | some d =>
  rw [hs] at h;simp only at h
  have hd:=hT t d hs
  obtain ⟨u,hu,hk,hagg⟩:=hd.desc
  obtain ⟨z,hz,hpw⟩:=X5c hd H μ w
  cases hkd:d.kind with
  | struct fs =>
   rw [hkd] at h hk;simp only at h
   cases u<;>simp only [Xa] at hk
   rename_i fields
   split at h
   ·rename_i cs hcs
    simp only [Option.some.injEq] at h;subst h
    have hplaces:(fields.mapM fun f=>do pure (f.offset,← sizeOf f.type):Sem (Array (Nat × Nat))).run P w = .ok (fields.toList.map fun f=>(f.offset,(P.cellsOf f.type))).toArray w:=by
     refine X5b _ _ _ fun f hf => ?_
     obtain ⟨j,hj,rfl⟩:=List.getElem_of_mem hf
     have hj':j < fs.length:=by rw [← hk.1];simpa using hj
     obtain ⟨f',inf,e1,e2,e3,e4⟩:=hk.2 j fs[j].1 fs[j].2 (by rw [List.getElem?_eq_getElem hj'])
     have hfe:fields.toList[j]=f':=by
      have:=Array.getElem?_toList (xs:=fields) (i:=j)
      rw [e1,List.getElem?_eq_getElem hj] at this
      exact Option.some.inj this
     rw [hfe]
     simp [run_sizeOf' w e3,Program.cellsOf,e3]
    obtain ⟨arr',f1,f2⟩:=X3q (H:=H) (μ:=μ) (place:=fun i=>fs[i]?) (place':=((fields.toList.map fun f=>(f.offset,(P.cellsOf f.type))).toArray[·]?)) (fun i q e=>by
      obtain ⟨f',inf,e1,e2,e3,e4⟩:=hk.2 i q.1 q.2 e
      have:=Array.getElem?_toList (xs:=fields) (i:=i)
      rw [e1] at this
      simp [this,Program.cellsOf,e2,e3,e4]) hv parts.toList d.zero cs z.cells hpw hcs
    refine ⟨rfl, .agg arr',?_, .agg _ _ f2.1 f2.2⟩
    simp only [Instr.build,Sem.run_bind,hz,Result.andThen_ok,run_underlying hu,hplaces]
    rw [show (parts.map fun (x:Nat × Operand)=>(x.1,ρ x.2)).toList=parts.toList.map fun (x:Nat × Operand)=>(x.1,ρ x.2) from by simp]
    rw [f1];simp
   ·cases h
  | arr n e =>
   rw [hkd] at h hk;simp only at h
   cases u<;>simp only [Xa] at hk
   rw [hk.1,hk.2] at hu
   cases he:T e with
   | none=>rw [he] at h;cases h
   | some de =>
    rw [he] at h;simp only at h
    obtain ⟨inf,hinf,hsz,_⟩:=hT.info he
    split at h
    ·rename_i cs hcs
     simp only [Option.some.injEq] at h;subst h
     obtain ⟨arr',f1,f2⟩:=X3q (H:=H) (μ:=μ) (place:=fun i=>some (i * de.size,de.size)) (place':=fun i=>some (i * inf.size,inf.size)) (fun i q e=>by rw [hsz];exact e) hv parts.toList d.zero cs z.cells hpw hcs
     refine ⟨rfl, .agg arr',?_, .agg _ _ f2.1 f2.2⟩
     simp only [Instr.build,Sem.run_bind,hz,Result.andThen_ok,run_underlying hu,run_sizeOf' w hinf]
     rw [show (parts.map fun (x:Nat × Operand)=>(x.1,ρ x.2)).toList=parts.toList.map fun (x:Nat × Operand)=>(x.1,ρ x.2) from by simp]
     rw [f1];simp
    ·cases h
  | _=>rw [hkd] at h;cases h
/- slices -/
def chunks (es:Nat):Nat→List AV→List (List AV)
 | 0,_ => []
 | n + 1,cs=>cs.take es :: chunks es n (cs.drop es)
theorem X8c (es:Nat):∀ (n:Nat) (cs:List AV) (i:Nat) (c:List AV),(chunks es n cs)[i]? = some c→i < n∧c=(cs.drop (i * es)).take es:=by
 intro n
 induction n with
 | zero=>intro cs i c h;simp [chunks] at h
 | succ n ih =>
  intro cs i c h
  cases i with
  | zero=>simp [chunks] at h;exact ⟨by omega,by simp [h]⟩
  | succ i =>
   simp [chunks] at h
   obtain ⟨h1,h2⟩:=ih _ _ _ h
   refine ⟨by omega,?_⟩
   rw [h2,List.drop_drop,Nat.succ_mul,Nat.add_comm]
theorem X1z (es:Nat):∀ (n:Nat) (cs:List AV),(chunks es n cs).length=n
 | 0,_=>rfl
 | n + 1,cs=>by simp [chunks,X1z es n]
theorem X8d {H:Array Obj} {μ:Nat→Option FP} {cs:List AV} {arr:Array Value} {es n:Nat} (h:PW H μ cs arr) (hl:cs.length=n * es) (hs:(chunks es n cs).all (·.all isS)=true):XS (arr[·]?) es (chunks es n cs):=by
 intro i c hi
 obtain ⟨h1,h2⟩:=X8c es n cs i c hi
 have hle:i * es + es≤n * es:=by
  have:(i + 1) * es≤n * es:=Nat.mul_le_mul_right _ h1
  rw [Nat.succ_mul] at this;exact this
 refine ⟨by rw [h2];simp;omega,fun j x hj => ?_⟩
 have hj0:=hj
 rw [h2,getElem?_part] at hj
 split at hj
 ·have hsx:isS x=true:=by
   rw [List.all_eq_true] at hs
   have:=hs c (List.mem_of_getElem? hi)
   rw [List.all_eq_true] at this
   exact this x (List.mem_of_getElem? hj0)
  have hr:=h.2 _ x hj
  have hlt:i * es + j < arr.size:=by
   rw [h.1]
   rcases Nat.lt_or_ge (i * es + j) cs.length with h | h
   ·exact h
   ·rw [List.getElem?_eq_none h] at hj;cases hj
  refine ⟨arr[i * es + j],Array.getElem?_eq_getElem hlt,?_⟩
  rw [Array.getD_eq_getD_getElem?,Array.getElem?_eq_getElem hlt] at hr
  exact X46 hr hsx
 ·cases hj
def X21 (n:Nat) (zs:List AV):List AV:=(List.range n).flatMap fun _=>zs
theorem X8X (zs:List AV):∀ (n j:Nat) (c:AV),(X21 n zs)[j]? = some c→zs[j % zs.length]? = some c:=by
 intro n
 unfold X21
 induction n with
 | zero=>intro j c h;simp at h
 | succ n ih =>
  intro j c h
  rw [List.range_succ_eq_map,List.flatMap_cons] at h
  by_cases hj:j < zs.length
  ·rw [List.getElem?_append_left hj] at h
   rwa [Nat.mod_eq_of_lt hj]
  ·rw [List.getElem?_append_right (by omega)] at h
   have:=ih (j - zs.length) c (by rw [List.flatMap_map] at h;exact h)
   rwa [Nat.mod_eq_sub_mod (by omega)]
theorem X2D (n:Nat) (zs:List AV):(X21 n zs).length=n * zs.length:=by
 unfold X21;induction n with
 | zero=>simp
 | succ n ih=>rw [List.range_succ_eq_map,List.flatMap_cons,List.length_append,List.flatMap_map,ih,Nat.succ_mul,Nat.add_comm]
def X67 (T:TypeId→Option TD) (val:Operand→AV) (lo:Nat) (t:TypeId) (len:Nat) (parts:List (Nat × Operand)) (ans:List Ans):Option PR :=
 match T t with
 | some d=>match d.kind with
  | .slice e=>match T e with
   | some de=>match de.zero.length == de.size && Nat.ble (len * de.size) 65536 with
    | true=>match fillAV (fun i=>some (i * de.size,de.size)) val (X21 len de.zero) parts with
     | some cs=>match de.kind with
      | .slice _=>match de.size with
       | 1=>match cs with
        | []=>some ⟨.own lo,[.nest e [] true],ans,[]⟩
        | cs=>some ⟨.own lo,[.lits e cs],ans,[]⟩
       | _=>none
      | _=>match (chunks de.size len cs).all (·.all isS) with
       | true=>some ⟨.own lo,[.vec e de.size (chunks de.size len cs) true],ans,[]⟩
       | false=>some ⟨.bx lo len,[.box e cs],ans,[]⟩
     | none=>none
    | false=>none
   | none=>none
  | _=>none
 | none=>none
theorem X5X {place:Nat→Option (Nat × Nat)} {val:Operand→AV}:∀ (parts:List (Nat × Operand)) (cs cs':List AV),fillAV place val cs parts=some cs'→cs'.length=cs.length:=by
 intro parts
 induction parts with
 | nil=>intro cs cs' h;simp [fillAV] at h;rw [h]
 | cons q rest ih =>
  intro cs cs' h
  obtain ⟨i,x⟩:=q
  simp only [fillAV] at h
  split at h
  ·cases h
  ·split at h
   ·cases h
   ·split at h
    ·rename_i hb
     simp only [Bool.and_eq_true,beq_iff_eq,Nat.ble_eq] at hb
     rw [ih _ _ h,X1c _ _ _ (by omega)]
    ·cases h
theorem X7I {P:Program} {w0:Old0} {w:World} {μ:Nat→Option FP} {T:TypeId→Option TD} (hT:TOk P T) {val:Operand→AV} {ρ:Operand→Value} (hv:∀ x,Rep w0.heap μ (val x) (ρ x)) {lo:Nat}
  (hn:μ lo=none) {t:TypeId} {len:Nat} {parts:Array (Nat × Operand)} {ans:List Ans} {r:PR} (h:X67 T val lo t len parts.toList ans=some r) :
  ∃ v w',(Instr.buildSlice t len (parts.map fun (i,x)=>(i,ρ x))).run P w = .ok v w'∧Post w0 μ lo w r v w':=by
 unfold X67 at h
 cases hs:T t with
 | none=>rw [hs] at h;cases h
 | some d =>
  rw [hs] at h;simp only at h
  have hd:=hT t d hs
  obtain ⟨u,hu,hk,hagg⟩:=hd.desc
  cases hkd:d.kind with
  | slice e =>
   rw [hkd] at h hk;simp only at h
   cases u<;>simp only [Xa] at hk
   rw [hk] at hu
   cases he:T e with
   | none=>rw [he] at h;cases h
   | some de =>
    rw [he] at h;simp only at h
    obtain ⟨inf,hinf,hsz,_⟩:=hT.info he
    obtain ⟨z,hz,hpw⟩:=X5c (hT e de he) w0.heap μ w
    split at h
    ·rename_i hb
     simp only [Bool.and_eq_true,beq_iff_eq,Nat.ble_eq] at hb
     split at h
     ·rename_i cs hcs
      have hz0:PW w0.heap μ (X21 len de.zero) ((Array.range (len * inf.size)).map ((if len * inf.size=0 then #[] else z.cells)[· % (if len * inf.size=0 then #[] else z.cells).size]!)):=by
       rw [hsz]
       refine ⟨by simp [X2D,hb.1],fun j c e => ?_⟩
       have hlt:j < len * de.size:=by
        rcases Nat.lt_or_ge j (X21 len de.zero).length with h | h
        ·rwa [X2D,hb.1] at h
        ·rw [List.getElem?_eq_none h] at e;cases e
       rw [if_neg (by omega)]
       have e':=X8X _ _ _ _ e
       have:=hpw.2 _ c e'
       rw [Array.getD_eq_getD_getElem?]
       simp only [Array.getElem?_map,Array.getElem?_range,hlt,if_true,Option.map_some,Option.getD_some]
       rw [hpw.1]
       rw [Array.getD_eq_getD_getElem?] at this
       have hlt2:j % de.zero.length < z.cells.size:=by
        rw [hpw.1]
        rcases Nat.lt_or_ge (j % de.zero.length) de.zero.length with h | h
        ·exact h
        ·rw [List.getElem?_eq_none h] at e';cases e'
       rw [Array.getElem?_eq_getElem hlt2] at this
       rw [getElem!_pos z.cells (j % de.zero.length) hlt2]
       exact this
      obtain ⟨arr',f1,f2⟩:=X3q (H:=w0.heap) (μ:=μ) (place:=fun i=>some (i * de.size,de.size)) (place':=fun i=>some (i * inf.size,inf.size)) (fun i q e=>by rw [hsz];exact e) hv parts.toList _ cs _ hz0 hcs
      have hlen:=X5X _ _ _ hcs
      rw [X2D,hb.1] at hlen
      have hrun:(Instr.buildSlice t len (parts.map fun (i,x)=>(i,ρ x))).run P w = .ok (.slice (some ⟨w.heap.size,0,none⟩) len len) (newB w arr' e):=by
       unfold Instr.buildSlice
       simp only [Sem.run_bind,run_underlying hu,Result.andThen_ok,run_sizeOf' w hinf]
       rw [if_neg (by rw [hsz];omega)]
       have ht:(parts.map fun (x:Nat × Operand)=>(x.1,ρ x.2)).toList=parts.toList.map fun (x:Nat × Operand)=>(x.1,ρ x.2):=by simp
       by_cases hc0:len * inf.size=0
       ·rw [if_pos hc0]
        simp only [if_pos hc0] at f1
        simp only [Sem.run_bind,Sem.run_pure,Result.andThen_ok]
        rw [ht,f1]
        simp only [Sem.run_bind,run_newRow',Result.andThen_ok,Sem.run_pure]
       ·rw [if_neg hc0]
        simp only [if_neg hc0] at f1
        simp only [Sem.run_bind,Sem.run_pure,hz,Result.andThen_ok]
        rw [ht,f1]
        simp only [Sem.run_bind,run_newRow',Result.andThen_ok,Sem.run_pure]
      split at h
      ·split at h
       ·rename_i hone
        split at h
        ·simp only [Option.some.injEq] at h;subst h
         refine ⟨_,_,hrun,?_⟩
         have hl0:len=0:=by simpa [hone] using hlen.symm
         refine Post.new (p:=⟨w.heap.size,1,len,len,[],false⟩) hn rfl rfl (fun μ' hs' => ?_) (fun μ' e => .own lo _ e)
         exact .inr ⟨rfl,rfl,by simp [hl0],by simp [hl0],fun _=>by simp [hl0],rfl,arr',Xq _ _ _,by rw [f2.1,hl0];rfl,fun i l hi=>by simp at hi⟩
        simp only [Option.some.injEq] at h;subst h
        refine ⟨_,_,hrun,?_⟩
        refine Post.new (p:=⟨w.heap.size,1,len,len,[],false⟩) hn rfl rfl (fun μ' hs' => ?_) (fun μ' e => .own lo _ e)
        rw [hone] at hlen
        refine ⟨rfl,rfl,rfl,by simp [hlen],by simp [hlen],arr',Xq _ _ _,by rw [f2.1],fun j c e=>(f2.2 j c e).mono hs'⟩
       ·cases h
      ·split at h
       ·rename_i hsc
        simp only [Option.some.injEq] at h;subst h
        refine ⟨_,_,hrun,?_⟩
        refine Post.new (p:=⟨w.heap.size,de.size,len,len,[],false⟩) hn rfl rfl (fun μ' hs' => ?_) (fun μ' e => .own lo _ e)
        exact .inr ⟨rfl,rfl,rfl,(X1z _ _ _).symm,Nat.le_of_eq (X1z _ _ _),fun _=>(X1z _ _ _).symm,arr',Xq _ _ _,by rw [f2.1,hlen],X8d f2 hlen hsc⟩
       ·simp only [Option.some.injEq] at h;subst h
        refine ⟨_,_,hrun,?_⟩
        refine Post.new (p:=⟨w.heap.size,cs.length,len,len,[],false⟩) hn rfl rfl (fun μ' hs' => ?_) (fun μ' e => .bx lo len len _ e (Nat.le_refl _))
        exact ⟨rfl,rfl,rfl,arr',Xq _ _ _,Nat.le_of_eq f2.1.symm,fun j c e=>(f2.2 j c e).mono hs'⟩
     ·cases h
    ·cases h
  | _=>rw [hkd] at h;cases h
end Go.Ab
