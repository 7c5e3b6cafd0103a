/- Regions whose order is open, concluded. -/
import Derived.Test.YtoibkmljibnjnaaA14
set_option linter.unusedVariables false
set_option linter.unusedSimpArgs false
namespace Go.Ab
open Go.RowKit
section
variable {P:Program} {E:Env} {w0:Old0}
theorem X4W (hE:EOn P E w0) {ops:Array Oper} {m:Nat} {Q:Exit→Act→World→Prop} (hedge:∀ j o,ops.toList[j]? = some o→X1r j o=true)
  (htail:∀ k o,m≤k→ops.toList[k]? = some o→∀ j,j < k→(((X2 ops.toList [])[k]?).getD 0).testBit j=true) :
  ∀ (n i fuel:Nat) (st st':St) (ans ans':List Ans) (C:List Prop) (listed:Array Bool) (a:Act) (w:World),n=ops.size - i→m≤i→i≤ops.size→n≤fuel →
   X17 P E ops.toList (ops.toList.drop i) st ans=some (st',ans',C)→All C→listed.size=ops.size→(∀ j,j < ops.size→listed[j]? = some (decide (j < i)))→Rel w0 st a w →
   (∀ a' w',Rel w0 st' a' w'→Q .normal a' w')→wpAny P .any ops Q fuel listed a w:=by
 intro n
 induction n with
 | zero =>
  intro i fuel st st' ans ans' C listed a w hn hm hi hf h hC hs hl hr hQ
  have hie:i=ops.size:=by omega
  subst hie
  rw [List.drop_eq_nil_of_le (by simp)] at h
  simp only [X17,Option.some.injEq,Prod.mk.injEq] at h
  obtain ⟨rfl,rfl,rfl⟩:=h
  have hready:Region.ready .any ops listed=[]:=by
   cases hx:Region.ready .any ops listed with
   | nil=>rfl
   | cons k ks =>
    have hk:k∈Region.ready .any ops listed:=by rw [hx];simp
    rw [XY hs] at hk
    have:=hl k hk.1
    rw [hk.2.1] at this
    simp at this;omega
  cases fuel with
  | zero=>exact ⟨hready,hQ a w hr⟩
  | succ f=>exact ⟨fun _=>hQ a w hr,fun k hk=>by rw [hready] at hk;cases hk⟩
 | succ n ih =>
  intro i fuel st st' ans ans' C listed a w hn hm hi hf h hC hs hl hr hQ
  have hlt:i < ops.size:=by omega
  have ho:ops.toList[i]? = some ops[i]:=by rw [Array.getElem?_toList];exact Array.getElem?_eq_getElem hlt
  have hD:∀ j,listed.getD j false=decide (j < i):=by
   intro j
   rw [Array.getD_eq_getD_getElem?]
   by_cases hj:j < ops.size
   ·rw [hl j hj];rfl
   ·rw [Array.getElem?_eq_none (by omega)]
    have:¬ j < i:=by omega
    simp [this]
  obtain ⟨f,rfl⟩:∃ f,fuel=f + 1:=⟨fuel - 1,by omega⟩
  have hmem:i∈Region.ready .any ops listed:=by
   rw [XY hs]
   refine ⟨hlt,by rw [hl i hlt];simp,fun o ho' e he hb => ?_⟩
   rw [hD];simpa using XF (hedge i o ho') he hb
  refine ⟨fun hnil=>(by rw [hnil] at hmem;cases hmem),fun k hk => ?_⟩
  rw [XY hs] at hk
  obtain ⟨hk1,hk2,hk3⟩:=hk
  have hki:i≤k:=by
   rw [hl k hk1] at hk2
   simp at hk2;exact hk2
  have hke:k=i:=by
   rcases Nat.lt_or_ge i k with hlt2 | hge
   ·exfalso
    have hok:ops.toList[k]? = some ops[k]:=by rw [Array.getElem?_toList];exact Array.getElem?_eq_getElem hk1
    have hcl:X2j ops.toList (fun j=>listed.getD j false):=by
     intro j o hoj hDj e he hb
     have h1:listed.getD j false=true:=hDj
     show listed.getD e.on false=true
     rw [hD] at h1 ⊢
     have:=XF (hedge j o hoj) he hb
     simp at h1 ⊢;omega
    have:=X3f hcl hedge k _ hok (hk3 _ hok) i (htail k _ (by omega) hok i hlt2)
    rw [hD] at this;simp at this
   ·omega
  subst hke
  rw [List.drop_eq_getElem_cons (by simpa using hlt)] at h
  simp only [X17] at h
  split at h
  ·rename_i st1 ans1 C1 h1
   split at h
   ·rename_i st2 ans2 C2 h2
    simp only [Option.some.injEq,Prod.mk.injEq] at h
    obtain ⟨rfl,rfl,rfl⟩:=h
    rw [All.append] at hC
    unfold wpOp
    have hok:ops[k]? = some ops.toList[k]:=by rw [← Array.getElem?_toList];exact List.getElem?_eq_getElem _
    rw [hok]
    refine X3Q hE h1 hC.1 hr fun a' w' hr' => ?_
    refine ih (k + 1) f st1 st2 ans1 ans2 C2 (listed.setIfInBounds k true) a' w' (by omega) (by omega) (by omega) (by omega) h2 hC.2 (by simpa using hs) (fun j hj => ?_) hr' hQ
    by_cases hjk:j=k
    ·subst hjk
     rw [Array.getElem?_setIfInBounds_self_of_lt (by omega)];simp
    ·rw [Array.getElem?_setIfInBounds_ne (fun e=>hjk e.symm),hl j hj]
     congr 1
     simp only [decide_eq_decide];omega
   ·cases h
  ·cases h
theorem X2H {t:Nat} {u:AV}:∀ (ds:List Tmp) (tm:List AV),t∈ds→(ds.foldl (fun tm d=>tm.set d .any) tm)[t]? = some u→u = .any:=by
 have keep:∀ (ds:List Tmp) (tm:List AV),(tm[t]? = some .any∨tm[t]? = none)→((ds.foldl (fun tm d=>tm.set d .any) tm)[t]? = some .any∨(ds.foldl (fun tm d=>tm.set d .any) tm)[t]? = none):=by
  intro ds
  induction ds with
  | nil=>intro tm h;exact h
  | cons d ds ih =>
   intro tm h
   refine ih _ ?_
   by_cases hd:d=t
   ·subst hd
    rw [List.getElem?_set_self']
    cases tm[d]? <;> simp
   ·rw [List.getElem?_set_ne hd];exact h
 intro ds
 induction ds with
 | nil=>intro tm h;simp at h
 | cons d ds ih =>
  intro tm h e
  simp only [List.foldl_cons] at e
  rcases List.mem_cons.1 h with rfl | h
  ·have:=keep ds (tm.set t .any) (by rw [List.getElem?_set_self'];cases tm[t]? <;> simp)
   rw [e] at this
   simpa using this
  ·exact ih _ h e
theorem X3w {t:Nat}:∀ (ds:List Tmp) (tm:List AV),t ∉ ds→(ds.foldl (fun tm d=>tm.set d .any) tm)[t]? = tm[t]? := by
 intro ds
 induction ds with
 | nil=>intro tm h;rfl
 | cons d ds ih =>
  intro tm h
  simp only [List.mem_cons,not_or] at h
  simp only [List.foldl_cons]
  rw [ih _ h.2,List.getElem?_set_ne (fun e=>h.1 e.symm)]
theorem X1w:∀ (ds:List Tmp) (tm:List AV),(ds.foldl (fun tm d=>tm.set d .any) tm).length=tm.length:=by
 intro ds
 induction ds with
 | nil=>intro tm;rfl
 | cons d ds ih=>intro tm;simp [ih]
def X6a (R:List DR):Prop:=∀ (i j:Nat) (r s:DR) (t:Tmp),R[i]? = some r→R[j]? = some s→r.dst=some t→s.dst=some t→i=j
theorem X1Z {R:List DR} (hap:X6a R) {tm:List AV} {D:Nat→Bool} {j t:Nat} {r:DR} {u:AV} (hj:R[j]? = some r) (hD:D j=true) (ht:r.dst=some t) (h:(Xz tm R D 0)[t]? = some u):u=r.av:=by
 rcases XW R tm D 0 t u h with ⟨j',r',h1,h2,h3,h4⟩ | ⟨h1,h2⟩
 ·have:=hap j j' r r' t hj h1 ht h3
  subst this
  rw [hj] at h1;cases h1;exact h4
 ·exact absurd ht (h1 j r hj (by rwa [Nat.zero_add]))
theorem X6Z:∀ (R:List DR) (tm:List AV) (D D':Nat→Bool) (k:Nat),(∀ j,j < R.length→D (k + j)=D' (k + j))→Xz tm R D k=Xz tm R D' k:=by
 intro R
 induction R with
 | nil=>intro tm D D' k _;rfl
 | cons r R ih =>
  intro tm D D' k h
  unfold Xz
  have h0:=h 0 (by simp)
  rw [Nat.add_zero] at h0
  have h1:∀ j,j < R.length→D (k + 1 + j)=D' (k + 1 + j):=fun j hj=>by have:=h (j + 1) (by simp;omega);rwa [show k + 1 + j=k + (j + 1) from by omega]
  rw [h0,ih _ D D' (k + 1) h1,ih _ D D' (k + 1) h1]
theorem X8r {tm:List AV} {rows:List Row} {R:List DR} {D D':Nat→Bool} (h:∀ j,j < R.length→D j=D' j):view tm rows R D=view tm rows R D':=by
 unfold view
 rw [X6Z R tm D D' 0 (by simpa using h),X22 R D D' 0 (by simpa using h)]
theorem X70 {listed:Array Bool} {i j:Nat} (hi:i < listed.size):(listed.setIfInBounds i true).getD j false=upd (fun j=>listed.getD j false) i j:=by
 unfold upd
 rw [Array.getD_eq_getD_getElem?]
 by_cases h:j=i
 ·subst h;rw [Array.getElem?_setIfInBounds_self_of_lt hi];simp
 ·rw [Array.getElem?_setIfInBounds_ne (fun e=>h e.symm),← Array.getD_eq_getD_getElem?];simp [h]
theorem X9y {ops:List Oper} {R:List DR} (hn:XU (X1X ops)=true) (hl:R.length=ops.length) (hd:∀ (i:Nat) (o:Oper),ops[i]? = some o→∃ r:DR,R[i]? = some r∧r.dst=o.dst):X6a R:=by
 have hnd:=XM hn
 intro i j r s t hi hj hr hs
 have hio:i < ops.length:=by
  rw [← hl]
  rcases Nat.lt_or_ge i R.length with h | h
  ·exact h
  ·rw [List.getElem?_eq_none h] at hi;cases hi
 have hjo:j < ops.length:=by
  rw [← hl]
  rcases Nat.lt_or_ge j R.length with h | h
  ·exact h
  ·rw [List.getElem?_eq_none h] at hj;cases hj
 obtain ⟨r',e1,e2⟩:=hd i _ (List.getElem?_eq_getElem hio)
 obtain ⟨s',e3,e4⟩:=hd j _ (List.getElem?_eq_getElem hjo)
 rw [hi] at e1;cases e1
 rw [hj] at e3;cases e3
 rw [e2] at hr;rw [e4] at hs
 have key:∀ (l:List Oper) (i j:Nat) (hi:i < l.length) (hj:j < l.length),(l.filterMap (·.dst)).Nodup→(l[i]).dst=some t→(l[j]).dst=some t→i=j:=by
  intro l
  induction l with
  | nil=>intro i j hi;simp at hi
  | cons x l ih =>
   intro i j hi hj hnd h1 h2
   cases i with
   | zero =>
    cases j with
    | zero=>rfl
    | succ j =>
     exfalso
     simp only [List.getElem_cons_zero] at h1
     simp only [List.getElem_cons_succ] at h2
     rw [List.filterMap_cons,h1] at hnd
     exact (List.nodup_cons.1 hnd).1 (List.mem_filterMap.2 ⟨_,List.getElem_mem _,h2⟩)
   | succ i =>
    cases j with
    | zero =>
     exfalso
     simp only [List.getElem_cons_zero] at h2
     simp only [List.getElem_cons_succ] at h1
     rw [List.filterMap_cons,h2] at hnd
     exact (List.nodup_cons.1 hnd).1 (List.mem_filterMap.2 ⟨_,List.getElem_mem _,h1⟩)
    | succ j =>
     simp only [List.getElem_cons_succ] at h1 h2
     have hnd':(l.filterMap (·.dst)).Nodup:=by
      rw [List.filterMap_cons] at hnd
      split at hnd
      ·exact hnd
      ·exact (List.nodup_cons.1 hnd).2
     rw [ih i j (by simpa using hi) (by simpa using hj) hnd' h1 h2]
 exact key ops i j hio hjo hnd hr hs
theorem X5F {μ:Nat→Option FP} {tmB tm0:List AV} {rows:List Row} {R:List DR} {D:Nat→Bool} {a:Act} {w:World} {ds:List Tmp} (htm:ds.foldl (fun tm d=>tm.set d .any) tm0=tmB) (hap:X6a R)
  (hdsts:∀ (i:Nat) (r:DR) (t:Tmp),R[i]? = some r→r.dst=some t→t∈ds) (hrel:RelM w0 μ (view tmB rows R D) a w) {i d:Nat} (hdep:∀ b,d.testBit b=true→D b=true) :
  RelW w0 μ (view tmB rows (R.take i) (Nat.testBit d)) a w:=by
 refine ⟨?_,fun t u hu => ?_,⟨hrel.mem.bel,fun q row hq => ?_,hrel.mem.sep,hrel.mem.nodup,hrel.mem.own⟩⟩
 ·have:=hrel.size
  simp only [view,Xc] at this ⊢;exact this
 ·have htl:t < tmB.length:=by
   have:t < (view tmB rows (R.take i) (Nat.testBit d)).tm.length:=by
    rcases Nat.lt_or_ge t (view tmB rows (R.take i) (Nat.testBit d)).tm.length with h | h
    ·exact h
    ·rw [List.getElem?_eq_none h] at hu;cases hu
   simpa [view,Xc] using this
  have hfull:(view tmB rows R D).tm[t]? = some ((view tmB rows R D).tm[t]'(by simpa [view,Xc] using htl)):=List.getElem?_eq_getElem _
  have hrep:=hrel.tmps t _ hfull
  rcases XW _ _ _ _ _ _ hu with ⟨j,s,h1,h2,h3,h4⟩ | ⟨h1,h2⟩
  ·rw [List.getElem?_take] at h1
   split at h1
   ·rw [Nat.zero_add] at h2
    have:=X1Z hap h1 (D:=D) (hdep j h2) h3 hfull
    rw [this] at hrep
    rw [h4];exact hrep
   ·cases h1
  ·by_cases htd:t∈ds
   ·rw [← htm] at h2
    rw [X2H _ _ htd h2];exact .any _
   ·rcases XW _ _ _ _ _ _ hfull with ⟨j,s,g1,g2,g3,g4⟩ | ⟨g1,g2⟩
    ·exact absurd (hdsts j s t g1 g3) htd
    ·rw [h2] at g2
     simp only [Option.some.injEq] at g2
     rw [g2];exact hrep
 ·by_cases hq0:q < rows.length
  ·refine hrel.mem.row q row ?_
   simp only [view] at hq ⊢
   rw [List.getElem?_append_left hq0] at hq ⊢;exact hq
  ·simp only [view] at hq
   rw [List.getElem?_append_right (by omega)] at hq
   rcases X62 (R.take i) _ D 0 _ row hdep hq with rfl | hq
   ·cases μ q<;>exact trivial
   ·refine hrel.mem.row q row ?_
    simp only [view]
    rw [List.getElem?_append_right (by omega)]
    have hsp:=X1Y (R.take i) (R.drop i) D 0
    rw [List.take_append_drop] at hsp
    rw [hsp,List.getElem?_append_left ?_]
    ·exact hq
    ·rcases Nat.lt_or_ge (q - rows.length) (X6 (R.take i) D 0).length with h | h
     ·exact h
     ·rw [List.getElem?_eq_none h] at hq;cases hq
theorem Oper.wp_put {P:Program} {o:Oper} {a:Act} {w:World} {next next':Act→World→Prop} {Q:Exit→Act→World→Prop} (h:o.wp P a w next Q)
  (k:∀ a' w',(∃ v,a'.tmps=(a.put o.dst v).tmps)→next a' w'→next' a' w'):o.wp P a w next' Q:=by
 unfold Go.Oper.wp at *
 generalize (execOp a.eval o).run P w=r at *
 unfold Go.Oper.upon at *
 split
 ·exact k _ _ ⟨_,rfl⟩ h
 ·exact k _ _ ⟨_,rfl⟩ h
 ·refine k _ _ ⟨undef,?_⟩ h
  cases o.dst<;>rfl
 ·refine Calls.mono h fun e w'' hq => ?_
  cases e with
  | returned v=>exact k _ _ ⟨v,rfl⟩ hq
  | panicked c=>exact hq
  | outgrown=>exact hq
 ·exact Rows.mono h fun v w'' hq=>k _ _ ⟨v,rfl⟩ hq
 ·exact h
 ·split at h<;>simp_all
theorem X3x {a a':Act} {o:Oper} {t:Tmp} (h:∃ v,a'.tmps=(a.put o.dst v).tmps) (hd:XH t o=true):a'.tmps.getD t undef=a.tmps.getD t undef:=by
 obtain ⟨v,h⟩:=h
 rw [h]
 unfold XH at hd
 cases hx:o.dst with
 | none=>rfl
 | some d =>
  rw [hx] at hd
  simp only [Bool.not_eq_true',beq_eq_false_iff_ne] at hd
  simp only [Act.put]
  rw [Array.getD_eq_getD_getElem?,Array.getElem?_setIfInBounds_ne hd,← Array.getD_eq_getD_getElem?]
theorem X71 {a a':Act} {o:Oper} (h:∃ v,a'.tmps=(a.put o.dst v).tmps):a'.tmps.size=a.tmps.size:=by
 obtain ⟨v,h⟩:=h
 rw [h]
 cases o.dst<;>simp [Act.put]
theorem Rel.mask {st:St} {a:Act} {w:World} (h:Rel w0 st a w) (ds:List Tmp):Rel w0 (X1s ds st) a w:=by
 obtain ⟨μ,h⟩:=h
 refine ⟨μ,h.defers,by simp only [X1s,X1w];exact h.size,fun t u hu => ?_,h.mem⟩
 by_cases ht:t∈ds
 ·rw [X2H _ _ ht hu];exact .any _
 ·simp only [X1s] at hu
  rw [X3w _ _ ht] at hu
  exact h.tmps t u hu
theorem Rel.late {a:Act} {w:World}:∀ (L:List (Tmp × AV)) (st:St),Rel w0 st a w→(∀ p∈L,RepS p.2 (a.tmps.getD p.1 undef))→Rel w0 (setT L st) a w:=by
 intro L
 induction L with
 | nil=>intro st h _;exact h
 | cons p L ih =>
  intro st h hL
  refine ih { st with tm:=st.tm.set p.1 p.2 } ?_ fun q hq=>hL q (List.mem_cons_of_mem _ hq)
  obtain ⟨μ,h⟩:=h
  refine ⟨μ,h.defers,by simp [h.size],fun t u hu => ?_,h.mem⟩
  simp only at hu
  by_cases htp:p.1=t
  ·subst htp
   rw [List.getElem?_set_self'] at hu
   cases hx:st.tm[p.1]? with
   | none=>rw [hx] at hu;simp at hu
   | some y =>
    rw [hx] at hu;simp at hu;subst hu
    exact .of_S (hL p (by simp))
  ·rw [List.getElem?_set_ne htp] at hu
   exact h.tmps t u hu
structure Late (ops:List Oper) (R:List DR) (z s i d:Nat) (v:AV) (o:Oper):Prop where
 op:ops[z]? = some o
 guard:o.guard=none
 ex:o.op = .extract (.tmp s) i
 dst:o.dst=some d
 val:∃ new,R[z]? = some ⟨some d,v,new⟩
theorem X8s (hE:EOn P E w0) {ops:Array Oper} {R:List DR} {m m1:Nat} {Z:List Nat} {Q:Exit→Act→World→Prop} (hedge:∀ j o,ops.toList[j]? = some o→X1r j o=true)
  (hT1:∀ k o,m≤k→k < m1→ops.toList[k]? = some o→∀ j,j < k→j ∉ Z→(((X2 ops.toList [])[k]?).getD 0).testBit j=true)
  (hT2:∀ k o,m1≤k→ops.toList[k]? = some o→∀ j,j < k→(((X2 ops.toList [])[k]?).getD 0).testBit j=true)
  (hm:m≤m1) (hm1:m1≤ops.size) (hZ:∀ z∈Z,z < m∧∃ s i d v o,Late ops.toList R z s i d v o∧(∀ k o',m≤k→k < m1→ops.toList[k]? = some o'→XH d o'=true∧XH s o'=true)∧(∀ z'∈Z,∀ o',ops.toList[z']? = some o'→XH s o'=true))
  (hap:∀ z∈Z,∀ z'∈Z,∀ o o' d,ops.toList[z]? = some o→ops.toList[z']? = some o'→o.dst=some d→o'.dst=some d→z=z') {st1 st2:St} {ans1 ans2:List Ans} {C2:List Prop}
  (h2:X17 P E ops.toList (ops.toList.drop m1) (setT (Xo R Z) st1) ans1=some (st2,ans2,C2)) (hC2:All C2) (hQ:∀ a' w',Rel w0 st2 a' w'→Q .normal a' w') :
  ∀ (fuel i:Nat) (listed:Array Bool) (st:St) (ans:List Ans) (C:List Prop) (a:Act) (w:World),m≤i→i≤m1→listed.size=ops.size→listed.toList.countP (fun b => !b)≤fuel →
   (∀ j,j < i→j ∉ Z→listed.getD j false=true)→(∀ j,i≤j→listed.getD j false=false)→X2j ops.toList (fun j=>listed.getD j false) →
   evT1 P E ops.toList R Z (X2 ops.toList []) i ((ops.toList.take m1).drop i) (X1s ((Xo R Z).map (·.1)) st) ans=some (st1,ans1,C)→All C→Rel w0 (X1s ((Xo R Z).map (·.1)) st) a w →
   (∀ z∈Z,∀ s i d v o,Late ops.toList R z s i d v o→(∃ vs u,a.tmps.getD s undef = .tuple vs∧vs[i]? = some u∧RepS v u)∧(listed.getD z false=true→RepS v (a.tmps.getD d undef))∧d < a.tmps.size) →
   wpAny P .any ops Q fuel listed a w:=by
 intro fuel
 have hlz0:∀ Y:List Nat,(∀ z∈Y,z∈Z)→∀ p∈Xo R Y,∃ z∈Y,∃ s i o,Late ops.toList R z s i p.1 p.2 o:=by
  intro Y hY p hp
  unfold Xo at hp
  obtain ⟨z,hz0,hb⟩:=List.mem_filterMap.1 hp
  have hz:=hY z hz0
  obtain ⟨_,s,i,d,v,o,hl,_⟩:=hZ z hz
  obtain ⟨new,hv⟩:=hl.val
  rw [hv] at hb
  simp at hb;subst hb
  exact ⟨z,hz0,s,i,o,hl⟩
 have hlz:=hlz0 Z fun _ h=>h
 have hds:∀ z∈Z,∀ s i d v o,Late ops.toList R z s i d v o→d∈(Xo R Z).map (·.1):=by
  intro z hz s i d v o hl
  obtain ⟨new,hv⟩:=hl.val
  refine List.mem_map.2 ⟨(d,v),List.mem_filterMap.2 ⟨z,hz,?_⟩,rfl⟩
  rw [hv];rfl
 have fin:∀ (fuel:Nat) (listed:Array Bool) (st:St) (ans:List Ans) (C:List Prop) (a:Act) (w:World),listed.size=ops.size→ops.size - m1≤fuel →
   (∀ j,j < m1→listed.getD j false=true)→(∀ j,m1≤j→listed.getD j false=false) →
   evT1 P E ops.toList R Z (X2 ops.toList []) m1 ((ops.toList.take m1).drop m1) (X1s ((Xo R Z).map (·.1)) st) ans=some (st1,ans1,C)→Rel w0 (X1s ((Xo R Z).map (·.1)) st) a w →
   (∀ z∈Z,∀ s i d v o,Late ops.toList R z s i d v o→RepS v (a.tmps.getD d undef))→wpAny P .any ops Q fuel listed a w:=by
  intro fuel listed st ans C a w hs hf hl1 hl2 h hr hlate
  rw [List.drop_eq_nil_of_le (by simp;omega)] at h
  simp only [evT1,Option.some.injEq,Prod.mk.injEq] at h
  obtain ⟨rfl,rfl,rfl⟩:=h
  refine X4W hE hedge hT2 (ops.size - m1) m1 fuel _ st2 ans ans2 C2 listed a w rfl (Nat.le_refl _) hm1 hf h2 hC2 hs (fun j hj => ?_) (Rel.late (Xo R Z) _ hr fun p hp => ?_) hQ
  ·rw [Array.getElem?_eq_getElem (by omega)]
   by_cases hjm:j < m1
   ·have:=hl1 j hjm
    rw [Array.getD_eq_getD_getElem?,Array.getElem?_eq_getElem (by omega)] at this
    simp only [Option.getD_some] at this
    rw [this];simp [hjm]
   ·have:=hl2 j (by omega)
    rw [Array.getD_eq_getD_getElem?,Array.getElem?_eq_getElem (by omega)] at this
    simp only [Option.getD_some] at this
    rw [this];simp [hjm]
  ·obtain ⟨z,hz,s,i,o,hl⟩:=hlz p hp
   exact hlate z hz s i p.1 p.2 o hl
 have cnt:∀ (l:List Bool) (m:Nat),(∀ j,m≤j→l[j]?.getD false=false)→l.length - m≤l.countP (fun b => !b):=by
  intro l
  induction l with
  | nil=>intro m _;simp
  | cons x l ih =>
   intro m h
   cases m with
   | zero =>
    have h0:=h 0 (Nat.le_refl _)
    simp at h0;subst h0
    have:=ih 0 (fun j _=>by have:=h (j + 1) (by omega);simpa using this)
    simp;omega
   | succ m =>
    have:=ih m (fun j hj=>by have:=h (j + 1) (by omega);simpa using this)
    simp only [List.length_cons,List.countP_cons];omega
 have cnt':∀ (listed:Array Bool) (m:Nat),listed.size=ops.size→(∀ j,m≤j→listed.getD j false=false)→ops.size - m≤listed.toList.countP (fun b => !b):=by
  intro listed m hs h
  have:=cnt listed.toList m (fun j hj=>by have:=h j hj;rw [Array.getD_eq_getD_getElem?,← Array.getElem?_toList] at this;exact this)
  rwa [Array.length_toList,hs] at this
 induction fuel with
 | zero =>
  intro i listed st ans C a w hmi him1 hs hcnt hl1 hl2 hcl h hC hr hlate
  have hall:∀ j,j < ops.size→listed.getD j false=true:=by
   intro j hj
   have h0:listed.toList.countP (fun b => !b)=0:=by omega
   rw [List.countP_eq_zero] at h0
   have hjm:listed[j]'(by omega)∈listed.toList:=by simp
   have:=h0 _ hjm
   rw [Array.getD_eq_getD_getElem?,Array.getElem?_eq_getElem (by omega)]
   simpa using this
  have hie:i=ops.size:=by
   rcases Nat.lt_or_ge i ops.size with h | h
   ·have:=hall i h
    rw [hl2 i (Nat.le_refl _)] at this;cases this
   ·omega
  have him:i=m1:=by omega
  subst him
  exact fin 0 listed st ans C a w hs (by omega) (fun j hj=>hall j (by omega)) hl2 h hr fun z hz s i d v o hl=>(hlate z hz s i d v o hl).2.1 (hall z (by have:=(hZ z hz).1;omega))
 | succ fuel ih =>
  intro i listed st ans C a w hmi him1 hs hcnt hl1 hl2 hcl h hC hr hlate
  by_cases hdone:i=m1∧∀ z∈Z,listed.getD z false=true
  ·obtain ⟨rfl,hzd⟩:=hdone
   have:=cnt' listed i hs hl2
   exact fin (fuel + 1) listed st ans C a w hs (by omega) (fun j hj=>by
    by_cases hjz:j∈Z
    ·exact hzd j hjz
    ·exact hl1 j hj hjz) hl2 h hr fun z hz s i d v o hl=>(hlate z hz s i d v o hl).2.1 (hzd z hz)
  ·-- one that is ready
   have hpend:∃ k,k < m1∧listed.getD k false=false∧∀ j,j < k→listed.getD j false=true:=by
    have:∃ k,k < m1∧listed.getD k false=false:=by
     by_cases hi:i < m1
     ·exact ⟨i,hi,hl2 i (Nat.le_refl _)⟩
     ·have him:i=m1:=by omega
      have:¬ ∀ z∈Z,listed.getD z false=true:=fun hz=>hdone ⟨him,hz⟩
      simp only [Classical.not_forall] at this
      obtain ⟨z,hz,hf⟩:=this
      exact ⟨z,by have:=(hZ z hz).1;omega,by simpa using hf⟩
    obtain ⟨k,hk⟩:=this
    induction k using Nat.strongRecOn with
    | _ k ihk =>
     by_cases hx:∃ j,j < k∧listed.getD j false=false
     ·obtain ⟨j,hj1,hj2⟩:=hx
      exact ihk j hj1 ⟨by omega,hj2⟩
     ·refine ⟨k,hk.1,hk.2,fun j hj => ?_⟩
      cases hq:listed.getD j false with
      | true=>rfl
      | false=>exact absurd ⟨j,hj,hq⟩ hx
   have hne:Region.ready .any ops listed≠[]:=by
    obtain ⟨k,hk1,hk2,hk3⟩:=hpend
    intro hnil
    have:k∈Region.ready .any ops listed:=by
     rw [XY hs]
     refine ⟨by omega,?_,fun o ho e he hb=>hk3 _ (XF (hedge k o ho) he hb)⟩
     rw [Array.getD_eq_getD_getElem?,Array.getElem?_eq_getElem (by omega)] at hk2
     rw [Array.getElem?_eq_getElem (by omega)]
     simpa using hk2
    rw [hnil] at this;cases this
   refine ⟨fun hnil=>absurd hnil hne,fun k hk => ?_⟩
   rw [XY hs] at hk
   obtain ⟨hk1,hk2,hk3⟩:=hk
   have ho:ops.toList[k]? = some ops[k]:=by rw [Array.getElem?_toList];exact Array.getElem?_eq_getElem hk1
   have hDk:listed.getD k false=false:=by rw [Array.getD_eq_getD_getElem?,hk2];rfl
   have hdep:∀ b,(((X2 ops.toList [])[k]?).getD 0).testBit b=true→listed.getD b false=true:=X3f hcl hedge k _ ho (hk3 _ ho)
   have hsz:(listed.setIfInBounds k true).size=ops.size:=by simpa using hs
   have hset:∀ j,(listed.setIfInBounds k true).getD j false=upd (fun j=>listed.getD j false) k j:=fun j=>X70 (by omega)
   have hcnt2:(listed.setIfInBounds k true).toList.countP (fun b => !b)≤fuel:=by
    have:=X2q listed.toList k (by rw [Array.getElem?_toList];exact hk2)
    rw [Array.toList_setIfInBounds];omega
   have hcl2:X2j ops.toList (fun j=>(listed.setIfInBounds k true).getD j false):=by
    intro j o hoj hDj e he hbe
    simp only [hset,upd,Bool.or_eq_true,decide_eq_true_eq] at hDj ⊢
    rcases hDj with rfl | hDj
    ·exact .inr (hk3 o hoj e he hbe)
    ·exact .inr (hcl j o hoj hDj e he hbe)
   have hkm1:k < m1:=by
    rcases Nat.lt_or_ge k m1 with h | h
    ·exact h
    ·exfalso
     have hall:∀ j,j < k→listed.getD j false=true:=fun j hj=>hdep j (hT2 k _ h ho j hj)
     refine hdone ⟨?_,fun z hz=>hall z (by have:=(hZ z hz).1;omega)⟩
     rcases Nat.lt_or_ge i m1 with hi | hi
     ·have:=hall i (by omega)
      rw [hl2 i (Nat.le_refl _)] at this;cases this
     ·omega
   by_cases hkm:m≤k
   ·-- the next of the tail
    have hzm:∀ j,m≤j→j ∉ Z:=fun j hj hz=>by have:=(hZ j hz).1;omega
    have hki:k=i:=by
     have h1:i≤k:=by
      rcases Nat.lt_or_ge k i with h | h
      ·have:=hl1 k h (hzm k hkm)
       rw [hDk] at this;cases this
      ·exact h
     rcases Nat.lt_or_ge i k with h | h
     ·have:=hdep i (hT1 k _ hkm hkm1 ho i h (hzm i hmi))
      rw [hl2 i (Nat.le_refl _)] at this;cases this
     ·omega
    subst hki
    have hdrop:(ops.toList.take m1).drop k=ops[k] :: (ops.toList.take m1).drop (k + 1):=by
     rw [List.drop_eq_getElem_cons (by simp;omega)]
     simp
    rw [hdrop] at h
    simp only [evT1] at h
    split at h
    ·rename_i st3 ans3 C3 h3
     split at h
     ·rename_i st4 ans4 C4 h4
      simp only [Option.some.injEq,Prod.mk.injEq] at h
      obtain ⟨rfl,rfl,rfl⟩:=h
      rw [All.append] at hC
      unfold wpOp
      rw [Array.getElem?_eq_getElem hk1]
      simp only
      have hz2:∀ z∈Z,∀ s i d v o,Late ops.toList R z s i d v o→XH d ops[k]=true∧XH s ops[k]=true:=by
       intro z hz s i d v o hl
       obtain ⟨_,s',i',d',v',o',hl',hn,_⟩:=hZ z hz
       have e1:=hl.op.symm.trans hl'.op
       cases e1
       have e2:=hl.dst.symm.trans hl'.dst
       cases e2
       have e3:=hl.ex.symm.trans hl'.ex
       cases e3
       exact hn k _ hkm hkm1 ho
      have step:∀ a' w',(∃ v,a'.tmps=(a.put ops[k].dst v).tmps)→Rel w0 st3 a' w'→wpAny P .any ops Q fuel (listed.setIfInBounds k true) a' w':=by
       intro a' w' hput hr'
       refine ih (k + 1) _ st3 ans3 C4 a' w' (by omega) (by omega) hsz hcnt2 (fun j hj hjz => ?_) (fun j hj => ?_) hcl2 h4 hC.2 (hr'.mask _) fun z hz s i d v o hl => ?_
       ·rw [hset];simp only [upd,Bool.or_eq_true,decide_eq_true_eq]
        by_cases hjk:j=k
        ·exact .inl hjk
        ·exact .inr (hl1 j (by omega) hjz)
       ·rw [hset];simp only [upd,Bool.or_eq_false_iff,decide_eq_false_iff_not]
        exact ⟨by omega,hl2 j (by omega)⟩
       ·obtain ⟨n1,n2⟩:=hz2 z hz s i d v o hl
        rw [X3x hput n1,X3x hput n2]
        obtain ⟨q1,q2,q3⟩:=hlate z hz s i d v o hl
        refine ⟨q1,fun hlz'=>q2 ?_,by rw [X71 hput];exact q3⟩
        rw [hset] at hlz'
        simp only [upd,Bool.or_eq_true,decide_eq_true_eq] at hlz'
        rcases hlz' with rfl | hlz'
        ·exact absurd hz (hzm _ hkm)
        ·exact hlz'
      have hr3:Rel w0 (setT (Xo R (Z.filter fun z=>(((X2 ops.toList [])[k]?).getD 0).testBit z)) (X1s ((Xo R Z).map (·.1)) st)) a w:=by
       refine Rel.late _ _ hr fun p hp => ?_
       obtain ⟨z,hz,s,x,o,hl⟩:=hlz0 _ (fun z hz=>(List.mem_filter.1 hz).1) p hp
       obtain ⟨hz1,hz2⟩:=List.mem_filter.1 hz
       exact (hlate z hz1 s x p.1 p.2 o hl).2.1 (hdep z hz2)
      have hev:=X3Q (Q:=Q) hE h3 hC.1 hr3 (next:=fun a' w'=>Rel w0 st3 a' w') fun a' w' hr'=>hr'
      split at hev
      ·rename_i hw
       rw [if_pos hw]
       rcases hev with hev | hev
       ·exact .inl (Oper.wp_put hev fun a' w' hp hr'=>step a' w' hp hr')
       ·exact .inr hev
      ·rename_i hw
       rw [if_neg hw]
       exact step _ _ ⟨undef,rfl⟩ hev
     ·cases h
    ·cases h
   ·-- one that comes late
    have hkz:k∈Z:=by
     refine Classical.byContradiction fun hn => ?_
     have:=hl1 k (by omega) hn
     rw [hDk] at this;cases this
    obtain ⟨_,s,x,d,v,o,hl,hn,hss⟩:=hZ k hkz
    have hoo:o=ops[k]:=by have:=hl.op.symm.trans ho;cases this;rfl
    subst hoo
    obtain ⟨⟨vs,u,e1,e2,e3⟩,_,hdl⟩:=hlate k hkz s x d v _ hl
    unfold wpOp
    rw [Array.getElem?_eq_getElem hk1]
    simp only
    rw [if_pos (by simp [Region.wanted,hl.guard])]
    refine .inl ?_
    have hex:(execOp a.eval ops[k]).run P w = .ok (.value u) w:=by
     have hlt:x < vs.size:=by
      rcases Nat.lt_or_ge x vs.size with h | h
      ·exact h
      ·rw [Array.getElem?_eq_none h] at e2;cases e2
     rw [Array.getElem?_eq_getElem hlt] at e2
     have he:a.eval (.tmp s) = .tuple vs:=e1
     simp [execOp,hl.ex,he,Instr.extract,hlt,Option.some.inj e2]
    unfold Go.Oper.wp
    rw [hex]
    show wpAny P .any ops Q fuel (listed.setIfInBounds k true) (a.put ops[k].dst u) w
    have hdm:d∈(Xo R Z).map (·.1):=hds k hkz s x d v _ hl
    refine ih i _ st ans C _ w hmi him1 hsz hcnt2 (fun j hj hjz => ?_) (fun j hj => ?_) hcl2 h hC ?_ fun z hz s' i' d' v' o' hl' => ?_
    ·rw [hset];simp only [upd,Bool.or_eq_true,decide_eq_true_eq]
     exact .inr (hl1 j hj hjz)
    ·rw [hset];simp only [upd,Bool.or_eq_false_iff,decide_eq_false_iff_not]
     exact ⟨by omega,hl2 j hj⟩
    ·obtain ⟨μ,hr⟩:=hr
     refine ⟨μ,by cases ops[k].dst<;>exact hr.defers,?_,fun t y hy => ?_,hr.mem⟩
     ·have:=hr.size
      rw [hl.dst];simpa [Act.put] using this
     ·by_cases htd:t=d
      ·subst htd
       rw [show y = .any from X2H _ _ hdm hy];exact .any _
      ·have:=hr.tmps t y hy
       rw [hl.dst]
       simp only [Act.put]
       rw [Array.getD_eq_getD_getElem?,Array.getElem?_setIfInBounds_ne (fun e=>htd e.symm),← Array.getD_eq_getD_getElem?]
       exact this
    ·obtain ⟨⟨vs',u',g1,g2,g3⟩,g4,g5⟩:=hlate z hz s' i' d' v' o' hl'
     have hput:∃ q,(a.put ops[k].dst u).tmps=(a.put ops[k].dst q).tmps:=⟨u,rfl⟩
     have hsn:XH s' ops[k]=true:=by
      obtain ⟨_,s2,i2,d2,v2,o2,hl2',_,hs2⟩:=hZ z hz
      have f1:=hl'.op.symm.trans hl2'.op
      cases f1
      have f3:=hl'.ex.symm.trans hl2'.ex
      cases f3
      exact hs2 k hkz _ ho
     refine ⟨⟨vs',u',by rw [X3x hput hsn];exact g1,g2,g3⟩,fun hlz' => ?_,by rw [X71 hput];exact g5⟩
     by_cases hzk:z=k
     ·subst hzk
      have f1:=hl'.op.symm.trans hl.op
      cases f1
      have f2:=hl'.dst.symm.trans hl.dst
      cases f2
      obtain ⟨n1,f4⟩:=hl'.val
      obtain ⟨n2,f5⟩:=hl.val
      have f6:=f4.symm.trans f5
      cases f6
      rw [hl.dst]
      simp only [Act.put]
      rw [Array.getD_eq_getD_getElem?,Array.getElem?_setIfInBounds_self_of_lt hdl]
      exact e3
     ·have hnd:XH d' ops[k]=true:=by
       unfold XH
       rw [hl.dst]
       simp only [Bool.not_eq_true',beq_eq_false_iff_ne,ne_eq]
       intro e
       exact hzk (hap z hz k hkz o' _ d' hl'.op ho hl'.dst (by rw [hl.dst,e]))
      rw [X3x hput hnd]
      refine g4 ?_
      rw [hset] at hlz'
      simp only [upd,Bool.or_eq_true,decide_eq_true_eq] at hlz'
      rcases hlz' with rfl | hlz'
      ·exact absurd rfl hzk
      ·exact hlz'
theorem X3S {Z:List Nat}:∀ (l:List Nat) (i k:Nat) (d:Nat),X2y Z l i=true→l[k]? = some d→∀ j,j < i + k→j ∉ Z→d.testBit j=true
 | [],i,k,d,_,h=>by simp at h
 | x :: l,i,0,d,h,e=>by
  simp at e;subst e
  simp only [X2y,Bool.and_eq_true,List.all_eq_true,List.mem_range,Bool.or_eq_true,List.contains_iff_mem] at h
  intro j hj hz
  rcases h.1 j (by omega) with h | h
  ·exact h
  ·exact absurd h hz
 | x :: l,i,k + 1,d,h,e=>by
  simp only [X2y,Bool.and_eq_true] at h
  intro j hj
  exact X3S l (i + 1) k d h.2 (by simpa using e) j (by omega)
theorem X72:∀ (R:List DR) (D D':Nat→Bool) (k:Nat),(∀ (j:Nat) (r:DR),R[j]? = some r→r.new≠[]→D (k + j)=D' (k + j))→X6 R D k=X6 R D' k:=by
 intro R
 induction R with
 | nil=>intro D D' k _;rfl
 | cons r R ih =>
  intro D D' k h
  unfold X6
  have h1:∀ (j:Nat) (r:DR),R[j]? = some r→r.new≠[]→D (k + 1 + j)=D' (k + 1 + j):=fun j r' e hn=>by
   have:=h (j + 1) r' (by simpa using e) hn
   rwa [show k + 1 + j=k + (j + 1) from by omega]
  rw [ih D D' (k + 1) h1]
  congr 1
  by_cases hn:r.new=[]
  ·rw [hn];cases D k<;>cases D' k<;>rfl
  ·have:=h 0 r rfl hn
   rw [Nat.add_zero] at this
   rw [this]
theorem X93 {H:Array Obj} {μ:Nat→Option FP} {c:AV} {v:Value} (h:Rep H μ c v) (hs:isSc c=true):RepS c v:=by
 cases h<;>simp [isSc] at hs
 ·rfl
 ·rfl
 ·exact ⟨_,rfl,‹_›,‹_›⟩
theorem X94 (hE:EOn P E w0) {ops:Array Oper} {st st2 stA:St} {m m1:Nat} {Z:List Nat} {ans0 ansP ansA ans2:List Ans} {R:List DR} {C1 CA C2:List Prop} {tmB:List AV}
  (hnd:XU (X1X (ops.toList.take m))=true) (hedges:X1H ops.toList 0=true) (htz:X2y Z (((X2 ops.toList []).take m1).drop m) m=true) (htl:X2G ((X2 ops.toList []).drop m1) m1=true)
  (hmm:m≤m1) (hml:m1≤ops.toList.length) (hlzok:Z.all (X4V ops.toList (X2 ops.toList []) m Z ((ops.toList.take m1).drop m))=true)
  (hpre:X48 P E ops.toList (X2 ops.toList []) tmB st.rows (ops.toList.take m) [] ans0=some (R,ansP,C1)) (hsc:(Xo R Z).all (fun p=>isSc p.2 && Nat.blt p.1 st.tm.length)=true)
  (hT:evT1 P E ops.toList R Z (X2 ops.toList []) m ((ops.toList.take m1).drop m) (X1s ((Xo R Z).map (·.1)) (view tmB st.rows R (fun _=>true))) ansP=some (stA,ansA,CA))
  (htail:X17 P E ops.toList (ops.toList.drop m1) (setT (Xo R Z) stA) ansA=some (st2,ans2,C2)) (hCp:All C1) (hCA:All CA) (hCt:All C2)
  (htm:(X1X (ops.toList.take m)).foldl (fun tm d=>tm.set d .any) st.tm=tmB) {Q:Exit→Act→World→Prop}
  (hQ:∀ a' w',Rel w0 st2 a' w'→Q .normal a' w') {a:Act} {w:World} (hr:Rel w0 st a w):wpAny P .any ops Q ops.size (Array.replicate ops.size false) a w:=by
 obtain ⟨hR,_,hspec⟩:=X8q _ _ _ _ _ _ hpre hCp
 simp only [List.length_nil,Nat.zero_add] at hR hspec
 have hm1':m1≤ops.size:=by simpa using hml
 have hml':m≤ops.size:=by omega
 have hRm:R.length=m:=by rw [hR];simp;omega
 have hedge:∀ j o,ops.toList[j]? = some o→X1r j o=true:=fun j o e=>by have:=X2n _ 0 j o hedges e;rwa [Nat.zero_add] at this
 have hdl:(X2 ops.toList []).length=ops.size:=by
  obtain ⟨t,h1,h2⟩:=X29 ops.toList []
  rw [h1];simp [h2]
 have hkd:∀ (k:Nat) (o:Oper),ops.toList[k]? = some o→∃ d,(X2 ops.toList [])[k]? = some d:=by
  intro k o ho
  have hk:k < ops.size:=by
   rcases Nat.lt_or_ge k ops.size with h | h
   ·exact h
   ·rw [List.getElem?_eq_none (by simpa using h)] at ho;cases ho
  exact ⟨_,List.getElem?_eq_getElem (by rw [hdl];exact hk)⟩
 have hT2:∀ (k:Nat) (o:Oper),m1≤k→ops.toList[k]? = some o→∀ j,j < k→(((X2 ops.toList [])[k]?).getD 0).testBit j=true:=by
  intro k o hk ho j hj
  obtain ⟨d,hd⟩:=hkd k o ho
  rw [hd,Option.getD_some]
  refine X39 _ m1 (k - m1) _ htl ?_ j (by omega)
  rw [List.getElem?_drop,show m1 + (k - m1)=k from by omega,hd]
 have hT1:∀ (k:Nat) (o:Oper),m≤k→k < m1→ops.toList[k]? = some o→∀ j,j < k→j ∉ Z→(((X2 ops.toList [])[k]?).getD 0).testBit j=true:=by
  intro k o hk hk1 ho j hj hz
  obtain ⟨d,hd⟩:=hkd k o ho
  rw [hd,Option.getD_some]
  refine X3S _ m (k - m) _ htz ?_ j (by omega) hz
  rw [List.getElem?_drop,show m + (k - m)=k from by omega,List.getElem?_take_of_lt hk1,hd]
 have htail':∀ (k:Nat) (o:Oper),m≤k→ops.toList[k]? = some o→∀ j,j < m→j ∉ Z→(((X2 ops.toList [])[k]?).getD 0).testBit j=true:=by
  intro k o hk ho j hj hz
  rcases Nat.lt_or_ge k m1 with h | h
  ·exact hT1 k o hk h ho j (by omega) hz
  ·exact hT2 k o h ho j (by omega)
 have hap:X6a R:=X9y hnd (by simp [hRm];omega) fun i o ho=>by
  obtain ⟨an,r,_,_,h3⟩:=hspec i o ho
  exact ⟨_,h3,rfl⟩
 have hdsts:∀ (i:Nat) (r:DR) (t:Tmp),R[i]? = some r→r.dst=some t→t∈X1X (ops.toList.take m):=by
  intro i r t hi ht
  have hil:i < (ops.toList.take m).length:=by
   rw [← hR]
   rcases Nat.lt_or_ge i R.length with h | h
   ·exact h
   ·rw [List.getElem?_eq_none h] at hi;cases hi
  obtain ⟨an,r',_,_,h3⟩:=hspec i _ (List.getElem?_eq_getElem hil)
  rw [hi] at h3;cases h3
  exact List.mem_filterMap.2 ⟨_,List.getElem_mem hil,ht⟩
 have hlate:∀ z∈Z,z < m∧∃ s i d v o,Late ops.toList R z s i d v o∧(∀ k o',m≤k→k < m1→ops.toList[k]? = some o'→XH d o'=true∧XH s o'=true)∧(∀ z'∈Z,∀ o',ops.toList[z']? = some o'→XH s o'=true):=by
  intro z hz
  have hl:=List.all_eq_true.1 hlzok z hz
  unfold X4V at hl
  simp only [Bool.and_eq_true,Nat.blt_eq] at hl
  obtain ⟨hzm,hl⟩:=hl
  refine ⟨hzm,?_⟩
  cases ho:ops.toList[z]? with
  | none=>rw [ho] at hl;cases hl
  | some o =>
   rw [ho] at hl
   simp only [Bool.and_eq_true] at hl
   obtain ⟨hg,hl⟩:=hl
   have hg:o.guard=none:=by simpa using hg
   cases hx:X4U o.op with
   | none=>rw [hx] at hl;cases hl
   | some s =>
    rw [hx] at hl
    obtain ⟨i,hx⟩:=X8m hx
    cases hd:o.dst with
    | none=>rw [hd] at hl;cases hl
    | some d =>
     rw [hd] at hl
     simp only [Bool.and_eq_true,List.all_eq_true,Bool.not_eq_true'] at hl
     obtain ⟨an,r,hev,hrC,hRz⟩:=hspec z o (by rw [List.getElem?_take_of_lt hzm];exact ho)
     refine ⟨s,i,d,r.av,o,⟨ho,hg,hx,hd,r.new,by rw [hRz,hd]⟩,fun k o' hk hk1 ho' => ?_,fun z' hz' o' ho' => ?_⟩
     ·have:=hl.1 o' (List.mem_of_getElem? (i:=k - m) (by rw [List.getElem?_drop,show m + (k - m)=k from by omega,List.getElem?_take_of_lt hk1];exact ho'))
      exact this
     ·have:=(hl.2 z' hz').2
      rw [ho'] at this;exact this
 have hnew:∀ z∈Z,∀ r,R[z]? = some r→r.new=[]:=by
  intro z hz r hr
  obtain ⟨hzm,s,i,d,v,o,hl,_⟩:=hlate z hz
  obtain ⟨an,r',hev,_,hRz⟩:=hspec z o (by rw [List.getElem?_take_of_lt hzm];exact hl.op)
  rw [hr] at hRz;cases hRz
  unfold evPO at hev
  rw [hl.guard] at hev
  simp only [evpL,evp,hl.ex] at hev
  split at hev
  ·split at hev
   ·simp only [Option.some.injEq] at hev;subst hev;rfl
   ·cases hev
  ·cases hev
 have hgo:∀ (fuel:Nat) (listed:Array Bool) (a:Act) (w:World),listed.size=ops.size→listed.toList.countP (fun b => !b)≤fuel→X2j ops.toList (fun j=>listed.getD j false) →
   (∀ j,m≤j→listed.getD j false=false)→(∀ j,j < m→j ∉ Z→listed.getD j false=true)→Rel w0 (view tmB st.rows R (fun j=>listed.getD j false)) a w→wpAny P .any ops Q fuel listed a w:=by
  intro fuel listed a w hs hcnt hcl hnt hall hrel
  refine X8s hE hedge hT1 hT2 hmm hm1' hlate (fun z hz z' hz' o o' d ho ho' hd hd' => ?_) htail hCt hQ fuel m listed _ ansP CA a w (Nat.le_refl _) hmm hs hcnt (fun j hj hjz=>hall j hj hjz) hnt hcl hT hCA ?_ ?_
  ·obtain ⟨_,_,_,_,v,o1,hl,_⟩:=hlate z hz
   obtain ⟨_,_,_,_,v',o2,hl',_⟩:=hlate z' hz'
   have e1:=hl.op.symm.trans ho;cases e1
   have e2:=hl'.op.symm.trans ho';cases e2
   have e3:=hl.dst.symm.trans hd;cases e3
   have e4:=hl'.dst.symm.trans hd';cases e4
   obtain ⟨n1,f1⟩:=hl.val
   obtain ⟨n2,f2⟩:=hl'.val
   exact hap z z' _ _ d f1 f2 rfl rfl
  ·obtain ⟨μ,hrel⟩:=hrel
   have hrows:(view tmB st.rows R (fun j=>listed.getD j false)).rows=(view tmB st.rows R (fun _=>true)).rows:=by
    simp only [view]
    congr 1
    refine X72 R _ _ 0 fun j r hj hn => ?_
    rw [Nat.zero_add]
    have hjm:j < m:=by
     rw [← hRm]
     rcases Nat.lt_or_ge j R.length with h | h
     ·exact h
     ·rw [List.getElem?_eq_none h] at hj;cases hj
    exact hall j hjm fun hz=>hn (hnew j hz r hj)
   refine ⟨μ,hrel.defers,?_,fun t u hu => ?_,?_⟩
   ·have:=hrel.size
    simp only [X1s,X1w,view,Xc] at this ⊢;exact this
   ·by_cases htd:t∈(Xo R Z).map (·.1)
    ·rw [X2H _ _ htd hu];exact .any _
    ·simp only [X1s] at hu
     rw [X3w _ _ htd] at hu
     refine hrel.tmps t u ?_
     simp only [view] at hu ⊢
     have htl:t < (Xz tmB R (fun j=>listed.getD j false) 0).length:=by
      rw [Xc]
      rcases Nat.lt_or_ge t tmB.length with h | h
      ·exact h
      ·rw [List.getElem?_eq_none (by rw [Xc];exact h)] at hu;cases hu
     have hv:(Xz tmB R (fun j=>listed.getD j false) 0)[t]? = some ((Xz tmB R (fun j=>listed.getD j false) 0)[t]):=List.getElem?_eq_getElem htl
     rw [hv]
     congr 1
     rcases XW _ _ _ _ _ _ hu with ⟨j,r,g1,g2,g3,g4⟩ | ⟨g1,g2⟩
     ·have hjm:j < m:=by
       rw [← hRm]
       rcases Nat.lt_or_ge j R.length with h | h
       ·exact h
       ·rw [List.getElem?_eq_none h] at g1;cases g1
      have hjz:j ∉ Z:=fun hz=>htd (List.mem_map.2 ⟨(t,r.av),List.mem_filterMap.2 ⟨j,hz,by rw [g1];simp [g3]⟩,rfl⟩)
      rw [g4]
      exact X1Z hap g1 (D:=fun j=>listed.getD j false) (hall j hjm hjz) g3 hv
     ·rcases XW _ _ _ _ _ _ hv with ⟨j,r,k1,k2,k3,k4⟩ | ⟨k1,k2⟩
      ·exact absurd k3 (g1 j r k1 rfl)
      ·rw [g2] at k2;exact (Option.some.inj k2).symm
   ·have:=hrel.mem
    rw [hrows] at this
    exact this
  ·intro z hz s i d v o hl
   have hzm:=(hlate z hz).1
   obtain ⟨new,hval⟩:=hl.val
   have hmem:(d,v)∈Xo R Z:=List.mem_filterMap.2 ⟨z,hz,by rw [hval];rfl⟩
   have hsz:=List.all_eq_true.1 hsc _ hmem
   simp only [Bool.and_eq_true,Nat.blt_eq] at hsz
   obtain ⟨μ,hrel⟩:=hrel
   refine ⟨?_,fun hlz' => ?_,?_⟩
   ·obtain ⟨an,r,hev,_,hRz⟩:=hspec z o (by rw [List.getElem?_take_of_lt hzm];exact hl.op)
    rw [hval,hl.dst] at hRz
    simp only [Option.some.injEq,DR.mk.injEq,true_and] at hRz
    obtain ⟨hav,_⟩:=hRz
    have hdepz:∀ b,(((X2 ops.toList [])[z]?).getD 0).testBit b=true→listed.getD b false=true:=by
     intro b hb
     have hbz:b < z:=by
      have:=X3f (D:=fun j=>decide (j < z)) (fun j o' ho' hj e he hbe=>by
       simp only [decide_eq_true_eq] at hj ⊢
       have:=XF (hedge j o' ho') he hbe
       omega) hedge z o hl.op (fun e he hbe=>by
       simp only [decide_eq_true_eq]
       exact XF (hedge z o hl.op) he hbe) b hb
      simpa using this
     refine hall b (by omega) fun hbZ => ?_
     have hl2:=List.all_eq_true.1 hlzok z hz
     unfold X4V at hl2
     rw [hl.op] at hl2
     simp only [hl.guard,hl.ex,hl.dst,X4U,Bool.and_eq_true,List.all_eq_true,Bool.not_eq_true'] at hl2
     have:=(hl2.2.2.2 b hbZ).1
     rw [hb] at this;cases this
    have hweak:=X5F htm hap hdsts hrel (i:=z) hdepz
    unfold evPO at hev
    rw [hl.guard] at hev
    simp only [evpL,evp,hl.ex,opd] at hev
    split at hev
    ·rename_i us hus
     split at hev
     ·rename_i v' hv'
      simp only [Option.some.injEq] at hev;subst hev
      simp only at hav;subst hav
      cases htms:(view tmB st.rows (R.take z) (Nat.testBit (((X2 ops.toList [])[z]?).getD 0))).tm[s]? with
      | none=>rw [htms] at hus;simp at hus
      | some y =>
       rw [htms] at hus;simp at hus;subst hus
       have hrep:=hweak.tmps s _ htms
       generalize a.tmps.getD s undef=q at hrep
       cases hrep with
       | tup _ vs hs1 hs2 =>
        have hrv:=hs2 i _ hv'
        have hil:i < vs.size:=by
         rw [hs1]
         rcases Nat.lt_or_ge i us.length with h | h
         ·exact h
         ·rw [List.getElem?_eq_none h] at hv';cases hv'
        rw [Array.getD_eq_getD_getElem?,Array.getElem?_eq_getElem hil] at hrv
        exact ⟨vs,vs[i],rfl,Array.getElem?_eq_getElem hil,X93 hrv hsz.1⟩
     ·cases hev
    ·cases hev
   ·have htl:d < (Xz tmB R (fun j=>listed.getD j false) 0).length:=by
     rw [Xc,← htm,X1w];exact hsz.2
    have hv:(view tmB st.rows R (fun j=>listed.getD j false)).tm[d]? = some ((Xz tmB R (fun j=>listed.getD j false) 0)[d]):=List.getElem?_eq_getElem htl
    have hrep:=hrel.tmps d _ hv
    rw [X1Z hap hval (D:=fun j=>listed.getD j false) hlz' rfl hv] at hrep
    exact X93 hrep hsz.1
   ·rw [hrel.size]
    simp only [view,Xc]
    rw [← htm,X1w];exact hsz.2
 have main:∀ (fuel:Nat) (listed:Array Bool) (a:Act) (w:World),listed.size=ops.size→listed.toList.countP (fun b => !b)≤fuel→X2j ops.toList (fun j=>listed.getD j false) →
   (∀ j,m≤j→listed.getD j false=false)→Rel w0 (view tmB st.rows R (fun j=>listed.getD j false)) a w→wpAny P .any ops Q fuel listed a w:=by
  intro fuel
  induction fuel with
  | zero =>
   intro listed a w hs hcnt hcl hnt hrel
   have hall:∀ j,j < ops.size→listed.getD j false=true:=by
    intro j hj
    have h0:listed.toList.countP (fun b => !b)=0:=by omega
    rw [List.countP_eq_zero] at h0
    have hjm:listed[j]'(by omega)∈listed.toList:=by simp
    have:=h0 _ hjm
    rw [Array.getD_eq_getD_getElem?,Array.getElem?_eq_getElem (by omega)]
    simpa using this
   exact hgo 0 listed a w hs hcnt hcl hnt (fun j hj _=>hall j (by omega)) hrel
  | succ fuel ih =>
   intro listed a w hs hcnt hcl hnt hrel
   by_cases hallp:∀ j,j < m→j ∉ Z→listed.getD j false=true
   ·exact hgo (fuel + 1) listed a w hs hcnt hcl hnt hallp hrel
   ·-- some operation of the first part stands out
    have hfind:∃ i,i < m∧listed.getD i false=false∧∀ j,j < i→listed.getD j false=true:=by
     have:∃ i,i < m∧listed.getD i false=false:=by
      simp only [Classical.not_forall] at hallp
      obtain ⟨i,hi,_,hf⟩:=hallp
      exact ⟨i,hi,by simpa using hf⟩
     obtain ⟨i,hi⟩:=this
     induction i using Nat.strongRecOn with
     | _ i ihi =>
      by_cases hx:∃ j,j < i∧listed.getD j false=false
      ·obtain ⟨j,hj1,hj2⟩:=hx
       exact ihi j hj1 ⟨by omega,hj2⟩
      ·refine ⟨i,hi.1,hi.2,fun j hj => ?_⟩
       cases hq:listed.getD j false with
       | true=>rfl
       | false=>exact absurd ⟨j,hj,hq⟩ hx
    have hne:Region.ready .any ops listed≠[]:=by
     obtain ⟨i,hi1,hi2,hi3⟩:=hfind
     intro hnil
     have:i∈Region.ready .any ops listed:=by
      rw [XY hs]
      refine ⟨by omega,?_,fun o ho e he hb=>hi3 _ (XF (hedge i o ho) he hb)⟩
      rw [Array.getD_eq_getD_getElem?,Array.getElem?_eq_getElem (by omega)] at hi2
      rw [Array.getElem?_eq_getElem (by omega)]
      simpa using hi2
     rw [hnil] at this;cases this
    refine ⟨fun hnil=>absurd hnil hne,fun i hi => ?_⟩
    rw [XY hs] at hi
    obtain ⟨hi1,hi2,hi3⟩:=hi
    have ho:ops.toList[i]? = some ops[i]:=by rw [Array.getElem?_toList];exact Array.getElem?_eq_getElem hi1
    have hDi:listed.getD i false=false:=by rw [Array.getD_eq_getD_getElem?,hi2];rfl
    have hdep:∀ b,(((X2 ops.toList [])[i]?).getD 0).testBit b=true→listed.getD b false=true:=X3f hcl hedge i _ ho (hi3 _ ho)
    have him:i < m:=by
     rcases Nat.lt_or_ge i m with h | h
     ·exact h
     ·exfalso
      exact hallp fun j hj hz=>hdep j (htail' i _ h ho j hj hz)
    obtain ⟨an,r,hev,hrC,hRi⟩:=hspec i ops[i] (by rw [List.getElem?_take_of_lt him];exact ho)
    obtain ⟨μ,hrel⟩:=hrel
    have hup:=X6Y (D:=fun j=>listed.getD j false) hRi hDi st.rows
    have hlen:(view tmB st.rows (R.take i) (Nat.testBit (((X2 ops.toList [])[i]?).getD 0))).rows.length=st.rows.length + Xk (R.take i):=by simp [view,XX]
    have hlo:st.rows.length + Xk (R.take i)≤(view tmB st.rows R (fun j=>listed.getD j false)).rows.length:=by
     simp only [view,List.length_append,XX]
     have:=X5k (R.take i) (R.drop i)
     rw [List.take_append_drop] at this
     omega
    have hnone:∀ q,st.rows.length + Xk (R.take i)≤q→q < st.rows.length + Xk (R.take i) + r.new.length→μ q=none:=by
     intro q h1 h2
     have:=hup.2 (q - (st.rows.length + Xk (R.take i))) (by simp only;omega)
     rw [show st.rows.length + Xk (R.take i) + (q - (st.rows.length + Xk (R.take i)))=q from by omega] at this
     exact hrel.mem.dead q this
    have hweak:RelW w0 μ (view tmB st.rows (R.take i) (Nat.testBit (((X2 ops.toList [])[i]?).getD 0))) a w:=X5F htm hap hdsts hrel hdep
    unfold wpOp
    rw [Array.getElem?_eq_getElem hi1]
    refine X8p hE.toEOk hweak hev hrC (by rw [hlen];exact hnone) fun x w' hpost => ?_
    obtain ⟨μ',hg,hb,hx⟩:=hpost
    rw [hlen] at hg
    have hgrow:=hrel.grow hb hg hlo hnone
    have hsz:(listed.setIfInBounds i true).size=ops.size:=by simpa using hs
    have hset:∀ j,(listed.setIfInBounds i true).getD j false=upd (fun j=>listed.getD j false) i j:=fun j=>X70 (by omega)
    refine ih _ _ w' hsz ?_ ?_ ?_ ⟨μ',?_⟩
    ·have:=X2q listed.toList i (by rw [Array.getElem?_toList];exact hi2)
     rw [Array.toList_setIfInBounds]
     omega
    ·intro j o hoj hDj e he hbe
     simp only [hset,upd,Bool.or_eq_true,decide_eq_true_eq] at hDj ⊢
     rcases hDj with rfl | hDj
     ·exact .inr (hi3 o hoj e he hbe)
     ·exact .inr (hcl j o hoj hDj e he hbe)
    ·intro j hj
     rw [hset]
     have:j≠i:=by omega
     simp only [upd,this,decide_false,Bool.false_or]
     exact hnt j hj
    ·have hview:view tmB st.rows R (fun j=>(listed.setIfInBounds i true).getD j false)=view tmB st.rows R (upd (fun j=>listed.getD j false) i):=X8r fun j _=>hset j
     rw [hview]
     have hput:=hgrow.put ops[i].dst hx
     have hrowsEq:(view tmB st.rows R (upd (fun j=>listed.getD j false) i)).rows=lay (view tmB st.rows R (fun j=>listed.getD j false)).rows (st.rows.length + Xk (R.take i)) r.new:=hup.1
     refine ⟨hput.defers,?_,fun t u hu => ?_,?_⟩
     ·have:=hput.size
      rw [St.put_tm] at this
      simp only [view,Xc] at this ⊢
      rw [this]
      cases ops[i].dst<;>simp [St.put,Xc]
     ·have hput2:∀ v,(X1W (Xz tmB R (fun j=>listed.getD j false) 0) ops[i].dst r.av)[t]? = some v→Rep w0.heap μ' v ((a.put ops[i].dst x).tmps.getD t undef):=by
       intro v hv
       refine hput.tmps t v ?_
       rw [St.put_tm]
       cases hd:ops[i].dst with
       | none=>rw [hd] at hv;exact hv
       | some d=>rw [hd] at hv;exact hv
      have htl:t < tmB.length:=by
       have:t < (view tmB st.rows R (upd (fun j=>listed.getD j false) i)).tm.length:=by
        rcases Nat.lt_or_ge t (view tmB st.rows R (upd (fun j=>listed.getD j false) i)).tm.length with h | h
        ·exact h
        ·rw [List.getElem?_eq_none h] at hu;cases hu
       simpa [view,Xc] using this
      have hold:∃ v,(Xz tmB R (fun j=>listed.getD j false) 0)[t]? = some v:=⟨_,List.getElem?_eq_getElem (by rw [Xc];exact htl)⟩
      obtain ⟨v,hv⟩:=hold
      by_cases hdt:ops[i].dst=some t
      ·have hu':=X1Z hap hRi (D:=upd (fun j=>listed.getD j false) i) (by simp [upd]) hdt hu
       simp only at hu'
       refine hput2 u ?_
       rw [hdt]
       simp only [X1W]
       rw [List.getElem?_set_self (by rw [Xc];exact htl),hu']
      ·have hsame:(X1W (Xz tmB R (fun j=>listed.getD j false) 0) ops[i].dst r.av)[t]? = some v:=by
        cases hd:ops[i].dst with
        | none=>exact hv
        | some d =>
         simp only [X1W]
         rw [List.getElem?_set_ne (fun e=>hdt (by rw [hd,e]))];exact hv
       have huv:u=v:=by
        rcases XW _ _ _ _ _ _ hu with ⟨j,s,g1,g2,g3,g4⟩ | ⟨g1,g2⟩
        ·simp only [Nat.zero_add,upd,Bool.or_eq_true,decide_eq_true_eq] at g2
         rcases g2 with rfl | g2
         ·rw [hRi] at g1;cases g1
          exact absurd g3 hdt
         ·rw [g4];exact (X1Z hap g1 (D:=fun j=>listed.getD j false) g2 g3 hv).symm
        ·rcases XW _ _ _ _ _ _ hv with ⟨j,s,k1,k2,k3,k4⟩ | ⟨k1,k2⟩
         ·exact absurd k3 (g1 j s k1 (by simp only [Nat.zero_add] at k2;simp [upd,k2]))
         ·rw [g2] at k2;exact Option.some.inj k2
       rw [huv];exact hput2 v hsame
     ·rw [hrowsEq]
      have:=hput.mem
      rw [St.put_rows] at this
      exact this
 obtain ⟨μ,hr⟩:=hr
 have hrep0:∀ j,(Array.replicate ops.size false).getD j false=false:=by
  intro j
  rw [Array.getD_eq_getD_getElem?,Array.getElem?_replicate];split<;>rfl
 refine main ops.size _ a w (by simp) ?_ ?_ (fun j _=>hrep0 j) ?_
 ·simp [Array.toList_replicate,List.countP_replicate]
 ·intro j o _ hDj
  have h1:(Array.replicate ops.size false).getD j false=true:=hDj
  rw [hrep0] at h1;cases h1
 ·-- nothing taken yet: all rows of the first part are dead
  have hdead:∀ (R:List DR) (k q:Nat) (row:Row),(X6 R (fun j=>(Array.replicate ops.size false).getD j false) k)[q]? = some row→row = .dead:=by
   intro R
   rw [show (fun j=>(Array.replicate ops.size false).getD j false)=fun _=>false from funext hrep0]
   induction R with
   | nil=>intro k q row h;simp [X6] at h
   | cons r R ih =>
    intro k q row h
    unfold X6 at h
    simp only at h
    by_cases hq:q < r.new.length
    ·rw [List.getElem?_append_left (by simpa using hq)] at h
     simp at h;exact h.2.symm
    ·rw [List.getElem?_append_right (by simp;omega)] at h
     exact ih _ _ row h
  refine ⟨μ,hr.defers,by simp only [view,Xc];rw [hr.size,← htm,X1w],fun t u hu => ?_,⟨⟨hr.mem.bel,fun q row hq => ?_,hr.mem.sep,hr.mem.nodup,hr.mem.own⟩,fun q hq=>hr.mem.out q (by simp only [view,List.length_append] at hq;omega),fun q hq => ?_,hr.mem.pin⟩⟩
  ·rcases XW _ _ _ _ _ _ hu with ⟨j,s,g1,g2,g3,g4⟩ | ⟨g1,g2⟩
   ·rw [hrep0] at g2;cases g2
   ·by_cases htd:t∈X1X (ops.toList.take m)
    ·rw [← htm] at g2
     rw [X2H _ _ htd g2];exact .any _
    ·rw [← htm,X3w _ _ htd] at g2
     exact hr.tmps t u g2
  ·by_cases hq0:q < st.rows.length
   ·simp only [view] at hq
    rw [List.getElem?_append_left hq0] at hq
    exact hr.mem.row q row hq
   ·simp only [view] at hq
    rw [List.getElem?_append_right (by omega)] at hq
    rw [hdead _ _ _ _ hq]
    cases μ q<;>exact trivial
  ·by_cases hq0:q < st.rows.length
   ·simp only [view] at hq
    rw [List.getElem?_append_left hq0] at hq
    exact hr.mem.dead q hq
   ·exact hr.mem.out q (by omega)
theorem X8t (hE:EOn P E w0) {ops:Array Oper} {st st':St} {ans ans':List Ans} {C:List Prop} (h:X6X P E ops.toList st ans=some (st',ans',C)) (hC:All C) {Q:Exit→Act→World→Prop}
  (hQ:∀ a' w',Rel w0 st' a' w'→Q .normal a' w') {a:Act} {w:World} (hr:Rel w0 st a w):wpAny P .any ops Q ops.size (Array.replicate ops.size false) a w:=by
 unfold X6X at h
 split at h
 ·rename_i m m1 Z ans0 _
  split at h
  ·rename_i hchk
   simp only [Bool.and_eq_true,Nat.ble_eq] at hchk
   obtain ⟨⟨⟨⟨⟨hnd,hedges⟩,htz⟩,htl⟩,hmm,hml⟩,hlzok⟩:=hchk
   split at h
   ·rename_i R ans1 C1 hpre
    split at h
    ·rename_i hsc
     split at h
     ·rename_i stA ansA CA hT
      split at h
      ·rename_i st2 ans2 C2 htail
       simp only [Option.some.injEq,Prod.mk.injEq] at h
       obtain ⟨rfl,rfl,rfl⟩:=h
       rw [All.append,All.append] at hC
       generalize htm:(X1X (ops.toList.take m)).foldl (fun tm d=>tm.set d .any) st.tm=tmB at hpre hT
       exact X94 hE hnd hedges htz htl hmm hml hlzok hpre hsc hT htail hC.1 hC.2.1 hC.2.2 htm hQ hr
      ·cases h
     ·cases h
    ·cases h
   ·cases h
  ·cases h
 ·cases h
end
end Go.Ab
