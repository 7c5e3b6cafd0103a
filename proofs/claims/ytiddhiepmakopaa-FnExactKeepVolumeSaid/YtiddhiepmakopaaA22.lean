/- Bounds on the sizes of floats. -/
import Derived.Test.YtiddhiepmakopaaA21
set_option linter.unusedVariables false
set_option linter.unusedSimpArgs false
namespace Go.Ab
open Go.RowKit Ieee
def X41 (d:Datum) (S:Int):Prop:=∀ s m e,d = .number s m e→m=0∨e + (m.log2:Int)≤S
theorem X8q (neg:Bool) (n drop:Nat):Toward.even.cut neg n drop≤n / 2 ^ drop + 1:=by
 have hb:∀ b:Bool,b.toNat≤1:=by intro b;cases b<;>decide
 unfold Toward.cut
 simp only [Nat.shiftLeft_eq,Nat.one_mul]
 rcases Nat.le_total drop (n.log2 + 2) with h | h
 ·rw [Nat.min_eq_left h]
  exact Nat.add_le_add_left (hb _) _
 ·rw [Nat.min_eq_right h]
  have:n / 2 ^ (n.log2 + 2)=0:=Nat.div_eq_of_lt (Nat.lt_trans Nat.lt_log2_self (Nat.pow_lt_pow_right (by omega) (by omega)))
  rw [this]
  exact Nat.add_le_add (Nat.zero_le _) (hb _)
theorem X75 (f:Format) (neg:Bool) (m:Nat) (e S:Int) (h0:m≠0) (hS:e + (m.log2:Int)≤S) (hl:f.leastPlace≤S - f.fractionBits) :
  ∃ r,r≤(S - f.fractionBits - f.leastPlace).toNat * 2 ^ f.fractionBits + 2 ^ (f.fractionBits + 1) + 1∧r≤f.infRung∧f.nearest neg m e=f.word neg r:=by
 unfold Format.nearest
 rw [if_neg h0]
 refine ⟨_,?_,Nat.min_le_right _ _,rfl⟩
 refine Nat.le_trans (Nat.min_le_left _ _) ?_
 generalize hlast:max (e + (m.log2:Int) - (f.fractionBits:Int)) f.leastPlace=last
 have h1:last≤S - f.fractionBits:=by omega
 have h2:e + (m.log2:Int) - f.fractionBits≤last:=by omega
 have hkept:Toward.even.cut neg (m <<< (e - last).toNat) (last - e).toNat≤2 ^ (f.fractionBits + 1) + 1:=by
  refine Nat.le_trans (X8q _ _ _) (Nat.add_le_add_right ?_ 1)
  have hm:m < 2 ^ (m.log2 + 1):=Nat.lt_log2_self
  refine Nat.le_of_lt (Nat.div_lt_of_lt_mul ?_)
  rw [Nat.shiftLeft_eq,← Nat.pow_add]
  refine Nat.lt_of_lt_of_le (Nat.mul_lt_mul_of_pos_right hm (Nat.two_pow_pos _)) ?_
  rw [← Nat.pow_add]
  exact Nat.pow_le_pow_right (by omega) (by omega)
 have hb:f.binade=2 ^ f.fractionBits:=rfl
 rw [hb,Nat.add_assoc]
 refine Nat.add_le_add (Nat.mul_le_mul_right _ ?_) hkept
 omega
theorem X4D (f:Format) (neg:Bool) {r:Nat} (hr:r < f.signWeight):(f.word neg r) % f.signWeight=r:=by
 unfold Format.word
 split
 ·rw [Nat.add_mod_left];exact Nat.mod_eq_of_lt hr
 ·exact Nat.mod_eq_of_lt hr
theorem X7w {x:Nat} {S:Int} (h:X41 (FloatKind.f64.decode x) S) (hS:S≤120):Xu .f64 .f32 x=true:=by
 unfold Xu
 simp only [Bool.or_eq_true]
 right
 split
 ·rename_i neg m e hx
  have hm:=h neg m e hx
  have hp:single.leastPlace=-149:=by decide +kernel
  have hb:single.binade=8388608:=by decide +kernel
  have hi:single.infRung=255 * 8388608:=by decide +kernel
  have hw:single.infRung < single.signWeight:=by decide +kernel
  have key:∃ r:Nat,r < single.infRung∧single.nearest neg m e=single.word neg r:=by
   by_cases h0:m=0
   ·exact ⟨0,by decide +kernel,by unfold Format.nearest;rw [if_pos h0]⟩
   ·have hfb:single.fractionBits=23:=rfl
    obtain ⟨r,h1,h2,h3⟩:=X75 single neg m e 120 h0 (by have:=hm.resolve_left h0;omega) (by rw [hp,hfb];omega)
    refine ⟨r,?_,h3⟩
    rw [hp,hfb] at h1
    rw [hi]
    have e1:((120:Int) - ((23:Nat):Int) - -149).toNat=246:=by decide
    rw [e1] at h1
    simp only [Nat.reducePow,Nat.reduceMul,Nat.reduceAdd] at h1
    omega
  obtain ⟨r,h1,h2⟩:=key
  have:(FloatKind.f32.decode (FloatKind.f32.encode (Datum.number neg m e))).isInfinity=false:=by
   show (single.read (single.nearest neg m e)).isInfinity=false
   rw [h2]
   unfold Format.read
   simp only [X4D single neg (Nat.lt_trans h1 hw)]
   split
   ·rfl
   ·rfl
  rw [this];rfl
 ·rfl
theorem X41.mono {d:Datum} {S T:Int} (h:X41 d S) (hS:S≤T):X41 d T:=fun s m e he=>(h s m e he).imp id fun h=>Int.le_trans h hS
theorem X1B {x:Nat} {neg:Bool} {m:Nat} {e:Int} (hx:single.read x = .number neg m e):m < 2 ^ 24∧-149≤e∧e≤104:=by
 unfold Format.read at hx
 have hp:single.leastPlace=-149:=by decide +kernel
 have hbin:single.binade=8388608:=by decide +kernel
 have hinf:single.infRung=255 * 8388608:=by decide +kernel
 rw [hp,hbin,hinf] at hx
 simp only at hx
 split at hx
 ·cases hx;simp only [Nat.reducePow];omega
 ·split at hx
  ·rename_i h1 h2
   cases hx
   have:x % single.signWeight % 8388608 < 8388608:=Nat.mod_lt _ (by omega)
   have:x % single.signWeight / 8388608 < 255:=Nat.div_lt_of_lt_mul (by omega)
   simp only [Nat.reducePow];omega
  ·split at hx<;>cases hx
theorem X2b (x:Nat):fcv .f32 .f64 x=match single.read x with
  | .nan .. => Xh .f64
  | y=>double.write y:=rfl
theorem X6G (d:Datum):d.order d=if d.isNaN then none else some .eq:=by
 cases d with
 | nan s t=>rfl
 | infinity s=>cases s<;>rfl
 | number s m i =>
  simp only [Datum.order,Datum.isNaN]
  have hi:∀ a:Int,compare a a = .eq:=fun a=>by simp [compare,compareOfLessAndEq]
  rw [hi];rfl
theorem X7x (k:FloatKind) (x:Nat):fcmp .neq k x x=X9 k x:=by
 have:k.format.order x x=if X9 k x then none else some .eq:=X6G _
 unfold fcmp
 rw [this]
 cases X9 k x<;>rfl
end Go.Ab

set_option linter.unusedVariables false
set_option linter.unusedSimpArgs false
namespace Go.Ab
theorem X65 {α:Type} [Inhabited α] {p:α→Bool} {a:List α} {A B:Type} {x:A} {y:B} {lo:Nat→Int→A ⊕ B}
  (h:∀ k i,lo (k + 1) i=cond (decide (i < (a.length:Int))) (cond (p (a.getD i.toNat default)) (lo k (i + 1)) (.inl x)) (.inr y)) :
  ∀ (k:Nat) (i:Int),0≤i→((a.length:Int) - i).toNat < k→lo k i=cond ((a.drop i.toNat).all p) (.inr y) (.inl x):=by
 intro k
 induction k with
 | zero=>intro i h0 hk;exact absurd hk (Nat.not_lt_zero _)
 | succ k ih =>
  intro i h0 hk
  rw [h]
  by_cases hi:i < (a.length:Int)
  ·have hn:i.toNat < a.length:=by omega
   rw [decide_eq_true hi,cond_true,List.drop_eq_getElem_cons hn,List.all_cons,List.getD_eq_getElem?_getD,List.getElem?_eq_getElem hn,Option.getD_some]
   cases p a[i.toNat] with
   | false=>rfl
   | true =>
    rw [cond_true,Bool.true_and,ih (i + 1) (by omega) (by omega),show (i + 1).toNat=i.toNat + 1 from by omega]
  ·rw [decide_eq_false hi,cond_false,List.drop_eq_nil_of_le (by omega)];rfl
theorem X2c {α:Type} [Inhabited α] {p:α→Bool} {a:List α} {A B:Type} {x:A} {y:B} {lo:Nat→Int→A ⊕ B}
  (h:∀ k i,lo (k + 1) i=cond (decide (i < (a.length:Int))) (cond (p (a.getD i.toNat default)) (lo k (i + 1)) (.inl x)) (.inr y)) :
  lo (((a.length:Int) - 0).toNat + 1) 0=cond (a.all p) (.inr y) (.inl x):=by
 rw [X65 h _ _ (Int.le_refl 0) (Nat.lt_succ_self _)];simp
def X7 (n:Nat) (ts:List (List Int)):Prop:=∀ t∈ts,t.length=3∧∀ x∈t,0≤x∧x < (n:Int)
theorem X7.at {n:Nat} {ts:List (List Int)} {i:Int} (h:X7 n ts) (h0:0≤i) (hi:i < (ts.length:Int)) :
  (ts.getD i.toNat default).length=3∧(0≤(ts.getD i.toNat default).getD 0 default∧(ts.getD i.toNat default).getD 0 default < (n:Int)) ∧
  (0≤(ts.getD i.toNat default).getD 1 default∧(ts.getD i.toNat default).getD 1 default < (n:Int))∧(0≤(ts.getD i.toNat default).getD 2 default∧(ts.getD i.toNat default).getD 2 default < (n:Int)):=by
 have hn:i.toNat < ts.length:=by omega
 have hm:(ts.getD i.toNat default)∈ts:=by rw [List.getD_eq_getElem?_getD,List.getElem?_eq_getElem hn];exact List.getElem_mem hn
 obtain ⟨h1,h2⟩:=h _ hm
 generalize ts.getD i.toNat default=t at *
 match t,h1 with
 | [a,b,c],_=>exact ⟨rfl,h2 a (by simp),h2 b (by simp),h2 c (by simp)⟩
theorem X5M {β:Type} {f:Int→β} {n:Int} {lo:Nat→Int→List β→List β}
  (h:∀ k i r,lo (k + 1) i r=cond (decide (i < n)) (lo k (i + 1) (r ++ [f i])) r) :
  ∀ (k:Nat) (i:Int) (r:List β),(n - i).toNat < k→lo k i r=r ++ (List.range (n - i).toNat).map fun (j:Nat)=>f (i + (j:Int)):=by
 intro k
 induction k with
 | zero=>intro i r hk;exact absurd hk (Nat.not_lt_zero _)
 | succ k ih =>
  intro i r hk
  rw [h]
  by_cases hi:i < n
  ·rw [decide_eq_true hi,cond_true,ih (i + 1) _ (by omega)]
   rw [show (n - i).toNat=(n - (i + 1)).toNat + 1 from by omega,List.range_succ_eq_map,List.map_cons,List.map_map,List.append_assoc]
   congr 1
   simp only [List.singleton_append,Int.natCast_zero,Int.add_zero,List.cons.injEq,true_and]
   refine List.map_congr_left fun j _ => ?_
   simp only [Function.comp_apply]
   congr 1
   omega
  ·rw [decide_eq_false hi,cond_false,show (n - i).toNat=0 from by omega];simp
end Go.Ab

set_option linter.unusedVariables false
set_option linter.unusedSimpArgs false
namespace Go.Ab
open Go.RowKit
def XG (n:Nat):Row→Bool
 | .vec .. | .nest .. | .mapN .. => true
 | .box _ cs=>cs.all (X11 n)
 | _=>false
def XR (ks:List Nat):Row→Row
 | .box t cs => .box t (cs.map (renC ks))
 | .vec t es l _ => .vec t es l false
 | .nest t ll _ => .nest t ll false
 | r=>r
theorem X76 {H:Array Obj} {μ μ':Nat→Option FP} {heap:Array Obj} {ks:List Nat} (hs:∀ (i k:Nat),ks[i]? = some k→μ' i=μ k) {p:Option FP} {row:Row} (ho:XG ks.length (XR ks row)=true)
  (h:X6 H μ heap p row):X6 H μ' heap p (XR ks row):=by
 cases row with
 | box t cs =>
  cases p with
  | none=>exact h.elim
  | some p =>
   obtain ⟨ez,e1,e2,arr,e3,e4,e5⟩:=h
   simp only [XR,XG,List.all_eq_true,List.mem_map,forall_exists_index,and_imp,forall_apply_eq_imp_iff₂] at ho
   refine ⟨ez,by simpa [XR] using e1,e2,arr,e3,by simpa [XR] using e4,fun j c e => ?_⟩
   rw [List.getElem?_map,Option.map_eq_some_iff] at e
   obtain ⟨c0,e0,rfl⟩:=e
   exact X28 hs (ho c0 (List.mem_of_getElem? e0)) (e5 j c0 e0)
 | vec t es l full =>
  cases p with
  | none=>exact h.elim
  | some p =>
   rcases h with ⟨h1,h2,_⟩ | ⟨ez,e1,e2,e3,e4,_,e6⟩
   ·exact .inl ⟨h1,h2,rfl⟩
   ·exact .inr ⟨ez,e1,e2,e3,e4,(fun h=>by cases h),e6⟩
 | nest t ll full =>
  cases p with
  | none=>exact h.elim
  | some p =>
   rcases h with h | ⟨ez,e1,e2,e3,_,e6⟩
   ·exact .inl h
   ·exact .inr ⟨ez,e1,e2,e3,(fun h=>by cases h),e6⟩
 | mapN=>cases p<;>exact h
 | dead=>simp [XR,XG] at ho
 | lits t cs=>simp [XR,XG] at ho
def Xa:Nat→Nat→List Nat
 | _,0 => []
 | k,n + 1=>k :: Xa (k + 1) n
theorem X2Q:∀ (n k i:Nat),i < n→(Xa k n)[i]? = some (k + i)
 | 0,k,i,h=>by omega
 | n + 1,k,0,h=>by simp [Xa]
 | n + 1,k,i + 1,h=>by
  rw [Xa,List.getElem?_cons_succ,X2Q n (k + 1) i (by omega)];congr 1;omega
theorem X1V:∀ (n k:Nat),(Xa k n).length=n
 | 0,_=>rfl
 | n + 1,k=>by simp [Xa,X1V n]
end Go.Ab

set_option linter.unusedVariables false
set_option linter.unusedSimpArgs false
namespace Go.Ab
open Go.RowKit
def dark (F:List Nat) (H:Array Obj):Array Obj:=H.mapIdx fun b o=>if F.contains b then .cells #[] 0 (0,0) else o
theorem XH (F:List Nat) (H:Array Obj):(dark F H).size=H.size:=by simp [dark]
theorem X1J {F:List Nat} {H:Array Obj} {b:Nat} (h:b ∉ F):(dark F H)[b]? = H[b]? := by
 unfold dark
 rw [Array.getElem?_mapIdx]
 cases H[b]? with
 | none=>rfl
 | some o=>simp [h]
theorem X6b {F:List Nat} {H:Array Obj} {b:Nat} (h:b∈F) (o:Nat):X3 (dark F H) b o=none:=by
 unfold X3 dark
 rw [Array.getElem?_mapIdx]
 cases H[b]? with
 | none=>rfl
 | some o=>simp [h]
def vwC (ks:List Nat) (D:List Row):AV→Option AV
 | .own r=>match idx ks r with
  | some i=>some (.own i)
  | none=>res D 8 (.own r)
 | .ptr r j off=>match idx ks r with
  | some i=>some (.ptr i j off)
  | none=>res D 8 (.ptr r j off)
 | v=>res D 8 v
def vw (ks:List Nat) (D:List Row):AV→Option AV
 | .agg cs=>(resL (vwC ks D) cs).map .agg
 | .fn g cap=>(resL (vwC ks D) cap).map (.fn g)
 | v=>vwC ks D v
def X2o (ks:List Nat) (D:List Row):Row→Option Row
 | .vec t es l _=>some (.vec t es l false)
 | .nest t ll _=>some (.nest t ll false)
 | .box t cs=>(resL (vwC ks D) cs).map (.box t)
 | _=>none
def X3c (ks:List Nat) (D:List Row):List Row→Option (List Row)
 | []=>some []
 | r :: rs=>match X2o ks D r,X3c ks D rs with
  | some r',some rs'=>some (r' :: rs')
  | _,_=>none
theorem X42 {ks:List Nat} {D:List Row}:∀ {l l':List Row},X3c ks D l=some l'→l'.length=l.length∧∀ (j:Nat) (r':Row),l'[j]? = some r'→∃ r,l[j]? = some r∧X2o ks D r=some r'
 | [],l',h=>by simp [X3c] at h;subst h;simp
 | r :: rs,l',h=>by
  simp only [X3c] at h
  split at h
  ·rename_i a b h1 h2
   simp only [Option.some.injEq] at h;subst h
   obtain ⟨g1,g2⟩:=X42 h2
   refine ⟨by simp [g1],fun j r' e => ?_⟩
   cases j with
   | zero=>simp at e;subst e;exact ⟨r,rfl,h1⟩
   | succ j=>simp at e;simpa using g2 j r' e
  ·cases h
def X2p (ks:List Nat) (m i:Nat):Nat:=match ks[i]? with
 | some k=>k
 | none=>m + (i - ks.length)
def bkC (ks:List Nat) (m:Nat):AV→AV
 | .own i => .own (X2p ks m i)
 | .mp i => .mp (X2p ks m i)
 | v=>v
def bkA (ks:List Nat) (m:Nat):AV→AV
 | .agg cs => .agg (cs.map (bkC ks m))
 | v=>bkC ks m v
def bk (ks:List Nat) (m:Nat):AV→AV
 | .tup vs => .tup (vs.map (bkA ks m))
 | v=>bkA ks m v
def X2R (ks:List Nat) (m:Nat):Row→Row
 | .box t cs => .box t (cs.map (bkC ks m))
 | r=>r
def X1a (ks:List Nat) (m:Nat) (new:List Row):Nat→List Row→List Row
 | _,[]=>(new.drop ks.length).map (X2R ks m)
 | i,r :: rs=>(match idx ks i with
  | some j=>match new[j]? with
   | some q=>X2R ks m q
   | none=>r
  | none=>r) :: X1a ks m new (i + 1) rs
theorem X2s (ks:List Nat) (m:Nat) (new:List Row):∀ (rs:List Row) (i j:Nat) (row:Row),(X1a ks m new i rs)[j]? = some row →
  (j < rs.length∧((∃ q x,idx ks (i + j)=some q∧new[q]? = some x∧row=X2R ks m x)∨((idx ks (i + j)=none∨∃ q,idx ks (i + j)=some q∧new[q]? = none)∧rs[j]? = some row))) ∨
  (rs.length≤j∧∃ x,new[ks.length + (j - rs.length)]? = some x∧row=X2R ks m x)
 | [],i,j,row,h=>by
  simp only [X1a,List.getElem?_map,List.getElem?_drop,Option.map_eq_some_iff] at h
  obtain ⟨x,h1,h2⟩:=h
  exact .inr ⟨Nat.zero_le _,x,by simpa using h1,h2.symm⟩
 | r :: rs,i,0,row,h=>by
  simp only [X1a,List.getElem?_cons_zero,Option.some.injEq] at h
  left;refine ⟨by simp,?_⟩
  simp only [Nat.add_zero]
  split at h
  ·rename_i q hi
   split at h
   ·rename_i x hq
    exact .inl ⟨q,x,hi,hq,h.symm⟩
   ·rename_i hq
    exact .inr ⟨.inr ⟨q,hi,hq⟩,by simp [h]⟩
  ·rename_i hi
   exact .inr ⟨.inl hi,by simp [h]⟩
 | r :: rs,i,j + 1,row,h=>by
  simp only [X1a,List.getElem?_cons_succ] at h
  have:=X2s ks m new rs (i + 1) j row h
  rw [show i + 1 + j=i + (j + 1) from by omega] at this
  simp only [List.length_cons,List.getElem?_cons_succ]
  rcases this with ⟨h1,h2⟩ | ⟨h1,x,h2,h3⟩
  ·exact .inl ⟨by omega,h2⟩
  ·exact .inr ⟨by omega,x,by rw [← h2];congr 1;omega,h3⟩
theorem X2z (ks:List Nat) (m:Nat) (new:List Row):∀ (rs:List Row) (i:Nat),(X1a ks m new i rs).length=rs.length + (new.length - ks.length)
 | [],i=>by simp [X1a]
 | r :: rs,i=>by simp [X1a,X2z ks m new rs];omega
theorem X4j {H H':Array Obj} {μ M:Nat→Option FP} {ks:List Nat} {m n:Nat} (hs:∀ i p,i < n→μ i=some p→M (X2p ks m i)=some p) {c:AV} {v:Value} (ho:X11 n c=true) (h:Rep H μ c v):Rep H' M (bkC ks m c) v:=by
 cases h<;>simp [X11] at ho<;>simp only [bkC]
 ·exact .b _
 ·exact .i _ _
 ·exact .f _ _ _ ‹_› ‹_›
 ·exact .nils
 ·rename_i r p hp;exact .own _ p (hs r p ho hp)
 ·rename_i r p hz hp;exact .mp _ p (hs r p ho hp) hz
theorem X6c {H H':Array Obj} {μ M:Nat→Option FP} {ks:List Nat} {m n:Nat} (hs:∀ i p,i < n→μ i=some p→M (X2p ks m i)=some p) {c:AV} {v:Value} (ho:X12 n c=true) (h:Rep H μ c v):Rep H' M (bkA ks m c) v:=by
 cases c with
 | agg cs =>
  cases h with | agg _ vs hz hh =>
  simp only [X12,List.all_eq_true] at ho
  refine .agg _ vs (by simp [hz]) fun j c e => ?_
  simp only [List.getElem?_map,Option.map_eq_some_iff] at e
  obtain ⟨c0,e0,rfl⟩:=e
  exact X4j hs (ho c0 (List.mem_of_getElem? e0)) (hh j c0 e0)
 | _=>simp only [X12] at ho;exact X4j hs ho h
theorem X8r {H H':Array Obj} {μ M:Nat→Option FP} {ks:List Nat} {m n:Nat} (hs:∀ i p,i < n→μ i=some p→M (X2p ks m i)=some p) {c:AV} {v:Value} (ho:XN n c=true) (h:Rep H μ c v):Rep H' M (bk ks m c) v:=by
 cases c with
 | tup cs =>
  cases h with | tup _ vs hz hh =>
  simp only [XN,List.all_eq_true] at ho
  refine .tup _ vs (by simp [hz]) fun j c e => ?_
  simp only [List.getElem?_map,Option.map_eq_some_iff] at e
  obtain ⟨c0,e0,rfl⟩:=e
  exact X6c hs (ho c0 (List.mem_of_getElem? e0)) (hh j c0 e0)
 | _=>simp only [XN] at ho;exact X6c hs ho h
theorem X5N {H H':Array Obj} {heap:Array Obj} {μ M:Nat→Option FP} {ks:List Nat} {m n:Nat} (hs:∀ i p,i < n→μ i=some p→M (X2p ks m i)=some p) {p:Option FP} {row:Row} (ho:XG n row=true)
  (h:X6 H μ heap p row):X6 H' M heap p (X2R ks m row):=by
 cases row with
 | box t cs =>
  cases p with
  | none=>exact h.elim
  | some p =>
   obtain ⟨ez,e1,e2,arr,e3,e4,e5⟩:=h
   simp only [XG,List.all_eq_true] at ho
   refine ⟨ez,by simpa using e1,e2,arr,e3,by simpa using e4,fun j c e => ?_⟩
   rw [List.getElem?_map,Option.map_eq_some_iff] at e
   obtain ⟨c0,e0,rfl⟩:=e
   exact X4j hs (ho c0 (List.mem_of_getElem? e0)) (e5 j c0 e0)
 | vec t es l full=>cases p<;>exact h
 | nest t ll full=>cases p<;>exact h
 | mapN=>cases p<;>exact h
 | dead=>simp [XG] at ho
 | lits t cs=>simp [XG] at ho
theorem Xc.frame {P:Program} {g:FuncId} {rows rows':List Row} {args:List AV} {r:AV} (h:Xc P g rows args r rows') (ks:List Nat) {R:List Row} {args':List AV}
  (hR:(X16 R ks).bind (X3c ks (Xg ks 0 R))=some rows) (hA:resL (vw ks (Xg ks 0 R)) args'=some args) (hnd:X13 ks=true)
  (hlen:Nat.ble ks.length rows'.length=true) (hok:rows'.all (XG rows'.length)=true) (hr:XN rows'.length r=true) :
  Xc P g R args' (bk ks R.length r) (X1a ks R.length rows' 0 R):=by
 rw [Nat.ble_eq] at hlen
 obtain ⟨RK,hpick,hview⟩:=Option.bind_eq_some_iff.1 hR
 obtain ⟨hpl,hpg⟩:=X1A hpick
 obtain ⟨hvl,hvg⟩:=X42 hview
 have hnd':=XT hnd
 have hkl:∀ i k,ks[i]? = some k→k < R.length:=fun i k e=>by
  have hi:i < RK.length:=by
   rw [hpl]
   rcases Nat.lt_or_ge i ks.length with h | h
   ·exact h
   ·rw [List.getElem?_eq_none h] at e;cases e
  have:=hpg i k e
  rcases Nat.lt_or_ge k R.length with h | h
  ·exact h
  ·rw [List.getElem?_eq_none h,List.getElem?_eq_getElem hi] at this;cases this
 have hidx:∀ k,idx ks k=none→k ∉ ks:=by
  intro k
  clear hpick hpl hpg hnd hnd' hkl hR hA hlen hview hvl hvg
  induction ks with
  | nil=>simp
  | cons a as ih =>
   intro hn
   simp only [idx] at hn
   split at hn
   ·cases hn
   ·rename_i hne
    simp only [beq_eq_false_iff_ne] at hne
    simp only [Option.map_eq_none_iff] at hn
    simp only [List.mem_cons,not_or]
    exact ⟨fun e=>hne e.symm,ih hn⟩
 refine ⟨h.1,fun W0 M W vs hm hp => ?_⟩
 let F:List Nat:=ks.flatMap fun k=>match M k with
  | some p=>p.blks
  | none => []
 have hF:∀ b,b∈F↔∃ k∈ks,∃ p,M k=some p∧b∈p.blks:=by
  intro b
  show b∈List.flatMap _ _↔_
  rw [List.mem_flatMap]
  constructor
  ·rintro ⟨k,hk,hb⟩
   split at hb
   ·rename_i p hMp;exact ⟨k,hk,p,hMp,hb⟩
   ·cases hb
  ·rintro ⟨k,hk,p,hMp,hb⟩
   exact ⟨k,hk,by rw [hMp];exact hb⟩
 let w0:Old0:={ toWorld:={ W with heap:=dark F W.heap },opn:=(· ∈ F),dark:=fun b hb o=>X6b hb o,pin:=fun _=>none,np:=0,pinLt:=fun _ _ e=>by cases e }
 have hh0:w0.heap=dark F W.heap:=rfl
 have hFm:∀ b,b∈F→W0.mine b∧b < W.heap.size:=fun b hb=>by
  obtain ⟨k,_,p,hMp,hbp⟩:=(hF b).1 hb
  exact hm.own k p b hMp hbp
 have hFo:∀ q p b,q ∉ ks→M q=some p→b∈p.blks→b ∉ F:=fun q p b hq hMq hb hbF=>by
  obtain ⟨k,hk,p',hMk,hb'⟩:=(hF b).1 hbF
  have:=hm.sep q k p p' b hMq hMk hb hb'
  subst this;exact hq hk
 let μ:Nat→Option FP:=fun i=>(ks[i]?).bind M
 have hμ:∀ i k,ks[i]? = some k→μ i=M k:=fun i k e=>by show (ks[i]?).bind M=M k;rw [e];rfl
 have hμ0:∀ i p,μ i=some p→∃ k,ks[i]? = some k∧M k=some p:=by
  intro i p e
  cases hk:ks[i]? with
  | none=>have e2:(ks[i]?).bind M=some p:=e;rw [hk] at e2;cases e2
  | some k=>exact ⟨k,rfl,by rw [← hμ i k hk];exact e⟩
 have hmd:MemW W0 M (Xg ks 0 R) { W with heap:=dark F W.heap }:=by
  refine ⟨hm.bel.step rfl rfl rfl (by simp [XH]) (Nat.le_refl _) (fun k hk ho=>X1J fun hkF => ?_),fun q row e => ?_,hm.sep,hm.nodup,fun q p b e hb => ?_⟩
  ·rcases (hFm k hkF).1 with h | h
   ·exact ho h
   ·omega
  ·rcases X5v _ _ _ _ _ e with rfl | ⟨h1,h2⟩
   ·cases M q<;>exact trivial
   ·rw [Nat.zero_add] at h1
    exact (hm.row q row h2).heap fun p hp' b hb=>X1J (hFo q p b (hidx q h1) hp' hb)
  ·simpa [XH] using hm.own q p b e hb
 have vC:∀ c c' v,vwC ks (Xg ks 0 R) c=some c'→Rep W0.heap M c v→Rep w0.heap μ c' v:=by
  have dflt:∀ c c' v,res (Xg ks 0 R) 8 c=some c'→Rep W0.heap M c v→Rep w0.heap μ c' v:=fun c c' v e hrep =>
   (X4t hmd 8 c c' v e hrep).mono fun q p e=>by cases e
  intro c c' v e hrep
  cases c with
  | own q =>
   simp only [vwC] at e
   split at e
   ·rename_i i hi
    simp only [Option.some.injEq] at e;subst e
    cases hrep with
    | own _ p hp'=>exact .own i p (by rw [hμ i q (Xv hi)];exact hp')
   ·exact dflt _ _ _ e hrep
  | ptr q j off =>
   simp only [vwC] at e
   split at e
   ·rename_i i hi
    simp only [Option.some.injEq] at e;subst e
    cases hrep with
    | ptr _ _ _ p hp'=>exact .ptr i j off p (by rw [hμ i q (Xv hi)];exact hp')
   ·exact dflt _ _ _ e hrep
  | _=>refine dflt _ _ _ ?_ hrep;exact e
 have vL:∀ (cs cs':List AV) (us:Array Value),resL (vwC ks (Xg ks 0 R)) cs=some cs'→us.size=cs.length→(∀ (j:Nat) (c:AV),cs[j]? = some c→Rep W0.heap M c (us.getD j undef)) →
   us.size=cs'.length∧∀ (j:Nat) (c:AV),cs'[j]? = some c→Rep w0.heap μ c (us.getD j undef):=by
  intro cs cs' us hl hs hh
  obtain ⟨h1,h2⟩:=X24 hl
  exact ⟨by omega,fun j c e=>let ⟨u,eu,fu⟩:=h2 j c e;vC u c _ fu (hh j u eu)⟩
 have vA:∀ c c' v,vw ks (Xg ks 0 R) c=some c'→Rep W0.heap M c v→Rep w0.heap μ c' v:=by
  intro c c' v e hrep
  cases c with
  | agg cs =>
   simp only [vw,Option.map_eq_some_iff] at e
   obtain ⟨cs',hl,rfl⟩:=e
   cases hrep with
   | agg _ us hz hh =>
    obtain ⟨g1,g2⟩:=vL cs cs' us hl hz hh
    exact .agg cs' us g1 g2
  | fn f cap =>
   simp only [vw,Option.map_eq_some_iff] at e
   obtain ⟨cs',hl,rfl⟩:=e
   cases hrep with
   | fn _ _ us hz hh =>
    obtain ⟨g1,g2⟩:=vL cap cs' us hl hz hh
    exact .fn f cs' us g1 g2
  | _=>refine vC _ _ _ ?_ hrep;exact e
 have pw:PW w0.heap μ args vs:=by
  obtain ⟨h1,h2⟩:=X24 hA
  exact ⟨by rw [hp.1,h1],fun j c e=>let ⟨u,eu,fu⟩:=h2 j c e;vA u c _ fu (hp.2 j u eu)⟩
 have hil:∀ i,i < rows.length→∃ k,ks[i]? = some k:=fun i hi=>⟨_,List.getElem?_eq_getElem (by omega)⟩
 have mem:Mem w0 μ rows W:=by
  refine ⟨⟨⟨rfl,rfl,rfl,by rw [hh0,XH];exact Nat.le_refl _,fun k _ ho=>(X1J ho).symm,Nat.le_refl _⟩,fun i row e => ?_,fun i j p p' b e e' hb hb' => ?_,fun i p e => ?_,fun i p b e hb => ?_⟩,fun i hi => ?_,fun i e => ?_,fun i p e=>by cases e⟩
  ·obtain ⟨row0,e0,hv⟩:=hvg i row e
   have hi:i < ks.length:=by
    rw [← hpl]
    rcases Nat.lt_or_ge i RK.length with h | h
    ·exact h
    ·rw [List.getElem?_eq_none h] at e0;cases e0
   rw [hμ i _ (List.getElem?_eq_getElem hi)]
   rw [hpg i _ (List.getElem?_eq_getElem hi)] at e0
   have hrow:=hm.row _ row0 e0
   cases row0 with
   | vec t es l full =>
    simp only [X2o,Option.some.injEq] at hv;subst hv
    cases hM:M ks[i] with
    | none=>rw [hM] at hrow;exact hrow.elim
    | some p =>
     rw [hM] at hrow
     rcases hrow with ⟨h1,h2,_⟩ | ⟨f0,f1,f2,f3,f4,_,f6⟩
     ·exact .inl ⟨h1,h2,rfl⟩
     ·exact .inr ⟨f0,f1,f2,f3,f4,(fun h=>by cases h),f6⟩
   | nest t ll full =>
    simp only [X2o,Option.some.injEq] at hv;subst hv
    cases hM:M ks[i] with
    | none=>rw [hM] at hrow;exact hrow.elim
    | some p =>
     rw [hM] at hrow
     rcases hrow with h | ⟨f0,f1,f2,f3,_,f6⟩
     ·exact .inl h
     ·exact .inr ⟨f0,f1,f2,f3,(fun h=>by cases h),f6⟩
   | box t cs =>
    simp only [X2o,Option.map_eq_some_iff] at hv
    obtain ⟨cs',hl,rfl⟩:=hv
    cases hM:M ks[i] with
    | none=>rw [hM] at hrow;exact hrow.elim
    | some p =>
     rw [hM] at hrow
     obtain ⟨f0,f1,f2,arr,f3,f4,f5⟩:=hrow
     obtain ⟨g1,g2⟩:=vL cs cs' arr hl f4 f5
     exact ⟨f0,by rw [f1,← f4,g1],f2,arr,f3,g1,g2⟩
   | _=>simp [X2o] at hv
  ·obtain ⟨k,g1,g2⟩:=hμ0 i p e
   obtain ⟨k',g3,g4⟩:=hμ0 j p' e'
   have:=hm.sep k k' p p' b g2 g4 hb hb'
   subst this
   have hil:i < ks.length:=by
    rcases Nat.lt_or_ge i ks.length with h | h
    ·exact h
    ·rw [List.getElem?_eq_none h] at g1;cases g1
   have hjl:j < ks.length:=by
    rcases Nat.lt_or_ge j ks.length with h | h
    ·exact h
    ·rw [List.getElem?_eq_none h] at g3;cases g3
   rw [List.getElem?_eq_getElem hil] at g1
   rw [List.getElem?_eq_getElem hjl] at g3
   exact X38 hnd' hil hjl ((Option.some.inj g1).trans (Option.some.inj g3).symm)
  ·obtain ⟨k,g1,g2⟩:=hμ0 i p e
   exact hm.nodup k p g2
  ·obtain ⟨k,g1,g2⟩:=hμ0 i p e
   exact ⟨.inl ((hF b).2 ⟨k,List.mem_of_getElem? g1,p,g2,hb⟩),(hm.own k p b g2 hb).2⟩
  ·show (ks[i]?).bind M=none
   rw [List.getElem?_eq_none (by omega)];rfl
  ·obtain ⟨row0,e0,hv⟩:=hvg i _ e
   cases row0<;>simp [X2o] at hv
 refine (h.2 w0 μ W vs mem pw).mono fun e w' ⟨v,μ',he,hsub,hm',hrep⟩ => ?_
 let M':Nat→Option FP:=fun q=>if q < R.length then M q else μ' (ks.length + (q - R.length))
 have hMo:∀ q,q < R.length→M' q=M q:=fun q hq=>if_pos hq
 have hMn:∀ q,R.length≤q→M' q=μ' (ks.length + (q - R.length)):=fun q hq=>if_neg (by omega)
 have hMsub:Sub M M':=fun q p e=>by
  have hq:q < R.length:=by
   rcases Nat.lt_or_ge q R.length with h | h
   ·exact h
   ·rw [hm.out q h] at e;cases e
  rw [hMo q hq];exact e
 have hsome:∀ i k,ks[i]? = some k→∃ p,M k=some p∧μ' i=some p:=fun i k e=>by
  have hi:i < rows.length:=by
   rw [hvl,hpl]
   rcases Nat.lt_or_ge i ks.length with h | h
   ·exact h
   ·rw [List.getElem?_eq_none h] at e;cases e
  have hrow:=mem.row i _ (List.getElem?_eq_getElem hi)
  cases hM:M k with
  | none =>
   rw [hμ i k e,hM] at hrow
   have hd:=mem.dead i
   cases hx:rows[i]<;>rw [hx] at hrow<;>try exact hrow.elim
   obtain ⟨row0,e0,hv⟩:=hvg i _ (by rw [List.getElem?_eq_getElem hi,hx])
   cases row0<;>simp [X2o] at hv
  | some p=>exact ⟨p,rfl,hsub i p (by rw [hμ i k e];exact hM)⟩
 have hback:∀ i p,i < rows'.length→μ' i=some p→M' (X2p ks R.length i)=some p:=fun i p hi e=>by
  unfold X2p
  cases hk:ks[i]? with
  | some k =>
   obtain ⟨p2,g1,g2⟩:=hsome i k hk
   rw [hMo k (hkl i k hk),g1,← g2];exact e
  | none =>
   rw [List.getElem?_eq_none_iff] at hk
   show M' (R.length + (i - ks.length))=some p
   rw [hMn (R.length + (i - ks.length)) (by omega),← e];congr 1;omega
 have hnewF:∀ q p b,R.length≤q→M' q=some p→b∈p.blks→W.heap.size≤b∧b < w'.heap.size:=fun q p b hq e hb=>by
  rw [hMn q hq] at e
  obtain ⟨g1,g2⟩:=hm'.own _ p b e hb
  refine ⟨?_,g2⟩
  rcases g1 with g1 | g1
  ·exfalso
   obtain ⟨k,hk,p2,hMk,hb2⟩:=(hF b).1 g1
   obtain ⟨i,hi,rfl⟩:=List.getElem_of_mem hk
   obtain ⟨p3,f1,f2⟩:=hsome i _ (List.getElem?_eq_getElem hi)
   rw [hMk] at f1;cases f1
   have:=hm'.sep _ _ p p2 b e f2 hb hb2
   omega
  ·rw [hh0,XH] at g1;exact g1
 have hsz:W.heap.size≤w'.heap.size:=by have:=hm'.bel.size;rw [hh0,XH] at this;exact this
 have hblk:∀ b,b < W.heap.size→b ∉ F→w'.heap[b]? = W.heap[b]? := fun b hb hn=>by
  rw [hm'.bel.block b (by rw [hh0,XH];exact hb) hn,hh0,X1J hn]
 refine ⟨v,M',he,hMsub,⟨⟨hm.bel.step hm'.bel.os hm'.bel.tape hm'.bel.output hsz hm'.bel.drawn fun k hk ho=>hblk k (Nat.lt_of_lt_of_le hk hm.bel.size) fun hkF => ?_,fun q row e => ?_,fun q q' p p' b e e' hb hb' => ?_,fun q p e => ?_,fun q p b e hb => ?_⟩,fun q hq => ?_,fun q e => ?_,hm.pin.trans hMsub⟩,X8r hback hr hrep⟩
 ·rcases (hFm k hkF).1 with h | h
  ·exact ho h
  ·omega
 ·rw [List.all_eq_true] at hok
  rcases X2s _ _ _ _ _ _ _ e with ⟨h1,⟨j,x,h2,h3,rfl⟩ | ⟨h2,h3⟩⟩ | ⟨h1,x,h2,rfl⟩
  ·rw [Nat.zero_add] at h2
   have hkj:=Xv h2
   obtain ⟨p,g1,g2⟩:=hsome j q hkj
   rw [hMo q h1,g1,← g2]
   exact X5N hback (hok x (List.mem_of_getElem? h3)) (hm'.row j x h3)
  ·have hqk:q ∉ ks:=by
    rcases h2 with h2 | ⟨j,h2,h4⟩
    ·rw [Nat.zero_add] at h2;exact hidx q h2
    ·rw [Nat.zero_add] at h2
     have hkj:=Xv h2
     have:j < ks.length:=by
      rcases Nat.lt_or_ge j ks.length with h | h
      ·exact h
      ·rw [List.getElem?_eq_none h] at hkj;cases hkj
     rw [List.getElem?_eq_none_iff] at h4
     omega
   rw [hMo q h1]
   exact ((hm.row q row h3).mono hMsub).heap fun p hp' b hb=>hblk b (hm.own q p b hp' hb).2 (hFo q p b hqk hp' hb)
  ·rw [hMn q h1]
   exact X5N hback (hok x (List.mem_of_getElem? h2)) (hm'.row _ x h2)
 ·rcases Nat.lt_or_ge q R.length with hq | hq<;>rcases Nat.lt_or_ge q' R.length with hq' | hq'
  ·rw [hMo q hq] at e;rw [hMo q' hq'] at e'
   exact hm.sep q q' p p' b e e' hb hb'
  ·rw [hMo q hq] at e
   have h1:=(hm.own q p b e hb).2
   have h2:=hnewF q' p' b hq' e' hb'
   omega
  ·rw [hMo q' hq'] at e'
   have h1:=(hm.own q' p' b e' hb').2
   have h2:=hnewF q p b hq e hb
   omega
  ·rw [hMn q hq] at e;rw [hMn q' hq'] at e'
   have:=hm'.sep _ _ p p' b e e' hb hb'
   omega
 ·rcases Nat.lt_or_ge q R.length with hq | hq
  ·rw [hMo q hq] at e;exact hm.nodup q p e
  ·rw [hMn q hq] at e;exact hm'.nodup _ p e
 ·rcases Nat.lt_or_ge q R.length with hq | hq
  ·rw [hMo q hq] at e
   have:=hm.own q p b e hb
   exact ⟨this.1,by omega⟩
  ·have:=hnewF q p b hq e hb
   have:=hm.bel.size
   exact ⟨.inr (by omega),by omega⟩
 ·rw [X2z] at hq
  rw [hMn q (by omega)]
  exact hm'.out _ (by omega)
 ·rw [List.all_eq_true] at hok
  rcases X2s _ _ _ _ _ _ _ e with ⟨h1,⟨j,x,h2,h3,h4⟩ | ⟨h2,h3⟩⟩ | ⟨h1,x,h2,h4⟩
  ·have:=hok x (List.mem_of_getElem? h3)
   cases x<;>simp [X2R] at h4
   simp [XG] at this
  ·rw [hMo q h1];exact hm.dead q h3
  ·have:=hok x (List.mem_of_getElem? h2)
   cases x<;>simp [X2R] at h4
   simp [XG] at this
end Go.Ab

set_option linter.unusedVariables false
set_option linter.unusedSimpArgs false
namespace Go.Ab
open Go.RowKit
theorem X2W:∀ {l:List (Option Nat)} {i j b:Nat},(l.filterMap id).Nodup→l[i]? = some (some b)→l[j]? = some (some b)→i=j
 | [],i,j,b,_,h,_=>by simp at h
 | a :: as,0,0,b,_,_,_=>rfl
 | a :: as,0,j + 1,b,hn,h,h'=>by
  simp only [List.getElem?_cons_zero,Option.some.injEq] at h;subst h
  simp only [List.getElem?_cons_succ] at h'
  simp only [List.filterMap_cons,id] at hn
  exact absurd (List.mem_filterMap (f:=id).2 ⟨some b,List.mem_of_getElem? h',rfl⟩) (List.nodup_cons.1 hn).1
 | a :: as,i + 1,0,b,hn,h,h'=>by
  simp only [List.getElem?_cons_zero,Option.some.injEq] at h';subst h'
  simp only [List.getElem?_cons_succ] at h
  simp only [List.filterMap_cons,id] at hn
  exact absurd (List.mem_filterMap (f:=id).2 ⟨some b,List.mem_of_getElem? h,rfl⟩) (List.nodup_cons.1 hn).1
 | a :: as,i + 1,j + 1,b,hn,h,h'=>by
  simp only [List.getElem?_cons_succ] at h h'
  have hn':(as.filterMap id).Nodup:=by
   cases a with
   | none=>simpa using hn
   | some x=>simp only [List.filterMap_cons,id] at hn;exact (List.nodup_cons.1 hn).2
  rw [X2W hn' h h']
theorem Xc.frameInn {P:Program} {g:FuncId} {l l':List (List AV)} {args:List AV} {r:AV} (h:∀ t,Xc P g [.vec t 1 l false] (.own 0 :: args) r [.vec t 1 l' false])
  (hs:args.all isS=true) (hr:isS r=true) (hl:l'.length=l.length) {R:List Row} {q j:Nat} {t2:TypeId} {ll:List (List (List AV))} {full:Bool}
  (hq:R[q]? = some (.nest t2 ll full)) (hj:ll[j]? = some l):Xc P g R (.inn q j :: args) r (R.set q (.nest t2 (ll.set j l') full)):=by
 refine ⟨(h 0).1,fun W0 M W vs hm hp => ?_⟩
 rw [List.all_eq_true] at hs
 obtain ⟨hp1,hp2⟩:=hp
 have hrowq:=hm.row q _ hq
 have hv0:=hp2 0 (.inn q j) rfl
 have hscal:∀ (H:Array Obj) (μ:Nat→Option FP) (i:Nat) (c:AV),args[i]? = some c→Rep H μ c (vs.getD (i + 1) undef):=fun H μ i c e =>
  Rep.of_S (X1F (hp2 (i + 1) c (by simpa using e)) (hs c (List.mem_of_getElem? e)))
 generalize hx:vs.getD 0 undef=x at hv0
 cases hv0 with
 | inn _ _ p ib hMq hib =>
 rw [hMq] at hrowq
 have hjlt:j < ll.length:=by
  rcases Nat.lt_or_ge j ll.length with h | h
  ·exact h
  ·rw [List.getElem?_eq_none h] at hj;cases hj
 rcases hrowq with ⟨_,hn,_⟩ | ⟨ez,e1,e3,e4,e5,e6,arr,e7,e8,e9⟩
 ·rw [hn] at hjlt;simp at hjlt
 have hI:=e9 j l hj
 rw [List.getD_eq_getElem?_getD,hib,Option.getD_some] at hI
 have hqlt:q < R.length:=by
  rcases Nat.lt_or_ge q R.length with h | h
  ·exact h
  ·rw [List.getElem?_eq_none h] at hq;cases hq
 cases ib with
 | none =>
  have hl0:l=[]:=hI.2
  have hl1:l'=[]:=List.eq_nil_of_length_eq_zero (by rw [hl,hl0];rfl)
  have hset:ll.set j l'=ll:=by
   apply List.ext_getElem?
   intro i
   by_cases hij:j=i
   ·subst hij;rw [List.getElem?_set_self hjlt,hj,hl0,hl1]
   ·rw [List.getElem?_set_ne hij]
  have hR:R.set q (.nest t2 (ll.set j l') full)=R:=by
   rw [hset]
   apply List.ext_getElem?
   intro i
   by_cases hij:q=i
   ·subst hij;rw [List.getElem?_set_self hqlt,hq]
   ·rw [List.getElem?_set_ne hij]
  rw [hR]
  let fp:FP:=⟨0,1,0,0,[],true⟩
  let μ:Nat→Option FP:=fun i=>if i=0 then some fp else none
  have hμ0:∀ i p2,μ i=some p2→i=0∧p2=fp:=fun i p2 e=>by
   have e2:(if i=0 then some fp else none)=some p2:=e
   split at e2
   ·rename_i hi;exact ⟨hi,(Option.some.inj e2).symm⟩
   ·cases e2
  have mem:Mem (Old0.of W) μ [.vec 0 1 l false] W:=by
   refine ⟨⟨⟨rfl,rfl,rfl,Nat.le_refl _,fun _ _ _=>rfl,Nat.le_refl _⟩,fun i row e => ?_,fun i j p p' b e e' hb hb' => ?_,fun i p e => ?_,fun i p b' e hb => ?_⟩,fun i hi => ?_,fun i e => ?_,fun i p e=>by cases e⟩
   ·cases i with
    | zero =>
     simp at e;subst e
     exact .inl ⟨rfl,hl0,rfl⟩
    | succ i=>simp at e
   ·rw [(hμ0 i p e).1,(hμ0 j p' e').1]
   ·rw [(hμ0 i p e).2];exact List.nodup_nil
   ·rw [(hμ0 i p e).2] at hb;cases hb
   ·exact if_neg (by simp at hi;omega)
   ·cases i<;>simp at e
  refine ((h 0).2 (Old0.of W) μ W vs mem ⟨by simpa using hp1,fun i c e => ?_⟩).mono fun e w' ⟨v,μ',he,hsub,hm',hrep⟩=>⟨v,M,he,Sub.refl _,hm.ext hm'.bel.of,Rep.of_S (X1F hrep hr)⟩
  cases i with
  | zero=>simp at e;subst e;rw [hx];exact .own 0 fp rfl
  | succ i=>simp at e;exact hscal _ _ i c e
 | some bnc =>
  obtain ⟨b,n,c⟩:=bnc
  obtain ⟨_,g1,g2,arr2,t3,g3,g4,g5⟩:=hI
  have hbp:b∈p.ib.filterMap id:=List.mem_filterMap.2 ⟨some b,List.mem_of_getElem? (i:=j) (by simp [FP.ib,hib]),rfl⟩
  have hbb:b∈p.blks:=by rw [FP.blks_of ez];exact List.mem_cons_of_mem _ hbp
  have hnd0:=hm.nodup q p hMq
  rw [FP.blks_of ez] at hnd0
  have hnd:=List.nodup_cons.1 hnd0
  have hown:=hm.own q p b hMq hbb
  let w0:Old0:={ toWorld:={ W with heap:=dark [b] W.heap },opn:=(· ∈ [b]),dark:=fun b hb o=>X6b hb o,pin:=fun _=>none,np:=0,pinLt:=fun _ _ e=>by cases e }
  have hh0:w0.heap=dark [b] W.heap:=rfl
  let fp:FP:=⟨b,1,n,c,[],false⟩
  let μ:Nat→Option FP:=fun i=>if i=0 then some fp else none
  have hfb:fp.blks=[b]:=rfl
  have hμ0:∀ i p2,μ i=some p2→i=0∧p2=fp:=fun i p2 e=>by
   have e2:(if i=0 then some fp else none)=some p2:=e
   split at e2
   ·rename_i hi;exact ⟨hi,(Option.some.inj e2).symm⟩
   ·cases e2
  have mem:Mem w0 μ [.vec t3 1 l false] W:=by
   refine ⟨⟨⟨rfl,rfl,rfl,by rw [hh0,XH];exact Nat.le_refl _,fun k _ ho=>(X1J ho).symm,Nat.le_refl _⟩,fun i row e => ?_,fun i j p p' b e e' hb hb' => ?_,fun i p e => ?_,fun i p b' e hb => ?_⟩,fun i hi => ?_,fun i e => ?_,fun i p e=>by cases e⟩
   ·cases i with
    | zero =>
     simp at e;subst e
     exact .inr ⟨rfl,rfl,rfl,g1,g2,(fun h=>by cases h),arr2,g3,by rw [g4];exact (Nat.mul_one c).symm,g5⟩
    | succ i=>simp at e
   ·rw [(hμ0 i p e).1,(hμ0 j p' e').1]
   ·rw [(hμ0 i p e).2];simp [FP.blks,FP.ib,fp]
   ·rw [(hμ0 i p e).2,hfb] at hb
    simp only [List.mem_singleton] at hb;subst hb
    exact ⟨.inl (List.mem_singleton.2 rfl),hown.2⟩
   ·exact if_neg (by simp at hi;omega)
   ·cases i<;>simp at e
  refine ((h t3).2 w0 μ W vs mem ⟨by simpa using hp1,fun i c2 e => ?_⟩).mono fun e w' ⟨v,μ',he,hsub,hm',hrep⟩=>⟨v,M,he,Sub.refl _,?_,Rep.of_S (X1F hrep hr)⟩
  ·cases i with
   | zero=>simp at e;subst e;rw [hx];exact .own 0 fp rfl
   | succ i=>simp at e;exact hscal _ _ i c2 e
  have hμ':μ' 0=some fp:=hsub 0 fp rfl
  have hrow':=hm'.row 0 _ rfl
  rw [hμ'] at hrow'
  rcases hrow' with ⟨kz,_⟩ | ⟨_,_,_,k3,k4,_,arr3,k6,k7,k8⟩
  ·cases kz
  have hsz:W.heap.size≤w'.heap.size:=by have:=hm'.bel.size;rw [hh0,XH] at this;exact this
  have hblk:∀ b',b' < W.heap.size→b'≠b→w'.heap[b']? = W.heap[b']? := fun b' hb hn=>by
   rw [hm'.bel.block b' (by rw [hh0,XH];exact hb) (by show ¬ b'∈[b];simpa using hn),hh0,X1J (by simpa using hn)]
  have hpb:p.blk≠b:=fun e=>hnd.1 (e ▸ hbp)
  refine ⟨⟨hm.bel.step hm'.bel.os hm'.bel.tape hm'.bel.output hsz hm'.bel.drawn fun k hk ho=>hblk k (Nat.lt_of_lt_of_le hk hm.bel.size) fun hkb => ?_,fun i row e => ?_,hm.sep,hm.nodup,fun i p2 b2 e hb2 => ?_⟩,fun i hi=>hm.out i (by simpa using hi),fun i e => ?_,hm.pin⟩
  ·subst hkb
   rcases hown.1 with h | h
   ·exact ho h
   ·omega
  ·by_cases hqi:q=i
   ·subst hqi
    rw [List.getElem?_set_self hqlt,Option.some.injEq] at e;subst e
    rw [hMq]
    refine .inr ⟨ez,e1,by simpa using e3,by simpa using e4,fun hf=>by simpa using e5 hf,by simpa using e6,arr,?_,e8,fun i li hi => ?_⟩
    ·rw [hblk p.blk (hm.own q p p.blk hMq (FP.mem_blk ez)).2 hpb];exact e7
    ·by_cases hji:j=i
     ·subst hji
      rw [List.getElem?_set_self hjlt,Option.some.injEq] at hi;subst hi
      have hI2:=(e9 j l hj).1
      rw [List.getD_eq_getElem?_getD,hib,Option.getD_some] at hI2 ⊢
      exact ⟨hI2,k3,k4,arr3,t3,k6,by rw [k7];exact Nat.mul_one c,k8⟩
     ·rw [List.getElem?_set_ne hji] at hi
      have hI2:=e9 i li hi
      cases hb2:p.inn.getD i none with
      | none=>rw [hb2] at hI2;exact hI2
      | some bnc2 =>
       obtain ⟨b2,n2,c2⟩:=bnc2
       rw [hb2] at hI2
       obtain ⟨f1,f2,f3,arr4,t4,f4,f5,f6⟩:=hI2
       have hil:i < p.inn.length:=by
        rcases Nat.lt_or_ge i p.inn.length with h | h
        ·exact h
        ·rw [List.getD_eq_getElem?_getD,List.getElem?_eq_none h] at hb2;cases hb2
       have hib2:p.inn[i]? = some (some (b2,n2,c2)):=by
        rw [List.getD_eq_getElem?_getD,List.getElem?_eq_getElem hil,Option.getD_some] at hb2
        rw [List.getElem?_eq_getElem hil,hb2]
       have hbe:b2≠b:=fun e=>by
        subst e
        exact hji (X2W (l:=p.ib) (b:=b2) hnd.2 (by simp [FP.ib,hib]) (by simp [FP.ib,hib2]))
       have hb2m:b2∈p.blks:=by rw [FP.blks_of ez];exact List.mem_cons_of_mem _ (List.mem_filterMap.2 ⟨some b2,List.mem_of_getElem? (i:=i) (by simp [FP.ib,hib2]),rfl⟩)
       exact ⟨f1,f2,f3,arr4,t4,by rw [hblk b2 (hm.own q p b2 hMq hb2m).2 hbe];exact f4,f5,f6⟩
   ·rw [List.getElem?_set_ne hqi] at e
    exact (hm.row i row e).heap fun p2 hp2' b2 hb2=>hblk b2 (hm.own i p2 b2 hp2' hb2).2 fun hbe=>by
     subst hbe
     exact hqi (hm.sep i q p2 p b2 hp2' hMq hb2 hbb).symm
  ·have:=hm.own i p2 b2 e hb2
   exact ⟨this.1,by omega⟩
  ·by_cases hqi:q=i
   ·subst hqi
    rw [List.getElem?_set_self hqlt] at e;cases e
   ·rw [List.getElem?_set_ne hqi] at e
    exact hm.dead i e
end Go.Ab

set_option linter.unusedVariables false
set_option linter.unusedSimpArgs false
namespace Go.Ab
open Go.RowKit
theorem Mem.repl {w0:Old0} {w:World} {μ:Nat→Option FP} {rows:List Row} (h:Mem w0 μ rows w) {r:Nat} {row':Row} (hrow:X6 w0.heap μ w.heap (μ r) row') (hd:X1r row'=false):Mem w0 μ (rows.set r row') w:=by
 refine ⟨⟨h.bel,fun q row e => ?_,h.sep,h.nodup,h.own⟩,fun q hq=>h.out q (by simpa using hq),fun q e => ?_,h.pin⟩
 ·by_cases hqr:r=q
  ·subst hqr
   rw [List.getElem?_set_self'] at e
   cases hx:rows[r]? with
   | none=>rw [hx] at e;simp at e
   | some y =>
    rw [hx] at e
    have:row=row':=by simpa using e.symm
    subst this;exact hrow
  ·rw [List.getElem?_set_ne hqr] at e;exact h.row q row e
 ·by_cases hqr:r=q
  ·subst hqr
   rw [List.getElem?_set_self'] at e
   cases hx:rows[r]? with
   | none=>rw [hx] at e;simp at e
   | some y=>rw [hx] at e;simp at e;subst e;simp [X1r] at hd
  ·rw [List.getElem?_set_ne hqr] at e;exact h.dead q e
inductive NPos where
 | tm (t:Nat)
 | tmc (t j:Nat)
 | row (r j:Nat)
def X2A:Row→Bool
 | .vec _ _ [] false=>true
 | .nest _ [] false=>true
 | _=>false
def nil1 (st:St) (p:NPos) (row:Row):Option St :=
 match X2A row,p with
 | true, .tm t=>match st.tm[t]? with
  | some .nils=>some ⟨st.tm.set t (.own st.rows.length),st.rows ++ [row]⟩
  | _=>none
 | true, .tmc t j=>match st.tm[t]? with
  | some (.agg cs)=>match cs[j]? with
   | some .nils=>some ⟨st.tm.set t (.agg (cs.set j (.own st.rows.length))),st.rows ++ [row]⟩
   | _=>none
  | _=>none
 | true, .row r j=>match st.rows[r]? with
  | some (.box ty cs)=>match cs[j]? with
   | some .nils=>some ⟨st.tm,(st.rows ++ [row]).set r (.box ty (cs.set j (.own st.rows.length)))⟩
   | _=>none
  | _=>none
 | _,_=>none
def X1T:List (NPos × Row)→St→Option St
 | [],st=>some st
 | (p,row) :: ps,st=>match nil1 st p row with
  | some st'=>X1T ps st'
  | none=>none
theorem X6H {w0:Old0} {st st':St} {a:Act} {w:World} {p:NPos} {row:Row} (h:nil1 st p row=some st') (hr:Rel w0 st a w):Rel w0 st' a w:=by
 obtain ⟨μ,hr⟩:=hr
 let fp:FP:=⟨0,0,0,0,[],true⟩
 have hnone:=hr.mem.out st.rows.length (Nat.le_refl _)
 have hsub:Sub μ (setμ μ st.rows.length fp):=X59 hnone
 have hval:fp.val = .slice none 0 0:=rfl
 have hown:∀ v,Rep w0.heap μ .nils v→Rep w0.heap (setμ μ st.rows.length fp) (.own st.rows.length) v:=fun v hv=>by
  cases hv;exact .own st.rows.length fp (by simp [setμ])
 unfold nil1 at h
 cases hn:X2A row with
 | false=>rw [hn] at h;cases h
 | true =>
  rw [hn] at h
  have hrow:∀ H heap,X6 H (setμ μ st.rows.length fp) heap (some fp) row:=by
   intro H heap
   cases row with
   | vec t es l full=>cases l<;>cases full<;>simp [X2A] at hn;exact .inl ⟨rfl,rfl,rfl⟩
   | nest t l full=>cases l<;>cases full<;>simp [X2A] at hn;exact .inl ⟨rfl,rfl,rfl⟩
   | _=>simp [X2A] at hn
  have hdead:X1r row=false:=by cases row<;>simp [X2A] at hn<;>rfl
  have hgrow:Grow w0.heap μ (setμ μ st.rows.length fp) st.rows.length [row] w.heap.size w.heap:=by
   have one:∀ r q,st.rows.length≤r→r < st.rows.length + [row].length→setμ μ st.rows.length fp r=some q→q=fp:=fun r q h1 h2 e=>by
    have:r=st.rows.length:=by simp at h2;omega
    subst this;simp [setμ] at e;exact e.symm
   refine ⟨fun i e => ?_,fun r h => ?_,fun i row' e => ?_,fun r r' p p' b h1 h2 h3 h4 => ?_,fun r q h1 h2 e => ?_,fun r q b h1 h2 e hm => ?_⟩
   ·cases i with
    | zero=>simp at e;subst e;simp [X1r] at hdead
    | succ i=>simp at e
   ·unfold setμ;rw [if_neg (by simp at h;omega)]
   ·cases i with
    | zero=>simp at e;subst e;simpa [setμ] using hrow w0.heap w.heap
    | succ i=>simp at e
   ·simp at h2 h4;omega
   ·rw [one r q h1 h2 e];exact List.nodup_nil
   ·rw [one r q h1 h2 e] at hm;cases hm
  have hm1:=hr.mem.grow (Bw.refl _ w) hgrow (Nat.le_refl _) (fun r h1 _=>hr.mem.out r h1)
  rw [X3h] at hm1
  have htm:∀ t v,st.tm[t]? = some v→Rep w0.heap (setμ μ st.rows.length fp) v (a.tmps.getD t undef):=fun t v e=>(hr.tmps t v e).mono hsub
  have hset:∀ (t:Nat) (v:AV),Rep w0.heap (setμ μ st.rows.length fp) v (a.tmps.getD t undef)→Rel w0 ⟨st.tm.set t v,st.rows ++ [row]⟩ a w:=fun t v hv =>
   ⟨_,hr.defers,by simpa using hr.size,fun s u e=>by
    simp only at e
    by_cases hts:t=s
    ·subst hts
     rw [List.getElem?_set_self'] at e
     cases hx:st.tm[t]? with
     | none=>rw [hx] at e;simp at e
     | some y=>rw [hx] at e;simp at e;subst e;exact hv
    ·rw [List.getElem?_set_ne hts] at e;exact htm s u e,hm1⟩
  cases p with
  | tm t =>
   simp only at h
   split at h
   ·rename_i ht
    simp only [Option.some.injEq] at h;subst h
    exact hset t _ (hown _ (hr.tmps t _ ht))
   ·cases h
  | tmc t j =>
   simp only at h
   split at h
   ·rename_i cs ht
    split at h
    ·rename_i hj
     simp only [Option.some.injEq] at h;subst h
     refine hset t _ ?_
     have hrep:=hr.tmps t _ ht
     generalize a.tmps.getD t undef=x at hrep
     cases hrep with
     | agg _ vs hz hh =>
      refine .agg _ vs (by simpa using hz) fun i c e => ?_
      by_cases hji:j=i
      ·subst hji
       rw [List.getElem?_set_self'] at e
       rw [hj] at e
       simp at e;subst e
       exact hown _ (hh j _ hj)
      ·rw [List.getElem?_set_ne hji] at e;exact (hh i c e).mono hsub
    ·cases h
   ·cases h
  | row r j =>
   simp only at h
   split at h
   ·rename_i ty cs hrr
    split at h
    ·rename_i hj
     simp only [Option.some.injEq] at h;subst h
     refine ⟨_,hr.defers,hr.size,htm,hm1.repl ?_ rfl⟩
     have hrlt:r < st.rows.length:=by
      rcases Nat.lt_or_ge r st.rows.length with h | h
      ·exact h
      ·rw [List.getElem?_eq_none h] at hrr;cases hrr
     have hok:=hm1.row r (.box ty cs) (by rw [List.getElem?_append_left hrlt];exact hrr)
     have hok0:=hr.mem.row r _ hrr
     have hμr:setμ μ st.rows.length fp r=μ r:=by unfold setμ;rw [if_neg (by omega)]
     rw [hμr] at hok ⊢
     cases hq:μ r with
     | none=>rw [hq] at hok;exact hok.elim
     | some q =>
      rw [hq] at hok hok0
      obtain ⟨e0,e1,e2,arr,e3,e4,e5⟩:=hok
      obtain ⟨f0,f1,f2,arr',f3,f4,f5⟩:=hok0
      have harr:arr'=arr:=by rw [e3] at f3;cases f3;rfl
      subst harr
      refine ⟨e0,by simpa using e1,e2,arr',e3,by simpa using e4,fun i c e => ?_⟩
      by_cases hji:j=i
      ·subst hji
       rw [List.getElem?_set_self'] at e
       rw [hj] at e
       simp at e;subst e
       exact hown _ (f5 j _ hj)
      ·rw [List.getElem?_set_ne hji] at e;exact e5 i c e
    ·cases h
   ·cases h
theorem X17 {w0:Old0} {a:Act} {w:World}:∀ {ps:List (NPos × Row)} {st st':St},X1T ps st=some st'→Rel w0 st a w→Rel w0 st' a w
 | [],st,st',h,hr=>by simp [X1T] at h;subst h;exact hr
 | (p,row) :: ps,st,st',h,hr=>by
  simp only [X1T] at h
  split at h
  ·rename_i st1 h1
   exact X17 h (X6H h1 hr)
  ·cases h
def rnF (ks:List Nat):AV→AV
 | .own r=>match idx ks r with
  | some i => .own i
  | none => .any
 | .ptr r j o=>match idx ks r with
  | some i => .ptr i j o
  | none => .any
 | .inn r j=>match idx ks r with
  | some i => .inn i j
  | none => .any
 | .ipt r j k=>match idx ks r with
  | some i => .ipt i j k
  | none => .any
 | .mp r=>match idx ks r with
  | some i => .mp i
  | none => .any
 | .agg _ | .tup _ | .fn _ _ | .bx _ _ => .any
 | v=>v
def rnC (ks:List Nat):AV→AV
 | .agg cs => .agg (cs.map (rnF ks))
 | v=>rnF ks v
def rn (ks:List Nat):AV→AV
 | .tup vs => .tup (vs.map (rnC ks))
 | .fn g cap => .fn g (cap.map (rnF ks))
 | v=>rnC ks v
def X1N (ks:List Nat):Row→Row
 | .box t cs => .box t (cs.map (rn ks))
 | .lits t cs => .lits t (cs.map (rn ks))
 | .vec t es l _ => .vec t es l false
 | .nest t ll _ => .nest t ll false
 | .mapN t kv h => .mapN t kv h
 | .dead => .dead
section
variable {H:Array Obj} {μ μ':Nat→Option FP} {ks:List Nat}
theorem X4k (hs:∀ (i k:Nat),ks[i]? = some k→μ' i=μ k) {c:AV} {v:Value} (h:Rep H μ c v):Rep H μ' (rnF ks c) v:=by
 cases h with
 | any v=>exact .any v
 | b x=>exact .b x
 | i k n=>exact .i k n
 | f k x bits h e=>exact .f k x bits h e
 | nils=>exact .nils
 | slE a c=>exact .slE a c
 | sl l es bl off c val h h1 h2=>exact .sl l es bl off c val h h1 h2
 | ref cs off bl base val h h2=>exact .ref cs off bl base val h h2
 | own r p h =>
  simp only [rnF]
  split
  ·rename_i i hi;exact .own i p (by rw [hs i r (Xv hi)];exact h)
  ·exact .any _
 | ptr r idx off p h =>
  simp only [rnF]
  split
  ·rename_i i hi;exact .ptr i idx off p (by rw [hs i r (Xv hi)];exact h)
  ·exact .any _
 | inn r j p ib h hb =>
  simp only [rnF]
  split
  ·rename_i i hi;exact .inn i j p ib (by rw [hs i r (Xv hi)];exact h) hb
  ·exact .any _
 | ipt r j k p b n c h hb =>
  simp only [rnF]
  split
  ·rename_i i hi;exact .ipt i j k p b n c (by rw [hs i r (Xv hi)];exact h) hb
  ·exact .any _
 | mp r p h hz =>
  simp only [rnF]
  split
  ·rename_i i hi;exact .mp i p (by rw [hs i r (Xv hi)];exact h) hz
  ·exact .any _
 | bx=>exact .any _
 | agg=>exact .any _
 | tup=>exact .any _
 | fn=>exact .any _
theorem X6d (hs:∀ (i k:Nat),ks[i]? = some k→μ' i=μ k) {c:AV} {v:Value} (h:Rep H μ c v):Rep H μ' (rnC ks c) v:=by
 cases c with
 | agg cs =>
  cases h with | agg _ vs hz hh =>
  refine .agg _ vs (by simpa using hz) fun j c e => ?_
  rw [List.getElem?_map,Option.map_eq_some_iff] at e
  obtain ⟨c0,e0,rfl⟩:=e
  exact X4k hs (hh j c0 e0)
 | _=>exact X4k hs h
theorem X5O (hs:∀ (i k:Nat),ks[i]? = some k→μ' i=μ k) {c:AV} {v:Value} (h:Rep H μ c v):Rep H μ' (rn ks c) v:=by
 cases c with
 | tup cs =>
  cases h with | tup _ vs hz hh =>
  refine .tup _ vs (by simpa using hz) fun j c e => ?_
  rw [List.getElem?_map,Option.map_eq_some_iff] at e
  obtain ⟨c0,e0,rfl⟩:=e
  exact X6d hs (hh j c0 e0)
 | fn g cap =>
  cases h with | fn _ _ vs hz hh =>
  refine .fn g _ vs (by simpa using hz) fun j c e => ?_
  rw [List.getElem?_map,Option.map_eq_some_iff] at e
  obtain ⟨c0,e0,rfl⟩:=e
  exact X4k hs (hh j c0 e0)
 | _=>exact X6d hs h
theorem X7y (hs:∀ (i k:Nat),ks[i]? = some k→μ' i=μ k) {heap:Array Obj} {p:Option FP} {row:Row} (h:X6 H μ heap p row):X6 H μ' heap p (X1N ks row):=by
 cases row with
 | box t cs =>
  cases p with
  | none=>exact h.elim
  | some p =>
   obtain ⟨ez,e1,e2,arr,e3,e4,e5⟩:=h
   refine ⟨ez,by simpa [X1N] using e1,e2,arr,e3,by simpa [X1N] using e4,fun j c e => ?_⟩
   rw [List.getElem?_map,Option.map_eq_some_iff] at e
   obtain ⟨c0,e0,rfl⟩:=e
   exact X5O hs (e5 j c0 e0)
 | lits t cs =>
  cases p with
  | none=>exact h.elim
  | some p =>
   obtain ⟨ez,e1,e2,e2',e2'',arr,e3,e4,e5⟩:=h
   refine ⟨ez,e1,e2,by simpa [X1N] using e2',by simpa [X1N] using e2'',arr,e3,by simpa [X1N] using e4,fun j c e => ?_⟩
   rw [List.getElem?_map,Option.map_eq_some_iff] at e
   obtain ⟨c0,e0,rfl⟩:=e
   exact X5O hs (e5 j c0 e0)
 | vec t es l full =>
  cases p with
  | none=>exact h.elim
  | some p =>
   rcases h with ⟨h1,h2,_⟩ | ⟨ez,e1,e2,e3,e4,_,e6⟩
   ·exact .inl ⟨h1,h2,rfl⟩
   ·exact .inr ⟨ez,e1,e2,e3,e4,(fun h=>by cases h),e6⟩
 | nest t ll full =>
  cases p with
  | none=>exact h.elim
  | some p =>
   rcases h with h | ⟨ez,e1,e2,e3,_,e6⟩
   ·exact .inl h
   ·exact .inr ⟨ez,e1,e2,e3,(fun h=>by cases h),e6⟩
 | mapN=>cases p<;>exact h
 | dead=>cases p<;>exact trivial
end
def X4l (np:Nat) (mask:List Bool) (ks:List Nat) (st:St):Option St :=
 match X13 (Xa 0 np ++ ks),X16 st.rows (Xa 0 np ++ ks) with
 | true,some rs=>some ⟨(XJ mask st.tm).map (rn (Xa 0 np ++ ks)),rs.map (X1N (Xa 0 np ++ ks))⟩
 | _,_=>none
theorem Rel.forgetK {w0:Old0} {st st':St} {a:Act} {w:World} {np:Nat} {mask:List Bool} {ks:List Nat} (hn:w0.np≤np) (he:X4l np mask ks st=some st') (h:Rel w0 st a w):Rel w0 st' a w:=by
 obtain ⟨μ,h⟩:=h
 unfold Ab.X4l at he
 generalize hks:Xa 0 np ++ ks=qs at he
 split at he
 ·rename_i rs hnd hpick
  simp only [Option.some.injEq] at he;subst he
  obtain ⟨hpl,hpg⟩:=X1A hpick
  have hnd:=XT hnd
  let μ':Nat→Option FP:=fun i=>(qs[i]?).bind μ
  have hs:∀ i k,qs[i]? = some k→μ' i=μ k:=fun i k e=>by show (qs[i]?).bind μ=μ k;rw [e];rfl
  have hμ0:∀ i p,μ' i=some p→∃ k,qs[i]? = some k∧μ k=some p:=by
   intro i p e
   cases hk:qs[i]? with
   | none =>
    have e2:(qs[i]?).bind μ=some p:=e
    rw [hk] at e2;cases e2
   | some k=>exact ⟨k,rfl,by rw [← hs i k hk];exact e⟩
  have hlt:∀ i k,qs[i]? = some k→i < qs.length:=fun i k e=>by
   rcases Nat.lt_or_ge i qs.length with h | h
   ·exact h
   ·rw [List.getElem?_eq_none h] at e;cases e
  have hrow:∀ i row,(rs.map (X1N qs))[i]? = some row→∃ k row0,qs[i]? = some k∧st.rows[k]? = some row0∧row=X1N qs row0:=fun i row e=>by
   rw [List.getElem?_map,Option.map_eq_some_iff] at e
   obtain ⟨row0,e0,rfl⟩:=e
   have hil:i < qs.length:=by
    rw [← hpl]
    rcases Nat.lt_or_ge i rs.length with h | h
    ·exact h
    ·rw [List.getElem?_eq_none h] at e0;cases e0
   exact ⟨qs[i],row0,List.getElem?_eq_getElem hil,by rw [← hpg i _ (List.getElem?_eq_getElem hil)];exact e0,rfl⟩
  refine ⟨μ',h.defers,by simp [X1v,h.size],fun t v e => ?_,⟨⟨h.mem.bel,fun i row e => ?_,fun i j p p' b e e' hb hb' => ?_,fun i p e => ?_,fun i p b e hb => ?_⟩,fun i hi => ?_,fun i e => ?_,fun r p e => ?_⟩⟩
  ·simp only [List.getElem?_map,Option.map_eq_some_iff] at e
   obtain ⟨v0,e0,rfl⟩:=e
   rcases X2l _ _ _ _ e0 with rfl | e1
   ·exact .any _
   ·exact X5O hs (h.tmps t v0 e1)
  ·obtain ⟨k,row0,e1,e2,rfl⟩:=hrow i row e
   rw [hs i k e1]
   exact X7y hs (h.mem.row k row0 e2)
  ·obtain ⟨k,g1,g2⟩:=hμ0 i p e
   obtain ⟨k',g3,g4⟩:=hμ0 j p' e'
   have:=h.mem.sep k k' p p' b g2 g4 hb hb'
   subst this
   have hil:=hlt i k g1
   have hjl:=hlt j k g3
   rw [List.getElem?_eq_getElem hil] at g1
   rw [List.getElem?_eq_getElem hjl] at g3
   exact X38 hnd hil hjl ((Option.some.inj g1).trans (Option.some.inj g3).symm)
  ·obtain ⟨k,g1,g2⟩:=hμ0 i p e
   exact h.mem.nodup k p g2
  ·obtain ⟨k,g1,g2⟩:=hμ0 i p e
   exact h.mem.own k p b g2 hb
  ·show (qs[i]?).bind μ=none
   simp only [List.length_map,hpl] at hi
   rw [List.getElem?_eq_none hi];rfl
  ·obtain ⟨k,row0,e1,e2,e3⟩:=hrow i _ e
   rw [hs i k e1]
   refine h.mem.dead k ?_
   cases row0<;>simp [X1N] at e3
   exact e2
  ·have hrn:=w0.pinLt r p e
   have:qs[r]? = some r:=by
    rw [← hks,List.getElem?_append_left (by rw [X1V];omega),X2Q _ _ _ (by omega),Nat.zero_add]
   rw [hs r r this]
   exact h.mem.pin r p e
 ·cases he
theorem Lp.nil {P:Program} {N:Nat} {body:Code} {st st2 st':St} {e:Ex} {ps:List (NPos × Row)} (h:X1T ps st=some st2) (k:Lp P N body st2 e st'):Lp P N body st e st':=by
 obtain ⟨m,k⟩:=k
 exact ⟨m,fun w0 hp a w Q hr hQ=>k w0 hp a w Q (X17 h hr) hQ⟩
theorem Lp.pick {P:Program} {N:Nat} {body:Code} {st st2 st':St} {e:Ex} {mask:List Bool} {ks:List Nat} (h:X4l N mask ks st=some st2) (k:Lp P N body st2 e st'):Lp P N body st e st':=by
 obtain ⟨m,k⟩:=k
 exact ⟨m,fun w0 hp a w Q hr hQ=>k w0 hp a w Q (hr.forgetK hp h) hQ⟩
def X1K (P:Program) (E:Env) (body:Code) (st:St) (ans:List Ans) (ps:List (NPos × Row)) (mask:List Bool) (ks:List Nat):Option (Ex × St × List Prop) :=
 match evc P E body st ans with
 | some (e,st',[],C)=>match X1T ps st' with
  | some st''=>match X4l E.np mask ks st'' with
   | some st3=>some (e,st3,C)
   | none=>none
  | none=>none
 | _=>none
theorem X43 {P:Program} {E:Env} (hE:EOk P E) (hm:P.follows .mixedOrders=true) {body:Code} {st st2 st3 st':St} {ans:List Ans} {ps:List (NPos × Row)} {mask:List Bool} {ks:List Nat} {e:Ex} {C:List Prop}
  (h:X1K P E body st ans ps mask ks=some (.norm,st2,C)) (hC:All C) (hs:st2=st3) (k:Lp P E.np body st3 e st'):Lp P E.np body st e st':=by
 unfold X1K at h
 split at h
 ·rename_i e1 st1 C1 hev
  split at h
  ·rename_i st4 h4
   split at h
   ·rename_i st5 h5
    simp only [Option.some.injEq,Prod.mk.injEq] at h
    obtain ⟨rfl,rfl,rfl⟩:=h
    subst hs
    obtain ⟨m,k⟩:=k
    refine ⟨m + 1,fun w0 hp a w Q hr hQ => ?_⟩
    rw [rounds_succ]
    exact X37 hE hm body hev hC w0 hp a w _ hr fun a' w' hr'=>k w0 hp a' w' Q ((X17 h4 hr').forgetK hp h5) hQ
   ·cases h
  ·cases h
 ·cases h
theorem X77 {P:Program} {E:Env} (hE:EOk P E) (hm:P.follows .mixedOrders=true) {body:Code} {st st2 st3:St} {ans:List Ans} {ps:List (NPos × Row)} {mask:List Bool} {ks:List Nat} {e:Ex} {C:List Prop}
  (h:X1K P E body st ans ps mask ks=some (e,st2,C)) (hC:All C) (he:e ≠ .norm) (hs:st2=st3):Lp P E.np body st e st3:=by
 unfold X1K at h
 split at h
 ·rename_i e1 st1 C1 hev
  split at h
  ·rename_i st4 h4
   split at h
   ·rename_i st5 h5
    simp only [Option.some.injEq,Prod.mk.injEq] at h
    obtain ⟨rfl,rfl,rfl⟩:=h
    subst hs
    refine ⟨1,fun w0 hp a w Q hr hQ => ?_⟩
    rw [rounds_succ]
    refine X37 hE hm body hev hC w0 hp a w _ hr fun a' w' hr' => ?_
    have:=hQ a' w' ((X17 h4 hr').forgetK hp h5)
    cases e1 with
    | norm=>exact absurd rfl he
    | exit id=>exact this
    | ret=>exact this
   ·cases h
  ·cases h
 ·cases h
end Go.Ab

set_option linter.unusedVariables false
set_option linter.unusedSimpArgs false
namespace Go.Ab
open Go.RowKit
def X51 (P:Program) (E:Env) (fn:Func) (c:Code) (rows:List Row) (args:List AV) (ans:List Ans) (ps:List (NPos × Row)):Option (AV × List Row × List Prop) :=
 match Nat.beq rows.length E.np with
 | false=>none
 | true=>match evc P E c ⟨args ++ List.replicate (fn.ntmps - args.length) .any,rows⟩ ans with
  | some (.exit _,_,_,_)=>none
  | some (_,st0,ans',C)=>match X1T ps st0 with
   | none=>none
   | some st=>match X50 E.T st fn.results.toList,ans' with
   | some r,[.keep ks]=>match X16 st.rows (Xa 0 rows.length ++ ks) with
    | some rs=>match X13 (Xa 0 rows.length ++ ks) && (rs.map (XR (Xa 0 rows.length ++ ks))).all (XG (Xa 0 rows.length ++ ks).length) && XN (Xa 0 rows.length ++ ks).length (ren (Xa 0 rows.length ++ ks) r) with
     | true=>some (ren (Xa 0 rows.length ++ ks) r,rs.map (XR (Xa 0 rows.length ++ ks)),C)
     | false=>none
    | none=>none
   | _,_=>none
  | none=>none
theorem X2X {P:Program} {E:Env} (hE:EOk P E) (hm:P.follows .mixedOrders=true) {f:FuncId} {fn:Func} {c:Code} {rows rows':List Row} {args:List AV} {ans:List Ans} {ps:List (NPos × Row)} {r:AV} {C:List Prop}
  (hf : P.funcs[f]? = some fn) (hb : fn.body = some c) (hn : (fn.name == "runtime.NumGoroutine") = false) (h : X51 P E fn c rows args ans ps = some (r, rows', C)) (hC : All C) : Xc P f rows args r rows' := by
 refine ⟨⟨fn,hf,by rw [hb];rfl,hn⟩,fun w0 μ0 w vs hmem hp => ?_⟩
 unfold X51 at h
 split at h
 ·cases h
 rename_i hnp
 rw [Nat.beq_eq] at hnp
 have hlt:∀ q p,μ0 q=some p→q < rows.length:=fun q p e=>by
  rcases Nat.lt_or_ge q rows.length with h | h
  ·exact h
  ·rw [hmem.out q h] at e;cases e
 let w1:Old0:={ w0 with pin:=μ0,np:=rows.length,pinLt:=hlt }
 have fin:∀ (e:Ex) (st0 st:St) (ans':List Ans) (C':List Prop),(∀ id,e ≠ .exit id)→evc P E c ⟨args ++ List.replicate (fn.ntmps - args.length) .any,rows⟩ ans=some (e,st0,ans',C')→X1T ps st0=some st →
   (match X50 E.T st fn.results.toList,ans' with
   | some r,[.keep ks]=>match X16 st.rows (Xa 0 rows.length ++ ks) with
    | some rs=>match X13 (Xa 0 rows.length ++ ks) && (rs.map (XR (Xa 0 rows.length ++ ks))).all (XG (Xa 0 rows.length ++ ks).length) && XN (Xa 0 rows.length ++ ks).length (ren (Xa 0 rows.length ++ ks) r) with
     | true=>some (ren (Xa 0 rows.length ++ ks) r,rs.map (XR (Xa 0 rows.length ++ ks)),C')
     | false=>none
    | none=>none
   | _,_=>none)=some (r,rows',C)→Calls P f vs w fun e w' => ∃ v μ',e = .returned v∧Sub μ0 μ'∧Mem w0 μ' rows' w'∧Rep w0.heap μ' r v:=by
  intro e st0 st ans' C' hex hev hps h
  split at h
  ·rename_i r0 ks1 hres
   generalize hks:Xa 0 rows.length ++ ks1=ks at h
   split at h
   ·rename_i rs hpick
    split at h
    ·rename_i hok
     simp only [Bool.and_eq_true] at hok
     simp only [Option.some.injEq,Prod.mk.injEq] at h
     obtain ⟨rfl,rfl,rfl⟩:=h
     obtain ⟨hpl,hpg⟩:=X1A hpick
     have hnd:=XT hok.1.1
     have hokr:=hok.1.2
     rw [List.all_eq_true] at hokr
     have hEv:=X37 hE hm c hev hC
     have hkn:∀ i,i < rows.length→ks[i]? = some i:=fun i hi=>by
      rw [← hks,List.getElem?_append_left (by rw [X1V];exact hi),X2Q _ _ _ hi,Nat.zero_add]
     refine calls_of_wp hf hb (hEv w1 (Nat.le_of_eq hnp) _ w _ ⟨μ0,rfl,?_,?_,⟨⟨⟨hmem.bel.os,hmem.bel.tape,hmem.bel.output,hmem.bel.size,hmem.bel.block,hmem.bel.drawn⟩,hmem.row,hmem.sep,hmem.nodup,hmem.own⟩,hmem.out,hmem.dead,Sub.refl _⟩⟩ fun a' w' hr' => ?_)
     ·simp [hp.1]
     ·intro t v e
      simp only at e ⊢
      rw [Array.getD_eq_getD_getElem?]
      by_cases ht:t < args.length
      ·rw [List.getElem?_append_left ht] at e
       rw [Array.getElem?_append_left (by rw [hp.1];exact ht),← Array.getD_eq_getD_getElem?]
       exact hp.2 t v e
      ·rw [List.getElem?_append_right (by omega),List.getElem?_replicate] at e
       split at e
       ·cases e;exact .any _
       ·cases e
     ·obtain ⟨μ,hr'⟩:=X17 hps hr'
      obtain ⟨x,hx1,hx2⟩:=X64 hE.T hr' hres
      let μ':Nat→Option FP:=fun i=>(ks[i]?).bind μ
      have hμ:∀ i k,ks[i]? = some k→μ' i=μ k:=fun i k e=>by show (ks[i]?).bind μ=μ k;rw [e];rfl
      have hμ0:∀ i p,μ' i=some p→∃ k,ks[i]? = some k∧μ k=some p:=by
       intro i p e
       cases hk:ks[i]? with
       | none =>
        have e2:(ks[i]?).bind μ=some p:=e
        rw [hk] at e2;cases e2
       | some k=>exact ⟨k,rfl,by rw [← hμ i k hk];exact e⟩
      have hsub:Sub μ0 μ':=fun q p e=>by
       have hq:q < rows.length:=w1.pinLt q p e
       rw [hμ q q (hkn q hq)]
       exact hr'.mem.pin q p e
      have hbel:=hr'.mem.bel
      have hpost:a'.defers=[]∧∃ v,(results fn a'.tmps).run P w' = .ok v w'∧∃ v' μ',Ending.returned v = .returned v'∧Sub μ0 μ'∧Mem w0 μ' (rs.map (XR ks)) w'∧Rep w0.heap μ' (ren ks r0) v':=by
       refine ⟨hr'.defers,x,hx1,x,μ',rfl,hsub,⟨⟨⟨hbel.os,hbel.tape,hbel.output,hbel.size,hbel.block,hbel.drawn⟩,fun i row hi => ?_,fun i j p p' b h5 h6 h7 h8 => ?_,fun i p h3 => ?_,fun i p b h3 h4 => ?_⟩,fun i hi => ?_,fun i hi => ?_,hmem.pin.trans hsub⟩,X81 hμ hok.2 hx2⟩
       ·rw [List.getElem?_map,Option.map_eq_some_iff] at hi
        obtain ⟨row0,hi0,rfl⟩:=hi
        have hil:i < ks.length:=by
         rw [← hpl]
         rcases Nat.lt_or_ge i rs.length with h | h
         ·exact h
         ·rw [List.getElem?_eq_none h] at hi0;cases hi0
        have hi1:=hi0
        rw [hpg i _ (List.getElem?_eq_getElem hil)] at hi1
        rw [hμ i _ (List.getElem?_eq_getElem hil)]
        exact X76 hμ (hokr _ (List.mem_map.2 ⟨row0,List.mem_of_getElem? hi0,rfl⟩)) (hr'.mem.row _ _ hi1)
       ·obtain ⟨k,g1,g2⟩:=hμ0 i p h5
        obtain ⟨k',g3,g4⟩:=hμ0 j p' h6
        have:=hr'.mem.sep k k' p p' b g2 g4 h7 h8
        subst this
        have hil:i < ks.length:=by
         rcases Nat.lt_or_ge i ks.length with h | h
         ·exact h
         ·rw [List.getElem?_eq_none h] at g1;cases g1
        have hjl:j < ks.length:=by
         rcases Nat.lt_or_ge j ks.length with h | h
         ·exact h
         ·rw [List.getElem?_eq_none h] at g3;cases g3
        rw [List.getElem?_eq_getElem hil] at g1
        rw [List.getElem?_eq_getElem hjl] at g3
        exact X38 hnd hil hjl ((Option.some.inj g1).trans (Option.some.inj g3).symm)
       ·obtain ⟨k,g1,g2⟩:=hμ0 i p h3
        exact hr'.mem.nodup k p g2
       ·obtain ⟨k,g1,g2⟩:=hμ0 i p h3
        exact hr'.mem.own k p b g2 h4
       ·show (ks[i]?).bind μ=none
        rw [List.length_map,hpl] at hi
        rw [List.getElem?_eq_none hi];rfl
       ·rw [List.getElem?_map,Option.map_eq_some_iff] at hi
        obtain ⟨row0,hi0,h0⟩:=hi
        have:=hokr _ (List.mem_map.2 ⟨row0,List.mem_of_getElem? hi0,rfl⟩)
        rw [h0] at this
        simp [XG] at this
      cases e with
      | norm=>exact hpost
      | ret=>exact hpost
      | exit id=>exact absurd rfl (hex id)
    ·cases h
   ·cases h
  ·cases h
 split at h
 ·cases h
 ·rename_i e st0 ans' C' hne hev
  split at h
  ·cases h
  ·rename_i st hps
   exact fin e st0 st ans' C' (fun id he=>hne id he) hev hps h
 ·cases h
theorem Xc.fn {P:Program} {g:FuncId} {args:List AV} {r:AV} {new:List Row} (h:Xc P g [] args r new) (hok:X1t new=true):Fn P g args r new:=by
 refine ⟨h.1,fun w vs hp => ?_⟩
 have hmem:Mem (Old0.of w) (fun _=>none) [] w :=
  ⟨⟨⟨rfl,rfl,rfl,Nat.le_refl _,fun _ _ _=>rfl,Nat.le_refl _⟩,(fun i row e=>by simp at e),(fun _ _ _ _ _ e=>by cases e),(fun _ _ e=>by cases e),(fun _ _ _ e=>by cases e)⟩,fun _ _=>rfl,(fun i e=>by simp at e),(fun _ _ e=>by cases e)⟩
 refine (h.2 (Old0.of w) _ w vs hmem hp).mono fun e w' ⟨v,μ',he,_,hm,hr⟩=>⟨v,μ',he,hm.bel.of,⟨fun i e => ?_,fun q hq => ?_,fun i row e => ?_,fun q q' p p' b _ _ _ _ e e' hb hb'=>hm.sep q q' p p' b e e' hb hb',fun q p _ _ e=>hm.nodup q p e,fun q p b _ _ e hb => ?_⟩,hr⟩
 ·simp only [X1t,List.all_eq_true] at hok
  exact absurd (hok _ (List.mem_of_getElem? e)) (by simp)
 ·exact hm.out q (by omega)
 ·rw [Nat.zero_add];exact hm.row i row e
 ·obtain ⟨g5,g6⟩:=hm.own q p b e hb
  exact ⟨g5.elim (fun h=>h.elim) fun h=>h,g6⟩
def subA:Option Nat→AV→AV
 | some n, .ref cs off => .ref ((cs.drop off).take n) 0
 | _,v=>v
def subL:List (Option Nat)→List AV→List AV
 | n :: ns,v :: vs=>subA n v :: subL ns vs
 | _,vs=>vs
theorem X7z {H:Array Obj} {μ:Nat→Option FP} {n:Option Nat} {v:AV} {x:Value} (h:Rep H μ v x):Rep H μ (subA n v) x:=by
 cases n with
 | none=>cases v<;>exact h
 | some n =>
  cases h with
  | ref cs off bl base val h1 h2 =>
   have:=Rep.ref (μ:=μ) ((cs.drop off).take n) 0 bl (base + off) (fun j=>val (off + j)) (fun j c e=>by
    rw [getElem?_part] at e
    split at e
    ·rw [Nat.add_assoc];exact h1 _ _ e
    ·cases e) (fun j c e=>by
    rw [getElem?_part] at e
    split at e
    ·exact h2 _ _ e
    ·cases e)
   exact this
  | _=>first | exact .any _ | exact .b _ | exact .i _ _ | exact .f _ _ _ ‹_› ‹_› | exact .agg _ _ ‹_› ‹_› | exact .tup _ _ ‹_› ‹_› | exact .nils | exact .slE _ _ | exact .sl _ _ _ _ _ _ ‹_› ‹_› ‹_› | exact .own _ _ ‹_› | exact .inn _ _ _ _ ‹_› ‹_› | exact .ipt _ _ _ _ _ _ _ ‹_› ‹_› | exact .ptr _ _ _ _ ‹_› | exact .mp _ _ ‹_› ‹_› | exact .bx _ _ _ ‹_› | exact .fn _ _ _ ‹_› ‹_›
theorem X5P:∀ {ns:List (Option Nat)} {vs:List AV},(subL ns vs).length=vs.length∧∀ (j:Nat) (c:AV),(subL ns vs)[j]? = some c→∃ n u,vs[j]? = some u∧c=subA n u
 | [],vs=>⟨by cases vs<;>rfl,fun j c e=>⟨none,c,by cases vs<;>exact e,by cases c<;>rfl⟩⟩
 | n :: ns,[]=>⟨rfl,fun j c e=>by simp [subL] at e⟩
 | n :: ns,v :: vs=>by
  obtain ⟨h1,h2⟩:=X5P (ns:=ns) (vs:=vs)
  refine ⟨by simp [subL,h1],fun j c e => ?_⟩
  cases j with
  | zero=>simp [subL] at e;exact ⟨n,v,rfl,e.symm⟩
  | succ j=>simp [subL] at e;simpa using h2 j c e
theorem X6e {H:Array Obj} {μ:Nat→Option FP} {ns:List (Option Nat)} {args:List AV} {vs:Array Value} (h:PW H μ args vs):PW H μ (subL ns args) vs:=by
 obtain ⟨h1,h2⟩:=X5P (ns:=ns) (vs:=args)
 refine ⟨by rw [h.1,h1],fun j c e => ?_⟩
 obtain ⟨n,u,e1,rfl⟩:=h2 j c e
 exact X7z (h.2 j u e1)
theorem Fn.sub {P:Program} {g:FuncId} {args:List AV} {r:AV} {new:List Row} (ns:List (Option Nat)) (h:Fn P g (subL ns args) r new):Fn P g args r new :=
 ⟨h.1,fun w vs hp=>h.2 w vs (X6e hp)⟩
theorem Xc.sub {P:Program} {g:FuncId} {args:List AV} {r:AV} {R R':List Row} (ns:List (Option Nat)) (h:Xc P g R (subL ns args) r R'):Xc P g R args r R' :=
 ⟨h.1,fun w0 μ w vs hm hp=>h.2 w0 μ w vs hm (X6e hp)⟩
theorem X85 {α β:Type} {l:List α} {f:α→β}:((l.map f).length:Int)=(l.length:Int):=by simp
theorem X6I {α:Type} [Inhabited α] {c:α→List AV} {l:List (List α)} {j:Nat} (h:j < l.length):(l.map fun l=>l.map c)[j]? = some ((l.getD j default).map c):=by
 rw [List.getElem?_map,List.getElem?_eq_getElem h,List.getD_eq_getElem?_getD,List.getElem?_eq_getElem h];rfl
end Go.Ab

set_option linter.unusedVariables false
set_option linter.unusedSimpArgs false
namespace Go.Ab
open Go.RowKit
def mkL {α:Type} (f:α→Int→Int × α):List α→Int→Int × List α
 | [],c=>(c,[])
 | x :: l,c=>((mkL f l (f x c).1).1,(f x c).2 :: (mkL f l (f x c).1).2)
def hdL {α:Type} (p:α→Int→Bool) (q:α→Int→Int):List α→Int→Option Int
 | [],c=>some c
 | x :: l,c=>cond (p x c) (hdL p q l (q x c)) none
theorem X6J {α:Type} (f:α→Int→Int × α):∀ (l:List α) (c:Int),(mkL f l c).2.length=l.length
 | [],_=>rfl
 | x :: l,c=>by simp [mkL,X6J f l]
theorem X4m {α:Type} {f:α→Int→Int × α} {p:α→Int→Bool} {q:α→Int→Int} (hp:∀ x c,p (f x c).2 c=true) (hq:∀ x c,q (f x c).2 c=(f x c).1) :
  ∀ (l:List α) (c:Int),hdL p q (mkL f l c).2 c=some (mkL f l c).1
 | [],c=>rfl
 | x :: l,c=>by
  show cond (p (f x c).2 c) (hdL p q (mkL f l (f x c).1).2 (q (f x c).2 c)) none=_
  rw [hp,hq,cond_true,X4m hp hq l (f x c).1]
  rfl
theorem X3F {α:Type} {f:α→Int→Int × α} {W:Nat} {M:Int}:∀ (l:List α) (c:Int),(∀ x∈l,∀ c:Int,0≤c→c + W≤M→c≤(f x c).1∧(f x c).1≤c + W)→0≤c→c + (l.length:Int) * W≤M →
  c≤(mkL f l c).1∧(mkL f l c).1≤c + (l.length:Int) * W
 | [],c,_,h0,h=>by simp [mkL]
 | x :: l,c,hf,h0,h=>by
  simp only [List.length_cons,Int.natCast_add,Int.natCast_one,Int.add_mul,Int.one_mul] at h ⊢
  have hm:0≤(l.length:Int) * (W:Int):=Int.mul_nonneg (by omega) (by omega)
  obtain ⟨h1,h2⟩:=hf x (by simp) c h0 (by omega)
  obtain ⟨h3,h4⟩:=X3F l (f x c).1 (fun y hy=>hf y (by simp [hy])) (by omega) (by omega)
  show c≤(mkL f l (f x c).1).1∧_
  exact ⟨by omega,by show (mkL f l (f x c).1).1≤_;omega⟩
theorem X78 {α:Type} {f:α→Int→Int × α} {W:Nat} (l:List α) (c:Int) (hf:∀ x∈l,∀ c:Int,0≤c→c + W≤9223372036854775807→c≤(f x c).1∧(f x c).1≤c + W) (h0:0≤c) (h:c + (l.length:Int) * W≤9223372036854775807) :
  c≤(mkL f l c).1∧(mkL f l c).1≤c + (l.length:Int) * W:=X3F l c hf h0 h
theorem X4E {α:Type} {f:α→Int→Int × α} {p:α→Int→Bool} {q:α→Int→Int} {W:Nat} {M:Int} :
  ∀ (l:List α) (c:Int),(∀ x∈l,∀ c:Int,0≤c→c + W≤M→p (f x c).2 c=true∧q (f x c).2 c=(f x c).1∧c≤(f x c).1∧(f x c).1≤c + W)→0≤c→c + (l.length:Int) * W≤M→hdL p q (mkL f l c).2 c=some (mkL f l c).1
 | [],c,_,_,_=>rfl
 | x :: l,c,hf,h0,h=>by
  simp only [List.length_cons,Int.natCast_add,Int.natCast_one,Int.add_mul,Int.one_mul] at h
  have hm:0≤(l.length:Int) * (W:Int):=Int.mul_nonneg (by omega) (by omega)
  obtain ⟨h1,h2,h3,h4⟩:=hf x (by simp) c h0 (by omega)
  show cond (p (f x c).2 c) (hdL p q (mkL f l (f x c).1).2 (q (f x c).2 c)) none=_
  rw [h1,h2,cond_true,X4E l (f x c).1 (fun y hy=>hf y (by simp [hy])) (by omega) (by omega)]
  rfl
theorem X3d {α:Type} [Inhabited α] {f:α→Int→Int × α} {lo:Nat→Int→Int→List α→Int × List α}
  (h:∀ k c i r,lo (k + 1) c i r=cond (decide (i < (r.length:Int))) (lo k (f (r.getD i.toNat default) c).1 (i + 1) (r.set i.toNat (f (r.getD i.toNat default) c).2)) (c,r)) :
  ∀ (k:Nat) (c i:Int) (r:List α),0≤i→((r.length:Int) - i).toNat < k→lo k c i r=((mkL f (r.drop i.toNat) c).1,r.take i.toNat ++ (mkL f (r.drop i.toNat) c).2):=by
 intro k
 induction k with
 | zero=>intro c i r _ hk;exact absurd hk (Nat.not_lt_zero _)
 | succ k ih =>
  intro c i r h0 hk
  rw [h]
  by_cases hi:i < (r.length:Int)
  ·have hn:i.toNat < r.length:=by omega
   have hg:r.getD i.toNat default=r[i.toNat]:=by rw [List.getD_eq_getElem?_getD,List.getElem?_eq_getElem hn];rfl
   rw [decide_eq_true hi,cond_true,ih _ _ _ (by omega) (by rw [List.length_set];omega),hg]
   have e1:(i + 1).toNat=i.toNat + 1:=by omega
   rw [e1,List.drop_set_of_lt (by omega),List.drop_eq_getElem_cons hn]
   simp only [mkL,Prod.mk.injEq,true_and]
   rw [List.take_succ_eq_append_getElem (by rw [List.length_set];exact hn),List.getElem_set_self,List.take_set_of_le (by omega),List.append_assoc]
   rfl
  ·rw [decide_eq_false hi,cond_false,List.drop_eq_nil_of_le (by omega),List.take_of_length_le (by omega)];simp [mkL]
theorem X3e {α:Type} [Inhabited α] {p:α→Int→Bool} {q:α→Int→Int} {a:List α} {A:Type} {x:A} {lo:Nat→Int→Int→A ⊕ Int}
  (h:∀ k c i,lo (k + 1) c i=cond (decide (i < (a.length:Int))) (cond (p (a.getD i.toNat default) c) (lo k (q (a.getD i.toNat default) c) (i + 1)) (.inl x)) (.inr c)) :
  ∀ (k:Nat) (c i:Int),0≤i→((a.length:Int) - i).toNat < k→lo k c i=match hdL p q (a.drop i.toNat) c with
   | some c' => .inr c'
   | none => .inl x:=by
 intro k
 induction k with
 | zero=>intro c i _ hk;exact absurd hk (Nat.not_lt_zero _)
 | succ k ih =>
  intro c i h0 hk
  rw [h]
  by_cases hi:i < (a.length:Int)
  ·have hn:i.toNat < a.length:=by omega
   have hg:a.getD i.toNat default=a[i.toNat]:=by rw [List.getD_eq_getElem?_getD,List.getElem?_eq_getElem hn];rfl
   rw [decide_eq_true hi,cond_true,List.drop_eq_getElem_cons hn,hg]
   simp only [hdL]
   cases p a[i.toNat] c with
   | false=>rfl
   | true=>rw [cond_true,cond_true,ih _ _ (by omega) (by omega),show (i + 1).toNat=i.toNat + 1 from by omega]
  ·rw [decide_eq_false hi,cond_false,List.drop_eq_nil_of_le (by omega)];rfl
theorem X44 (n:Int):fcmp .neq .f32 (X1 .f32 n) (X1 .f32 n)=false:=by
 rw [X7x];exact X10 FloatKind.f32.format (d := .number (n < 0) n.natAbs 0) rfl
theorem X79 {α:Type} {l:List (List α)} {n j:Nat} (h:∀ t∈l,t.length≤n):(l.getD j default).length≤n:=by
 rw [List.getD_eq_getElem?_getD]
 cases e:l[j]? with
 | none=>exact Nat.zero_le _
 | some t=>exact h t (List.mem_of_getElem? e)
theorem X7.at2 {n:Nat} {ts:List (List Int)} {i k:Int} (h:X7 n ts) (h0:0≤i) (hi:i < (ts.length:Int)) (k0:0≤k) (hk:k < 3∨k < ((ts.getD i.toNat default).length:Int)) :
  (ts.getD i.toNat default).length=3∧0≤(ts.getD i.toNat default).getD k.toNat default∧(ts.getD i.toNat default).getD k.toNat default < (n:Int):=by
 have hn:i.toNat < ts.length:=by omega
 have hm:(ts.getD i.toNat default)∈ts:=by rw [List.getD_eq_getElem?_getD,List.getElem?_eq_getElem hn];exact List.getElem_mem hn
 obtain ⟨h1,h2⟩:=h _ hm
 generalize ts.getD i.toNat default=t at *
 have hk':k.toNat < t.length:=by omega
 refine ⟨h1,?_⟩
 rw [List.getD_eq_getElem?_getD,List.getElem?_eq_getElem hk']
 exact h2 _ (List.getElem_mem hk')
theorem Okt.at {n:Nat} {t:List Int} (h:t.length=3∧∀ x∈t,0≤x∧x < (n:Int)) :
  t.length=3∧(0≤t.getD 0 default∧t.getD 0 default < (n:Int))∧(0≤t.getD 1 default∧t.getD 1 default < (n:Int))∧(0≤t.getD 2 default∧t.getD 2 default < (n:Int)):=by
 obtain ⟨h1,h2⟩:=h
 match t,h1 with
 | [a,b,c],_=>exact ⟨rfl,h2 a (by simp),h2 b (by simp),h2 c (by simp)⟩
end Go.Ab

set_option linter.unusedVariables false
set_option linter.unusedSimpArgs false
namespace Go.Ab
def OkIx {α:Type} (n:Nat) (f:α→Int) (l:List α):Prop:=∀ x∈l,0≤f x∧f x < (n:Int)
theorem OkIx.at {α:Type} [Inhabited α] {n:Nat} {f:α→Int} {l:List α} (h:OkIx n f l) {i:Int} (h0:0≤i) (hi:i < (l.length:Int)):0≤f (l.getD i.toNat default)∧f (l.getD i.toNat default) < (n:Int):=by
 have hn:i.toNat < l.length:=by omega
 rw [List.getD_eq_getElem?_getD,List.getElem?_eq_getElem hn]
 exact h _ (List.getElem_mem hn)
theorem X6K {α:Type} [Inhabited α] (l:List α):((List.range l.length).map fun (j:Nat)=>l.getD j default)=l:=by
 apply List.ext_getElem
 ·simp
 ·intro i h1 h2
  simp only [List.getElem_map,List.getElem_range]
  rw [List.getD_eq_getElem?_getD,List.getElem?_eq_getElem h2];rfl
theorem X3t {α:Type} [Inhabited α] (l:List α):((List.range l.length).map fun (j:Nat)=>l[j]?.getD default)=l:=by
 have:=X6K l
 simpa [List.getD_eq_getElem?_getD] using this
end Go.Ab

namespace Go.Ab
def Scr (_:List Ans) (C:List Prop):Prop:=All C
section
variable {P:Program} {a:List Ans} {C:List Prop}
theorem sN:Scr [] []:=trivial
theorem sK (ks:List Nat) (s:Scr a C):Scr (.keep ks :: a) C:=s
theorem sC {p:Prop} (h:p) (s:Scr a C):Scr a (p :: C):=⟨h,s⟩
theorem sB {x b:Bool} (h:x=b) (s:Scr a C):Scr (.bo b :: a) ((x=b) :: C):=⟨h,s⟩
theorem sB' {x b:Bool} (h:x=b) (s:Scr a C):Scr (.bo (!b) :: a) (((!x)=!b) :: C):=⟨congrArg not h,s⟩
theorem sM {x n:Int} (h:x=n) (s:Scr a C):Scr (.num n :: a) ((x=n) :: C):=⟨h,s⟩
theorem sW (k:IntKind) (e:Int) (s:Scr a C):Scr (.num (k.wrap e) :: a) ((k.wrap e=k.wrap e) :: C):=⟨rfl,s⟩
theorem sI (e:Int) (h1:-9223372036854775808≤e) (h2:e≤9223372036854775807) (s:Scr a C):Scr (.num e :: a) ((IntKind.i64.wrap e=e) :: C):=⟨X22 h1 h2,s⟩
theorem sQ (e:Int) (s:Scr a C):Scr (.num e :: a) ((e=e) :: C):=⟨rfl,s⟩
theorem sE {l:List (List AV)} {k:Nat} {cs:List AV} (h:l[k]? = some cs) (s:Scr a C):Scr (.el cs :: a) ((l[k]? = some cs) :: C):=⟨h,s⟩
theorem sG {α:Type} [Inhabited α] (c:α→List AV) (l:List α) (i:Int) (h0:0≤i) (h:i < l.length) (s:Scr a C):Scr (.el (c (l.getD i.toNat default)) :: a) ((0≤i∧(l.map c)[i.toNat]? = some (c (l.getD i.toNat default))) :: C):=⟨X8o h0 h,s⟩
theorem sV {α:Type} [Inhabited α] (c:α→List AV) (l:List α) (k:Nat) (h:k < l.length) (s:Scr a C):Scr (.el (c (l.getD k default)) :: a) (((l.map c)[k]? = some (c (l.getD k default))) :: C):=⟨X6a h,s⟩
theorem sX {α:Type} (c:α→List AV) (l:List α) (i:Int) (h0:0≤i) (h:i < l.length) (s:Scr a C):Scr a ((0≤i∧i.toNat < (l.map c).length) :: C):=⟨X5K h0 h,s⟩
theorem sZ {α:Type} (c:α→List AV) (l:List α) (s:Scr a C):Scr (.num (l.length:Int) :: a) ((((l.map c).length:Int)=(l.length:Int)) :: C):=⟨X8p,s⟩
theorem sF {g:FuncId} {args:List AV} {r:AV} {rows:List Row} (h:Fn P g args r rows) (s:Scr a C):Scr (.call r rows :: a) (Fn P g args r rows :: C):=⟨h,s⟩
theorem sS {g:FuncId} {R R':List Row} {args:List AV} {r:AV} (h:Xc P g R args r R') (s:Scr a C):Scr (.calls r R' :: a) (Xc P g R args r R' :: C):=⟨h,s⟩
theorem sL (mask:List Bool) (n:Nat) {N:Nat} {body:Code} {st st':St} {e:Ex} (h:Lp P N body st e st') (s:Scr a C):Scr (.loop mask n e st' :: a) (Lp P N body st e st' :: C):=⟨h,s⟩
end
theorem X45 {α:Type} {c:α→List AV} {l:List α} {k:Nat} (h:k < l.length):k < (l.map c).length:=by simpa using h
theorem X8s {α:Type} {c:α→List AV} {l:List (List α)} {k:Nat} (h:k < l.length):k < (l.map fun l=>l.map c).length:=by simpa using h
theorem X7a {α:Type} {c:α→List AV} {l:List (List α)} {i:Int} (h0:0≤i) (h:i.toNat < l.length):0≤i∧i.toNat < (l.map fun l=>l.map c).length:=⟨h0,by simpa using h⟩
theorem X4 {P:Program} {N:Nat} {body:Code} {st:St} {α:Type} (f:α→Ex × St) {x y:α} (h:Lp P N body st (f x).1 (f x).2) (e:x=y):Lp P N body st (f y).1 (f y).2:=e ▸ h
theorem X52 {P:Program} {E:Env} (hE:EOk P E) (hm:P.follows .mixedOrders=true) {f:FuncId} {fn:Func} {c:Code} (rows:List Row) {rows':List Row} {args:List AV} {ans:List Ans} (ps:List (NPos × Row)) (r:AV) (R:List Row) {C:List Prop}
  (hf : P.funcs[f]? = some fn) (s : Scr ans C) (hb : fn.body = some c) (hn : (fn.name == "runtime.NumGoroutine") = false) (h : X51 P E fn c rows args ans ps = some (r, R, C)) {r' : AV} (hr : r = r') (hR : R = rows') : Xc P f rows args r' rows' := by
 subst hr;subst hR;exact X2X hE hm hf hb hn h s
theorem fnS {P:Program} {E:Env} (hE:EOk P E) (hm:P.follows .mixedOrders=true) {f:FuncId} {fn:Func} {c:Code} {rows':List Row} {args:List AV} {ans:List Ans} (ps:List (NPos × Row)) (r:AV) (R:List Row) {C:List Prop}
  (hf : P.funcs[f]? = some fn) (s : Scr ans C) (hb : fn.body = some c) (hn : (fn.name == "runtime.NumGoroutine") = false) (h : X51 P E fn c [] args ans ps = some (r, R, C)) (hok : X1t R = true) {r' : AV} (hr : r = r') (hR : R = rows') : Fn P f args r' rows' := by
 subst hr;subst hR;exact Xc.fn (X2X hE hm hf hb hn h s) hok
theorem X1O {P:Program} {E:Env} (hE:EOk P E) (hm:P.follows .mixedOrders=true) {body:Code} {st st3 st':St} {ans:List Ans} (ps:List (NPos × Row)) (mask:List Bool) (ks:List Nat) {e:Ex} {C:List Prop} (st2:St)
  (s:Scr ans C) (h:X1K P E body st ans ps mask ks=some (.norm,st2,C)) (hs:st2=st3) (k:Lp P E.np body st3 e st'):Lp P E.np body st e st':=X43 hE hm h s hs k
theorem Xo {P:Program} {E:Env} (hE:EOk P E) (hm:P.follows .mixedOrders=true) {body:Code} {st st3 st':St} {ans:List Ans} (ps:List (NPos × Row)) (mask:List Bool) (ks:List Nat) {e:Ex} {C:List Prop}
  (k:Lp P E.np body st3 e st') (s:Scr ans C) (h:X1K P E body st ans ps mask ks=some (.norm,st3,C)):Lp P E.np body st e st':=X43 hE hm h s rfl k
theorem outR {P:Program} {E:Env} (hE:EOk P E) (hm:P.follows .mixedOrders=true) {body:Code} {st st3:St} {ans:List Ans} (ps:List (NPos × Row)) (mask:List Bool) (ks:List Nat) {e:Ex} {C:List Prop}
  (s:Scr ans C) (h:X1K P E body st ans ps mask ks=some (e,st3,C)) (he:e ≠ .norm):Lp P E.np body st e st3:=X77 hE hm h s he rfl
end Go.Ab

set_option linter.unusedVariables false
set_option linter.unusedSimpArgs false
namespace Go.Ab
theorem X6f {α:Type} {f:α→Int→Int × α} {p:α→Prop} (hf:∀ x c,p x→p (f x c).2):∀ (l:List α) (c:Int),(∀ x∈l,p x)→∀ x∈(mkL f l c).2,p x
 | [],c,_,x,hx=>by simp [mkL] at hx
 | y :: l,c,h,x,hx=>by
  simp only [mkL,List.mem_cons] at hx
  rcases hx with rfl | hx
  ·exact hf y c (h y List.mem_cons_self)
  ·exact X6f hf l _ (fun z hz=>h z (List.mem_cons_of_mem _ hz)) x hx
end Go.Ab

set_option linter.unusedVariables false
set_option linter.unusedSimpArgs false
namespace Go.Ab
def mhas {α β:Type} [DecidableEq α] (l:List (α × β)) (k:α):Bool:=l.any fun x=>decide (x.1=k)
def midx {α β:Type} [DecidableEq α] (l:List (α × β)) (k:α):Nat:=l.findIdx fun x=>decide (x.1=k)
def mput {α β:Type} [Inhabited α] (l:List (α × List β)) (j:Nat) (y:List β):List (α × List β):=l.set j ((l.getD j default).1,y)
section
variable {α β:Type} {ck:α→Int × Int} {cv:β→List AV} {l:List (α × List β)} {k:α}
end
theorem X8B {x:Int} (h:0≤x):0≤Int.tmod x 3∧Int.tmod x 3 < 3:=⟨Int.tmod_nonneg 3 h,Int.tmod_lt_of_pos x (by omega)⟩
end Go.Ab

set_option linter.unusedVariables false
set_option linter.unusedSimpArgs false
namespace Go.Ab
open Go.RowKit
structure Gedge where
 e0:Int
 e1:Int
 deriving Inhabited,DecidableEq
def Gedge.cells (v:Gedge):List AV:=[.i .i64 v.e0, .i .i64 v.e1]
def Gedge.pr (v:Gedge):Int × Int:=(v.e0,v.e1)
theorem Gedge.inj:∀ x y:Gedge,x.pr=y.pr→x=y:=by
 rintro ⟨a,b⟩ ⟨c,d⟩ h
 simp only [Gedge.pr,Prod.mk.injEq] at h
 rw [h.1,h.2]
def OkE (n:Nat) (ts:List (List Int)):Prop :=
 n≤64∧ts.length≤128∧∀ t∈ts,∃ a b c,t=[a,b,c]∧(0≤a∧a < (n:Int))∧(0≤b∧b < (n:Int))∧(0≤c∧c < (n:Int))∧a≠b∧b≠c∧a≠c
theorem OkE.tris {n:Nat} {ts:List (List Int)} (h:OkE n ts):X7 n ts:=fun t ht=>by
 obtain ⟨a,b,c,rfl,h1,h2,h3,-⟩:=h.2.2 t ht
 refine ⟨rfl,fun x hx => ?_⟩
 simp only [List.mem_cons,List.not_mem_nil,or_false] at hx
 rcases hx with rfl | rfl | rfl<;>omega
theorem OkE.at {n:Nat} {ts:List (List Int)} {i k:Int} (h:OkE n ts) (h0:0≤i) (hi:i < (ts.length:Int)) (k0:0≤k) (k3:k < 3) :
  (ts.getD i.toNat default).length=3∧0≤Int.tmod (k + 1) 3∧Int.tmod (k + 1) 3 < 3 ∧
  (0≤(ts.getD i.toNat default).getD k.toNat default∧(ts.getD i.toNat default).getD k.toNat default < (n:Int)) ∧
  (0≤(ts.getD i.toNat default).getD (Int.tmod (k + 1) 3).toNat default∧(ts.getD i.toNat default).getD (Int.tmod (k + 1) 3).toNat default < (n:Int))∧(n:Int)≤64∧(ts.length:Int)≤128:=by
 have q1:=h.tris.at2 h0 hi k0 (.inl k3)
 have q2:=X8B (x:=k + 1) (by omega)
 have q3:=h.tris.at2 h0 hi q2.1 (.inl q2.2)
 have:=h.1;have:=h.2.1
 exact ⟨q1.1,q2.1,q2.2,q1.2,q3.2,by omega,by omega⟩
def mkE (u v:Int):Gedge:=if u≤v then ⟨u,v⟩ else ⟨v,u⟩
def tE (t:List Int):List Gedge:=[mkE (t.getD 0 default) (t.getD 1 default),mkE (t.getD 1 default) (t.getD 2 default),mkE (t.getD 2 default) (t.getD 0 default)]
def tHas (t:List Int) (a b:Int):Bool:=(t.getD 0 default == a || (t.getD 1 default == a || t.getD 2 default == a)) && (t.getD 0 default == b || (t.getD 1 default == b || t.getD 2 default == b))
theorem X8t {u v a b:Int} (h:a < b):mkE u v=⟨a,b⟩↔(u=a∧v=b)∨(u=b∧v=a):=by
 unfold mkE
 split<;>simp only [Gedge.mk.injEq]<;>omega
theorem X7b {x y z:Int} (h1:x≠y) (h2:y≠z) (h3:x≠z) {a b:Int} (h:a < b):(⟨a,b⟩:Gedge)∈tE [x,y,z]↔tHas [x,y,z] a b=true:=by
 unfold tE tHas
 simp only [List.getD_cons_zero,List.getD_cons_succ,List.mem_cons,List.not_mem_nil,or_false,eq_comm (a:=(⟨a,b⟩:Gedge)),X8t h,Bool.and_eq_true,Bool.or_eq_true,beq_iff_eq]
 constructor
 ·rintro ((⟨rfl,rfl⟩ | ⟨rfl,rfl⟩) | (⟨rfl,rfl⟩ | ⟨rfl,rfl⟩) | (⟨rfl,rfl⟩ | ⟨rfl,rfl⟩))<;>simp
 ·rintro ⟨rfl | rfl | rfl,rfl | rfl | rfl⟩<;>first | omega | simp_all
theorem X7A {x y z:Int} (h1:x≠y) (h2:y≠z) (h3:x≠z):(tE [x,y,z]).Nodup:=by
 unfold tE mkE
 simp only [List.getD_cons_zero,List.getD_cons_succ,List.nodup_cons,List.mem_cons,List.not_mem_nil,or_false,not_or,not_false_iff,List.nodup_nil,and_true]
 refine ⟨⟨?_,?_⟩,?_⟩<;>(split<;>split<;>simp only [Gedge.mk.injEq]<;>omega)
def gl (l:List (Gedge × List Int)) (e:Gedge):List Int:=cond (mhas l e) ((l.getD (midx l e) default).2) []
theorem Xz {x:Gedge × List Int} {l:List (Gedge × List Int)} {e:Gedge}:mhas (x :: l) e=(decide (x.1=e) || mhas l e):=rfl
theorem X4F {x:Gedge × List Int} {l:List (Gedge × List Int)} {e:Gedge}:midx (x :: l) e=cond (decide (x.1=e)) 0 (midx l e + 1):=by
 unfold midx;rw [List.findIdx_cons]
theorem X1L {x:Gedge × List Int} {l:List (Gedge × List Int)} {e:Gedge}:gl (x :: l) e=cond (decide (x.1=e)) x.2 (gl l e):=by
 unfold gl;rw [Xz,X4F]
 cases decide (x.1=e)<;>simp
theorem X4V {x:Gedge × List Int} {l:List (Gedge × List Int)} {y:List Int}:mput (x :: l) 0 y=(x.1,y) :: l:=rfl
theorem X4n {x:Gedge × List Int} {l:List (Gedge × List Int)} {y:List Int} {j:Nat}:mput (x :: l) (j + 1) y=x :: mput l j y:=by simp [mput]
theorem X6g:∀ (l:List (Gedge × List Int)) (e:Gedge) (y:List Int) (e':Gedge),mhas l e=true→mhas (mput l (midx l e) y) e'=mhas l e'∧gl (mput l (midx l e) y) e'=if e'=e then y else gl l e'
 | [],e,y,e',h=>by simp [mhas] at h
 | x :: l,e,y,e',h=>by
  rw [Xz] at h
  rw [X4F]
  cases hx:decide (x.1=e) with
  | true =>
   have hx':=of_decide_eq_true hx
   rw [cond_true,X4V,Xz,Xz,X1L,X1L]
   refine ⟨rfl,?_⟩
   simp only
   by_cases h1:e'=e
   ·rw [if_pos h1,hx',decide_eq_true h1.symm];rfl
   ·rw [if_neg h1,hx',decide_eq_false fun h=>h1 h.symm];rfl
  | false =>
   rw [hx,Bool.false_or] at h
   obtain ⟨g1,g2⟩:=X6g l e y e' h
   rw [cond_false,X4n,Xz,Xz,X1L,X1L,g1,g2]
   refine ⟨rfl,?_⟩
   have hx':=of_decide_eq_false hx
   by_cases h1:e'=e
   ·rw [if_pos h1,if_pos h1,decide_eq_false fun h=>hx' (h.trans h1)];rfl
   ·rw [if_neg h1,if_neg h1]
theorem X6h:∀ (l:List (Gedge × List Int)) (e:Gedge) (y:List Int) (e':Gedge),mhas l e=false→mhas (l ++ [(e,y)]) e'=(decide (e=e') || mhas l e')∧gl (l ++ [(e,y)]) e'=if e'=e then y else gl l e'
 | [],e,y,e',_=>by
  rw [List.nil_append,Xz,X1L]
  refine ⟨rfl,?_⟩
  by_cases h1:e'=e
  ·rw [if_pos h1,decide_eq_true h1.symm];rfl
  ·rw [if_neg h1,decide_eq_false fun h=>h1 h.symm];rfl
 | x :: l,e,y,e',h=>by
  rw [Xz,Bool.or_eq_false_iff] at h
  obtain ⟨g1,g2⟩:=X6h l e y e' h.2
  have hx':=of_decide_eq_false h.1
  rw [List.cons_append,Xz,X1L,g1,g2,Xz,X1L]
  constructor
  ·cases decide (x.1=e')<;>cases decide (e=e')<;>rfl
  ·by_cases h1:e'=e
   ·rw [if_pos h1,if_pos h1,decide_eq_false fun h=>hx' (h.trans h1)];rfl
   ·rw [if_neg h1,if_neg h1]
def stE (s:List (Gedge × List Int) × List Gedge) (e:Gedge) (i:Int):List (Gedge × List Int) × List Gedge :=
 cond (mhas s.1 e) (cond (((s.1.getD (midx s.1 e) default).2.length:Int) == 0) (mput s.1 (midx s.1 e) ((s.1.getD (midx s.1 e) default).2 ++ [i]),s.2 ++ [e])
  (mput s.1 (midx s.1 e) ((s.1.getD (midx s.1 e) default).2 ++ [i]),s.2)) (s.1 ++ [(e,[i])],s.2 ++ [e])
structure EInv (s:List (Gedge × List Int) × List Gedge):Prop where
 has:∀ e,mhas s.1 e=true↔gl s.1 e≠[]
 mem:∀ e,e∈s.2↔gl s.1 e≠[]
 nd:s.2.Nodup
theorem EInv.nil:EInv ([],[]):=⟨fun e=>by simp [mhas,gl],fun e=>by simp [mhas,gl],List.nodup_nil⟩
theorem X5Q {s:List (Gedge × List Int) × List Gedge} (h:EInv s) (e:Gedge) (i:Int):EInv (stE s e i)∧∀ e',gl (stE s e i).1 e'=if e'=e then gl s.1 e ++ [i] else gl s.1 e':=by
 unfold stE
 cases hh:mhas s.1 e with
 | true =>
  have hne:=(h.has e).1 hh
  have hgl:(s.1.getD (midx s.1 e) default).2=gl s.1 e:=by unfold gl;rw [hh];rfl
  have hz:(((s.1.getD (midx s.1 e) default).2.length:Int) == 0)=false:=by
   rw [hgl,beq_eq_false_iff_ne];intro hc;exact hne (List.length_eq_zero_iff.1 (by omega))
  rw [hz,cond_true,cond_false,hgl]
  have P:=fun e'=>X6g s.1 e (gl s.1 e ++ [i]) e' hh
  refine ⟨⟨fun e' => ?_,fun e' => ?_,h.nd⟩,fun e'=>(P e').2⟩
  ·rw [(P e').1,(P e').2,h.has]
   split
   ·rename_i h1;subst h1;simp [hne]
   ·rfl
  ·rw [(P e').2,h.mem]
   split
   ·rename_i h1;subst h1;simp [hne]
   ·rfl
 | false =>
  have hgl:gl s.1 e=[]:=by unfold gl;rw [hh];rfl
  rw [cond_false,hgl]
  have P:=fun e'=>X6h s.1 e [i] e' hh
  refine ⟨⟨fun e' => ?_,fun e' => ?_,?_⟩,fun e'=>(P e').2⟩
  ·rw [(P e').1,(P e').2,Bool.or_eq_true,h.has,decide_eq_true_iff]
   split
   ·rename_i h1;subst h1;simp
   ·rename_i h1;simp only [eq_comm (a:=e),h1,false_or]
  ·rw [List.mem_append,(P e').2,h.mem,List.mem_singleton]
   split
   ·rename_i h1;subst h1;simp
   ·rename_i h1;simp only [h1,or_false]
  ·rw [List.nodup_append]
   refine ⟨h.nd,by simp,fun a ha b hb => ?_⟩
   simp only [List.mem_singleton] at hb
   subst hb
   intro hab;subst hab
   exact (h.mem a).1 ha hgl
def stT (s:List (Gedge × List Int) × List Gedge) (t:List Int) (i:Int):List (Gedge × List Int) × List Gedge :=
 stE (stE (stE s (mkE (t.getD 0 default) (t.getD 1 default)) i) (mkE (t.getD 1 default) (t.getD 2 default)) i) (mkE (t.getD 2 default) (t.getD 0 default)) i
theorem X86 {s:List (Gedge × List Int) × List Gedge} (h:EInv s) {x y z:Int} (h1:x≠y) (h2:y≠z) (h3:x≠z) (i:Int) :
  EInv (stT s [x,y,z] i)∧∀ e,gl (stT s [x,y,z] i).1 e=gl s.1 e ++ (if e∈tE [x,y,z] then [i] else []):=by
 obtain ⟨a1,a2⟩:=X5Q h (mkE x y) i
 obtain ⟨b1,b2⟩:=X5Q a1 (mkE y z) i
 obtain ⟨c1,c2⟩:=X5Q b1 (mkE z x) i
 refine ⟨c1,fun e => ?_⟩
 have hnd:=X7A h1 h2 h3
 unfold tE at hnd ⊢
 unfold stT
 simp only [List.getD_cons_zero,List.getD_cons_succ,List.nodup_cons,List.mem_cons,List.not_mem_nil,or_false,not_or,not_false_iff,List.nodup_nil,and_true] at hnd ⊢
 obtain ⟨⟨n1,n2⟩,n3⟩:=hnd
 rw [c2,b2,b2,a2,a2,a2]
 by_cases e1:e=mkE x y
 ·subst e1;simp [n1,n2]
 ·by_cases e2:e=mkE y z
  ·subst e2;simp [n3,Ne.symm n1,e1]
  ·by_cases e3:e=mkE z x
   ·subst e3;simp [Ne.symm n2,Ne.symm n3]
   ·simp [e1,e2,e3]
def idxE (ts:List (List Int)) (j:Nat) (e:Gedge):List Int:=((List.range j).filter fun i=>decide (e∈tE (ts.getD i default))).map fun (i:Nat)=>(i:Int)
theorem X7c (ts:List (List Int)) (j:Nat) (e:Gedge):idxE ts (j + 1) e=idxE ts j e ++ (if e∈tE (ts.getD j default) then [(j:Int)] else []):=by
 unfold idxE
 rw [List.range_succ,List.filter_append,List.map_append]
 congr 1
 by_cases h:e∈tE (ts.getD j default)
 ·rw [if_pos h,List.filter_cons_of_pos (by simpa using h)];rfl
 ·rw [if_neg h,List.filter_cons_of_neg (by simpa using h)];rfl
structure ETab (ts:List (List Int)) (j:Nat) (s:List (Gedge × List Int) × List Gedge):Prop where
 inv:EInv s
 val:∀ e,gl s.1 e=idxE ts j e
theorem ETab.loop {n:Nat} {ts:List (List Int)} (ok:OkE n ts) {lo:Nat→Int→List (Gedge × List Int)→List Gedge→List (Gedge × List Int) × List Gedge}
  (h:∀ k i b l,0≤i→lo (k + 1) i b l=cond (decide (i < (ts.length:Int))) (lo k (i + 1) (stT (b,l) (ts.getD i.toNat default) i).1 (stT (b,l) (ts.getD i.toNat default) i).2) (b,l)) :
  ∀ (k:Nat) (i:Nat) (s:List (Gedge × List Int) × List Gedge),i≤ts.length→ETab ts i s→((ts.length:Int) - i).toNat < k→ETab ts ts.length (lo k i s.1 s.2):=by
 intro k
 induction k with
 | zero=>intro i s _ _ hk;exact absurd hk (Nat.not_lt_zero _)
 | succ k ih =>
  intro i s hle hs hk
  rw [h _ _ _ _ (by omega)]
  by_cases hi:(i:Int) < (ts.length:Int)
  ·rw [decide_eq_true hi,cond_true]
   have hm:ts.getD i default∈ts:=by rw [List.getD_eq_getElem?_getD,List.getElem?_eq_getElem (by omega)];exact List.getElem_mem _
   obtain ⟨x,y,z,ht,-,-,-,n1,n2,n3⟩:=ok.2.2 _ hm
   rw [show ((i:Int)).toNat=i from by omega,ht]
   obtain ⟨g1,g2⟩:=X86 hs.inv n1 n2 n3 (i:Int)
   have:=ih (i + 1) (stT s [x,y,z] i) (by omega) ⟨g1,fun e=>by rw [g2,hs.val,X7c,ht]⟩ (by omega)
   exact this
  ·rw [decide_eq_false hi,cond_false]
   have:i=ts.length:=by omega
   rw [this] at hs;exact hs
theorem ETab.nil (ts:List (List Int)):ETab ts 0 ([],[]):=⟨EInv.nil,fun e=>by simp [gl,mhas,idxE]⟩
def edgL (n:Nat) (ts:List (List Int)):List Gedge :=
 (List.range n).flatMap fun (a:Nat)=>((List.range (n - (a + 1))).filter fun (j:Nat)=>ts.any fun t=>tHas t a ((a:Int) + 1 + j)).map fun (j:Nat)=>(⟨a,(a:Int) + 1 + j⟩:Gedge)
theorem X7B {n:Nat} {ts:List (List Int)} {e:Gedge}:e∈edgL n ts↔(0≤e.e0∧e.e0 < e.e1∧e.e1 < (n:Int))∧(ts.any fun t=>tHas t e.e0 e.e1)=true:=by
 unfold edgL
 simp only [List.mem_flatMap,List.mem_range,List.mem_map,List.mem_filter]
 constructor
 ·rintro ⟨a,ha,j,⟨hj,hh⟩,rfl⟩
  exact ⟨by simp only;omega,hh⟩
 ·obtain ⟨a,b⟩:=e
  rintro ⟨⟨h0,h1,h2⟩,hh⟩
  simp only at h0 h1 h2 hh
  have e1:((a.toNat:Nat):Int)=a:=by omega
  have e2:(((b - a - 1).toNat:Nat):Int)=b - a - 1:=by omega
  refine ⟨a.toNat,by omega,(b - a - 1).toNat,⟨by omega,?_⟩,?_⟩
  ·rw [e1,e2,show a + 1 + (b - a - 1)=b from by omega];exact hh
  ·rw [e1,e2,show a + 1 + (b - a - 1)=b from by omega]
theorem X87 {n:Nat} {ts:List (List Int)} (ok:OkE n ts) (e:Gedge):idxE ts ts.length e≠[]↔e∈edgL n ts:=by
 rw [X7B]
 unfold idxE
 rw [Ne,List.map_eq_nil_iff,← List.isEmpty_iff,Bool.not_eq_true,List.isEmpty_eq_false_iff_exists_mem]
 simp only [List.mem_filter,List.mem_range,decide_eq_true_eq,List.any_eq_true]
 obtain ⟨a,b⟩:=e
 constructor
 ·rintro ⟨i,hi,hh⟩
  have hm:ts.getD i default∈ts:=by rw [List.getD_eq_getElem?_getD,List.getElem?_eq_getElem hi];exact List.getElem_mem _
  obtain ⟨x,y,z,ht,r1,r2,r3,n1,n2,n3⟩:=ok.2.2 _ hm
  have hab:0≤a∧a < b∧b < (n:Int):=by
   rw [ht] at hh
   unfold tE mkE at hh
   simp only [List.getD_cons_zero,List.getD_cons_succ,List.mem_cons,List.not_mem_nil,or_false] at hh
   rcases hh with hh | hh | hh<;>(split at hh<;>simp only [Gedge.mk.injEq] at hh<;>omega)
  refine ⟨hab,_,hm,?_⟩
  rw [ht] at hh ⊢
  exact (X7b n1 n2 n3 hab.2.1).1 hh
 ·rintro ⟨hab,t,hm,hh⟩
  obtain ⟨i,hi,rfl⟩:=List.getElem_of_mem hm
  refine ⟨i,hi,?_⟩
  rw [List.getD_eq_getElem?_getD,List.getElem?_eq_getElem hi,Option.getD_some]
  obtain ⟨x,y,z,ht,r1,r2,r3,n1,n2,n3⟩:=ok.2.2 _ hm
  rw [ht] at hh ⊢
  exact (X7b n1 n2 n3 hab.2.1).2 hh
theorem ETab.at {n:Nat} {ts:List (List Int)} (ok:OkE n ts) {s:List (Gedge × List Int) × List Gedge} (h:ETab ts ts.length s) {e:Gedge} (he:e∈edgL n ts) :
  mhas s.1 e=true∧(s.1.getD (midx s.1 e) default).2=idxE ts ts.length e:=by
 have h1:=(X87 ok e).2 he
 have h2:mhas s.1 e=true:=(h.inv.has e).2 (by rw [h.val];exact h1)
 refine ⟨h2,?_⟩
 rw [← h.val];unfold gl;rw [h2];rfl
theorem Okh.at {n:Nat} {t:List Int} (h:t.length=4∧∀ x∈t,0≤x∧x < (n:Int)) :
  t.length=4∧(0≤t.getD 0 default∧t.getD 0 default < (n:Int))∧(0≤t.getD 1 default∧t.getD 1 default < (n:Int))∧(0≤t.getD 2 default∧t.getD 2 default < (n:Int))∧(0≤t.getD 3 default∧t.getD 3 default < (n:Int)):=by
 obtain ⟨h1,h2⟩:=h
 match t,h1 with
 | [a,b,c,d],_=>exact ⟨rfl,h2 a (by simp),h2 b (by simp),h2 c (by simp),h2 d (by simp)⟩
def e2 (e:Gedge):List Int:=[e.e0,e.e1]
end Go.Ab

set_option linter.unusedVariables false
set_option linter.unusedSimpArgs false
namespace Go.Ab
def mR:Bool→List Nat→List Bool
 | _,[] => []
 | b,n :: l=>List.replicate n b ++ mR (!b) l
def an:Nat→List AV→List AV
 | 0,l=>l
 | n + 1,l => .any :: an n l
theorem odt {p:Prop} [Decidable p] (h:decide p=true):p:=of_decide_eq_true h
theorem odf {p:Prop} [Decidable p] (h:decide p=false):¬p:=of_decide_eq_false h
end Go.Ab

set_option linter.unusedVariables false
set_option linter.unusedSimpArgs false
namespace Go.Ab
open Go.RowKit
structure Stp where
 a:List Ans
 C:List Prop
 p:Scr a C
def stA (S:List Stp) (i:Nat):List Ans:=match S[i]? with
 | some s=>s.a
 | none => []
end Go.Ab

set_option linter.unusedVariables false
set_option linter.unusedSimpArgs false
namespace Go.Ab
open Ieee
theorem X2d {M d:Nat} (h1:4503599627370496≤M) (h2:M < 9007199254740992):(M * 2 ^ d).log2=52 + d:=by
 have h0:M * 2 ^ d≠0:=Nat.mul_ne_zero (by omega) (Nat.pos_iff_ne_zero.1 (Nat.two_pow_pos d))
 rw [Nat.log2_eq_iff h0]
 constructor
 ·rw [Nat.pow_add];exact Nat.mul_le_mul_right _ (by omega)
 ·rw [show 52 + d + 1=53 + d from by omega,Nat.pow_add];exact Nat.mul_lt_mul_of_pos_right (by omega) (Nat.two_pow_pos d)
theorem X3u {M d E:Nat} (h1:4503599627370496≤M) (h2:M < 9007199254740992) (hE:E≤2045) {p:Int} (hp:p=-1074 + (E:Int) - (d:Int)) :
  double.nearest false (M * 2 ^ d) p=E * 4503599627370496 + M:=by
 have h0:M * 2 ^ d≠0:=Nat.mul_ne_zero (by omega) (Nat.pos_iff_ne_zero.1 (Nat.two_pow_pos d))
 unfold Format.nearest
 rw [if_neg h0,X2d h1 h2,show double.leastPlace=-1074 from rfl,show double.fractionBits=52 from rfl,show double.binade=4503599627370496 from rfl,show double.infRung=9218868437227405312 from rfl]
 have hlast:max (p + ((52 + d:Nat):Int) - ((52:Nat):Int)) (-1074)=p + (d:Int):=by omega
 simp only [hlast]
 rw [show (p - (p + (d:Int))).toNat=0 from by omega,show (p + (d:Int) - p).toNat=d from by omega,show (p + (d:Int) - -1074).toNat=E from by omega,Nat.shiftLeft_zero]
 have hcut:Toward.even.cut false (M * 2 ^ d) d=M:=by
  unfold Toward.cut
  simp only [X2d h1 h2]
  rw [show min d (52 + d + 2)=d from by omega,Nat.shiftLeft_eq,Nat.one_mul,Nat.mul_mod_left,Nat.mul_div_cancel _ (Nat.two_pow_pos d)]
  have:=Nat.two_pow_pos d
  have e1:decide (2 ^ d < 2 * 0)=false:=decide_eq_false (by omega)
  have e2:(2 ^ d == 2 * 0)=false:=by rw [beq_eq_false_iff_ne];omega
  rw [e1,e2];simp
 rw [hcut]
 unfold Format.word
 rw [if_neg (by simp)]
 have:E * 4503599627370496≤2045 * 4503599627370496:=Nat.mul_le_mul_right _ hE
 omega
def Nw (w:Nat):Prop:=4503599627370496≤w∧w < 9218868437227405312
def fld (w:Nat):Nat:=w / 4503599627370496
theorem X23 {w:Nat} (h:Nw w):double.read w = .number false (4503599627370496 + w % 4503599627370496) (-1074 + ((fld w - 1:Nat):Int)):=by
 obtain ⟨h1,h2⟩:=h
 unfold Format.read
 rw [show double.signWeight=9223372036854775808 from rfl,show double.binade=4503599627370496 from rfl,show double.infRung=9218868437227405312 from rfl,show double.leastPlace=-1074 from rfl]
 have e1:w % 9223372036854775808=w:=Nat.mod_eq_of_lt (by omega)
 have e2:w / 9223372036854775808=0:=Nat.div_eq_of_lt (by omega)
 simp only [e1,e2]
 rw [if_neg (by omega),if_pos (by omega)]
 rfl
theorem XV {w:Nat} (h:Nw w) (h2:2≤fld w):fop .quo .f64 w 4611686018427387904=w - 4503599627370496:=by
 have hr:=X23 h
 have h2r:=X23 (w:=4611686018427387904) ⟨by decide,by decide⟩
 have hf:fld w≤2046:=by unfold fld;have:=h.2;omega
 show ((double.div w 4611686018427387904).getD (Xh .f64))=_
 unfold Format.div
 rw [hr,h2r]
 simp only [Datum.quotient]
 rw [show (4503599627370496 + 4611686018427387904 % 4503599627370496)=4503599627370496 from by decide]
 rw [if_neg (by decide)]
 have hm:w % 4503599627370496 < 4503599627370496:=Nat.mod_lt _ (by decide)
 have hl:(4503599627370496 + w % 4503599627370496).log2=52:=by
  have:=X2d (M:=4503599627370496 + w % 4503599627370496) (d:=0) (by omega) (by omega)
  simpa using this
 have hl2:Nat.log2 4503599627370496=52:=by decide +kernel
 rw [hl,hl2,show double.fractionBits + 2 + 52 - 52=54 from rfl]
 have hd:(4503599627370496 + w % 4503599627370496) <<< 54=((4503599627370496 + w % 4503599627370496) * 4) * 4503599627370496:=by
  rw [Nat.shiftLeft_eq,Nat.mul_assoc]
 rw [hd,Nat.mul_div_cancel _ (by decide),Nat.mul_mod_left]
 simp only [Option.map_some,Option.getD_some,Format.write]
 have e:2 * ((4503599627370496 + w % 4503599627370496) * 4) + ((0:Nat) != 0).toNat=(4503599627370496 + w % 4503599627370496) * 2 ^ 3:=by
  simp;omega
 rw [e,show (false ^^ false)=false from rfl]
 rw [X3u (E:=fld w - 2) (by omega) (by omega) (by omega) (by
  rw [show fld 4611686018427387904=1024 from by decide];omega)]
 have:=Nat.div_add_mod w 4503599627370496
 unfold fld at *
 omega
theorem X7d {X E:Nat} {p:Int} (h1:4503599627370496≤X) (h2:X < 9007199254740992) (hE:E≤2045) (hp:p=-1074 + (E:Int) - 52):double.write (.number false (X * 2 ^ 52) p)=E * 4503599627370496 + X :=
 X3u (M:=X) (d:=52) (E:=E) h1 h2 hE hp
theorem X7C (X:Nat) (p q:Int):Datum.product (.number false X p) (.number false (2 ^ 52) q)=some (.number false (X * 2 ^ 52) (p + q)):=by
 unfold Datum.product;rfl
theorem X7D:double.read 4611686018427387904 = .number false (2 ^ 52) (-51):=by decide +kernel
theorem X88 (x y:Nat):fop .mul .f64 x y=(((double.read x).product (double.read y)).map double.write).getD (Xh .f64):=rfl
theorem X1c {w:Nat} (h:Nw w) (h2:fld w≤2045):fop .mul .f64 w 4611686018427387904=w + 4503599627370496:=by
 have hf:1≤fld w:=by unfold fld;have:=h.1;omega
 have hm:w % 4503599627370496 < 4503599627370496:=Nat.mod_lt _ (by decide)
 rw [X88,X23 h,X7D,X7C,Option.map_some,Option.getD_some,X7d (E:=fld w) (by omega) (by omega) (by omega) (by omega)]
 have:=Nat.div_add_mod w 4503599627370496
 unfold fld at *
 omega
theorem X4G (m n:Nat) (i j:Int):Datum.order (.number false m i) (.number false n j)=some (compare ((m <<< (i - min i j).toNat:Nat):Int) ((n <<< (j - min i j).toNat:Nat):Int)):=by
 unfold Datum.order signed;rfl
theorem X7E:double.read 4609434218613702656 = .number false 6755399441055744 (-52):=by decide +kernel
theorem X7e:double.read 4604930618986332160 = .number false 6755399441055744 (-53):=by decide +kernel
theorem X7f {k:Nat} (h:1≤k):2≤2 ^ k:=by
 have:2 ^ 1≤2 ^ k:=Nat.pow_le_pow_right (by omega) h
 omega
theorem XW {w:Nat} (h:Nw w) (hg:fcmp .geq .f64 w 4609434218613702656=true):1023≤fld w:=by
 refine Nat.not_lt.1 fun hlt => ?_
 have hf:1≤fld w:=by unfold fld;have:=h.1;omega
 have hm:w % 4503599627370496 < 4503599627370496:=Nat.mod_lt _ (by decide)
 have ho:FloatKind.f64.format.order w 4609434218613702656=some .lt:=by
  show (double.read w).order (double.read 4609434218613702656)=_
  rw [X23 h,X7E,X4G]
  congr 1
  rw [Int.compare_eq_lt]
  have e1:min (-1074 + ((fld w - 1:Nat):Int)) (-52)=-1074 + ((fld w - 1:Nat):Int):=by omega
  rw [e1,show (-1074 + ((fld w - 1:Nat):Int) - (-1074 + ((fld w - 1:Nat):Int))).toNat=0 from by omega,Nat.shiftLeft_zero,Nat.shiftLeft_eq]
  have h2:=X7f (k:=(-52 - (-1074 + ((fld w - 1:Nat):Int))).toNat) (by omega)
  have h3:6755399441055744 * 2≤6755399441055744 * 2 ^ (-52 - (-1074 + ((fld w - 1:Nat):Int))).toNat:=Nat.mul_le_mul_left _ h2
  generalize 6755399441055744 * 2 ^ (-52 - (-1074 + ((fld w - 1:Nat):Int))).toNat=y at *
  omega
 have:fcmp .geq .f64 w 4609434218613702656=false:=by
  unfold fcmp
  simp only [ho]
  rfl
 rw [this] at hg;cases hg
theorem XX {w:Nat} (h:Nw w) (hg:fcmp .lss .f64 w 4604930618986332160=true):fld w≤1022:=by
 refine Nat.not_lt.1 fun hlt => ?_
 have hm:w % 4503599627370496 < 4503599627370496:=Nat.mod_lt _ (by decide)
 have ho:FloatKind.f64.format.order w 4604930618986332160=some .gt:=by
  show (double.read w).order (double.read 4604930618986332160)=_
  rw [X23 h,X7e,X4G]
  congr 1
  rw [Int.compare_eq_gt]
  have e1:min (-1074 + ((fld w - 1:Nat):Int)) (-53)=-53:=by omega
  rw [e1,show (-53 - (-53:Int)).toNat=0 from by omega,Nat.shiftLeft_zero,Nat.shiftLeft_eq]
  have h2:=X7f (k:=(-1074 + ((fld w - 1:Nat):Int) - -53).toNat) (by omega)
  have h3:(4503599627370496 + w % 4503599627370496) * 2≤(4503599627370496 + w % 4503599627370496) * 2 ^ (-1074 + ((fld w - 1:Nat):Int) - -53).toNat:=Nat.mul_le_mul_left _ h2
  generalize (4503599627370496 + w % 4503599627370496) * 2 ^ (-1074 + ((fld w - 1:Nat):Int) - -53).toNat=y at *
  omega
 have:fcmp .lss .f64 w 4604930618986332160=false:=by
  unfold fcmp
  simp only [ho]
  rfl
 rw [this] at hg;cases hg
theorem XY {w:Nat} (h:Nw w) (h2:1023≤fld w):Nw (w - 4503599627370496)∧fld (w - 4503599627370496)=fld w - 1:=by
 obtain ⟨a,b⟩:=h
 unfold fld Nw at *
 omega
theorem X1d {w:Nat} (h:Nw w) (h2:fld w≤1022):Nw (w + 4503599627370496)∧fld (w + 4503599627370496)=fld w + 1:=by
 obtain ⟨a,b⟩:=h
 unfold fld Nw at *
 omega
theorem X6L:∀ n:Nat,n < 1100→fop .add .f64 (X1 .f64 (n:Int)) 4607182418800017408=X1 .f64 ((n:Int) + 1):=by
 have h:(List.range 1100).all (fun n=>fop .add .f64 (X1 .f64 (n:Int)) 4607182418800017408 == X1 .f64 ((n:Int) + 1))=true:=by decide +kernel
 intro n hn
 have:=(List.all_eq_true.1 h) n (List.mem_range.2 hn)
 exact eq_of_beq this
theorem X6M:∀ n:Nat,n < 2200→fop .sub .f64 (X1 .f64 (1100 - (n:Int))) 4607182418800017408=X1 .f64 (1099 - (n:Int)):=by
 have h:(List.range 2200).all (fun n=>fop .sub .f64 (X1 .f64 (1100 - (n:Int))) 4607182418800017408 == X1 .f64 (1099 - (n:Int)))=true:=by decide +kernel
 intro n hn
 have:=(List.all_eq_true.1 h) n (List.mem_range.2 hn)
 exact eq_of_beq this
end Go.Ab

set_option linter.unusedVariables false
set_option linter.unusedSimpArgs false
namespace Go.Ab
open Ieee
theorem X3v (m:Nat):m < 2 ^ (m.log2 + 1):=Nat.lt_log2_self
theorem X1W {m k:Nat} (h:m < 2 ^ (k + 1)) (h0:m≠0):m.log2≤k:=by
 have:=(Nat.log2_lt h0).2 h
 omega
end Go.Ab

set_option linter.unusedVariables false
set_option linter.unusedSimpArgs false
namespace Go.Ab
open Ieee
end Go.Ab

set_option linter.unusedVariables false
set_option linter.unusedSimpArgs false
namespace Go.Ab
open Ieee
def ex (r:Nat):Nat:=if r < 8388608 then 0 else r / 8388608 - 1
def Ok32 (x:Nat):Prop:=Wd .f32 x∧cn .f32 x=x
theorem Ok32.lt {x:Nat} (h:Ok32 x):x < 4294967296:=h.1
end Go.Ab

set_option linter.unusedVariables false
set_option linter.unusedSimpArgs false
namespace Go.Ab
open Ieee
theorem X66 {m:Nat} (h0:m≠0) (hl:m.log2≤52) {p:Int} (hp:-1022≤p + (m.log2:Int)) (hp2:p + (m.log2:Int)≤1023) :
  double.nearest false m p=(p + (m.log2:Int) + 1022).toNat * 4503599627370496 + m * 2 ^ (52 - m.log2):=by
 have b1:2 ^ 52≤m * 2 ^ (52 - m.log2):=by
  have:=Nat.mul_le_mul_right (2 ^ (52 - m.log2)) (Nat.log2_self_le h0)
  rwa [← Nat.pow_add,show m.log2 + (52 - m.log2)=52 from by omega] at this
 have b2:m * 2 ^ (52 - m.log2) < 2 ^ 53:=by
  have:=Nat.mul_lt_mul_of_pos_right (X3v m) (Nat.two_pow_pos (52 - m.log2))
  rwa [← Nat.pow_add,show m.log2 + 1 + (52 - m.log2)=53 from by omega] at this
 unfold Format.nearest
 rw [if_neg h0,show double.leastPlace=-1074 from rfl,show double.fractionBits=52 from rfl,show double.binade=4503599627370496 from rfl,show double.infRung=9218868437227405312 from rfl]
 have hlast:max (p + (m.log2:Int) - ((52:Nat):Int)) (-1074)=p + (m.log2:Int) - 52:=by omega
 simp only [hlast]
 rw [show (p - (p + (m.log2:Int) - 52)).toNat=52 - m.log2 from by omega,show (p + (m.log2:Int) - 52 - p).toNat=0 from by omega,show (p + (m.log2:Int) - 52 - -1074).toNat=(p + (m.log2:Int) + 1022).toNat from by omega,Nat.shiftLeft_eq]
 generalize m * 2 ^ (52 - m.log2)=M at *
 have hcut:Toward.even.cut false M 0=M:=by
  unfold Toward.cut
  simp [Nat.mod_one]
 rw [hcut]
 unfold Format.word
 rw [if_neg (by simp)]
 have hE:(p + (m.log2:Int) + 1022).toNat≤2045:=by omega
 have:(p + (m.log2:Int) + 1022).toNat * 4503599627370496≤2045 * 4503599627370496:=Nat.mul_le_mul_right _ hE
 have e:(2:Nat) ^ 53=9007199254740992:=by decide +kernel
 rw [e] at b2
 omega
theorem X3G {m:Nat} (h0:m≠0) (hl:m.log2≤52) {p:Int} (hp:-1022≤p + (m.log2:Int)) (hp2:p + (m.log2:Int)≤1023) :
  Nw (double.nearest false m p)∧(fld (double.nearest false m p):Int)=p + (m.log2:Int) + 1023:=by
 have b1:2 ^ 52≤m * 2 ^ (52 - m.log2):=by
  have:=Nat.mul_le_mul_right (2 ^ (52 - m.log2)) (Nat.log2_self_le h0)
  rwa [← Nat.pow_add,show m.log2 + (52 - m.log2)=52 from by omega] at this
 have b2:m * 2 ^ (52 - m.log2) < 2 ^ 53:=by
  have:=Nat.mul_lt_mul_of_pos_right (X3v m) (Nat.two_pow_pos (52 - m.log2))
  rwa [← Nat.pow_add,show m.log2 + 1 + (52 - m.log2)=53 from by omega] at this
 rw [X66 h0 hl hp hp2]
 generalize m * 2 ^ (52 - m.log2)=M at *
 have e:(2:Nat) ^ 53=9007199254740992:=by decide +kernel
 have e2:(2:Nat) ^ 52=4503599627370496:=by decide +kernel
 rw [e] at b2
 rw [e2] at b1
 clear e e2
 generalize hE:(p + (m.log2:Int) + 1022).toNat=E
 have:E≤2045:=by omega
 unfold Nw fld
 omega
theorem X46 {x:Nat} (h1:fcmp .gtr .f32 x 0=true) (h2:fcmp .eql .f32 (fop .sub .f32 x x) 0=true):Nw (fcv .f32 .f64 x)∧800≤fld (fcv .f32 .f64 x)∧fld (fcv .f32 .f64 x)≤1200:=by
 have r0:FloatKind.f32.format.read 0 = .number false 0 (-149):=by decide +kernel
 have h1':((FloatKind.f32.format.read x).order (FloatKind.f32.format.read 0) == some .gt)=true:=h1
 rw [beq_iff_eq,r0] at h1'
 cases hr:FloatKind.f32.format.read x with
 | nan s t=>rw [hr] at h1';cases h1'
 | infinity s =>
  exfalso
  have hs:fop .sub .f32 x x=Xh .f32:=by
   show (((FloatKind.f32.format.read x).sum (FloatKind.f32.format.read x).opposite).map FloatKind.f32.format.write).getD _=_
   rw [hr]
   cases s<;>rfl
  rw [hs] at h2
  revert h2
  decide +kernel
 | number s m e =>
  rw [hr] at h1'
  simp only [Datum.order,Option.some.injEq] at h1'
  rw [Int.compare_eq_gt] at h1'
  unfold signed at h1'
  rw [Nat.shiftLeft_eq,Nat.shiftLeft_eq,Nat.zero_mul] at h1'
  have hs:s=false:=by
   cases s with
   | false=>rfl
   | true =>
    exfalso
    simp only [if_true,Bool.false_eq_true,if_false] at h1'
    generalize m * 2 ^ (e - min e (-149)).toNat=z at h1'
    omega
  subst hs
  have m0:m≠0:=by intro h;subst h;simp at h1'
  obtain ⟨p1,p2,p3⟩:=X1B (x:=x) hr
  have hf:fcv .f32 .f64 x=double.nearest false m e:=by
   rw [X2b]
   have hr':single.read x = .number false m e:=hr
   rw [hr']
   rfl
  have hl:m.log2≤23:=X1W p1 m0
  rw [hf]
  obtain ⟨q1,q2⟩:=X3G (p:=e) m0 (by omega) (by omega) (by omega)
  exact ⟨q1,by omega,by omega⟩
end Go.Ab

set_option linter.unusedVariables false
namespace Go.Ab
open Ieee
end Go.Ab

set_option linter.unusedVariables false
set_option linter.unusedSimpArgs false
namespace Go.Ab
open Ieee
theorem X8u:(2:Rat)≠0:=by decide
theorem Xj (e:Int):(0:Rat) < (2:Rat)^e:=Rat.zpow_pos (by decide)
theorem Xk (a b:Int):(2:Rat)^(a+b)=(2:Rat)^a * (2:Rat)^b:=Rat.zpow_add X8u a b
theorem X6N (n:Nat):(1:Rat)≤(2:Rat)^n:=by
 induction n with
 | zero=>simp
 | succ n ih=>rw [Rat.pow_succ];grind
theorem X3n {a b:Int} (h:a≤b):(2:Rat)^a≤(2:Rat)^b:=by
 have:b=a + ((b - a).toNat:Int):=by omega
 rw [this,Xk,Rat.zpow_natCast]
 have h1:=X6N (b-a).toNat
 have h2:=Xj a
 generalize (2:Rat)^(b-a).toNat=x at *
 generalize (2:Rat)^a=y at *
 have:=Rat.mul_le_mul_of_nonneg_left h1 (Rat.le_of_lt h2)
 grind
theorem X8C {a b:Int} (h:(2:Rat)^a < (2:Rat)^b):a < b:=by
 refine Int.not_le.1 fun hn => ?_
 have:=X3n hn
 grind
theorem X1e (n:Nat):(2:Rat)^(n:Int)=((2 ^ n:Nat):Rat):=by
 rw [Rat.zpow_natCast,Rat.natCast_pow];rfl
theorem X89 (neg:Bool) (n drop:Nat):2 * (Toward.even.cut neg n drop * 2 ^ drop)≤2 * n + 2 ^ drop∧2 * n≤2 * (Toward.even.cut neg n drop * 2 ^ drop) + 2 ^ drop:=by
 unfold Toward.cut
 simp only [Nat.shiftLeft_eq,Nat.one_mul]
 rcases Nat.le_total drop (n.log2 + 2) with h | h
 ·rw [Nat.min_eq_left h]
  have hd:=Nat.div_add_mod n (2 ^ drop)
  have hp:=Nat.two_pow_pos drop
  have hm:=Nat.mod_lt n hp
  rw [Nat.add_mul]
  have hc:2 ^ drop * (n / 2 ^ drop)=n / 2 ^ drop * 2 ^ drop:=Nat.mul_comm _ _
  rw [hc] at hd
  generalize n / 2 ^ drop * 2 ^ drop=y at *
  generalize n % 2 ^ drop=r at *
  generalize n / 2 ^ drop=q at *
  generalize 2 ^ drop=g at *
  by_cases c1:g < 2 * r
  ·simp only [c1,decide_true,Bool.true_or,Bool.toNat_true];omega
  ·by_cases c2:g=2 * r
   ·cases hb:(decide (g < 2 * r) || (g == 2 * r && q % 2 == 1))<;>simp only [Bool.toNat_true,Bool.toNat_false]<;>omega
   ·have:(decide (g < 2 * r) || (g == 2 * r && q % 2 == 1))=false:=by simp [c1,c2]
    rw [this];simp only [Bool.toNat_false];omega
 ·rw [Nat.min_eq_right h]
  have hlt:n < 2 ^ (n.log2 + 1):=Nat.lt_log2_self
  have e2:2 ^ (n.log2 + 2)=2 * 2 ^ (n.log2 + 1):=by rw [Nat.pow_succ 2 (n.log2 + 1)];omega
  have hle:2 ^ (n.log2 + 2)≤2 ^ drop:=Nat.pow_le_pow_right (by omega) h
  have hz:n / 2 ^ (n.log2 + 2)=0:=Nat.div_eq_of_lt (by omega)
  have hm:n % 2 ^ (n.log2 + 2)=n:=Nat.mod_eq_of_lt (by omega)
  rw [hz,hm]
  have:(decide (2 ^ (n.log2 + 2) < 2 * n) || (2 ^ (n.log2 + 2) == 2 * n && 0 % 2 == 1))=false:=by
   simp;omega
  rw [this]
  simp only [Bool.toNat_false]
  omega
theorem X7F (neg:Bool) (n:Nat):Toward.even.cut neg n 0=n:=by
 unfold Toward.cut
 simp [Nat.mod_one]
theorem X4H (f:Format) (neg:Bool) (E K:Nat) (hb:1≤f.fractionBits) (h1:E=0∨f.binade≤K) (h2:K≤2 * f.binade) (hi:E * f.binade + K < f.infRung) :
  ∃ M x,f.read (f.word neg (E * f.binade + K)) = .number neg M (f.leastPlace + ((x:Nat):Int))∧(M:Rat) * (2:Rat) ^ (x:Int)=(K:Rat) * (2:Rat) ^ (E:Int)∧M < 2 * f.binade:=by
 have hp:0 < f.binade:=Nat.two_pow_pos _
 have hs:f.infRung < f.signWeight:=by
  have e:f.signWeight=2 ^ f.exponentBits * f.binade:=by unfold Format.signWeight Format.binade;rw [Nat.pow_add]
  rw [e];unfold Format.infRung
  exact Nat.mul_lt_mul_of_pos_right (by have:=Nat.two_pow_pos f.exponentBits;omega) hp
 have hneg:(f.word neg (E * f.binade + K) / f.signWeight % 2 == 1)=neg:=by
  unfold Format.word
  cases neg with
  | true=>rw [if_pos rfl,Nat.add_div_left _ (by omega),Nat.div_eq_of_lt (by omega)];rfl
  | false=>rw [if_neg (by simp),Nat.div_eq_of_lt (by omega)];rfl
 unfold Format.read
 simp only [X4D f neg (Nat.lt_trans hi hs),hneg]
 have stepx:∀ (A:Nat) ,(f.binade:Rat) * (2:Rat) ^ ((A + 1:Nat):Int)=((2 * f.binade:Nat):Rat) * (2:Rat) ^ (A:Int):=by
  intro A
  rw [show ((A + 1:Nat):Int)=(A:Int) + 1 from by omega,Xk,Rat.natCast_mul,Rat.zpow_one]
  grind
 rcases Nat.eq_zero_or_pos E with h0 | h0
 ·subst h0
  by_cases hk:K < f.binade
  ·rw [if_pos (by omega)]
   exact ⟨K,0,by simp,by simp,by omega⟩
  ·rw [if_neg (by omega),if_pos (by omega)]
   by_cases hk2:K=2 * f.binade
   ·refine ⟨f.binade,1,?_,?_,by omega⟩
    ·subst hk2
     rw [show 0 * f.binade + 2 * f.binade=2 * f.binade from by omega,Nat.mul_mod_left,Nat.mul_div_cancel _ hp];rfl
    ·subst hk2;exact stepx 0
   ·refine ⟨K,0,?_,rfl,by omega⟩
    rw [show 0 * f.binade + K=f.binade + (K - f.binade) from by omega,Nat.add_mod_left,Nat.add_div_left _ hp,Nat.mod_eq_of_lt (by omega),Nat.div_eq_of_lt (by omega)]
    simp;omega
 ·have hk:f.binade≤K:=by omega
  have hE1:f.binade≤E * f.binade:=Nat.le_mul_of_pos_left _ h0
  rw [if_neg (by omega),if_pos hi]
  by_cases hk2:K=2 * f.binade
  ·refine ⟨f.binade,E + 1,?_,?_,by omega⟩
   ·subst hk2
    rw [← Nat.add_mul,Nat.mul_mod_left,Nat.mul_div_cancel _ hp];rfl
   ·subst hk2;exact stepx E
  ·refine ⟨K,E,?_,rfl,by omega⟩
   rw [show E * f.binade + K=(E + 1) * f.binade + (K - f.binade) from by rw [Nat.add_mul];omega]
   rw [Nat.mul_comm (E+1) f.binade,Nat.mul_add_mod,Nat.mod_eq_of_lt (by omega),Nat.mul_add_div hp,Nat.div_eq_of_lt (by omega)]
   congr 1<;>omega
def sg (s:Bool):Rat:=if s then -1 else 1
def vl:Datum→Option Rat
 | .number s m e=>some (sg s * ((m:Rat) * (2:Rat) ^ e))
 | _=>none
theorem X3H (f:Format) (neg:Bool) (m:Nat) (e:Int) (hb:1≤f.fractionBits) (hT:(max (e + m.log2 - f.fractionBits) f.leastPlace - f.leastPlace).toNat + 2 < 2 ^ f.exponentBits - 1) :
  ∃ q:Rat,vl (f.read (f.nearest neg m e))=some (sg neg * q)∧2 * q≤2 * ((m:Rat) * (2:Rat)^e) + (2:Rat) ^ (max (e + m.log2 - f.fractionBits) f.leastPlace)∧2 * ((m:Rat) * (2:Rat)^e)≤2 * q + (2:Rat) ^ (max (e + m.log2 - f.fractionBits) f.leastPlace)
   ∧ (max (e + m.log2 - f.fractionBits) f.leastPlace≤e→q=(m:Rat) * (2:Rat)^e):=by
 by_cases h0:m=0
 ·subst h0
  have hp:0 < f.binade:=Nat.two_pow_pos _
  refine ⟨0,?_,?_,?_,?_⟩
  ·unfold Format.nearest
   rw [if_pos rfl]
   obtain ⟨M,x,h1,h2,-⟩:=X4H f neg 0 0 hb (.inl rfl) (Nat.zero_le _) (by
    unfold Format.infRung;have:=Nat.mul_pos (show 0 < 2 ^ f.exponentBits - 1 by omega) hp;omega)
   rw [Nat.zero_mul] at h1
   rw [show (0:Nat) + 0=0 from rfl] at h1
   rw [h1]
   simp only [vl,Xk]
   congr 1
   have:((M:Rat) * (2:Rat)^((x:Nat):Int))=0:=by rw [h2];simp
   grind
  ·generalize max (e + (Nat.log2 0:Nat) - f.fractionBits) f.leastPlace=w
   have:=Xj w
   simp;grind
  ·generalize max (e + (Nat.log2 0:Nat) - f.fractionBits) f.leastPlace=w
   have:=Xj w
   simp;grind
  ·simp
 generalize hlast:max (e + (m.log2:Int) - (f.fractionBits:Int)) f.leastPlace=last at *
 have hl1:f.leastPlace≤last:=by omega
 have hl2:e + m.log2 - f.fractionBits≤last:=by omega
 have hm1:2 ^ m.log2≤m:=Nat.log2_self_le h0
 have hm2:m < 2 ^ (m.log2 + 1):=Nat.lt_log2_self
 have hk:Toward.even.cut neg (m <<< (e - last).toNat) (last - e).toNat≤2 * f.binade∧(last=f.leastPlace∨f.binade≤Toward.even.cut neg (m <<< (e - last).toNat) (last - e).toNat)
   ∧ 2 * ((Toward.even.cut neg (m <<< (e - last).toNat) (last - e).toNat:Nat):Rat) * (2:Rat)^last≤2 * ((m:Rat) * (2:Rat)^e) + (2:Rat) ^ last∧2 * ((m:Rat) * (2:Rat)^e)≤2 * ((Toward.even.cut neg (m <<< (e - last).toNat) (last - e).toNat:Nat):Rat) * (2:Rat)^last + (2:Rat) ^ last
   ∧ (last≤e→((Toward.even.cut neg (m <<< (e - last).toNat) (last - e).toNat:Nat):Rat) * (2:Rat)^last=(m:Rat) * (2:Rat)^e):=by
  by_cases hle:last≤e
  ·obtain ⟨u,hu⟩:=Int.eq_ofNat_of_zero_le (show 0≤e - last by omega)
   rw [show (last - e).toNat=0 from by omega,X7F,show (e - last).toNat=u from by omega,Nat.shiftLeft_eq]
   have he:((m * 2 ^ u:Nat):Rat) * (2:Rat)^last=(m:Rat) * (2:Rat)^e:=by
    rw [show e=(u:Int) + last from by omega,Xk,X1e,Rat.natCast_mul,Rat.mul_assoc]
   refine ⟨?_,?_,?_,?_,fun _=>he⟩
   ·have h3:m * 2 ^ u < 2 ^ (m.log2 + 1 + u):=by rw [Nat.pow_add];exact Nat.mul_lt_mul_of_pos_right hm2 (Nat.two_pow_pos u)
    have h4:2 ^ (m.log2 + 1 + u)≤2 ^ (f.fractionBits + 1):=Nat.pow_le_pow_right (by omega) (by omega)
    have h5:2 ^ (f.fractionBits + 1)=2 * f.binade:=by unfold Format.binade;rw [Nat.pow_succ];omega
    omega
   ·by_cases hh:last=f.leastPlace
    ·exact .inl hh
    ·right
     have h3:2 ^ m.log2 * 2 ^ u≤m * 2 ^ u:=Nat.mul_le_mul_right _ hm1
     have h4:f.binade=2 ^ m.log2 * 2 ^ u:=by unfold Format.binade;rw [← Nat.pow_add];congr 1;omega
     omega
   ·rw [Rat.mul_assoc,he];have:=Xj last;grind
   ·rw [Rat.mul_assoc,he];have:=Xj last;grind
  ·obtain ⟨u,hu⟩:=Int.eq_ofNat_of_zero_le (show 0≤last - e by omega)
   rw [show (e - last).toNat=0 from by omega,Nat.shiftLeft_zero,show (last - e).toNat=u from by omega]
   obtain ⟨c1,c2⟩:=X89 neg m u
   generalize hc:Toward.even.cut neg m u=c at *
   have hpu:=Nat.two_pow_pos u
   have el:(2:Rat)^last=((2 ^ u:Nat):Rat) * (2:Rat)^e:=by rw [show last=(u:Int) + e from by omega,Xk,X1e]
   have d1:((2 * (c * 2 ^ u):Nat):Rat)≤((2 * m + 2 ^ u:Nat):Rat):=Rat.natCast_le_natCast.2 c1
   have d2:((2 * m:Nat):Rat)≤((2 * (c * 2 ^ u) + 2 ^ u:Nat):Rat):=Rat.natCast_le_natCast.2 c2
   simp only [Rat.natCast_mul,Rat.natCast_add] at d1 d2
   have d1:=Rat.mul_le_mul_of_nonneg_right d1 (Rat.le_of_lt (Xj e))
   have d2:=Rat.mul_le_mul_of_nonneg_right d2 (Rat.le_of_lt (Xj e))
   refine ⟨?_,?_,?_,?_,fun h=>absurd h hle⟩
   ·have h3:m < 2 ^ (f.fractionBits + 1 + u):=Nat.lt_of_lt_of_le hm2 (Nat.pow_le_pow_right (by omega) (by omega))
    have h5:2 ^ (f.fractionBits + 1 + u)=2 * f.binade * 2 ^ u:=by unfold Format.binade;rw [Nat.pow_add,Nat.pow_succ,Nat.mul_comm 2 (2 ^ f.fractionBits)]
    refine Nat.not_lt.1 fun hlt => ?_
    have h6:(2 * f.binade + 1) * 2 ^ u≤c * 2 ^ u:=Nat.mul_le_mul_right _ hlt
    rw [Nat.add_mul] at h6
    omega
   ·by_cases hh:last=f.leastPlace
    ·exact .inl hh
    ·right
     have h4:f.binade * 2 ^ u=2 ^ m.log2:=by unfold Format.binade;rw [← Nat.pow_add];congr 1;omega
     refine Nat.not_lt.1 fun hlt => ?_
     have h6:(c + 1) * 2 ^ u≤f.binade * 2 ^ u:=Nat.mul_le_mul_right _ hlt
     rw [Nat.add_mul] at h6
     omega
   ·rw [el];grind
   ·rw [el];grind
 obtain ⟨k1,k2,k3,k4,k5⟩:=hk
 have hr:(last - f.leastPlace).toNat * f.binade + Toward.even.cut neg (m <<< (e - last).toNat) (last - e).toNat < f.infRung:=by
  unfold Format.infRung
  have hp:0 < f.binade:=Nat.two_pow_pos _
  have:((last - f.leastPlace).toNat + 2 + 1) * f.binade≤(2 ^ f.exponentBits - 1) * f.binade:=Nat.mul_le_mul_right _ hT
  rw [Nat.add_mul,Nat.add_mul] at this
  omega
 obtain ⟨M,x,h1,h2,-⟩:=X4H f neg _ _ hb (k2.imp (fun h=>by omega) id) k1 hr
 refine ⟨((Toward.even.cut neg (m <<< (e - last).toNat) (last - e).toNat:Nat):Rat) * (2:Rat)^last,?_,by rw [Rat.mul_assoc] at k3;exact k3,by rw [Rat.mul_assoc] at k4;exact k4,k5⟩
 unfold Format.nearest
 rw [if_neg h0]
 simp only [hlast]
 rw [Nat.min_eq_left (Nat.le_of_lt hr),h1]
 simp only [vl]
 congr 2
 have e1:(2:Rat)^last=(2:Rat)^f.leastPlace * (2:Rat)^(((last - f.leastPlace).toNat:Nat):Int):=by rw [← Xk];congr 1;omega
 rw [Xk,e1]
 grind
end Go.Ab

set_option linter.unusedVariables false
set_option linter.unusedSimpArgs false
namespace Go.Ab
open Ieee
def uK:FloatKind→Rat
 | .f32=>1 / 16777216
 | .f64=>1 / 9007199254740992
def tK:FloatKind→Rat
 | .f32=>(2:Rat) ^ (-150:Int)
 | .f64=>(2:Rat) ^ (-1075:Int)
def topE:FloatKind→Int
 | .f32=>127
 | .f64=>1023
def Vl (k:FloatKind) (w:Nat) (q:Rat):Prop:=vl (k.format.read w)=some q
def Nr (x y d:Rat):Prop:=y - d≤x∧x≤y + d
theorem X7g (s t:Bool):sg (s ^^ t)=sg s * sg t:=by cases s<;>cases t<;>decide +kernel
theorem X8D (s:Bool):sg s * sg s=1:=by cases s<;>decide +kernel
theorem X47 (k:FloatKind):0 < tK k:=by cases k<;>exact Xj _
theorem X7Q (k:FloatKind):tK k≤1 / 1000000000000000000000000000000:=by cases k<;>decide +kernel
theorem X2S (m:Nat) (e:Int):(0:Rat)≤(m:Rat) * (2:Rat)^e:=Rat.mul_nonneg Rat.natCast_nonneg (Rat.le_of_lt (Xj e))
theorem X7h {m:Nat} {e K:Int} (h0:m≠0) (h:(m:Rat) * (2:Rat)^e < (2:Rat)^K):e + (m.log2:Int) < K:=by
 refine X8C (Rat.not_le.1 fun hc => ?_)
 have h1:((2 ^ m.log2:Nat):Rat)≤(m:Rat):=Rat.natCast_le_natCast.2 (Nat.log2_self_le h0)
 have h2:=Rat.mul_le_mul_of_nonneg_right h1 (Rat.le_of_lt (Xj e))
 rw [← X1e,← Xk,Int.add_comm] at h2
 grind
theorem X7G (k:FloatKind) (neg:Bool) (m:Nat) (e:Int) (h:(m:Rat) * (2:Rat)^e < (2:Rat)^(topE k)) :
  ∃ q,vl (k.format.read (k.format.nearest neg m e))=some (sg neg * q)∧Nr q ((m:Rat) * (2:Rat)^e) ((m:Rat) * (2:Rat)^e * uK k + tK k):=by
 have hu:∀ x:Rat,0≤x→0≤x * uK k:=fun x hx=>Rat.mul_nonneg hx (by cases k<;>decide +kernel)
 have hfb:1≤k.format.fractionBits:=by cases k<;>decide
 by_cases h0:m=0
 ·subst h0
  have hn:k.format.nearest neg 0 e=k.format.nearest neg 0 0:=by unfold Format.nearest;rw [if_pos rfl,if_pos rfl]
  obtain ⟨q,q1,q2,q3,-⟩:=X3H k.format neg 0 (k.format.leastPlace) hfb (by cases k<;>decide +kernel)
  have hn2:k.format.nearest neg 0 k.format.leastPlace=k.format.nearest neg 0 e:=by unfold Format.nearest;rw [if_pos rfl,if_pos rfl]
  rw [hn2] at q1
  refine ⟨q,q1,?_⟩
  have e1:(2:Rat) ^ (max (k.format.leastPlace + (Nat.log2 0:Nat) - k.format.fractionBits) k.format.leastPlace)=2 * tK k:=by cases k<;>decide +kernel
  rw [e1] at q2 q3
  have:=X47 k
  simp at q2 q3
  unfold Nr
  simp
  grind
 ·have hl:=X7h h0 h
  obtain ⟨q,q1,q2,q3,-⟩:=X3H k.format neg m e hfb (by
   cases k
   ·have e1:FloatKind.f32.format.leastPlace=-149:=by decide +kernel
    have e2:FloatKind.f32.format.fractionBits=23:=rfl
    have e3:2 ^ FloatKind.f32.format.exponentBits=256:=rfl
    rw [e1,e2,e3];unfold topE at hl;simp only at hl;omega
   ·have e1:FloatKind.f64.format.leastPlace=-1074:=by decide +kernel
    have e2:FloatKind.f64.format.fractionBits=52:=rfl
    have e3:2 ^ FloatKind.f64.format.exponentBits=2048:=rfl
    rw [e1,e2,e3];unfold topE at hl;simp only at hl;omega)
  refine ⟨q,q1,?_⟩
  have hb:(2:Rat) ^ (max (e + m.log2 - k.format.fractionBits) k.format.leastPlace)≤2 * ((m:Rat) * (2:Rat)^e * uK k + tK k):=by
   have ht:=X47 k
   rcases Int.le_total (e + m.log2 - k.format.fractionBits) k.format.leastPlace with hm | hm
   ·rw [Int.max_eq_right hm]
    have e1:(2:Rat) ^ k.format.leastPlace=2 * tK k:=by cases k<;>decide +kernel
    have:=hu _ (X2S m e)
    rw [e1];grind
   ·rw [Int.max_eq_left hm,show e + (m.log2:Int) - k.format.fractionBits=-(k.format.fractionBits:Int) + ((m.log2:Int) + e) from by omega,Xk,Xk,X1e]
    have e1:(2:Rat) ^ (-(k.format.fractionBits:Int))=2 * uK k:=by cases k<;>decide +kernel
    rw [e1]
    have h1:((2 ^ m.log2:Nat):Rat)≤(m:Rat):=Rat.natCast_le_natCast.2 (Nat.log2_self_le h0)
    have h2:=Rat.mul_le_mul_of_nonneg_right h1 (Rat.le_of_lt (Xj e))
    have h3:=Rat.mul_le_mul_of_nonneg_right h2 (show 0≤uK k by cases k<;>decide +kernel)
    grind
  generalize (2:Rat) ^ (max (e + m.log2 - k.format.fractionBits) k.format.leastPlace)=z at *
  unfold Nr
  grind
theorem X2e (k:FloatKind) {d:Datum} {v B:Rat} (hd:vl d=some v) (h1:-B≤v) (h2:v≤B) (hB:B < (2:Rat)^(topE k)) :
  ∃ q,Vl k (k.format.write d) q∧Nr q v (B * uK k + tK k):=by
 cases d with
 | nan s t=>simp [vl] at hd
 | infinity s=>simp [vl] at hd
 | number s m e =>
  simp only [vl,Option.some.injEq] at hd
  have hn:=X2S m e
  have hle:(m:Rat) * (2:Rat)^e≤B:=by
   subst hd;cases s<;>simp only [sg,if_true,if_false,Bool.false_eq_true] at h1 h2<;>grind
  obtain ⟨q,q1,q2⟩:=X7G k s m e (by grind)
  refine ⟨_,q1,?_⟩
  have hu:(m:Rat) * (2:Rat)^e * uK k≤B * uK k:=Rat.mul_le_mul_of_nonneg_right hle (by cases k<;>decide +kernel)
  subst hd
  unfold Nr at *
  cases s<;>simp only [sg,if_true,if_false,Bool.false_eq_true]<;>grind
theorem X1Z (s:Bool) (m u:Nat):((signed s m u:Int):Rat)=sg s * ((m:Rat) * (2:Rat)^(u:Int)):=by
 unfold signed sg
 rw [X1e,← Rat.natCast_mul,Nat.shiftLeft_eq]
 cases s
 ·simp only [Bool.false_eq_true,if_false,Rat.one_mul,Rat.intCast_natCast]
 ·simp only [if_true];rw [Rat.intCast_neg,Rat.intCast_natCast];grind
theorem X4o {d e:Datum} {a b:Rat} (hd:vl d=some a) (he:vl e=some b):∃ r,d.sum e=some r∧vl r=some (a + b):=by
 cases d with
 | nan s t=>simp [vl] at hd
 | infinity s=>simp [vl] at hd
 | number s m i =>
  cases e with
  | nan s t=>simp [vl] at he
  | infinity s=>simp [vl] at he
  | number t n j =>
   simp only [vl,Option.some.injEq] at hd he
   refine ⟨_,rfl,?_⟩
   simp only [vl,Option.some.injEq]
   generalize hT:signed s m (i - min i j).toNat + signed t n (j - min i j).toNat=T
   have hv:(T:Rat) * (2:Rat)^(min i j)=a + b:=by
    rw [← hT,Rat.intCast_add,X1Z,X1Z,← hd,← he]
    have e1:(2:Rat)^i=(2:Rat)^(((i - min i j).toNat:Nat):Int) * (2:Rat)^(min i j):=by rw [← Xk];congr 1;omega
    have e2:(2:Rat)^j=(2:Rat)^(((j - min i j).toNat:Nat):Int) * (2:Rat)^(min i j):=by rw [← Xk];congr 1;omega
    rw [e1,e2];grind
   rw [← hv]
   by_cases h0:T=0
   ·subst h0;simp
   ·rw [if_neg h0]
    by_cases h1:T < 0
    ·simp only [h1,decide_true,sg,if_true]
     have:((T.natAbs:Nat):Rat)=-(T:Rat):=by
      have e:((T.natAbs:Nat):Int)=-T:=by omega
      rw [← Rat.intCast_neg,← e];rfl
     rw [this];grind
    ·simp only [h1,decide_false,sg,Bool.false_eq_true,if_false]
     have:((T.natAbs:Nat):Rat)=(T:Rat):=by
      have e:((T.natAbs:Nat):Int)=T:=by omega
      rw [← Rat.intCast_natCast,e]
     rw [this];grind
theorem X4p {d:Datum} {a:Rat} (hd:vl d=some a):vl d.opposite=some (-a):=by
 cases d with
 | nan s t=>simp [vl] at hd
 | infinity s=>simp [vl] at hd
 | number s m i =>
  simp only [vl,Option.some.injEq,Datum.opposite] at hd ⊢
  subst hd
  cases s<;>simp [sg]<;>grind
theorem X7H {d e:Datum} {a b:Rat} (hd:vl d=some a) (he:vl e=some b):∃ r,d.product e=some r∧vl r=some (a * b):=by
 cases d with
 | nan s t=>simp [vl] at hd
 | infinity s=>simp [vl] at hd
 | number s m i =>
  cases e with
  | nan s t=>simp [vl] at he
  | infinity s=>simp [vl] at he
  | number t n j =>
   simp only [vl,Option.some.injEq] at hd he
   refine ⟨_,rfl,?_⟩
   simp only [vl,Option.some.injEq]
   rw [← hd,← he,X7g,Rat.natCast_mul,Xk]
   grind
theorem X8a (k:FloatKind) (x y:Nat):fop .add k x y=(((k.format.read x).sum (k.format.read y)).map k.format.write).getD (Xh k):=by cases k<;>rfl
theorem X4q (k:FloatKind) (x y:Nat):fop .sub k x y=(((k.format.read x).sum (k.format.read y).opposite).map k.format.write).getD (Xh k):=by cases k<;>rfl
theorem X7I (k:FloatKind) (x y:Nat):fop .mul k x y=(((k.format.read x).product (k.format.read y)).map k.format.write).getD (Xh k):=by cases k<;>rfl
theorem X8b (k:FloatKind) (x y:Nat):fop .quo k x y=(((k.format.read x).quotient (k.format.fractionBits + 2) (k.format.read y)).map k.format.write).getD (Xh k):=by cases k<;>rfl
theorem addV {k:FloatKind} {x y:Nat} {a b:Rat} (hx:Vl k x a) (hy:Vl k y b) {B:Rat} (h1:-B≤a + b) (h2:a + b≤B) (hB:B < (2:Rat)^(topE k)) :
  ∃ q,Vl k (fop .add k x y) q∧Nr q (a + b) (B * uK k + tK k):=by
 obtain ⟨r,r1,r2⟩:=X4o hx hy
 rw [X8a,r1]
 exact X2e k r2 h1 h2 hB
theorem subV {k:FloatKind} {x y:Nat} {a b:Rat} (hx:Vl k x a) (hy:Vl k y b) {B:Rat} (h1:-B≤a - b) (h2:a - b≤B) (hB:B < (2:Rat)^(topE k)) :
  ∃ q,Vl k (fop .sub k x y) q∧Nr q (a - b) (B * uK k + tK k):=by
 obtain ⟨r,r1,r2⟩:=X4o hx (X4p hy)
 rw [X4q,r1]
 rw [← Rat.sub_eq_add_neg] at r2
 exact X2e k r2 h1 h2 hB
theorem mulV {k:FloatKind} {x y:Nat} {a b:Rat} (hx:Vl k x a) (hy:Vl k y b) {B:Rat} (h1:-B≤a * b) (h2:a * b≤B) (hB:B < (2:Rat)^(topE k)) :
  ∃ q,Vl k (fop .mul k x y) q∧Nr q (a * b) (B * uK k + tK k):=by
 obtain ⟨r,r1,r2⟩:=X7H hx hy
 rw [X7I,r1]
 exact X2e k r2 h1 h2 hB
end Go.Ab

set_option linter.unusedVariables false
set_option linter.unusedSimpArgs false
namespace Go.Ab
open Ieee
theorem qa1 {X N I:Rat} (h:I * N=1):X * N * I=X:=by grind
theorem qa2 {M P N I:Rat} (h:I * N=1):(2 * (M * P) + N) * I=2 * (M * P * I) + 1:=by grind
theorem qa3 {M P I:Rat}:2 * (M * P) * I=2 * (M * P * I):=by grind
theorem qa4 {X N I:Rat} (h:I * N=1):(X * N + N) * I=X + 1:=by grind
theorem qa5 {A d z:Rat} (h:d * (2 * A)=1):2 * (A * z * d)=z:=by grind
theorem qa6 {A B d:Rat} (h:2 * A=B):2 * (A * d)=B * d:=by grind
theorem qa7 {A B C D E:Rat} (h:A≤B) (h1:2 * A=C) (h2:2 * B=D):C≤D:=by grind
theorem qa8 {X Y z B:Rat} (h:X * z≤(Y + 1) * z) (h1:Y * z=B):X * z≤B + z:=by grind
theorem qa9 {X Y z B:Rat} (h:Y * z≤(X + 1) * z) (h1:Y * z=B):B≤X * z + z:=by grind
theorem qa10 {X z y d:Rat} {b:Bool} (k1:X * z≤y + z) (k2:y≤X * z + z) (h:z≤d):Nr (sg b * (X * z)) (sg b * y) d:=by
 unfold Nr
 cases b<;>simp only [sg,if_true,if_false,Bool.false_eq_true]<;>grind
theorem X7J {D:Nat} {d e:Datum} {a b:Rat} (hd:vl d=some a) (he:vl e=some b) (hb:b≠0) :
  ∃ r v,d.quotient (D + 1) e=some r∧vl r=some v∧∃ w,w * b=a∧(∀ B,-B≤w→w≤B→Nr v w (B * (2:Rat) ^ (-(D:Int) - 1))):=by
 cases d with
 | nan s t=>simp [vl] at hd
 | infinity s=>simp [vl] at hd
 | number s m i =>
  cases e with
  | nan s t=>simp [vl] at he
  | infinity s=>simp [vl] at he
  | number t n j =>
   simp only [vl,Option.some.injEq] at hd he
   have hn:n≠0:=by
    intro h;subst h;apply hb;rw [← he];simp
   simp only [Datum.quotient,if_neg hn]
   generalize hmore:D + 1 + n.log2 - m.log2=more
   refine ⟨_,_,rfl,rfl,?_⟩
   have npos:0 < n:=by omega
   generalize hq:m <<< more / n=Q
   generalize hr:m <<< more % n=R
   have hdm:n * Q + R=m <<< more:=by rw [← hq,← hr];exact Nat.div_add_mod _ _
   have hR:R < n:=by rw [← hr];exact Nat.mod_lt _ npos
   rw [Nat.shiftLeft_eq] at hdm
   have nq:(0:Rat) < (n:Rat):=Rat.natCast_pos.2 npos
   refine ⟨sg (s ^^ t) * ((m:Rat) * (n:Rat)⁻¹ * (2:Rat)^(i - j)),?_,?_⟩
   ·rw [← hd,← he,X7g,show i=(i - j) + j from by omega,Xk,show (i - j) + j - j=i - j from by omega]
    have h1:=Rat.inv_mul_cancel (n:Rat) (by grind)
    have h2:=X8D t
    grind
   ·intro B hB1 hB2
    by_cases hm:m=0
    ·subst hm
     have hz:n * Q + R=0:=by rw [hdm];simp
     have hR0:R=0:=by omega
     have hQ0:Q=0:=by
      rcases Nat.mul_eq_zero.1 (show n * Q=0 by omega) with h | h
      ·omega
      ·exact h
     subst hQ0 hR0
     have h0:(0:Rat)≤B:=by simp at hB1 hB2;grind
     have:=Rat.mul_nonneg h0 (Rat.le_of_lt (Xj (-(D:Int) - 1)))
     unfold Nr
     simp
     grind
    have hE:(2:Rat)^(i - j - (more:Int) - 1) * (2 * ((2 ^ more:Nat):Rat))=(2:Rat)^(i - j):=by
     rw [show i - j=(i - j - (more:Int) - 1) + 1 + (more:Int) from by omega,Xk,Xk,X1e,Rat.zpow_one,show i - j - (more:Int) - 1 + 1 + more - more - 1=i - j - (more:Int) - 1 from by omega]
     grind
    generalize hz:(2:Rat)^(i - j - (more:Int) - 1)=z at *
    have zpos:0 < z:=by rw [← hz];exact Xj _
    generalize hst:(R != 0).toNat=st
    have hst1:(st=0∧R=0)∨(st=1∧1≤R):=by
     rw [← hst]
     by_cases h0:R=0
     ·left;subst h0;exact ⟨rfl,rfl⟩
     ·right;exact ⟨by simp [h0],by omega⟩
    have c1:(2 * Q + st) * n≤2 * (m * 2 ^ more) + n:=by
     rw [← hdm,Nat.add_mul,Nat.mul_add,Nat.mul_assoc,Nat.mul_comm Q n]
     rcases hst1 with ⟨h1,h2⟩ | ⟨h1,h2⟩<;>subst h1<;>omega
    have c2:2 * (m * 2 ^ more)≤(2 * Q + st) * n + n:=by
     rw [← hdm,Nat.add_mul,Nat.mul_add,Nat.mul_assoc,Nat.mul_comm Q n]
     rcases hst1 with ⟨h1,h2⟩ | ⟨h1,h2⟩<;>subst h1<;>omega
    have c3:2 ^ D * n≤m * 2 ^ more:=by
     have h1:2 ^ m.log2 * 2 ^ more≤m * 2 ^ more:=Nat.mul_le_mul_right _ (Nat.log2_self_le hm)
     have h2:n < 2 ^ (n.log2 + 1):=Nat.lt_log2_self
     have h3:2 ^ D * n≤2 ^ D * 2 ^ (n.log2 + 1):=Nat.mul_le_mul_left _ (by omega)
     rw [← Nat.pow_add] at h1 h3
     have h4:2 ^ (D + (n.log2 + 1))≤2 ^ (m.log2 + more):=Nat.pow_le_pow_right (by omega) (by omega)
     omega
    have d1:(((2 * Q + st) * n:Nat):Rat)≤((2 * (m * 2 ^ more) + n:Nat):Rat):=Rat.natCast_le_natCast.2 c1
    have d2:((2 * (m * 2 ^ more):Nat):Rat)≤(((2 * Q + st) * n + n:Nat):Rat):=Rat.natCast_le_natCast.2 c2
    have d3:((2 ^ D * n:Nat):Rat)≤((m * 2 ^ more:Nat):Rat):=Rat.natCast_le_natCast.2 c3
    simp only [Rat.natCast_mul (2 * Q + st),Rat.natCast_mul _ n,Rat.natCast_mul m,Rat.natCast_mul 2 (m * 2 ^ more),Rat.natCast_add _ n,Rat.natCast_ofNat] at d1 d2 d3
    have ninv:(n:Rat)⁻¹ * (n:Rat)=1:=Rat.inv_mul_cancel (n:Rat) (by grind)
    have ninv0:0≤(n:Rat)⁻¹:=Rat.le_of_lt (Rat.inv_pos.2 nq)
    generalize hX:((2 * Q + st:Nat):Rat)=X at *
    generalize hP:((2 ^ more:Nat):Rat)=P at *
    generalize hI:(n:Rat)⁻¹=I at *
    generalize hN:(n:Rat)=N at *
    generalize hM:(m:Rat)=M at *
    generalize hDD:((2 ^ D:Nat):Rat)=DD at *
    have e1:=Rat.mul_le_mul_of_nonneg_right d1 ninv0
    have e2:=Rat.mul_le_mul_of_nonneg_right d2 ninv0
    have e3:=Rat.mul_le_mul_of_nonneg_right d3 ninv0
    have t1:X * N * I=X:=qa1 ninv
    have t2:(2 * (M * P) + N) * I=2 * (M * P * I) + 1:=qa2 ninv
    have t3:2 * (M * P) * I=2 * (M * P * I):=qa3
    have t4:(X * N + N) * I=X + 1:=qa4 ninv
    have t5:DD * N * I=DD:=qa1 ninv
    have f1:X≤2 * (M * P * I) + 1:=by rw [← t1,← t2];exact e1
    have f2:2 * (M * P * I)≤X + 1:=by rw [← t3,← t4];exact e2
    have f3:DD≤M * P * I:=by rw [← t5];exact e3
    have g1:=Rat.mul_le_mul_of_nonneg_right f1 (Rat.le_of_lt zpos)
    have g2:=Rat.mul_le_mul_of_nonneg_right f2 (Rat.le_of_lt zpos)
    have g3:=Rat.mul_le_mul_of_nonneg_right f3 (Rat.le_of_lt zpos)
    have hw:2 * (M * P * I) * z=M * I * (2:Rat)^(i - j):=by rw [← hE];grind
    have hDz:(2:Rat) ^ (-(D:Int) - 1) * (2 * DD)=1:=by
     rw [← hDD,← X1e,show (-(D:Int) - 1)=-((D:Int) + 1) from by omega,Rat.zpow_neg]
     have:(2:Rat) ^ ((D:Int) + 1)=2 * (2:Rat)^(D:Int):=by rw [Xk,Rat.zpow_one];grind
     rw [this]
     exact Rat.inv_mul_cancel _ (by have:=Xj (D:Int);grind)
    have hdz:=Xj (-(D:Int) - 1)
    generalize (2:Rat) ^ (-(D:Int) - 1)=dz at *
    generalize (2:Rat)^(i - j)=y at *
    have hz1:z≤M * I * y * dz:=by
     have h3:=Rat.mul_le_mul_of_nonneg_right g3 (Rat.le_of_lt hdz)
     have h4:2 * (DD * z * dz)=z:=qa5 hDz
     have h5:2 * (M * P * I * z * dz)=M * I * y * dz:=qa6 (by rw [← hw];exact (Rat.mul_assoc ..).symm)
     exact qa7 (E:=0) h3 h4 h5
    have hMB:M * I * y≤B:=by
     cases hs:(s ^^ t)<;>simp only [hs,sg,if_true,if_false,Bool.false_eq_true] at hB1 hB2<;>grind
    have hz2:z≤B * dz:=by
     have:=Rat.mul_le_mul_of_nonneg_right hMB (Rat.le_of_lt hdz)
     exact Rat.le_trans hz1 this
    have k1:X * z≤M * I * y + z:=qa8 g1 hw
    have k2:M * I * y≤X * z + z:=qa9 g2 hw
    exact qa10 k1 k2 hz2
theorem quoV {k:FloatKind} {x y:Nat} {a b:Rat} (hx:Vl k x a) (hy:Vl k y b) (hb:b≠0) {B w:Rat} (hw:w * b=a) (h1:-B≤w) (h2:w≤B) (hB:2 * B < (2:Rat)^(topE k)) :
  ∃ q,Vl k (fop .quo k x y) q∧Nr q w (3 * B * uK k + tK k):=by
 obtain ⟨r,v,r1,r2,w',hw',r3⟩:=X7J (D:=k.format.fractionBits + 1) hx hy hb
 have hww:w'=w:=by
  have h:=Rat.mul_inv_cancel b hb
  have e1:w' * b * b⁻¹=w * b * b⁻¹:=by rw [hw',hw]
  rw [Rat.mul_assoc,Rat.mul_assoc,h,Rat.mul_one,Rat.mul_one] at e1
  exact e1
 subst hww
 have r3:=r3 B h1 h2
 have B0:0≤B:=by grind
 have he:(2:Rat) ^ (-((k.format.fractionBits + 1:Nat):Int) - 1)≤uK k:=by cases k<;>decide +kernel
 have hu:uK k≤1 / 4:=by cases k<;>decide +kernel
 have he2:=Rat.mul_le_mul_of_nonneg_left he B0
 have hu2:=Rat.mul_le_mul_of_nonneg_left hu B0
 generalize B * (2:Rat) ^ (-((k.format.fractionBits + 1:Nat):Int) - 1)=z at *
 unfold Nr at r3
 obtain ⟨q,q1,q2⟩:=X2e k (B:=2 * B) r2 (by grind) (by grind) hB
 rw [X8b,r1]
 refine ⟨q,q1,?_⟩
 unfold Nr at *
 grind
theorem X4I {a b e:Rat} (he:0 < e):a * e < b * e↔a < b:=Rat.mul_lt_mul_right he
theorem X2q {d e:Datum} {a b:Rat} (hd:vl d=some a) (he:vl e=some b):d.order e=some (if a < b then .lt else if a=b then .eq else .gt):=by
 cases d with
 | nan s t=>simp [vl] at hd
 | infinity s=>simp [vl] at hd
 | number s m i =>
  cases e with
  | nan s t=>simp [vl] at he
  | infinity s=>simp [vl] at he
  | number t n j =>
   simp only [vl,Option.some.injEq] at hd he
   simp only [Datum.order]
   have hz:=Xj (min i j)
   have ha:((signed s m (i - min i j).toNat:Int):Rat) * (2:Rat)^(min i j)=a:=by
    rw [X1Z,← hd]
    have e1:(2:Rat)^i=(2:Rat)^(((i - min i j).toNat:Nat):Int) * (2:Rat)^(min i j):=by rw [← Xk];congr 1;omega
    rw [e1];grind
   have hb:((signed t n (j - min i j).toNat:Int):Rat) * (2:Rat)^(min i j)=b:=by
    rw [X1Z,← he]
    have e1:(2:Rat)^j=(2:Rat)^(((j - min i j).toNat:Nat):Int) * (2:Rat)^(min i j):=by rw [← Xk];congr 1;omega
    rw [e1];grind
   generalize signed s m (i - min i j).toNat=A at *
   generalize signed t n (j - min i j).toNat=B at *
   generalize (2:Rat)^(min i j)=z at *
   congr 1
   rcases Int.lt_trichotomy A B with h | h | h
   ·have hc:compare A B = .lt:=Int.compare_eq_lt.2 h
    have:a < b:=by rw [← ha,← hb,X4I hz];exact Rat.intCast_lt_intCast.2 h
    rw [hc,if_pos this]
   ·subst h
    have hc:compare A A = .eq:=by simp
    have:a=b:=by rw [← ha,← hb]
    rw [hc,if_neg (by grind),if_pos this]
   ·have hc:compare A B = .gt:=Int.compare_eq_gt.2 h
    have:b < a:=by rw [← ha,← hb,X4I hz];exact Rat.intCast_lt_intCast.2 h
    rw [hc,if_neg (by grind),if_neg (by grind)]
theorem lssV {k:FloatKind} {x y:Nat} {a b:Rat} (hx:Vl k x a) (hy:Vl k y b):fcmp .lss k x y=decide (a < b):=by
 show ((k.format.read x).order (k.format.read y) == some .lt)=_
 rw [X2q hx hy]
 by_cases h:a < b
 ·simp [h]
 ·by_cases h2:a=b
  ·subst h2;simp
  ·simp [h,h2]
theorem gtrV {k:FloatKind} {x y:Nat} {a b:Rat} (hx:Vl k x a) (hy:Vl k y b):fcmp .gtr k x y=decide (b < a):=by
 show ((k.format.read x).order (k.format.read y) == some .gt)=_
 rw [X2q hx hy]
 by_cases h:a < b
 ·have:¬ b < a:=by grind
  simp [h,this]
 ·by_cases h2:a=b
  ·subst h2;simp
  ·have:b < a:=by grind
   simp [h,h2,this]
theorem eqlV {k:FloatKind} {x y:Nat} {a b:Rat} (hx:Vl k x a) (hy:Vl k y b):fcmp .eql k x y=decide (a=b):=by
 show ((k.format.read x).order (k.format.read y) == some .eq)=_
 rw [X2q hx hy]
 by_cases h:a < b
 ·have:¬ a=b:=by grind
  simp [h,this]
 ·by_cases h2:a=b
  ·subst h2;simp
  ·simp [h,h2]
theorem geqV {k:FloatKind} {x y:Nat} {a b:Rat} (hx:Vl k x a) (hy:Vl k y b):fcmp .geq k x y=decide (b≤a):=by
 show ((k.format.read x).order (k.format.read y) == some .gt || (k.format.read x).order (k.format.read y) == some .eq)=_
 rw [X2q hx hy]
 by_cases h:a < b
 ·have:¬ b≤a:=by grind
  simp [h,this]
 ·by_cases h2:a=b
  ·subst h2;simp
  ·have:b≤a:=by grind
   simp [h,h2,this]
theorem X7K {d:Datum} {v:Rat} {S:Int} (h:vl d=some v) (h1:-(2:Rat)^(S+1) < v) (h2:v < (2:Rat)^(S+1)):X41 d S:=by
 intro s m e hd
 subst hd
 simp only [vl,Option.some.injEq] at h
 by_cases h0:m=0
 ·exact .inl h0
 ·right
  have:=X7h (K:=S + 1) (e:=e) h0 (by
   subst h
   cases s<;>simp only [sg,if_true,if_false,Bool.false_eq_true] at h1 h2<;>grind)
  omega
theorem X4r {x:Nat} {v:Rat} (h:Vl .f64 x v) (h1:-1329227995784915872903807060280344576≤v) (h2:v≤1329227995784915872903807060280344576):Xu .f64 .f32 x=true:=by
 have e:(1329227995784915872903807060280344576:Rat) < (2:Rat)^((120:Int) + 1):=by decide +kernel
 exact X7w (S:=120) (X7K h (by grind) (by grind)) (by omega)
end Go.Ab

set_option linter.unusedVariables false
set_option linter.unusedSimpArgs false
namespace Go.Ab
open Ieee
theorem X20 {w:Nat} (h:Nw w):Vl .f64 w (((4503599627370496 + w % 4503599627370496:Nat):Rat) * (2:Rat)^(-1074 + ((fld w - 1:Nat):Int))):=by
 show vl (double.read w)=_
 rw [X23 h]
 simp [vl,sg]
theorem X53 {w:Nat} (h:Nw w) {v:Rat} (hv:Vl .f64 w v) (E:Int) (hE:E≤(fld w:Int) - 1023):(2:Rat)^E≤v:=by
 have e:=X20 h
 unfold Vl at *
 rw [e,Option.some.injEq] at hv
 have hf:1≤fld w:=by unfold fld;have:=h.1;omega
 have h1:((2 ^ 52:Nat):Rat)≤((4503599627370496 + w % 4503599627370496:Nat):Rat):=Rat.natCast_le_natCast.2 (by simp only [Nat.reducePow];omega)
 have h2:=Rat.mul_le_mul_of_nonneg_right h1 (Rat.le_of_lt (Xj (-1074 + ((fld w - 1:Nat):Int))))
 rw [← X1e,← Xk] at h2
 have h3:=X3n (a:=E) (b:=((52:Nat):Int) + (-1074 + ((fld w - 1:Nat):Int))) (by omega)
 grind
theorem X7R {w:Nat} (h:Nw w) {v:Rat} (hv:Vl .f64 w v) (E:Int) (hE:(fld w:Int) - 1022≤E):v < (2:Rat)^E:=by
 have e:=X20 h
 unfold Vl at *
 rw [e,Option.some.injEq] at hv
 have hf:1≤fld w:=by unfold fld;have:=h.1;omega
 have h1:((4503599627370496 + w % 4503599627370496:Nat):Rat) < ((2 ^ 53:Nat):Rat):=Rat.natCast_lt_natCast.2 (by simp only [Nat.reducePow];have:=Nat.mod_lt w (show 0 < 4503599627370496 by omega);omega)
 have h2:=Rat.mul_lt_mul_of_pos_right h1 (Xj (-1074 + ((fld w - 1:Nat):Int)))
 rw [← X1e,← Xk] at h2
 have h3:=X3n (a:=((53:Nat):Int) + (-1074 + ((fld w - 1:Nat):Int))) (b:=E) (by omega)
 grind
theorem c075:Vl .f64 4604930618986332160 (3/4):=by unfold Vl;decide +kernel
theorem c150:Vl .f64 4609434218613702656 (3/2):=by unfold Vl;decide +kernel
theorem cOne:Vl .f64 4607182418800017408 1:=by unfold Vl;decide +kernel
theorem cTwo:Vl .f64 4611686018427387904 2:=by unfold Vl;decide +kernel
theorem cLn2:Vl .f64 4604418534313441775 (6243314768165359/9007199254740992):=by unfold Vl;decide +kernel
theorem X7L {w:Nat} (h:Nw w) (hg:fcmp .geq .f64 w 4609434218613702656=false):fld w≤1023:=by
 refine Nat.not_lt.1 fun hlt => ?_
 have h1:=X53 h (X20 h) 1 (by omega)
 rw [geqV (X20 h) c150] at hg
 have:=of_decide_eq_false hg
 rw [Rat.zpow_one] at h1
 grind
theorem X7M {w:Nat} (h:Nw w) (hg:fcmp .lss .f64 w 4604930618986332160=false):1022≤fld w:=by
 refine Nat.not_lt.1 fun hlt => ?_
 have h1:=X7R h (X20 h) (-1) (by omega)
 rw [lssV (X20 h) c075] at hg
 have:=of_decide_eq_false hg
 have e:(2:Rat)^(-1:Int)=1/2:=by decide +kernel
 rw [e] at h1
 grind
theorem X5R:∀ e:Int,-600≤e→e≤600→Vl .f64 (X1 .f64 e) (e:Rat):=by
 have h:(List.range 1201).all (fun n=>decide (vl (double.read (X1 .f64 ((n:Int) - 600)))=some (((n:Int) - 600:Int):Rat)))=true:=by decide +kernel
 intro e h1 h2
 have:=(List.all_eq_true.1 h) (e + 600).toNat (List.mem_range.2 (by omega))
 have q:=of_decide_eq_true this
 rw [show (((e + 600).toNat:Nat):Int) - 600=e from by omega] at q
 exact q
theorem X7i:∀ e:Int,1≤e→e≤25→∃ r,Vl .f64 (fop .quo .f64 4607182418800017408 (X1 .f64 e)) r∧0≤r∧r≤1:=by
 have h:(List.range 26).all (fun n=>n == 0 || match vl (double.read (fop .quo .f64 4607182418800017408 (X1 .f64 (n:Int)))) with | some r=>decide (0≤r) && decide (r≤1) | none=>false)=true:=by decide +kernel
 intro e h1 h2
 have:=(List.all_eq_true.1 h) e.toNat (List.mem_range.2 (by omega))
 rw [show ((e.toNat:Nat):Int)=e from by omega,show (e.toNat == 0)=false from by rw [beq_eq_false_iff_ne];omega,Bool.false_or] at this
 unfold Vl
 cases hq:vl (double.read (fop .quo .f64 4607182418800017408 (X1 .f64 e))) with
 | none=>rw [hq] at this;cases this
 | some r =>
  rw [hq] at this
  simp only [Bool.and_eq_true,decide_eq_true_eq] at this
  exact ⟨r,hq,this.1,this.2⟩
theorem u64:uK .f64=1 / 9007199254740992:=rfl
theorem t64:tK .f64≤1 / 1000000000000000000000000000000:=X7Q _
theorem t64p:0 < tK .f64:=X47 _
theorem XZ {x:Rat} (h:x≤1000000000000):x < (2:Rat)^(topE .f64):=by
 have e:(1000000000000:Rat) < (2:Rat)^(topE .f64):=by decide +kernel
 grind
theorem mul_le_mul' {a b A B:Rat} (h1:-A≤a) (h2:a≤A) (h3:-B≤b) (h4:b≤B):-(A * B)≤a * b∧a * b≤A * B:=by
 have p1:=Rat.mul_nonneg (show 0≤A - a by grind) (show 0≤B + b by grind)
 have p2:=Rat.mul_nonneg (show 0≤A + a by grind) (show 0≤B - b by grind)
 have p3:=Rat.mul_nonneg (show 0≤A - a by grind) (show 0≤B - b by grind)
 have p4:=Rat.mul_nonneg (show 0≤A + a by grind) (show 0≤B + b by grind)
 constructor<;>grind
theorem X7N {u q:Nat} {a b:Rat} {k:Int} (hu:Vl .f64 u a) (a1:-(1/2)≤a) (a2:a≤1/2) (hq:Vl .f64 q b) (b1:-3≤b) (b2:b≤3) (k1:1≤k) (k2:k≤25) :
  ∃ r,Vl .f64 (fop .add .f64 (fop .quo .f64 4607182418800017408 (X1 .f64 k)) (fop .mul .f64 u q)) r∧-3≤r∧r≤3:=by
 obtain ⟨i,i1,i2,i3⟩:=X7i k k1 k2
 obtain ⟨m1,m2⟩:=mul_le_mul' a1 a2 b1 b2
 obtain ⟨p,p1,p2⟩:=mulV hu hq (B:=1/2*3) m1 m2 (XZ (by decide +kernel))
 have:=t64;have:=t64p
 unfold Nr at p2
 rw [u64] at p2
 obtain ⟨r,r1,r2⟩:=addV i1 p1 (B:=2.75) (by grind) (by grind) (XZ (by decide +kernel))
 unfold Nr at r2
 rw [u64] at r2
 exact ⟨r,r1,by grind,by grind⟩
theorem X7S {y:Nat} (h:Nw y) (h1:1022≤fld y) (h2:fld y≤1023):∃ a,Vl .f64 (fop .quo .f64 (fop .sub .f64 y 4607182418800017408) (fop .add .f64 y 4607182418800017408)) a∧-(7/10)≤a∧a≤7/10:=by
 have hv:=X20 h
 have l:=X53 h hv (-1) (by omega)
 have g:=X7R h hv 1 (by omega)
 have e:(2:Rat)^(-1:Int)=1/2:=by decide +kernel
 rw [e] at l
 rw [Rat.zpow_one] at g
 generalize (((4503599627370496 + y % 4503599627370496:Nat):Rat) * (2:Rat)^(-1074 + ((fld y - 1:Nat):Int)))=v at *
 have:=t64;have:=t64p
 obtain ⟨a,a1,a2⟩:=subV hv cOne (B:=1) (by grind) (by grind) (XZ (by decide +kernel))
 obtain ⟨b,b1,b2⟩:=addV hv cOne (B:=3) (by grind) (by grind) (XZ (by decide +kernel))
 unfold Nr at a2 b2
 rw [u64] at a2 b2
 have b0:b≠0:=by grind
 have hw:a / b * b=a:=Rat.div_mul_cancel b0
 have w1:a / b≤69/100:=by
  refine Rat.not_lt.1 fun hc => ?_
  have:=Rat.mul_lt_mul_of_pos_right hc (show 0 < b by grind)
  grind
 have w2:-(69/100)≤a / b:=by
  refine Rat.not_lt.1 fun hc => ?_
  have:=Rat.mul_lt_mul_of_pos_right hc (show 0 < b by grind)
  grind
 obtain ⟨q,q1,q2⟩:=quoV a1 b1 b0 hw w2 w1 (XZ (by decide +kernel))
 unfold Nr at q2
 rw [u64] at q2
 exact ⟨q,q1,by grind,by grind⟩
theorem X8E {s:Nat} {a:Rat} (h:Vl .f64 s a) (h1:-(7/10)≤a) (h2:a≤7/10):∃ r,Vl .f64 (fop .mul .f64 s s) r∧-(1/2)≤r∧r≤1/2:=by
 obtain ⟨m1,m2⟩:=mul_le_mul' h1 h2 h1 h2
 obtain ⟨p,p1,p2⟩:=mulV h h (B:=7/10*(7/10)) m1 m2 (XZ (by decide +kernel))
 have:=t64;have:=t64p
 unfold Nr at p2
 rw [u64] at p2
 exact ⟨p,p1,by grind,by grind⟩
theorem X8c {s q:Nat} {a b:Rat} {e:Int} (hs:Vl .f64 s a) (a1:-(7/10)≤a) (a2:a≤7/10) (hq:Vl .f64 q b) (b1:-3≤b) (b2:b≤3) (e1:-230≤e) (e2:e≤230) :
  ∃ r,Vl .f64 (fop .add .f64 (fop .mul .f64 4611686018427387904 (fop .mul .f64 s q)) (fop .mul .f64 (X1 .f64 e) 4604418534313441775)) r∧-165≤r∧r≤165:=by
 have:=t64;have:=t64p
 obtain ⟨m1,m2⟩:=mul_le_mul' a1 a2 b1 b2
 obtain ⟨p,p1,p2⟩:=mulV hs hq (B:=7/10*3) m1 m2 (XZ (by decide +kernel))
 unfold Nr at p2
 rw [u64] at p2
 obtain ⟨m,m1,m2⟩:=mulV cTwo p1 (B:=4.3) (by grind) (by grind) (XZ (by decide +kernel))
 unfold Nr at m2
 rw [u64] at m2
 have he1:((-230:Int):Rat)≤(e:Rat):=Rat.intCast_le_intCast.2 e1
 have he2:(e:Rat)≤((230:Int):Rat):=Rat.intCast_le_intCast.2 e2
 have x1:((-230:Int):Rat)=-230:=rfl
 have x2:((230:Int):Rat)=230:=rfl
 rw [x1] at he1
 rw [x2] at he2
 obtain ⟨n,n1,n2⟩:=mulV (X5R e (by omega) (by omega)) cLn2 (B:=160) (by grind) (by grind) (XZ (by decide +kernel))
 unfold Nr at n2
 rw [u64] at n2
 obtain ⟨r,r1,r2⟩:=addV m1 n1 (B:=164.5) (by grind) (by grind) (XZ (by decide +kernel))
 unfold Nr at r2
 rw [u64] at r2
 exact ⟨r,r1,by grind,by grind⟩
theorem X3I {x:Nat} (h1:fcmp .neq .f64 (fcv .f32 .f64 x) (fcv .f32 .f64 x)=false) (h2:fcmp .lss .f64 (fcv .f32 .f64 x) 0=false) (h3:fcmp .eql .f64 (fcv .f32 .f64 x) 0=false) (h4:fcmp .gtr .f64 (fcv .f32 .f64 x) 9218868437227405311=false) :
  Nw (fcv .f32 .f64 x)∧800≤fld (fcv .f32 .f64 x)∧fld (fcv .f32 .f64 x)≤1200:=by
 have hf:=X2b x
 cases hr:single.read x with
 | nan s t =>
  exfalso
  rw [hr] at hf
  have:fcv .f32 .f64 x=Xh .f64:=hf
  rw [this] at h1
  revert h1;decide +kernel
 | infinity s =>
  exfalso
  rw [hr] at hf
  cases s with
  | false =>
   have:fcv .f32 .f64 x=9218868437227405312:=hf
   rw [this] at h4
   revert h4;decide +kernel
  | true =>
   have:fcv .f32 .f64 x=18442240474082181120:=hf
   rw [this] at h2
   revert h2;decide +kernel
 | number s m e =>
  rw [hr] at hf
  have hf:fcv .f32 .f64 x=double.nearest s m e:=hf
  obtain ⟨p1,p2,p3⟩:=X1B (x:=x) hr
  have z64:Vl .f64 0 0:=by unfold Vl;decide +kernel
  by_cases m0:m=0
  ·exfalso
   subst m0
   have:fcv .f32 .f64 x=double.word s 0:=by rw [hf];unfold Format.nearest;rw [if_pos rfl]
   rw [this] at h3
   cases s<;>(revert h3;decide +kernel)
  have hl:m.log2≤23:=X1W p1 m0
  cases s with
  | false =>
   rw [hf]
   obtain ⟨q1,q2⟩:=X3G (p:=e) m0 (by omega) (by omega) (by omega)
   exact ⟨q1,by omega,by omega⟩
  | true =>
   exfalso
   have hn:double.nearest true m e=double.signWeight + double.nearest false m e:=by
    unfold Format.nearest
    rw [if_neg m0,if_neg m0]
    unfold Format.word
    simp only [if_true,Bool.false_eq_true,if_false]
    rfl
   obtain ⟨q1,q2⟩:=X3G (p:=e) m0 (by omega) (by omega) (by omega)
   have hr2:double.read (double.nearest true m e)=(double.read (double.nearest false m e)).opposite:=by
    rw [hn]
    generalize double.nearest false m e=w at *
    obtain ⟨a,b⟩:=q1
    have hs:double.signWeight=9223372036854775808:=by decide +kernel
    unfold Format.read
    rw [hs,show (9223372036854775808 + w) % 9223372036854775808=w from by omega,show (9223372036854775808 + w) / 9223372036854775808=1 from by omega,show w % 9223372036854775808=w from by omega,show w / 9223372036854775808=0 from by omega]
    simp only [Datum.opposite]
    split
    ·rfl
    ·split
     ·rfl
     ·split<;>rfl
   have hv:=X20 q1
   have hv2:Vl .f64 (fcv .f32 .f64 x) (-(((4503599627370496 + double.nearest false m e % 4503599627370496:Nat):Rat) * (2:Rat)^(-1074 + ((fld (double.nearest false m e) - 1:Nat):Int)))):=by
    rw [hf]
    show vl (double.read (double.nearest true m e))=_
    rw [hr2]
    exact X4p hv
   rw [lssV hv2 z64] at h2
   have h2:=of_decide_eq_false h2
   have:=X53 q1 hv ((fld (double.nearest false m e):Int) - 1023) (by omega)
   have:=Xj ((fld (double.nearest false m e):Int) - 1023)
   grind
theorem X5S (a b:Int):0≤bitsOf .andNot .u64 a b∧bitsOf .andNot .u64 a b < 18446744073709551616:=by
 show 0≤IntKind.wrap .u64 _∧IntKind.wrap .u64 _ < _
 unfold IntKind.wrap
 rw [show IntKind.u64.bits=64 from rfl]
 have c:IntKind.u64.signed=false:=rfl
 simp only [c,Bool.false_and,Bool.false_eq_true,if_false]
 omega
theorem X6O {x:Nat} (h:fcmp .neq .f64 x x=false):X9 .f64 x=false:=by
 have h':((double.read x).order (double.read x) != some .eq)=false:=h
 show (double.read x).isNaN=false
 cases hr:double.read x with
 | nan s t=>rw [hr] at h';cases h'
 | infinity s=>rfl
 | number s m e=>rfl
theorem X8d {d:Datum} {s:Bool} {t:Nat} (hr:d = .nan s t):d.sum d.opposite=none:=by
 rw [hr];rfl
theorem X4J {x:Nat} (h:(FloatKind.f32.format.read x).sum (FloatKind.f32.format.read x).opposite=none):fop .sub .f32 x x=Xh .f32:=by
 rw [X4q,h];rfl
theorem X7j {x:Nat} (h3:fcmp .eql .f32 (fop .sub .f32 x x) 0=true) (hs:fop .sub .f32 x x=Xh .f32):False:=by
 rw [hs] at h3
 revert h3;decide +kernel
theorem X2f {x:Nat} (h1:fcmp .eql .f32 x 0=false) (h2:fcmp .lss .f32 x 0=false) (h3:fcmp .eql .f32 (fop .sub .f32 x x) 0=true):fcmp .gtr .f32 x 0=true:=by
 have r0:FloatKind.f32.format.read 0 = .number false 0 (-149):=by decide +kernel
 have h1:((FloatKind.f32.format.read x).order (FloatKind.f32.format.read 0) == some .eq)=false:=h1
 have h2:((FloatKind.f32.format.read x).order (FloatKind.f32.format.read 0) == some .lt)=false:=h2
 show ((FloatKind.f32.format.read x).order (FloatKind.f32.format.read 0) == some .gt)=true
 rw [r0] at h1 h2 ⊢
 cases hr:FloatKind.f32.format.read x with
 | nan s t =>
  exact (X7j h3 (X4J (X8d hr))).elim
 | infinity s =>
  rw [hr] at h2
  cases s with
  | true=>cases h2
  | false=>rfl
 | number s m e =>
  rw [hr] at h1 h2
  generalize hc:(Datum.number s m e).order (.number false 0 (-149))=c at *
  have:∃ o,c=some o:=⟨_,hc.symm⟩
  obtain ⟨o,rfl⟩:=this
  cases o
  ·cases h2
  ·cases h1
  ·rfl
end Go.Ab

set_option linter.unusedVariables false
set_option linter.unusedSimpArgs false
namespace Go.Ab
open Ieee
theorem X3f {x:Nat} {a:Rat} (h:Vl .f32 x a):Vl .f64 (fcv .f32 .f64 x) a:=by
 have h':vl (single.read x)=some a:=h
 have hf:=X2b x
 cases hr:single.read x with
 | nan s t=>rw [hr] at h';simp [vl] at h'
 | infinity s=>rw [hr] at h';simp [vl] at h'
 | number s m e =>
  obtain ⟨p1,p2,p3⟩:=X1B hr
  rw [hr] at hf h'
  have hf:fcv .f32 .f64 x=double.nearest s m e:=hf
  have e1:double.leastPlace=-1074:=by decide +kernel
  have e2:double.fractionBits=52:=rfl
  have e3:2 ^ double.exponentBits=2048:=rfl
  have hl:m.log2≤23:=by
   by_cases m0:m=0
   ·subst m0;simp
   ·exact X1W p1 m0
  obtain ⟨q,q1,-,-,q4⟩:=X3H double s m e (by decide) (by rw [e1,e2,e3];omega)
  have q4:=q4 (by rw [e1,e2];omega)
  unfold Vl
  show vl (double.read (fcv .f32 .f64 x))=some a
  rw [hf,q1,q4,← h']
  rfl
theorem X8v {x:Nat} {a:Rat} (h:Vl .f32 x a):-(2:Rat)^(128:Int) < a∧a < (2:Rat)^(128:Int):=by
 have h':vl (single.read x)=some a:=h
 cases hr:single.read x with
 | nan s t=>rw [hr] at h';simp [vl] at h'
 | infinity s=>rw [hr] at h';simp [vl] at h'
 | number s m e =>
  obtain ⟨p1,p2,p3⟩:=X1B hr
  rw [hr] at h'
  simp only [vl,Option.some.injEq] at h'
  have h1:(m:Rat) < ((2 ^ 24:Nat):Rat):=Rat.natCast_lt_natCast.2 p1
  have h2:=Rat.mul_lt_mul_of_pos_right h1 (Xj e)
  rw [← X1e,← Xk] at h2
  have h3:=X3n (a:=((24:Nat):Int) + e) (b:=128) (by omega)
  have h4:=X2S m e
  subst h'
  cases s<;>simp only [sg,if_true,if_false,Bool.false_eq_true]<;>constructor<;>grind
theorem X6P {x:Nat} {v:Rat} (h:Vl .f64 x v):fcv .f64 .f32 x=single.write (double.read x):=by
 have h':vl (double.read x)=some v:=h
 unfold fcv
 rw [if_neg (by decide)]
 show (match double.read x with | .nan .. => Xh .f32 | y=>FloatKind.f32.encode y)=_
 cases hr:double.read x with
 | nan s t=>rw [hr] at h';simp [vl] at h'
 | infinity s=>rfl
 | number s m e=>rfl
theorem X7k {x:Nat} {v B:Rat} (h:Vl .f64 x v) (h1:-B≤v) (h2:v≤B) (hB:B < (2:Rat)^(topE .f32)):∃ q,Vl .f32 (fcv .f64 .f32 x) q∧Nr q v (B * uK .f32 + tK .f32):=by
 rw [X6P h]
 exact X2e .f32 h h1 h2 hB
theorem X8w:Vl .f64 9218868437227405311 ((9007199254740991:Rat) * (2:Rat)^(971:Int)):=by unfold Vl;decide +kernel
theorem X3J {x:Nat} (h:fcmp .gtr .f64 (fcv .f32 .f64 x) 9218868437227405311=true):fcv .f32 .f64 x=9218868437227405312∧single.read x = .infinity false:=by
 have hf:=X2b x
 cases hr:single.read x with
 | nan s t =>
  exfalso
  rw [hr] at hf
  have:fcv .f32 .f64 x=Xh .f64:=hf
  rw [this] at h
  revert h;decide +kernel
 | infinity s =>
  rw [hr] at hf
  cases s with
  | false=>exact ⟨hf,rfl⟩
  | true =>
   exfalso
   have:fcv .f32 .f64 x=18442240474082181120:=hf
   rw [this] at h
   revert h;decide +kernel
 | number s m e =>
  exfalso
  have hv:Vl .f32 x (sg s * ((m:Rat) * (2:Rat) ^ e)):=by
   show vl (single.read x)=_
   rw [hr];rfl
  have h2:=X8v hv
  rw [gtrV (X3f hv) X8w] at h
  have h:=of_decide_eq_true h
  have:(2:Rat)^(128:Int)≤(9007199254740991:Rat) * (2:Rat)^(971:Int):=by decide +kernel
  grind
theorem X8e {d:Datum} (h:vl d=some 0):∃ s e,d = .number s 0 e:=by
 cases d with
 | nan s t=>simp [vl] at h
 | infinity s=>simp [vl] at h
 | number s m e =>
  simp only [vl,Option.some.injEq] at h
  have hz:=Xj e
  have:m=0:=by
   by_cases h0:m=0
   ·exact h0
   ·exfalso
    have:=Rat.mul_pos (Rat.natCast_pos.2 (show 0 < m by omega)) hz
    cases s<;>simp only [sg,if_true,if_false,Bool.false_eq_true] at h<;>grind
  subst this
  exact ⟨s,e,rfl⟩
theorem X8x (k:FloatKind) {d:Datum} (h:vl d=some 0):Vl k (k.format.write d) 0:=by
 obtain ⟨s,e,rfl⟩:=X8e h
 have:k.format.write (.number s 0 e)=k.format.word s 0:=by
  show k.format.nearest s 0 e=_
  unfold Format.nearest
  rw [if_pos rfl]
 rw [this]
 unfold Vl
 cases k<;>cases s<;>decide +kernel
theorem X7l {k:FloatKind} {x:Nat} {a:Rat} (hx:Vl k x a):Vl k (fop .sub k x x) 0:=by
 obtain ⟨r,r1,r2⟩:=X4o hx (X4p hx)
 rw [X4q,r1]
 exact X8x k (by rw [r2];congr 1;grind)
end Go.Ab

set_option linter.unusedVariables false
set_option linter.unusedSimpArgs false
namespace Go.Ab
open Ieee
def X1f (x:Nat):Prop:=(∃ r,Vl .f32 x r∧-60≤r∧r≤60)∨x=2139095040∨x=4286578688∨x=Xh .f32
theorem c256:Vl .f64 4643211215818981376 256:=by unfold Vl;decide +kernel
theorem div_le' {a b B:Rat} (hb:1≤b) (h1:-B≤a) (h2:a≤B):a / b * b=a∧-B≤a / b∧a / b≤B:=by
 have b0:b≠0:=by grind
 have hw:a / b * b=a:=Rat.div_mul_cancel b0
 have B0:0≤B:=by grind
 generalize a / b=w at *
 refine ⟨hw,?_,?_⟩
 ·refine Rat.not_lt.1 fun hc => ?_
  have h3:=Rat.mul_lt_mul_of_pos_right hc (show 0 < b by grind)
  have h4:=Rat.mul_le_mul_of_nonneg_left hb B0
  grind
 ·refine Rat.not_lt.1 fun hc => ?_
  have h3:=Rat.mul_lt_mul_of_pos_right hc (show 0 < b by grind)
  have h4:=Rat.mul_le_mul_of_nonneg_left hb B0
  grind
theorem X8F {y:Nat} {r:Rat} (h:Vl .f64 y r) (h1:-60≤r) (h2:r≤60):∃ a,Vl .f64 (fop .quo .f64 y 4643211215818981376) a∧-(47/200)≤a∧a≤47/200:=by
 have hw:(r / 256) * 256=r:=Rat.div_mul_cancel (by decide)
 obtain ⟨q,q1,q2⟩:=quoV h c256 (by decide) hw (B:=15/64) (by grind) (by grind) (XZ (by decide +kernel))
 have:=t64;have:=t64p
 unfold Nr at q2
 rw [u64] at q2
 exact ⟨q,q1,by grind,by grind⟩
theorem X7O {t p:Nat} {a b:Rat} {k:Int} (ht:Vl .f64 t a) (a1:-(47/200)≤a) (a2:a≤47/200) (hp:Vl .f64 p b) (b1:-(33/25)≤b) (b2:b≤33/25) (k1:1≤k) (k2:k≤12) :
  ∃ r,Vl .f64 (fop .add .f64 4607182418800017408 (fop .quo .f64 (fop .mul .f64 t p) (X1 .f64 k))) r∧-(33/25)≤r∧r≤33/25:=by
 have:=t64;have:=t64p
 obtain ⟨m1,m2⟩:=mul_le_mul' a1 a2 b1 b2
 obtain ⟨c,c1,c2⟩:=mulV ht hp (B:=47/200*(33/25)) m1 m2 (XZ (by decide +kernel))
 unfold Nr at c2
 rw [u64] at c2
 have hk:(1:Rat)≤(k:Rat):=by
  have:=Rat.intCast_le_intCast.2 k1
  simpa using this
 obtain ⟨d1,d2,d3⟩:=div_le' hk (B:=311/1000) (show -(311/1000)≤c by grind) (by grind)
 obtain ⟨q,q1,q2⟩:=quoV c1 (X5R k (by omega) (by omega)) (by grind) d1 d2 d3 (XZ (by decide +kernel))
 unfold Nr at q2
 rw [u64] at q2
 obtain ⟨r,r1,r2⟩:=addV cOne q1 (B:=1.315) (by grind) (by grind) (XZ (by decide +kernel))
 unfold Nr at r2
 rw [u64] at r2
 exact ⟨r,r1,by grind,by grind⟩
def expB:Nat→Rat
 | 0=>33/25
 | n + 1=>match n with
  | 0=>7/4
  | 1=>31/10
  | 2=>97/10
  | 3=>95
  | 4=>9100
  | 5=>83000000
  | 6=>7000000000000000
  | _=>50000000000000000000000000000000
theorem X8f:∀ n,n < 8→0≤expB n∧expB n * expB n + (expB n * expB n * uK .f64 + 1)≤expB (n + 1) + 1∧expB n * expB n * uK .f64 + expB n * expB n + 1 / 1000000000000000000000000000000≤expB (n + 1):=by
 have h:(List.range 8).all (fun n=>decide (0≤expB n∧expB n * expB n + (expB n * expB n * uK .f64 + 1)≤expB (n + 1) + 1∧expB n * expB n * uK .f64 + expB n * expB n + 1 / 1000000000000000000000000000000≤expB (n + 1)))=true:=by decide +kernel
 intro n hn
 exact of_decide_eq_true ((List.all_eq_true.1 h) n (List.mem_range.2 hn))
theorem X6i:∀ n,n < 9→expB n≤50000000000000000000000000000000∧expB n * expB n < (2:Rat)^(topE .f64):=by
 have h:(List.range 9).all (fun n=>decide (expB n≤50000000000000000000000000000000∧expB n * expB n < (2:Rat)^(topE .f64)))=true:=by decide +kernel
 intro n hn
 exact of_decide_eq_true ((List.all_eq_true.1 h) n (List.mem_range.2 hn))
theorem X8y {p n:Nat} {b:Rat} (hn:n < 8) (hp:Vl .f64 p b) (b1:-expB n≤b) (b2:b≤expB n):∃ r,Vl .f64 (fop .mul .f64 p p) r∧-expB (n + 1)≤r∧r≤expB (n + 1):=by
 obtain ⟨m1,m2⟩:=mul_le_mul' b1 b2 b1 b2
 obtain ⟨c,c1,c2⟩:=mulV hp hp (B:=expB n * expB n) m1 m2 (X6i n (by omega)).2
 obtain ⟨e1,-,e3⟩:=X8f n hn
 have:=t64;have:=t64p
 unfold Nr at c2
 exact ⟨c,c1,by grind,by grind⟩
theorem c200:Vl .f64 4641240890982006784 200:=by unfold Vl;decide +kernel
theorem X8G:Vl .f64 13864612927836782592 (-200):=by unfold Vl;decide +kernel
theorem X8H:Vl .f32 1077936128 3:=by unfold Vl;decide +kernel
theorem X7T {x:Rat} (h:x≤1000000000000):x < (2:Rat)^(topE .f32):=by
 have e:(1000000000000:Rat) < (2:Rat)^(topE .f32):=by decide +kernel
 grind
theorem u32:uK .f32=1 / 16777216:=rfl
theorem t32:tK .f32≤1 / 1000000000000000000000000000000:=X7Q _
theorem t32p:0 < tK .f32:=X47 _
theorem X8I {x:Nat} {r:Rat} (h:Vl .f32 x r) (h1:-166≤r) (h2:r≤166):∃ q,Vl .f32 (fop .quo .f32 x 1077936128) q∧-60≤q∧q≤60:=by
 have hw:(r / 3) * 3=r:=Rat.div_mul_cancel (by decide)
 obtain ⟨q,q1,q2⟩:=quoV h X8H (by decide) hw (B:=166/3) (by grind) (by grind) (X7T (by decide +kernel))
 have:=t32;have:=t32p
 unfold Nr at q2
 rw [u32] at q2
 exact ⟨q,q1,by grind,by grind⟩
theorem X5T {x:Nat} {v:Rat} (h:Vl .f64 x v) (h1:-165≤v) (h2:v≤165):∃ q,Vl .f32 (fcv .f64 .f32 x) q∧-166≤q∧q≤166:=by
 obtain ⟨q,q1,q2⟩:=X7k h (B:=165) (by grind) (by grind) (X7T (by decide +kernel))
 have:=t32;have:=t32p
 unfold Nr at q2
 rw [u32] at q2
 exact ⟨q,q1,by grind,by grind⟩
def X2B:List Nat:=(List.range 13).map (fun n=>X1 .f64 ((n:Nat):Int))
def eIx (w:Nat):Nat:=match X2B.findIdx? (· == w) with | some i=>i | none=>0
theorem eTab:∀ j:Nat,j < 13→fcmp .geq .f64 (X1 .f64 (j:Int)) 4607182418800017408=decide ((j:Int) ≥ 1)∧(0 < j→fop .sub .f64 (X1 .f64 (j:Int)) 4607182418800017408=X1 .f64 ((j - 1:Nat):Int))∧eIx (X1 .f64 (j:Int))=j:=by
 have h:(List.range 13).all (fun j=>(fcmp .geq .f64 (X1 .f64 (j:Int)) 4607182418800017408 == decide ((j:Int) ≥ 1)) && (j == 0 || fop .sub .f64 (X1 .f64 (j:Int)) 4607182418800017408 == X1 .f64 ((j - 1:Nat):Int)) && eIx (X1 .f64 (j:Int)) == j)=true:=by decide +kernel
 intro j hj
 have q:=(List.all_eq_true.1 h) j (List.mem_range.2 hj)
 rw [Bool.and_eq_true,Bool.and_eq_true,Bool.or_eq_true,beq_iff_eq,beq_iff_eq,beq_iff_eq,beq_iff_eq] at q
 exact ⟨q.1.1,fun h0=>q.1.2.resolve_left (by omega),q.2⟩
theorem X3w (w:Nat) (h:w∈X2B) (g:fcmp .geq .f64 w 4607182418800017408=true):fop .sub .f64 w 4607182418800017408∈X2B∧eIx (fop .sub .f64 w 4607182418800017408) < eIx w:=by
 obtain ⟨j,hj,rfl⟩:=List.mem_map.1 h
 have hj:=List.mem_range.1 hj
 obtain ⟨a,b,c⟩:=eTab j hj
 rw [a] at g
 have g:=of_decide_eq_true g
 rw [b (by omega),c,(eTab (j - 1) (by omega)).2.2]
 exact ⟨List.mem_map.2 ⟨j - 1,List.mem_range.2 (by omega),rfl⟩,by omega⟩
theorem X3K (op:BinOp) (x y:Nat):fop op .f32 x y < 4294967296:=by
 have e:(2:Nat) ^ FloatKind.f32.format.width=4294967296:=by decide +kernel
 unfold fop
 cases h:floatBits op .f32 x y with
 | none=>rw [← e];exact X3x .f32
 | some r=>rw [← e];exact (X1C h).2
end Go.Ab
