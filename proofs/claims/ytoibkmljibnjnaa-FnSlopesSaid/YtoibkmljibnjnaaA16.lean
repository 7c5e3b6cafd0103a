/- Code and functions. -/
import Derived.Test.YtoibkmljibnjnaaA15
set_option linter.unusedVariables false
set_option linter.unusedSimpArgs false
namespace Go.Ab
open Go.RowKit
def evc (P:Program) (E:Env):Code→St→List Ans→Option (Ex × St × List Ans × List Prop)
 | .skip,st,ans=>some (.norm,st,ans,[])
 | .region id ops draw,st,ans=>match draw with
  | false=>match X17 P E ops.toList ops.toList st ans with
   | some (st,ans,C)=>some (.norm,st,ans,C)
   | none=>none
  | true=>match ans with
   | .loop _ _ .norm st' :: ans=>some (.norm,st',ans,[Ev P E.np (.region id ops true) st .norm st'])
   | ans=>match X6X P E ops.toList st ans with
    | some (st,ans,C)=>some (.norm,st,ans,C)
    | none=>none
 | .seq x y,st,ans=>match evc P E x st ans with
  | some (.norm,st,ans,C)=>match evc P E y st ans with
   | some (e,st,ans,C')=>some (e,st,ans,C ++ C')
   | none=>none
  | r=>r
 | .cond c x y,st,ans=>match opd st c,ans with
  | .b v, .bo true :: ans=>match evc P E x st ans with
   | some (e,st,ans,C)=>some (e,st,ans,(v=true) :: C)
   | none=>none
  | .b v, .bo false :: ans=>match evc P E y st ans with
   | some (e,st,ans,C)=>some (e,st,ans,(v=false) :: C)
   | none=>none
  | _,_=>none
 | .block id c,st,ans=>match evc P E c st ans with
  | some (.exit id',st,ans,C)=>match id' == id with
   | true=>some (.norm,st,ans,C)
   | false=>some (.exit id',st,ans,C)
  | r=>r
 | .loop body,st,ans=>match ans with
  | .loop [] _ e st' :: ans=>some (e,st',ans,[Lp P E.np body st e st'])
  | .loop mask n e st' :: ans=>match Nat.ble E.np n with
   | true=>some (e,st',ans,[Lp P E.np body (X4T mask n st) e st'])
   | false=>none
  | _=>none
 | .exit id,st,ans=>some (.exit id,st,ans,[])
 | .ret,st,ans=>some (.ret,st,ans,[])
 | _,_,_=>none
theorem Rel.ext {w0:Old0} {st:St} {a:Act} {w w':World} (h:Rel w0 st a w) (hb:Bw w.heap.size w w'):Rel w0 st a w':=by
 obtain ⟨μ,h⟩:=h;exact ⟨μ,h.ext hb⟩
theorem X2W {P:Program} {E:Env} (hE:EOk P E) (hm:P.follows .mixedOrders=true):∀ (c:Code) {st st':St} {ans ans':List Ans} {e:Ex} {C:List Prop},evc P E c st ans=some (e,st',ans',C)→All C→Ev P E.np c st e st':=by
 intro c
 induction c with
 | skip =>
  intro st st' ans ans' e C h hC w0 hp a w Q hr hQ
  simp only [evc,Option.some.injEq,Prod.mk.injEq] at h
  obtain ⟨rfl,rfl,rfl,rfl⟩:=h
  exact wp_skip (hQ a w hr)
 | region id ops draw =>
  intro st st' ans ans' e C h hC w0 hp a w Q hr hQ
  simp only [evc] at h
  cases draw with
  | false =>
   simp only at h
   split at h
   ·rename_i st1 ans1 C1 hl
    simp only [Option.some.injEq,Prod.mk.injEq] at h
    obtain ⟨rfl,rfl,rfl,rfl⟩:=h
    exact wp_region_list (X6W ⟨hE,hp⟩ ops.toList hl hC hr hQ)
   ·cases h
  | true =>
   simp only at h
   split at h
   ·simp only [Option.some.injEq,Prod.mk.injEq] at h
    obtain ⟨rfl,rfl,rfl,rfl⟩:=h
    exact hC.1 w0 hp a w Q hr hQ
   ·split at h
    ·rename_i st1 ans1 C1 hl
     simp only [Option.some.injEq,Prod.mk.injEq] at h
     obtain ⟨rfl,rfl,rfl,rfl⟩:=h
     exact wp_region_any hm (X8t ⟨hE,hp⟩ hl hC hQ (hr.ext (Drew.one.below _)))
    ·cases h
 | seq x y ihx ihy =>
  intro st st' ans ans' e C h hC w0 hp a w Q hr hQ
  simp only [evc] at h
  split at h
  ·rename_i st1 ans1 C1 hx
   split at h
   ·rename_i e2 st2 ans2 C2 hy
    simp only [Option.some.injEq,Prod.mk.injEq] at h
    obtain ⟨rfl,rfl,rfl,rfl⟩:=h
    rw [All.append] at hC
    exact wp_seq (ihx hx hC.1 w0 hp a w _ hr fun a' w' hr'=>ihy hy hC.2 w0 hp a' w' Q hr' hQ)
   ·cases h
  ·rename_i hne
   refine wp_seq (ihx h hC w0 hp a w _ hr fun a' w' hr' => ?_)
   have:=hQ a' w' hr'
   cases e with
   | norm=>exact absurd h (hne _ _ _)
   | exit id=>exact this
   | ret=>exact this
 | cond c x y ihx ihy =>
  intro st st' ans ans' e C h hC w0 hp a w Q hr hQ
  simp only [evc] at h
  have hop:∀ v,opd st c = .b v→a.eval c = .bool v:=by
   intro v hv
   obtain ⟨μ,hr⟩:=hr
   have:=hr.opd c
   rw [hv] at this
   generalize a.eval c=q at this
   cases this;rfl
  split at h
  ·rename_i v ans1 hv
   split at h
   ·rename_i e1 st1 ans2 C1 hx
    simp only [Option.some.injEq,Prod.mk.injEq] at h
    obtain ⟨rfl,rfl,rfl,rfl⟩:=h
    exact wp_cond_true (by rw [hop _ hv,hC.1]) (ihx hx hC.2 w0 hp a w Q hr hQ)
   ·cases h
  ·rename_i v ans1 hv
   split at h
   ·rename_i e1 st1 ans2 C1 hx
    simp only [Option.some.injEq,Prod.mk.injEq] at h
    obtain ⟨rfl,rfl,rfl,rfl⟩:=h
    exact wp_cond_false (by rw [hop _ hv,hC.1]) (ihy hx hC.2 w0 hp a w Q hr hQ)
   ·cases h
  ·cases h
 | block id c ih =>
  intro st st' ans ans' e C h hC w0 hp a w Q hr hQ
  simp only [evc] at h
  split at h
  ·rename_i id' st1 ans1 C1 hx
   split at h
   ·rename_i hid
    simp only [beq_iff_eq] at hid
    simp only [Option.some.injEq,Prod.mk.injEq] at h
    obtain ⟨rfl,rfl,rfl,rfl⟩:=h
    refine wp_block (ih hx hC w0 hp a w _ hr fun a' w' hr' => ?_)
    simp only [exOf,Exit.inBlock,hid,if_true]
    exact hQ a' w' hr'
   ·rename_i hid
    simp only [beq_eq_false_iff_ne] at hid
    simp only [Option.some.injEq,Prod.mk.injEq] at h
    obtain ⟨rfl,rfl,rfl,rfl⟩:=h
    refine wp_block (ih hx hC w0 hp a w _ hr fun a' w' hr' => ?_)
    simp only [exOf,Exit.inBlock,hid,if_false]
    exact hQ a' w' hr'
  ·rename_i hne
   refine wp_block (ih h hC w0 hp a w _ hr fun a' w' hr' => ?_)
   have:=hQ a' w' hr'
   cases e with
   | norm=>exact this
   | exit id'=>exact absurd h (hne _ _ _ _)
   | ret=>exact this
 | loop body ih =>
  intro st st' ans ans' e C h hC w0 hp a w Q hr hQ
  simp only [evc] at h
  split at h
  ·rename_i n e1 st1 ans1
   simp only [Option.some.injEq,Prod.mk.injEq] at h
   obtain ⟨rfl,rfl,rfl,rfl⟩:=h
   obtain ⟨⟨k,hk⟩,_⟩:=hC
   exact wp_loop_rounds k (hk w0 hp a w Q hr hQ)
  ·rename_i mask n e1 st1 ans1 hne
   split at h
   ·rename_i hn
    simp only [Option.some.injEq,Prod.mk.injEq] at h
    obtain ⟨rfl,rfl,rfl,rfl⟩:=h
    obtain ⟨⟨k,hk⟩,_⟩:=hC
    exact wp_loop_rounds k (hk w0 hp a w Q (hr.forget mask n (Nat.le_trans hp (Nat.le_of_ble_eq_true hn))) hQ)
   ·cases h
  ·cases h
 | exit id =>
  intro st st' ans ans' e C h hC w0 hp a w Q hr hQ
  simp only [evc,Option.some.injEq,Prod.mk.injEq] at h
  obtain ⟨rfl,rfl,rfl,rfl⟩:=h
  exact wp_exit (hQ a w hr)
 | ret =>
  intro st st' ans ans' e C h hC w0 hp a w Q hr hQ
  simp only [evc,Option.some.injEq,Prod.mk.injEq] at h
  obtain ⟨rfl,rfl,rfl,rfl⟩:=h
  exact wp_ret (hQ a w hr)
 | rangeFunc=>intro st st' ans ans' e C h;simp [evc] at h
 | scope=>intro st st' ans ans' e C h;simp [evc] at h
 | label=>intro st st' ans ans' e C h;simp [evc] at h
 | goto=>intro st st' ans ans' e C h;simp [evc] at h
 | refuse=>intro st st' ans ans' e C h;simp [evc] at h
/- what a function hands back -/
def rvAV (T:TypeId→Option TD) (st:St):ResultVar→Option AV
 | .tmp t=>st.tm[t]?
 | .cell a t=>match T t,st.tm[a]? with
  | some d,some (.ptr r 0 off)=>match st.rows[r]? with
   | some (.box _ cs)=>X1S d cs off
   | _=>none
  | _,_=>none
def X2X (T:TypeId→Option TD) (st:St):List ResultVar→Option (List AV)
 | []=>some []
 | rv :: l=>match rvAV T st rv,X2X T st l with
  | some v,some vs=>some (v :: vs)
  | _,_=>none
def X49 (T:TypeId→Option TD) (st:St) (l:List ResultVar):Option AV :=
 match l with
 | [rv]=>rvAV T st rv
 | l=>(X2X T st l).map .tup
def X4a (tmps:Array Value):ResultVar→Sem Value
 | .tmp t=>pure (tmps.getD t undef)
 | .cell a t=>do loadVar t (← asAddr (tmps.getD a undef))
theorem X8u (fn:Func) (tmps:Array Value):results fn tmps=(do
  let vs ← fn.results.mapM (X4a tmps)
  pure (if h:vs.size=1 then vs[0] else .tuple vs)):=by
 unfold results
 have:(fun x:ResultVar=>match x with
   | .tmp t=>(pure (tmps.getD t undef):Sem Value)
   | .cell a t=>do loadVar t (← asAddr (tmps.getD a undef)))=X4a tmps:=by
  funext x;cases x<;>rfl
 rw [← this];rfl
theorem X4X {P:Program} {T:TypeId→Option TD} (hT:TOk P T) {w0:Old0} {μ:Nat→Option FP} {st:St} {a:Act} {w:World} (hr:RelM w0 μ st a w) {rv:ResultVar} {v:AV} (h:rvAV T st rv=some v) :
  ∃ x,(X4a a.tmps rv).run P w = .ok x w∧Rep w0.heap μ v x:=by
 cases rv with
 | tmp t=>exact ⟨_,rfl,hr.tmps t v h⟩
 | cell b t =>
  simp only [rvAV] at h
  split at h
  ·rename_i d r off hd hb
   have hp:=hr.tmps b _ hb
   generalize hq:a.tmps.getD b undef=q at hp
   cases hp with
   | ptr _ _ _ p hp =>
   cases hrow:st.rows[r]? with
   | none=>rw [hrow] at h;cases h
   | some row =>
    rw [hrow] at h
    have hok:=hr.mem.row r row hrow
    rw [hp] at hok
    cases row with
    | box t2 cs =>
     simp only at h
     obtain ⟨ez,e1,e2,arr,e3,e4,e5⟩:=hok
     obtain ⟨x,r1,r2⟩:=X1j (hT t d hd) (H:=w0.heap) (μ:=μ) (w:=w) (cs:=cs) (b:=p.blk) (base:=0 * p.es) (off:=off) (av:=v) (fun j c e=>by
      have hlt:j < arr.size:=by
       rcases Nat.lt_or_ge j cs.length with h | h
       ·omega
       ·rw [List.getElem?_eq_none h] at e;cases e
      refine ⟨_,?_,e5 j c e⟩
      unfold X5;rw [e3]
      simp only [Nat.zero_mul,Nat.zero_add]
      rw [Array.getElem?_eq_getElem hlt,Array.getD_eq_getD_getElem?,Array.getElem?_eq_getElem hlt];rfl) h
     refine ⟨x,?_,r2⟩
     simp only [X4a,hq,Sem.run_bind,asAddr,Sem.run_pure,Result.andThen_ok]
     exact r1
    | _=>cases h
  ·cases h
theorem X4j {P:Program} {T:TypeId→Option TD} (hT:TOk P T) {w0:Old0} {μ:Nat→Option FP} {st:St} {a:Act} {w:World} (hr:RelM w0 μ st a w) {fn:Func} {v:AV} (h:X49 T st fn.results.toList=some v) :
  ∃ x,(results fn a.tmps).run P w = .ok x w∧Rep w0.heap μ v x:=by
 have lists:∀ (l:List ResultVar) (vs:List AV),X2X T st l=some vs→∃ xs:List Value,(l.mapM (X4a a.tmps)).run P w = .ok xs w∧xs.length=vs.length∧∀ (j:Nat) (c:AV),vs[j]? = some c→Rep w0.heap μ c (xs[j]?.getD undef):=by
  intro l
  induction l with
  | nil=>intro vs h;simp only [X2X,Option.some.injEq] at h;subst h;exact ⟨[],rfl,rfl,by simp⟩
  | cons rv l ih =>
   intro vs h
   simp only [X2X] at h
   split at h
   ·rename_i v1 vs1 h1 h2
    simp only [Option.some.injEq] at h;subst h
    obtain ⟨x,r1,r2⟩:=X4X hT hr h1
    obtain ⟨xs,r3,r4,r5⟩:=ih _ h2
    refine ⟨x :: xs,?_,by simp [r4],fun j c e => ?_⟩
    ·rw [List.mapM_cons,Sem.run_bind,r1,Result.andThen_ok,Sem.run_bind,r3];rfl
    ·cases j with
     | zero=>simp at e;subst e;simpa using r2
     | succ j=>simp at e;simpa using r5 j c e
   ·cases h
 have hres:∀ xs:List Value,(fn.results.toList.mapM (X4a a.tmps)).run P w = .ok xs w→(results fn a.tmps).run P w = .ok (if h:xs.toArray.size=1 then xs.toArray[0] else .tuple xs.toArray) w:=by
  intro xs hx
  rw [X8u,Array.mapM_eq_mapM_toList]
  simp only [Sem.run_bind,Sem.run_map]
  rw [hx];rfl
 unfold X49 at h
 split at h
 ·rename_i rv hl
  obtain ⟨x,r1,r2⟩:=X4X hT hr h
  refine ⟨x,?_,r2⟩
  have:=hres [x] (by rw [hl,List.mapM_cons,Sem.run_bind,r1];rfl)
  simpa using this
 ·rename_i l hne
  rw [Option.map_eq_some_iff] at h
  obtain ⟨vs,h1,rfl⟩:=h
  obtain ⟨xs,r1,r2,r3⟩:=lists _ _ h1
  refine ⟨_,hres xs r1,?_⟩
  have hlen:xs.length≠1:=by
   intro h1'
   have:∀ (l:List ResultVar) (vs:List AV),X2X T st l=some vs→vs.length=l.length:=by
    intro l
    induction l with
    | nil=>intro vs h;simp only [X2X,Option.some.injEq] at h;subst h;rfl
    | cons rv l ih =>
     intro vs h
     simp only [X2X] at h
     split at h
     ·rename_i v1 vs1 h1 h2
      simp only [Option.some.injEq] at h;subst h;simp [ih _ h2]
     ·cases h
   have h3:=this _ _ h1
   have h4:fn.results.toList.length=1:=by omega
   obtain ⟨rv,hrv⟩:=List.length_eq_one_iff.1 h4
   exact hne rv hrv
  rw [dif_neg (by simpa using hlen)]
  exact .tup vs _ (by simpa using r2) fun j c e=>by
   rw [Array.getD_eq_getD_getElem?,List.getElem?_toArray];exact r3 j c e
def renC (ks:List Nat):AV→AV
 | .own r=>match idx ks r with
  | some i => .own i
  | none => .any
 | .mp r=>match idx ks r with
  | some i => .mp i
  | none => .any
 | v=>v
def renA (ks:List Nat):AV→AV
 | .agg cs => .agg (cs.map (renC ks))
 | v=>renC ks v
def ren (ks:List Nat):AV→AV
 | .tup vs => .tup (vs.map (renA ks))
 | v=>renA ks v
def X10 (rows:List Row):List Nat→Option (List Row)
 | []=>some []
 | k :: ks=>match rows[k]?,X10 rows ks with
  | some r,some rs=>some (r :: rs)
  | _,_=>none
theorem X1n {rows:List Row}:∀ {ks:List Nat} {rs:List Row},X10 rows ks=some rs→rs.length=ks.length∧∀ (i k:Nat),ks[i]? = some k→rs[i]? = rows[k]?
 | [],rs,h=>by simp [X10] at h;subst h;simp
 | k :: ks,rs,h=>by
  simp only [X10] at h
  split at h
  ·rename_i r rs1 h1 h2
   simp only [Option.some.injEq] at h;subst h
   obtain ⟨h3,h4⟩:=X1n h2
   refine ⟨by simp [h3],fun i k' e => ?_⟩
   cases i with
   | zero=>simp at e;subst e;simp [h1]
   | succ i=>simp at e;simpa using h4 i k' e
  ·cases h
theorem X2I {H:Array Obj} {μ μ':Nat→Option FP} {ks:List Nat} (hs:∀ (i k:Nat),ks[i]? = some k→μ' i=μ k) {c:AV} {v:Value} (ho:X1k ks.length (renC ks c)=true) (h:Rep H μ c v):Rep H μ' (renC ks c) v:=by
 cases h with
 | own r p hp =>
  simp only [renC] at ho ⊢
  cases hi:idx ks r with
  | none=>rw [hi] at ho;simp [X1k] at ho
  | some i=>exact .own i p (by rw [hs i r (XD hi)];exact hp)
 | mp r p hp hz =>
  simp only [renC] at ho ⊢
  cases hi:idx ks r with
  | none=>rw [hi] at ho;simp [X1k] at ho
  | some i=>exact .mp i p (by rw [hs i r (XD hi)];exact hp) hz
 | b x=>exact .b x
 | i k n=>exact .i k n
 | f k x bits h e=>exact .f k x bits h e
 | nils=>exact .nils
 | _=>simp [renC,X1k] at ho
theorem X2J {H:Array Obj} {μ μ':Nat→Option FP} {ks:List Nat} (hs:∀ (i k:Nat),ks[i]? = some k→μ' i=μ k) {c:AV} {v:Value} (ho:X1l ks.length (renA ks c)=true) (h:Rep H μ c v):Rep H μ' (renA ks c) v:=by
 cases c with
 | agg cs =>
  cases h with | agg _ vs hz hh =>
  simp only [renA,X1l,List.all_eq_true,List.mem_map,forall_exists_index,and_imp,forall_apply_eq_imp_iff₂] at ho
  refine .agg _ vs (by simp [hz]) fun j c e => ?_
  rw [List.getElem?_map,Option.map_eq_some_iff] at e
  obtain ⟨c0,e0,rfl⟩:=e
  exact X2I hs (ho c0 (List.mem_of_getElem? e0)) (hh j c0 e0)
 | own r =>
  refine X2I hs ?_ h
  simp only [renA,renC] at ho ⊢
  cases hi:idx ks r<;>rw [hi] at ho<;>exact ho
 | mp r =>
  refine X2I hs ?_ h
  simp only [renA,renC] at ho ⊢
  cases hi:idx ks r<;>rw [hi] at ho<;>exact ho
 | _=>exact X2I hs (by simpa [renA,renC,X1l] using ho) h
theorem Xa6 {H:Array Obj} {μ μ':Nat→Option FP} {ks:List Nat} (hs:∀ (i k:Nat),ks[i]? = some k→μ' i=μ k) {c:AV} {v:Value} (ho:X1a ks.length (ren ks c)=true) (h:Rep H μ c v):Rep H μ' (ren ks c) v:=by
 cases c with
 | tup cs =>
  cases h with | tup _ vs hz hh =>
  simp only [ren,X1a,List.all_eq_true,List.mem_map,forall_exists_index,and_imp,forall_apply_eq_imp_iff₂] at ho
  refine .tup _ vs (by simp [hz]) fun j c e => ?_
  rw [List.getElem?_map,Option.map_eq_some_iff] at e
  obtain ⟨c0,e0,rfl⟩:=e
  exact X2J hs (ho c0 (List.mem_of_getElem? e0)) (hh j c0 e0)
 | own r =>
  refine X2J hs ?_ h
  simp only [ren,renA,renC] at ho ⊢
  cases hi:idx ks r<;>rw [hi] at ho<;>exact ho
 | mp r =>
  refine X2J hs ?_ h
  simp only [ren,renA,renC] at ho ⊢
  cases hi:idx ks r<;>rw [hi] at ho<;>exact ho
 | agg cs =>
  refine X2J hs ?_ h
  simpa [ren,renA,X1a] using ho
 | _=>exact X2J hs (by simpa [ren,renA,renC,X1a] using ho) h
theorem X2Y {α:Type} {l:List α} (h:l.Nodup) {i j:Nat} (hi:i < l.length) (hj:j < l.length) (e:l[i]=l[j]):i=j:=by
 rw [List.nodup_iff_pairwise_ne,List.pairwise_iff_getElem] at h
 rcases Nat.lt_trichotomy i j with g | g | g
 ·exact absurd e (h i j hi hj g)
 ·exact g
 ·exact absurd e.symm (h j i hj hi g)
end Go.Ab
