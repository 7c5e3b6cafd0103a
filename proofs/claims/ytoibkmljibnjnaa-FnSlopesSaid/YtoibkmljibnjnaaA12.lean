/- Code: operations in a row, branches, blocks, loops, functions. -/
import Derived.Test.YtoibkmljibnjnaaA11q
import Derived.LoopN
set_option linter.unusedVariables false
set_option linter.unusedSimpArgs false
namespace Go.Ab
open Go.RowKit
def X7 (P:Program) (g:FuncId) (rows:List Row) (args:List AV) (r:AV) (rows':List Row):Prop :=
 X3d P g∧∀ (w0:Old0) (μ:Nat→Option FP) (w:World) (vs:Array Value),Mem w0 μ rows w→PW w0.heap μ args vs →
  Calls P g vs w fun e w' => ∃ v μ',e = .returned v∧Sub μ μ'∧Mem w0 μ' rows' w'∧Rep w0.heap μ' r v
structure EOn (P:Program) (E:Env) (w0:Old0):Prop extends EOk P E where
 np:w0.np≤E.np
def addC (q:Prop):Option (St × List Ans × List Prop)→Option (St × List Ans × List Prop)
 | some (st,ans,C)=>some (st,ans,q :: C)
 | none=>none
def X1m (st:St) (dst:Option Tmp) (r:PR):St:=({ st with rows:=st.rows ++ r.new }:St).put dst r.av
def evs (P:Program) (E:Env) (st:St) (o:Oper) (ans:List Ans):Option (St × List Ans × List Prop) :=
 match o.op with
 | .store t a x=>match X6C E.T E.np st t (opd st a) (opd st x) with
  | some (st',C)=>some (st'.put o.dst .any,ans,C)
  | none=>match X5g E.T st.rows t (opd st a) (opd st x) ans with
   | some (rows',ans,C)=>some (({ st with rows:=rows' }:St).put o.dst .any,ans,C)
   | none=>none
 | .call c=>match c.callee,ans with
  | .builtin .append,ans=>match c.argTypes.toList,c.args.toList with
   | [ts,tx],[s,x]=>match X6S E.T st ts tx (opd st s) (opd st x) ans with
    | some (st',v,ans,C)=>some (st'.put o.dst v,ans,C)
    | none=>match X68 E.T E.np st ts tx (opd st s) (opd st x) ans with
    | some (st',v,ans,C)=>some (st'.put o.dst v,ans,C)
    | none=>match X6H E.T E.np st ts tx (opd st s) (opd st x) ans with
     | some (st',v,ans,C)=>some (st'.put o.dst v,ans,C)
     | none=>match X6N E.T E.np st ts tx s x ans with
      | some (st',v,ans,C)=>some (st'.put o.dst v,ans,C)
      | none=>match X6U E.T st ts tx (opd st s) (opd st x) ans with
       | some (st',v,ans,C)=>some (st'.put o.dst v,ans,C)
       | none=>none
   | _,_=>none
  | .value f, .calls r rows' :: ans=>match opd st f with
   | .fn g cap=>match E.X g with
    | none=>some (({ st with rows:=rows' }:St).put o.dst r,ans,[X7 P g st.rows (c.args.toList.map (opd st) ++ cap) r rows'])
    | some _=>none
   | _=>none
  | _,ans=>match evp P E st st.rows.length o.op ans with
   | some r=>some (X1m st o.dst r,r.ans,r.C)
   | none=>none
 | .load t x=>match evp P E st st.rows.length (.load t x) ans with
  | some r=>match r.av,r.ans with
   | .inn _ _, .loop [] d' .ret _ :: ans'=>match X8h E.np (X1m st o.dst r) o.dst d' with
    | some (st',C)=>some (st',ans',r.C ++ C)
    | none=>none
   | _,_=>some (X1m st o.dst r,r.ans,r.C)
  | none=>none
 | .buildSlice e n parts=>match evp P E st st.rows.length (.buildSlice e n parts) ans with
  | some r=>match r.new,r.ans with
   | [.lits _ _], .loop [] _ .ret _ :: ans'=>match X5h E.np (X1m st o.dst r) o.dst with
    | some st'=>some (st',ans',r.C)
    | none=>none
   | _,_=>some (X1m st o.dst r,r.ans,r.C)
  | none=>none
 | _=>match evp P E st st.rows.length o.op ans with
  | some r=>some (X1m st o.dst r,r.ans,r.C)
  | none=>match X8j E.T E.np st o.op ans with
   | some (st',v,ans,C)=>some (st'.put o.dst (v.getD .any),ans,C)
   | none=>match X6P E.T E.np st o.op with
    | some (st',v,C)=>some (st'.put o.dst (v.getD .any),ans,C)
    | none=>none
def evo (P:Program) (E:Env) (ops:List Oper) (st:St) (o:Oper) (ans:List Ans):Option (St × List Ans × List Prop) :=
 match o.guard with
 | none=>evs P E st o ans
 | some (j,want)=>match (ops[j]?).bind (·.dst) with
  | some d=>match st.tm[d]?,ans with
   | some (.tup []),ans=>some (st.put o.dst (.tup []),ans,[])
   | some (.b x), .bo v :: ans=>match v == want with
    | true=>addC (x=v) (evs P E st o ans)
    | false=>some (st.put o.dst (.tup []),ans,[x=v])
   | _,_=>none
  | _=>none
def X17 (P:Program) (E:Env) (ops:List Oper):List Oper→St→List Ans→Option (St × List Ans × List Prop)
 | [],st,ans=>some (st,ans,[])
 | o :: rest,st,ans=>match evo P E ops st o ans with
  | some (st,ans,C)=>match X17 P E ops rest st ans with
   | some (st,ans,C')=>some (st,ans,C ++ C')
   | none=>none
  | none=>none
section
variable {P:Program} {E:Env} {w0:Old0}
theorem X1L (hE:EOn P E w0) {st:St} {a:Act} {w:World} {o:Oper} {ans:List Ans} {r:PR} (h:evp P E st st.rows.length o.op ans=some r) (hC:All r.C) (hr:Rel w0 st a w)
  {next:Act→World→Prop} {Q:Exit→Act→World→Prop} (hn:∀ a' w',Rel w0 (X1m st o.dst r) a' w'→next a' w'):o.wp P a w next Q:=by
 obtain ⟨μ,hr⟩:=hr
 refine X2N hE.toEOk hr.toW h hC (fun q hq _=>hr.mem.out q hq) next Q fun v w' ⟨μ',hg,hb,hv⟩=>hn _ _ ⟨μ',?_⟩
 have:=(hr.grow hb hg (Nat.le_refl _) (fun q hq _=>hr.mem.out q hq)).put o.dst hv
 rw [X1J] at this
 exact this
theorem X2T {H:Array Obj} {μ:Nat→Option FP}:Rep H μ (.tup []) undef := .tup [] #[] rfl (fun j c e=>by simp at e)
theorem X3P (hE:EOn P E w0) {st st':St} {a:Act} {w:World} {o:Oper} {ans ans':List Ans} {C:List Prop} (h:evs P E st o ans=some (st',ans',C)) (hC:All C) (hr:Rel w0 st a w)
  {next:Act→World→Prop} {Q:Exit→Act→World→Prop} (hn:∀ a' w',Rel w0 st' a' w'→next a' w'):o.wp P a w next Q:=by
 have pure:∀ ans0,(match evp P E st st.rows.length o.op ans0 with
   | some r=>some (X1m st o.dst r,r.ans,r.C)
   | none=>none)=some (st',ans',C)→o.wp P a w next Q:=by
  intro ans0 h
  split at h
  ·rename_i r hr'
   simp only [Option.some.injEq,Prod.mk.injEq] at h
   obtain ⟨rfl,rfl,rfl⟩:=h
   exact X1L hE hr' hC hr hn
  ·cases h
 unfold evs at h
 split at h
 ·rename_i t ad x ho
  obtain ⟨μ,hr⟩:=hr
  split at h
  ·rename_i st1 C1 hst
   simp only [Option.some.injEq,Prod.mk.injEq] at h
   obtain ⟨rfl,rfl,rfl⟩:=h
   obtain ⟨w',h1,μ',h2⟩:=X6D (P:=P) hE.T hr hE.np (hr.opd ad) (hr.opd x) hst hC
   have hex:(execOp a.eval o).run P w = .ok .skip w':=by simp [execOp,ho,h1]
   unfold Oper.wp
   rw [hex]
   exact hn _ _ ⟨μ',h2.put o.dst (.any _)⟩
  split at h
  ·rename_i rows' ans1 C1 hst
   simp only [Option.some.injEq,Prod.mk.injEq] at h
   obtain ⟨rfl,rfl,rfl⟩:=h
   obtain ⟨w',h1,h2⟩:=X5Z hE.T hr.mem (hr.opd ad) (hr.opd x) hst hC
   have hex:(execOp a.eval o).run P w = .ok .skip w':=by simp [execOp,ho,h1]
   unfold Oper.wp
   rw [hex]
   refine hn _ _ ⟨μ,RelM.put (st:={ st with rows:=rows' }) ⟨hr.defers,hr.size,hr.tmps,h2⟩ o.dst (.any _)⟩
  ·cases h
 ·rename_i c ho
  split at h
  ·rename_i _ hb
   obtain ⟨μ,hr⟩:=hr
   split at h
   ·rename_i ts tx s x hts hxs
    split at h
    ·rename_i st1 v ans1 C1 happ
     simp only [Option.some.injEq,Prod.mk.injEq] at h
     obtain ⟨rfl,rfl,rfl⟩:=h
     have hta:c.argTypes=#[ts,tx]:=by cases hq:c.argTypes;rw [hq] at hts;simp at hts;rw [hts]
     have hxa:c.args=#[s,x]:=by cases hq:c.args;rw [hq] at hxs;simp at hxs;rw [hxs]
     obtain ⟨u,w',h1,μ',h2,h3⟩:=X6T (P:=P) (ty:=o.type) hE.T hr (hr.opd s) (hr.opd x) happ hC
     have hex:(execOp a.eval o).run P w = .ok (.value u) w':=by
      simp only [execOp,ho,Sem.run_bind,resolve,hb,hta,hxa,Sem.run_pure,Result.andThen_ok,invoke,builtin]
      rw [show (#[s,x].map a.eval)=#[a.eval s,a.eval x] from by simp,h1];rfl
     unfold Oper.wp
     rw [hex]
     exact hn _ _ ⟨μ',h2.put o.dst h3⟩
    ·rename_i hnoF
     split at h
     ·rename_i st1 v ans1 C1 happ
      simp only [Option.some.injEq,Prod.mk.injEq] at h
      obtain ⟨rfl,rfl,rfl⟩:=h
      have hta:c.argTypes=#[ts,tx]:=by cases hq:c.argTypes;rw [hq] at hts;simp at hts;rw [hts]
      have hxa:c.args=#[s,x]:=by cases hq:c.args;rw [hq] at hxs;simp at hxs;rw [hxs]
      obtain ⟨u,w',h1,μ',h2,h3⟩:=X4g (P:=P) (ty:=o.type) hE.T hr hE.np (hr.opd s) (hr.opd x) happ hC
      have hex:(execOp a.eval o).run P w = .ok (.value u) w':=by
       simp only [execOp,ho,Sem.run_bind,resolve,hb,hta,hxa,Sem.run_pure,Result.andThen_ok,invoke,builtin]
       rw [show (#[s,x].map a.eval)=#[a.eval s,a.eval x] from by simp,h1];rfl
      unfold Oper.wp
      rw [hex]
      exact hn _ _ ⟨μ',h2.put o.dst h3⟩
     ·split at h
      ·rename_i st1 v ans1 C1 happ
       simp only [Option.some.injEq,Prod.mk.injEq] at h
       obtain ⟨rfl,rfl,rfl⟩:=h
       have hta:c.argTypes=#[ts,tx]:=by cases hq:c.argTypes;rw [hq] at hts;simp at hts;rw [hts]
       have hxa:c.args=#[s,x]:=by cases hq:c.args;rw [hq] at hxs;simp at hxs;rw [hxs]
       obtain ⟨u,w',h1,μ',h2,h3⟩:=X6I (P:=P) (ty:=o.type) hE.T hr hE.np (hr.opd s) (hr.opd x) happ hC
       have hex:(execOp a.eval o).run P w = .ok (.value u) w':=by
        simp only [execOp,ho,Sem.run_bind,resolve,hb,hta,hxa,Sem.run_pure,Result.andThen_ok,invoke,builtin]
        rw [show (#[s,x].map a.eval)=#[a.eval s,a.eval x] from by simp,h1];rfl
       unfold Oper.wp
       rw [hex]
       exact hn _ _ ⟨μ',h2.put o.dst h3⟩
      ·split at h
       ·rename_i st1 v ans1 C1 happ
        simp only [Option.some.injEq,Prod.mk.injEq] at h
        obtain ⟨rfl,rfl,rfl⟩:=h
        have hta:c.argTypes=#[ts,tx]:=by cases hq:c.argTypes;rw [hq] at hts;simp at hts;rw [hts]
        have hxa:c.args=#[s,x]:=by cases hq:c.args;rw [hq] at hxs;simp at hxs;rw [hxs]
        obtain ⟨u,w',h1,μ',h2,h3⟩:=X6O (P:=P) (ty:=o.type) hE.T hr hE.np happ hC
        have hex:(execOp a.eval o).run P w = .ok (.value u) w':=by
         simp only [execOp,ho,Sem.run_bind,resolve,hb,hta,hxa,Sem.run_pure,Result.andThen_ok,invoke,builtin]
         rw [show (#[s,x].map a.eval)=#[a.eval s,a.eval x] from by simp,h1];rfl
        unfold Oper.wp
        rw [hex]
        exact hn _ _ ⟨μ',h2.put o.dst h3⟩
       ·split at h
        ·rename_i st1 v ans1 C1 happ
         simp only [Option.some.injEq,Prod.mk.injEq] at h
         obtain ⟨rfl,rfl,rfl⟩:=h
         have hta:c.argTypes=#[ts,tx]:=by cases hq:c.argTypes;rw [hq] at hts;simp at hts;rw [hts]
         have hxa:c.args=#[s,x]:=by cases hq:c.args;rw [hq] at hxs;simp at hxs;rw [hxs]
         obtain ⟨u,w',h1,μ',h2,h3⟩:=X6V (P:=P) (ty:=o.type) hE.T hr (hr.opd s) (hr.opd x) happ hC
         have hex:(execOp a.eval o).run P w = .ok (.value u) w':=by
          simp only [execOp,ho,Sem.run_bind,resolve,hb,hta,hxa,Sem.run_pure,Result.andThen_ok,invoke,builtin]
          rw [show (#[s,x].map a.eval)=#[a.eval s,a.eval x] from by simp,h1];rfl
         unfold Oper.wp
         rw [hex]
         exact hn _ _ ⟨μ',h2.put o.dst h3⟩
        ·cases h
   ·cases h
  ·rename_i f r rows' ans1 hb
   obtain ⟨μ,hr⟩:=hr
   split at h
   ·rename_i g cap hg
    split at h
    ·simp only [Option.some.injEq,Prod.mk.injEq] at h
     obtain ⟨rfl,rfl,rfl⟩:=h
     obtain ⟨hcs,_⟩:=hC
     have hfv:=hr.opd f
     rw [hg] at hfv
     generalize hfe:a.eval f=fv at hfv
     cases hfv with
     | fn _ _ vs hs hh =>
     have hex:(execOp a.eval o).run P w = .ok (.enter g (c.args.map a.eval ++ vs)) w:=by
      simp only [execOp,ho,Sem.run_bind,resolve,hb,hfe,Deferred.ofValue,Sem.run_pure,Result.andThen_ok,invoke]
      simp [X2k hcs.1]
     unfold Oper.wp
     rw [hex]
     refine (hcs.2 w0 μ w _ hr.mem (X5y (X6y (fun x=>hr.opd x) c.args) ⟨hs,hh⟩)).mono fun e w' ⟨v,μ',he,hsub,h1,h2⟩ => ?_
     subst he
     exact hn _ _ ⟨μ',RelM.put (st:={ st with rows:=rows' }) ⟨hr.defers,hr.size,fun t v e=>(hr.tmps t v e).mono hsub,h1⟩ o.dst h2⟩
    ·cases h
   ·cases h
  ·exact pure _ h
 ·rename_i t x ho
  split at h
  ·rename_i r hr'
   rw [← ho] at hr'
   split at h
   ·split at h
    ·rename_i st1 C1 hl
     simp only [Option.some.injEq,Prod.mk.injEq] at h
     obtain ⟨rfl,rfl,rfl⟩:=h
     obtain ⟨hC1,hC2⟩:=All.append.1 hC
     exact X1L hE hr' hC1 hr fun a' w' hr2=>hn a' w' (X7N hE.np hl hC2 hr2)
    ·cases h
   ·simp only [Option.some.injEq,Prod.mk.injEq] at h
    obtain ⟨rfl,rfl,rfl⟩:=h
    exact X1L hE hr' hC hr hn
  ·cases h
 ·rename_i e n parts ho
  split at h
  ·rename_i r hr'
   rw [← ho] at hr'
   split at h
   ·split at h
    ·rename_i st1 hl
     simp only [Option.some.injEq,Prod.mk.injEq] at h
     obtain ⟨rfl,rfl,rfl⟩:=h
     exact X1L hE hr' hC hr fun a' w' hr2=>hn a' w' (X60 hE.np hl hr2)
    ·cases h
   ·simp only [Option.some.injEq,Prod.mk.injEq] at h
    obtain ⟨rfl,rfl,rfl⟩:=h
    exact X1L hE hr' hC hr hn
  ·cases h
 ·split at h
  ·rename_i r hr'
   simp only [Option.some.injEq,Prod.mk.injEq] at h
   obtain ⟨rfl,rfl,rfl⟩:=h
   exact X1L hE hr' hC hr hn
  ·split at h
   ·rename_i st1 v ans1 C1 hm
    simp only [Option.some.injEq,Prod.mk.injEq] at h
    obtain ⟨rfl,rfl,rfl⟩:=h
    obtain ⟨μ,hr⟩:=hr
    rcases X7P hE.T hr hE.np hm hC with ⟨u,w',μ',c,rfl,hex,h2,h3⟩ | ⟨w',μ',rfl,hex,h2⟩
    ·unfold Oper.wp
     rw [hex]
     exact hn _ _ ⟨μ',h2.put o.dst h3⟩
    ·unfold Oper.wp
     rw [hex]
     exact hn _ _ ⟨μ',h2.put o.dst (.any _)⟩
   ·split at h
    ·rename_i st1 v C1 hm
     simp only [Option.some.injEq,Prod.mk.injEq] at h
     obtain ⟨rfl,rfl,rfl⟩:=h
     obtain ⟨μ,hr⟩:=hr
     rcases X6R hE.T hr hE.np hm hC with ⟨u,w',μ',c,rfl,hex,h2,h3⟩ | ⟨w',μ',rfl,hex,h2⟩
     ·unfold Oper.wp
      rw [hex]
      exact hn _ _ ⟨μ',h2.put o.dst h3⟩
     ·unfold Oper.wp
      rw [hex]
      exact hn _ _ ⟨μ',h2.put o.dst (.any _)⟩
    ·cases h
theorem X3Q (hE:EOn P E w0) {ops:Array Oper} {st st':St} {a:Act} {w:World} {o:Oper} {ans ans':List Ans} {C:List Prop} (h:evo P E ops.toList st o ans=some (st',ans',C)) (hC:All C) (hr:Rel w0 st a w)
  {next:Act→World→Prop} {Q:Exit→Act→World→Prop} (hn:∀ a' w',Rel w0 st' a' w'→next a' w') :
  if Region.wanted o (yielded ops a.tmps) then o.wp P a w next Q∨(o.asks P a w∧LetsOut Q) else next (a.put o.dst undef) w:=by
 unfold evo at h
 cases hg:o.guard with
 | none =>
  rw [hg] at h
  rw [if_pos (by simp [Region.wanted,hg])]
  exact .inl (X3P hE h hC hr hn)
 | some jw =>
  obtain ⟨j,want⟩:=jw
  rw [hg] at h;simp only at h
  have hund:∀ d,st.tm[d]? = some (.tup [])→(ops.toList[j]?).bind (·.dst)=some d→yielded ops a.tmps j=none:=by
   intro d hx hd
   obtain ⟨μ,hr⟩:=hr
   have hrep:=hr.tmps d _ hx
   have hlt:d < a.tmps.size:=by
    rw [hr.size]
    rcases Nat.lt_or_ge d st.tm.length with h | h
    ·exact h
    ·rw [List.getElem?_eq_none h] at hx;cases hx
   rw [Array.getD_eq_getD_getElem?,Array.getElem?_eq_getElem hlt] at hrep
   simp only [Option.getD_some] at hrep
   unfold yielded
   rw [← Array.getElem?_toList,hd]
   simp only [Option.bind_some,Array.getElem?_eq_getElem hlt]
   generalize a.tmps[d]=q at hrep
   cases hrep;rfl
  split at h
  ·rename_i d hd
   split at h
   ·rename_i ans0 hx
    simp only [Option.some.injEq,Prod.mk.injEq] at h
    obtain ⟨rfl,rfl,rfl⟩:=h
    rw [if_neg (by simp [Region.wanted,hg,hund d hx hd])]
    obtain ⟨μ,hr⟩:=hr
    exact hn _ _ ⟨μ,hr.put o.dst X2T⟩
   ·rename_i x v ans1 hx
    have hy:yielded ops a.tmps j=some x:=by
     obtain ⟨μ,hr⟩:=hr
     have hrep:=hr.tmps d _ hx
     have hlt:d < a.tmps.size:=by
      rw [hr.size]
      rcases Nat.lt_or_ge d st.tm.length with h | h
      ·exact h
      ·rw [List.getElem?_eq_none h] at hx;cases hx
     rw [Array.getD_eq_getD_getElem?,Array.getElem?_eq_getElem hlt] at hrep
     simp only [Option.getD_some] at hrep
     unfold yielded
     rw [← Array.getElem?_toList,hd]
     simp only [Option.bind_some,Array.getElem?_eq_getElem hlt]
     generalize a.tmps[d]=q at hrep
     cases hrep;rfl
    split at h
    ·rename_i hvw
     simp only [beq_iff_eq] at hvw
     cases hev:evs P E st o ans1 with
     | none=>rw [hev] at h;simp [addC] at h
     | some q =>
      obtain ⟨st1,ans2,C1⟩:=q
      rw [hev] at h
      simp only [addC,Option.some.injEq,Prod.mk.injEq] at h
      obtain ⟨rfl,rfl,rfl⟩:=h
      rw [if_pos (by simp [Region.wanted,hg,hy,hC.1,hvw])]
      exact .inl (X3P hE hev hC.2 hr hn)
    ·rename_i hvw
     simp only [beq_eq_false_iff_ne] at hvw
     simp only [Option.some.injEq,Prod.mk.injEq] at h
     obtain ⟨rfl,rfl,rfl⟩:=h
     rw [if_neg (by simp [Region.wanted,hg,hy,hC.1,hvw])]
     obtain ⟨μ,hr⟩:=hr
     exact hn _ _ ⟨μ,hr.put o.dst X2T⟩
   ·cases h
  ·cases h
theorem X6W (hE:EOn P E w0) {ops:Array Oper} {Q:Exit→Act→World→Prop}:∀ (l:List Oper) {st st':St} {a:Act} {w:World} {ans ans':List Ans} {C:List Prop},X17 P E ops.toList l st ans=some (st',ans',C)→All C→Rel w0 st a w →
  (∀ a' w',Rel w0 st' a' w'→Q .normal a' w')→wpList P ops Q l a w:=by
 intro l
 induction l with
 | nil =>
  intro st st' a w ans ans' C h hC hr hn
  simp only [X17,Option.some.injEq,Prod.mk.injEq] at h
  obtain ⟨rfl,rfl,rfl⟩:=h
  exact hn a w hr
 | cons o rest ih =>
  intro st st' a w ans ans' C h hC hr hn
  simp only [X17] at h
  split at h
  ·rename_i st1 ans1 C1 h1
   split at h
   ·rename_i st2 ans2 C2 h2
    simp only [Option.some.injEq,Prod.mk.injEq] at h
    obtain ⟨rfl,rfl,rfl⟩:=h
    rw [All.append] at hC
    unfold wpList
    exact X3Q hE h1 hC.1 hr fun a' w' hr'=>ih h2 hC.2 hr' hn
   ·cases h
  ·cases h
end
/- forgetting -/
def flatLt (n:Nat):AV→Bool
 | .b _ | .i _ _ | .f _ _ | .any | .nils | .sl _ | .ref _ _=>true
 | .own r | .inn r _ | .ipt r _ _ | .ptr r _ _ | .mp r=>Nat.blt r n
 | _=>false
def X3R (n:Nat):AV→Bool
 | .agg cs=>cs.all (flatLt n)
 | v=>flatLt n v
def X4R (n:Nat):AV→Bool
 | .tup vs=>vs.all (X3R n)
 | .fn _ cap=>cap.all (flatLt n)
 | v=>X3R n v
def clip (n:Nat) (v:AV):AV :=
 match X4R n v with
 | true=>v
 | false => .any
def X1M (n:Nat):Row→Row
 | .box t cs => .box t (cs.map (clip n))
 | .lits t cs => .lits t (cs.map (clip n))
 | .vec t es l _ => .vec t es l false
 | .nest t ll _ => .nest t ll false
 | r=>r
theorem X3v {H:Array Obj} {μ μ':Nat→Option FP} {n:Nat} (hs:∀ r,r < n→μ' r=μ r) {c:AV} {v:Value} (hn:flatLt n c=true) (h:Rep H μ c v):Rep H μ' c v:=by
 cases h with
 | any v=>exact .any v
 | b x=>exact .b x
 | i k n=>exact .i k n
 | f k x bits h e=>exact .f k x bits h e
 | nils=>exact .nils
 | slE a c=>exact .slE a c
 | sl l es bl off c val h h1 h2 hc=>exact .sl l es bl off c val h h1 h2 hc
 | ref cs off bl base val h h2=>exact .ref cs off bl base val h h2
 | own r p h=>simp only [flatLt,Nat.blt_eq] at hn;exact .own r p (by rw [hs r hn];exact h)
 | inn r j p ib h hb=>simp only [flatLt,Nat.blt_eq] at hn;exact .inn r j p ib (by rw [hs r hn];exact h) hb
 | ipt r j k p b n' c h hb=>simp only [flatLt,Nat.blt_eq] at hn;exact .ipt r j k p b n' c (by rw [hs r hn];exact h) hb
 | ptr r idx off p h=>simp only [flatLt,Nat.blt_eq] at hn;exact .ptr r idx off p (by rw [hs r hn];exact h)
 | mp r p h hz=>simp only [flatLt,Nat.blt_eq] at hn;exact .mp r p (by rw [hs r hn];exact h) hz
 | bx=>simp [flatLt] at hn
 | agg=>simp [flatLt] at hn
 | tup=>simp [flatLt] at hn
 | fn=>simp [flatLt] at hn
theorem X4S {H:Array Obj} {μ μ':Nat→Option FP} {n:Nat} (hs:∀ r,r < n→μ' r=μ r) {c:AV} {v:Value} (hn:X3R n c=true) (h:Rep H μ c v):Rep H μ' c v:=by
 cases c with
 | agg cs =>
  cases h with | agg _ vs hz hh =>
  simp only [X3R,List.all_eq_true] at hn
  exact .agg cs vs hz fun j c e=>X3v hs (hn c (List.mem_of_getElem? e)) (hh j c e)
 | _=>exact X3v hs (by simpa only [X3R] using hn) h
theorem X4u {H:Array Obj} {μ μ':Nat→Option FP} {n:Nat} (hs:∀ r,r < n→μ' r=μ r) {c:AV} {v:Value} (h:Rep H μ c v):Rep H μ' (clip n c) v:=by
 unfold clip
 split
 ·rename_i hn
  cases c with
  | tup cs =>
   cases h with | tup _ vs hz hh =>
   simp only [X4R,List.all_eq_true] at hn
   exact .tup cs vs hz fun j c e=>X4S hs (hn c (List.mem_of_getElem? e)) (hh j c e)
  | fn g cap =>
   cases h with | fn _ _ vs hz hh =>
   simp only [X4R,List.all_eq_true] at hn
   exact .fn g cap vs hz fun j c e=>X3v hs (hn c (List.mem_of_getElem? e)) (hh j c e)
  | _=>exact X4S hs (by simpa only [X4R] using hn) h
 ·exact .any v
def X13:List Bool→List AV→List AV
 | true :: m,v :: l=>v :: X13 m l
 | false :: m,_ :: l => .any :: X13 m l
 | [],l=>l.map fun _ => .any
 | _,[] => []
theorem X1V:∀ (m:List Bool) (l:List AV),(X13 m l).length=l.length
 | [],l=>by simp [X13]
 | true :: m,[]=>rfl
 | false :: m,[]=>rfl
 | true :: m,v :: l=>by simp [X13,X1V m l]
 | false :: m,v :: l=>by simp [X13,X1V m l]
theorem X2U:∀ (m:List Bool) (l:List AV) (t:Nat) (v:AV),(X13 m l)[t]? = some v→v = .any∨l[t]? = some v
 | [],l,t,v,h=>by simp [X13] at h;exact .inl h.2.symm
 | true :: m,[],t,v,h=>by simp [X13] at h
 | false :: m,[],t,v,h=>by simp [X13] at h
 | true :: m,u :: l,0,v,h=>by simp [X13] at h;exact .inr (by simp [h])
 | false :: m,u :: l,0,v,h=>by simp [X13] at h;exact .inl h.symm
 | true :: m,u :: l,t + 1,v,h=>by simp [X13] at h;simpa using X2U m l t v h
 | false :: m,u :: l,t + 1,v,h=>by simp [X13] at h;simpa using X2U m l t v h
def X4T (mask:List Bool) (n:Nat) (st:St):St:=⟨(X13 mask st.tm).map (clip n),(st.rows.take n).map (X1M n)⟩
theorem X8l {H:Array Obj} {μ μ':Nat→Option FP} {n:Nat} (hs:∀ r,r < n→μ' r=μ r) {heap:Array Obj} {p:Option FP} {row:Row} (h:X4 H μ heap p row):X4 H μ' heap p (X1M n row):=by
 cases row with
 | box t cs =>
  cases p with
  | none=>exact h.elim
  | some p =>
   obtain ⟨ez,e1,e2,arr,e3,e4,e5⟩:=h
   refine ⟨ez,by simpa [X1M] using e1,e2,arr,e3,by simpa [X1M] using e4,fun j c e => ?_⟩
   rw [List.getElem?_map,Option.map_eq_some_iff] at e
   obtain ⟨c0,e0,rfl⟩:=e
   exact X4u hs (e5 j c0 e0)
 | lits t cs =>
  cases p with
  | none=>exact h.elim
  | some p =>
   obtain ⟨ez,e1,e2,e2',e2'',arr,e3,e4,e5⟩:=h
   refine ⟨ez,e1,e2,by simpa [X1M] using e2',by simpa [X1M] using e2'',arr,e3,by simpa [X1M] using e4,fun j c e => ?_⟩
   rw [List.getElem?_map,Option.map_eq_some_iff] at e
   obtain ⟨c0,e0,rfl⟩:=e
   exact X4u hs (e5 j c0 e0)
 | vec t es l full =>
  cases p with
  | none=>exact h.elim
  | some p =>
   rcases h with ⟨h1,h2,_⟩ | ⟨ez,e1,e2,e3,e4,_,e6⟩
   ·exact .inl ⟨h1,h2,rfl⟩
   ·exact .inr ⟨ez,e1,e2,e3,e4,(fun h=>by cases h),e6⟩
 | nest t ll full =>
  cases p with
  | none=>exact h.elim
  | some p =>
   rcases h with h | ⟨ez,e1,e2,e3,_,e6⟩
   ·exact .inl h
   ·exact .inr ⟨ez,e1,e2,e3,(fun h=>by cases h),e6⟩
 | mapN=>cases p<;>exact h
 | mapS=>cases p<;>exact h
 | nestD=>cases p<;>exact h
 | vecU=>cases p<;>exact h
 | dead=>cases p<;>exact h
theorem Rel.forget {w0:Old0} {st:St} {a:Act} {w:World} (h:Rel w0 st a w) (mask:List Bool) (n:Nat) (hn:w0.np≤n):Rel w0 (X4T mask n st) a w:=by
 obtain ⟨μ,h⟩:=h
 let μ':Nat→Option FP:=fun r=>if r < n then μ r else none
 have hs:∀ r,r < n→μ' r=μ r:=fun r hr=>if_pos hr
 have hsub:∀ r p,μ' r=some p→μ r=some p:=fun r p e=>by
  by_cases hr:r < n
  ·rw [← hs r hr];exact e
  ·have:μ' r=none:=if_neg hr
   rw [this] at e;cases e
 refine ⟨μ',h.defers,by simp [Ab.X4T,X1V,h.size],fun t v e => ?_,⟨⟨h.mem.bel,fun r row e => ?_,fun r r' p p' b e e'=>h.mem.sep r r' p p' b (hsub r p e) (hsub r' p' e'),fun r p e=>h.mem.nodup r p (hsub r p e),fun r p b e=>h.mem.own r p b (hsub r p e)⟩,fun r hr => ?_,fun r e => ?_,fun r p e => ?_⟩⟩
 ·simp only [Ab.X4T,List.getElem?_map,Option.map_eq_some_iff] at e
  obtain ⟨v0,e0,rfl⟩:=e
  rcases X2U _ _ _ _ e0 with rfl | e1
  ·exact .any _
  ·exact X4u hs (h.tmps t v0 e1)
 ·simp only [Ab.X4T,List.getElem?_map,Option.map_eq_some_iff] at e
  obtain ⟨row0,e0,rfl⟩:=e
  rw [List.getElem?_take] at e0
  split at e0
  ·rename_i hr
   rw [hs r hr]
   exact X8l hs (h.mem.row r row0 e0)
  ·cases e0
 ·by_cases hr':r < n
  ·rw [hs r hr']
   simp only [Ab.X4T,List.length_map,List.length_take] at hr
   exact h.mem.out r (by omega)
  ·exact if_neg hr'
 ·simp only [Ab.X4T,List.getElem?_map,Option.map_eq_some_iff] at e
  obtain ⟨row0,e0,h0⟩:=e
  rw [List.getElem?_take] at e0
  split at e0
  ·rename_i hr
   rw [hs r hr]
   cases row0<;>simp [X1M] at h0
   exact h.mem.dead r e0
  ·cases e0
 ·have:=w0.pinLt r p e
  rw [hs r (by omega)]
  exact h.mem.pin r p e
/- code -/
def exOf:Ex→Exit
 | .norm => .normal
 | .exit id => .exit id
 | .ret => .ret
def Ev (P:Program) (N:Nat) (c:Code) (st:St) (e:Ex) (st':St):Prop :=
 ∀ (w0:Old0),w0.np≤N→∀ (a:Act) (w:World) (Q:Exit→Act→World→Prop),Rel w0 st a w→(∀ a' w',Rel w0 st' a' w'→Q (exOf e) a' w')→c.wp P Q a w
def Lp (P:Program) (N:Nat) (body:Code) (st:St) (e:Ex) (st':St):Prop :=
 ∃ n,∀ (w0:Old0),w0.np≤N→∀ (a:Act) (w:World) (Q:Exit→Act→World→Prop),Rel w0 st a w→(∀ a' w',Rel w0 st' a' w'→Q (exOf e) a' w')→Code.rounds P body Q n a w
theorem Lp.next {P:Program} {N:Nat} {body:Code} {st st1 st':St} {e:Ex} {mask:List Bool} {n:Nat} (h:Ev P N body st .norm st1) (hn:N≤n) (k:Lp P N body (X4T mask n st1) e st'):Lp P N body st e st':=by
 obtain ⟨m,k⟩:=k
 refine ⟨m + 1,fun w0 hp a w Q hr hQ => ?_⟩
 rw [rounds_succ]
 exact h w0 hp a w _ hr fun a' w' hr'=>k w0 hp a' w' Q (hr'.forget mask n (Nat.le_trans hp hn)) hQ
theorem Lp.out {P:Program} {N:Nat} {body:Code} {st st1:St} {e:Ex} {mask:List Bool} {n:Nat} (h:Ev P N body st e st1) (hn:N≤n) (he:e ≠ .norm):Lp P N body st e (X4T mask n st1):=by
 refine ⟨1,fun w0 hp a w Q hr hQ => ?_⟩
 rw [rounds_succ]
 refine h w0 hp a w _ hr fun a' w' hr' => ?_
 have:=hQ a' w' (hr'.forget mask n (Nat.le_trans hp hn))
 cases e with
 | norm=>exact absurd rfl he
 | exit id=>exact this
 | ret=>exact this
end Go.Ab
