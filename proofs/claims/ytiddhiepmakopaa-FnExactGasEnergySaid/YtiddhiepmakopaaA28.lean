/- Functions, by their code: rows handed in, nil slices told as rows. -/
import Derived.Test.YtiddhiepmakopaaA27
set_option linter.unusedVariables false
set_option linter.unusedSimpArgs false
namespace Go.Ab
open Go.RowKit
def X63 (P:Program) (E:Env) (fn:Func) (c:Code) (rows:List Row) (args:List AV) (ans:List Ans) (ps:List (NPos × Row)):Option (AV × List Row × List Prop) :=
 match Nat.beq rows.length E.np with
 | false=>none
 | true=>match evc P E c ⟨args ++ List.replicate (fn.ntmps - args.length) .any,rows⟩ ans with
  | some (.exit _,_,_,_)=>none
  | some (_,st0,ans',C)=>match X1H ps st0 with
   | none=>none
   | some st=>match X4s E.T st fn.results.toList,ans' with
   | some r,[.keep ks]=>match XZ st.rows (X8 0 rows.length ++ ks) with
    | some rs=>match XV (X8 0 rows.length ++ ks) && (rs.map (XM (X8 0 rows.length ++ ks))).all (XA (X8 0 rows.length ++ ks).length) && XH (X8 0 rows.length ++ ks).length (ren (X8 0 rows.length ++ ks) r) with
     | true=>some (ren (X8 0 rows.length ++ ks) r,rs.map (XM (X8 0 rows.length ++ ks)),C)
     | false=>none
    | none=>none
   | _,_=>none
  | none=>none
theorem X4m {P:Program} {E:Env} (hE:EOk P E) (hm:P.follows .mixedOrders=true) {f:FuncId} {fn:Func} {c:Code} {rows rows':List Row} {args:List AV} {ans:List Ans} {ps:List (NPos × Row)} {r:AV} {C:List Prop}
  (hf : P.funcs[f]? = some fn) (hb : fn.body = some c) (hn : (fn.name == "runtime.NumGoroutine") = false) (h : X63 P E fn c rows args ans ps = some (r, rows', C)) (hC : All C) : XW P f rows args r rows' := by
 refine ⟨⟨fn,hf,by rw [hb];rfl,hn⟩,fun w0 μ0 w vs hmem hp => ?_⟩
 unfold X63 at h
 split at h
 ·cases h
 rename_i hnp
 rw [Nat.beq_eq] at hnp
 have hlt:∀ q p,μ0 q=some p→q < rows.length:=fun q p e=>by
  rcases Nat.lt_or_ge q rows.length with h | h
  ·exact h
  ·rw [hmem.out q h] at e;cases e
 let w1:Old0:={ w0 with pin:=μ0,np:=rows.length,pinLt:=hlt }
 have fin:∀ (e:Ex) (st0 st:St) (ans':List Ans) (C':List Prop),(∀ id,e ≠ .exit id)→evc P E c ⟨args ++ List.replicate (fn.ntmps - args.length) .any,rows⟩ ans=some (e,st0,ans',C')→X1H ps st0=some st →
   (match X4s E.T st fn.results.toList,ans' with
   | some r,[.keep ks]=>match XZ st.rows (X8 0 rows.length ++ ks) with
    | some rs=>match XV (X8 0 rows.length ++ ks) && (rs.map (XM (X8 0 rows.length ++ ks))).all (XA (X8 0 rows.length ++ ks).length) && XH (X8 0 rows.length ++ ks).length (ren (X8 0 rows.length ++ ks) r) with
     | true=>some (ren (X8 0 rows.length ++ ks) r,rs.map (XM (X8 0 rows.length ++ ks)),C')
     | false=>none
    | none=>none
   | _,_=>none)=some (r,rows',C)→Calls P f vs w fun e w' => ∃ v μ',e = .returned v∧Sub μ0 μ'∧Mem w0 μ' rows' w'∧Rep w0.heap μ' r v:=by
  intro e st0 st ans' C' hex hev hps h
  split at h
  ·rename_i r0 ks1 hres
   generalize hks:X8 0 rows.length ++ ks1=ks at h
   split at h
   ·rename_i rs hpick
    split at h
    ·rename_i hok
     simp only [Bool.and_eq_true] at hok
     simp only [Option.some.injEq,Prod.mk.injEq] at h
     obtain ⟨rfl,rfl,rfl⟩:=h
     obtain ⟨hpl,hpg⟩:=X1u hpick
     have hnd:=XO hok.1.1
     have hokr:=hok.1.2
     rw [List.all_eq_true] at hokr
     have hEv:=X2S hE hm c hev hC
     have hkn:∀ i,i < rows.length→ks[i]? = some i:=fun i hi=>by
      rw [← hks,List.getElem?_append_left (by rw [X1J];exact hi),X2B _ _ _ hi,Nat.zero_add]
     refine calls_of_wp hf hb (hEv w1 (Nat.le_of_eq hnp) _ w _ ⟨μ0,rfl,?_,?_,⟨⟨⟨hmem.bel.os,hmem.bel.tape,hmem.bel.output,hmem.bel.size,hmem.bel.block,hmem.bel.drawn⟩,hmem.row,hmem.sep,hmem.nodup,hmem.own⟩,hmem.out,hmem.dead,Sub.refl _⟩⟩ fun a' w' hr' => ?_)
     ·simp [hp.1]
     ·intro t v e
      simp only at e ⊢
      rw [Array.getD_eq_getD_getElem?]
      by_cases ht:t < args.length
      ·rw [List.getElem?_append_left ht] at e
       rw [Array.getElem?_append_left (by rw [hp.1];exact ht),← Array.getD_eq_getD_getElem?]
       exact hp.2 t v e
      ·rw [List.getElem?_append_right (by omega),List.getElem?_replicate] at e
       split at e
       ·cases e;exact .any _
       ·cases e
     ·obtain ⟨μ,hr'⟩:=X10 hps hr'
      obtain ⟨x,hx1,hx2⟩:=X5t hE.T hr' hres
      let μ':Nat→Option FP:=fun i=>(ks[i]?).bind μ
      have hμ:∀ i k,ks[i]? = some k→μ' i=μ k:=fun i k e=>by show (ks[i]?).bind μ=μ k;rw [e];rfl
      have hμ0:∀ i p,μ' i=some p→∃ k,ks[i]? = some k∧μ k=some p:=by
       intro i p e
       cases hk:ks[i]? with
       | none =>
        have e2:(ks[i]?).bind μ=some p:=e
        rw [hk] at e2;cases e2
       | some k=>exact ⟨k,rfl,by rw [← hμ i k hk];exact e⟩
      have hsub:Sub μ0 μ':=fun q p e=>by
       have hq:q < rows.length:=w1.pinLt q p e
       rw [hμ q q (hkn q hq)]
       exact hr'.mem.pin q p e
      have hbel:=hr'.mem.bel
      have hpost:a'.defers=[]∧∃ v,(results fn a'.tmps).run P w' = .ok v w'∧∃ v' μ',Ending.returned v = .returned v'∧Sub μ0 μ'∧Mem w0 μ' (rs.map (XM ks)) w'∧Rep w0.heap μ' (ren ks r0) v':=by
       refine ⟨hr'.defers,x,hx1,x,μ',rfl,hsub,⟨⟨⟨hbel.os,hbel.tape,hbel.output,hbel.size,hbel.block,hbel.drawn⟩,fun i row hi => ?_,fun i j p p' b h5 h6 h7 h8 => ?_,fun i p h3 => ?_,fun i p b h3 h4 => ?_⟩,fun i hi => ?_,fun i hi => ?_,hmem.pin.trans hsub⟩,X7c hμ hok.2 hx2⟩
       ·rw [List.getElem?_map,Option.map_eq_some_iff] at hi
        obtain ⟨row0,hi0,rfl⟩:=hi
        have hil:i < ks.length:=by
         rw [← hpl]
         rcases Nat.lt_or_ge i rs.length with h | h
         ·exact h
         ·rw [List.getElem?_eq_none h] at hi0;cases hi0
        have hi1:=hi0
        rw [hpg i _ (List.getElem?_eq_getElem hil)] at hi1
        rw [hμ i _ (List.getElem?_eq_getElem hil)]
        exact X6o hμ (hokr _ (List.mem_map.2 ⟨row0,List.mem_of_getElem? hi0,rfl⟩)) (hr'.mem.row _ _ hi1)
       ·obtain ⟨k,g1,g2⟩:=hμ0 i p h5
        obtain ⟨k',g3,g4⟩:=hμ0 j p' h6
        have:=hr'.mem.sep k k' p p' b g2 g4 h7 h8
        subst this
        have hil:i < ks.length:=by
         rcases Nat.lt_or_ge i ks.length with h | h
         ·exact h
         ·rw [List.getElem?_eq_none h] at g1;cases g1
        have hjl:j < ks.length:=by
         rcases Nat.lt_or_ge j ks.length with h | h
         ·exact h
         ·rw [List.getElem?_eq_none h] at g3;cases g3
        rw [List.getElem?_eq_getElem hil] at g1
        rw [List.getElem?_eq_getElem hjl] at g3
        exact X2T hnd hil hjl ((Option.some.inj g1).trans (Option.some.inj g3).symm)
       ·obtain ⟨k,g1,g2⟩:=hμ0 i p h3
        exact hr'.mem.nodup k p g2
       ·obtain ⟨k,g1,g2⟩:=hμ0 i p h3
        exact hr'.mem.own k p b g2 h4
       ·show (ks[i]?).bind μ=none
        rw [List.length_map,hpl] at hi
        rw [List.getElem?_eq_none hi];rfl
       ·rw [List.getElem?_map,Option.map_eq_some_iff] at hi
        obtain ⟨row0,hi0,h0⟩:=hi
        have:=hokr _ (List.mem_map.2 ⟨row0,List.mem_of_getElem? hi0,rfl⟩)
        rw [h0] at this
        simp [XA] at this
      cases e with
      | norm=>exact hpost
      | ret=>exact hpost
      | exit id=>exact absurd rfl (hex id)
    ·cases h
   ·cases h
  ·cases h
 split at h
 ·cases h
 ·rename_i e st0 ans' C' hne hev
  split at h
  ·cases h
  ·rename_i st hps
   exact fin e st0 st ans' C' (fun id he=>hne id he) hev hps h
 ·cases h
theorem XW.fn {P:Program} {g:FuncId} {args:List AV} {r:AV} {new:List Row} (h:XW P g [] args r new) (hok:X1n new=true):Fn P g args r new:=by
 refine ⟨h.1,fun w vs hp => ?_⟩
 have hmem:Mem (Old0.of w) (fun _=>none) [] w :=
  ⟨⟨⟨rfl,rfl,rfl,Nat.le_refl _,fun _ _ _=>rfl,Nat.le_refl _⟩,(fun i row e=>by simp at e),(fun _ _ _ _ _ e=>by cases e),(fun _ _ e=>by cases e),(fun _ _ _ e=>by cases e)⟩,fun _ _=>rfl,(fun i e=>by simp at e),(fun _ _ e=>by cases e)⟩
 refine (h.2 (Old0.of w) _ w vs hmem hp).mono fun e w' ⟨v,μ',he,_,hm,hr⟩=>⟨v,μ',he,hm.bel.of,⟨fun i e => ?_,fun q hq => ?_,fun i row e => ?_,fun q q' p p' b _ _ _ _ e e' hb hb'=>hm.sep q q' p p' b e e' hb hb',fun q p _ _ e=>hm.nodup q p e,fun q p b _ _ e hb => ?_⟩,hr⟩
 ·simp only [X1n,List.all_eq_true] at hok
  exact absurd (hok _ (List.mem_of_getElem? e)) (by simp)
 ·exact hm.out q (by omega)
 ·rw [Nat.zero_add];exact hm.row i row e
 ·obtain ⟨g5,g6⟩:=hm.own q p b e hb
  exact ⟨g5.elim (fun h=>h.elim) fun h=>h,g6⟩
def subA:Option Nat→AV→AV
 | some n, .ref cs off => .ref ((cs.drop off).take n) 0
 | _,v=>v
def subL:List (Option Nat)→List AV→List AV
 | n :: ns,v :: vs=>subA n v :: subL ns vs
 | _,vs=>vs
theorem X6M {H:Array Obj} {μ:Nat→Option FP} {n:Option Nat} {v:AV} {x:Value} (h:Rep H μ v x):Rep H μ (subA n v) x:=by
 cases n with
 | none=>cases v<;>exact h
 | some n =>
  cases h with
  | ref cs off bl base val h1 h2 =>
   have:=Rep.ref (μ:=μ) ((cs.drop off).take n) 0 bl (base + off) (fun j=>val (off + j)) (fun j c e=>by
    rw [getElem?_part] at e
    split at e
    ·rw [Nat.add_assoc];exact h1 _ _ e
    ·cases e) (fun j c e=>by
    rw [getElem?_part] at e
    split at e
    ·exact h2 _ _ e
    ·cases e)
   exact this
  | _=>first | exact .any _ | exact .b _ | exact .i _ _ | exact .f _ _ _ ‹_› ‹_› | exact .agg _ _ ‹_› ‹_› | exact .tup _ _ ‹_› ‹_› | exact .nils | exact .slE _ _ | exact .sl _ _ _ _ _ _ ‹_› ‹_› ‹_› | exact .own _ _ ‹_› | exact .inn _ _ _ _ ‹_› ‹_› | exact .ipt _ _ _ _ _ _ _ ‹_› ‹_› | exact .ptr _ _ _ _ ‹_› | exact .mp _ _ ‹_› ‹_› | exact .bx _ _ _ ‹_› | exact .fn _ _ _ ‹_› ‹_›
theorem X5d:∀ {ns:List (Option Nat)} {vs:List AV},(subL ns vs).length=vs.length∧∀ (j:Nat) (c:AV),(subL ns vs)[j]? = some c→∃ n u,vs[j]? = some u∧c=subA n u
 | [],vs=>⟨by cases vs<;>rfl,fun j c e=>⟨none,c,by cases vs<;>exact e,by cases c<;>rfl⟩⟩
 | n :: ns,[]=>⟨rfl,fun j c e=>by simp [subL] at e⟩
 | n :: ns,v :: vs=>by
  obtain ⟨h1,h2⟩:=X5d (ns:=ns) (vs:=vs)
  refine ⟨by simp [subL,h1],fun j c e => ?_⟩
  cases j with
  | zero=>simp [subL] at e;exact ⟨n,v,rfl,e.symm⟩
  | succ j=>simp [subL] at e;simpa using h2 j c e
theorem X5A {H:Array Obj} {μ:Nat→Option FP} {ns:List (Option Nat)} {args:List AV} {vs:Array Value} (h:PW H μ args vs):PW H μ (subL ns args) vs:=by
 obtain ⟨h1,h2⟩:=X5d (ns:=ns) (vs:=args)
 refine ⟨by rw [h.1,h1],fun j c e => ?_⟩
 obtain ⟨n,u,e1,rfl⟩:=h2 j c e
 exact X6M (h.2 j u e1)
theorem Fn.sub {P:Program} {g:FuncId} {args:List AV} {r:AV} {new:List Row} (ns:List (Option Nat)) (h:Fn P g (subL ns args) r new):Fn P g args r new :=
 ⟨h.1,fun w vs hp=>h.2 w vs (X5A hp)⟩
theorem XW.sub {P:Program} {g:FuncId} {args:List AV} {r:AV} {R R':List Row} (ns:List (Option Nat)) (h:XW P g R (subL ns args) r R'):XW P g R args r R' :=
 ⟨h.1,fun w0 μ w vs hm hp=>h.2 w0 μ w vs hm (X5A hp)⟩
end Go.Ab
