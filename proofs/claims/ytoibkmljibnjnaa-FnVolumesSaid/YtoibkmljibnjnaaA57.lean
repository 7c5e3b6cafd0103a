/- A call that is told with all the rows of its caller: variables may hold old slices. -/
import Derived.Test.YtoibkmljibnjnaaA22
set_option linter.unusedVariables false
set_option linter.unusedSimpArgs false
namespace Go.Ab
open Go.RowKit
def X8J (P:Program) (E:Env) (fn:Func) (c:Code) (rows:List Row) (args:List AV) (ans:List Ans) (ps:List (NPos × Row)):Option (AV × List Row × List Prop) :=
 match Nat.beq rows.length E.np with
 | false=>none
 | true=>match evc P E c ⟨args ++ List.replicate (fn.ntmps - args.length) .any,rows⟩ ans with
  | some (.exit _,_,_,_)=>none
  | some (_,st0,ans',C)=>match X1D ps st0 with
   | none=>none
   | some st=>match X4b E.T st fn.results.toList,ans' with
   | some r,[.keep ks]=>match X11 st.rows (Xc 0 rows.length ++ ks) with
    | some rs=>match XW (Xc 0 rows.length ++ ks) with
     | true=>some (rn (Xc 0 rows.length ++ ks) r,rs.map (X1i (Xc 0 rows.length ++ ks)),C)
     | false=>none
    | none=>none
   | _,_=>none
  | none=>none
theorem X65 {P:Program} {E:Env} (hE:EOk P E) (hm:P.follows .mixedOrders=true) {f:FuncId} {fn:Func} {c:Code} {rows rows':List Row} {args:List AV} {ans:List Ans} {ps:List (NPos × Row)} {r:AV} {C:List Prop}
  (hf : P.funcs[f]? = some fn) (hb : fn.body = some c) (hn : (fn.name == "runtime.NumGoroutine") = false) (h : X8J P E fn c rows args ans ps = some (r, rows', C)) (hC : All C) : Xz P f rows args r rows' := by
 refine ⟨⟨fn,hf,by rw [hb];rfl,hn⟩,fun w0 μ0 w vs hmem hp => ?_⟩
 unfold X8J at h
 split at h
 ·cases h
 rename_i hnp
 rw [Nat.beq_eq] at hnp
 have hlt:∀ q p,μ0 q=some p→q < rows.length:=fun q p e=>by
  rcases Nat.lt_or_ge q rows.length with h | h
  ·exact h
  ·rw [hmem.out q h] at e;cases e
 let w1:Old0:={ w0 with pin:=μ0,np:=rows.length,pinLt:=hlt }
 have fin:∀ (e:Ex) (st0 st:St) (ans':List Ans) (C':List Prop),(∀ id,e ≠ .exit id)→evc P E c ⟨args ++ List.replicate (fn.ntmps - args.length) .any,rows⟩ ans=some (e,st0,ans',C')→X1D ps st0=some st →
   (match X4b E.T st fn.results.toList,ans' with
   | some r,[.keep ks]=>match X11 st.rows (Xc 0 rows.length ++ ks) with
    | some rs=>match XW (Xc 0 rows.length ++ ks) with
     | true=>some (rn (Xc 0 rows.length ++ ks) r,rs.map (X1i (Xc 0 rows.length ++ ks)),C')
     | false=>none
    | none=>none
   | _,_=>none)=some (r,rows',C)→Calls P f vs w fun e w' => ∃ v μ',e = .returned v∧Sub μ0 μ'∧Mem w0 μ' rows' w'∧Rep w0.heap μ' r v:=by
  intro e st0 st ans' C' hex hev hps h
  split at h
  ·rename_i r0 ks1 hres
   generalize hks:Xc 0 rows.length ++ ks1=ks at h
   split at h
   ·rename_i rs hpick
    split at h
    ·rename_i hok
     simp only [Option.some.injEq,Prod.mk.injEq] at h
     obtain ⟨rfl,rfl,rfl⟩:=h
     obtain ⟨hpl,hpg⟩:=X1r hpick
     have hnd:=XM hok
     have hEv:=X38 hE hm c hev hC
     have hkn:∀ i,i < rows.length→ks[i]? = some i:=fun i hi=>by
      rw [← hks,List.getElem?_append_left (by rw [X1J];exact hi),X2C _ _ _ hi,Nat.zero_add]
     refine calls_of_wp hf hb (hEv w1 (Nat.le_of_eq hnp) _ w _ ⟨μ0,rfl,?_,?_,⟨⟨⟨hmem.bel.os,hmem.bel.tape,hmem.bel.output,hmem.bel.size,hmem.bel.block,hmem.bel.drawn⟩,hmem.row,hmem.sep,hmem.nodup,hmem.own⟩,hmem.out,hmem.dead,Sub.refl _⟩⟩ fun a' w' hr' => ?_)
     ·simp [hp.1]
     ·intro t v e
      simp only at e ⊢
      rw [Array.getD_eq_getD_getElem?]
      by_cases ht:t < args.length
      ·rw [List.getElem?_append_left ht] at e
       rw [Array.getElem?_append_left (by rw [hp.1];exact ht),← Array.getD_eq_getD_getElem?]
       exact hp.2 t v e
      ·rw [List.getElem?_append_right (by omega),List.getElem?_replicate] at e
       split at e
       ·cases e;exact .any _
       ·cases e
     ·obtain ⟨μ,hr'⟩:=X16 hps hr'
      obtain ⟨x,hx1,hx2⟩:=X4n hE.T hr' hres
      let μ':Nat→Option FP:=fun i=>(ks[i]?).bind μ
      have hμ:∀ i k,ks[i]? = some k→μ' i=μ k:=fun i k e=>by show (ks[i]?).bind μ=μ k;rw [e];rfl
      have hμ0:∀ i p,μ' i=some p→∃ k,ks[i]? = some k∧μ k=some p:=by
       intro i p e
       cases hk:ks[i]? with
       | none =>
        have e2:(ks[i]?).bind μ=some p:=e
        rw [hk] at e2;cases e2
       | some k=>exact ⟨k,rfl,by rw [← hμ i k hk];exact e⟩
      have hsub:Sub μ0 μ':=fun q p e=>by
       have hq:q < rows.length:=w1.pinLt q p e
       rw [hμ q q (hkn q hq)]
       exact hr'.mem.pin q p e
      have hbel:=hr'.mem.bel
      have hpost:a'.defers=[]∧∃ v,(results fn a'.tmps).run P w' = .ok v w'∧∃ v' μ',Ending.returned v = .returned v'∧Sub μ0 μ'∧Mem w0 μ' (rs.map (X1i ks)) w'∧Rep w0.heap μ' (rn ks r0) v':=by
       refine ⟨hr'.defers,x,hx1,x,μ',rfl,hsub,⟨⟨⟨hbel.os,hbel.tape,hbel.output,hbel.size,hbel.block,hbel.drawn⟩,fun i row hi => ?_,fun i j p p' b h5 h6 h7 h8 => ?_,fun i p h3 => ?_,fun i p b h3 h4 => ?_⟩,fun i hi => ?_,fun i hi => ?_,hmem.pin.trans hsub⟩,X51 hμ hx2⟩
       ·rw [List.getElem?_map,Option.map_eq_some_iff] at hi
        obtain ⟨row0,hi0,rfl⟩:=hi
        have hil:i < ks.length:=by
         rw [← hpl]
         rcases Nat.lt_or_ge i rs.length with h | h
         ·exact h
         ·rw [List.getElem?_eq_none h] at hi0;cases hi0
        have hi1:=hi0
        rw [hpg i _ (List.getElem?_eq_getElem hil)] at hi1
        rw [hμ i _ (List.getElem?_eq_getElem hil)]
        exact X7f hμ (hr'.mem.row _ _ hi1)
       ·obtain ⟨k,g1,g2⟩:=hμ0 i p h5
        obtain ⟨k',g3,g4⟩:=hμ0 j p' h6
        have:=hr'.mem.sep k k' p p' b g2 g4 h7 h8
        subst this
        have hil:i < ks.length:=by
         rcases Nat.lt_or_ge i ks.length with h | h
         ·exact h
         ·rw [List.getElem?_eq_none h] at g1;cases g1
        have hjl:j < ks.length:=by
         rcases Nat.lt_or_ge j ks.length with h | h
         ·exact h
         ·rw [List.getElem?_eq_none h] at g3;cases g3
        rw [List.getElem?_eq_getElem hil] at g1
        rw [List.getElem?_eq_getElem hjl] at g3
        exact X3a hnd hil hjl ((Option.some.inj g1).trans (Option.some.inj g3).symm)
       ·obtain ⟨k,g1,g2⟩:=hμ0 i p h3
        exact hr'.mem.nodup k p g2
       ·obtain ⟨k,g1,g2⟩:=hμ0 i p h3
        exact hr'.mem.own k p b g2 h4
       ·show (ks[i]?).bind μ=none
        rw [List.length_map,hpl] at hi
        rw [List.getElem?_eq_none hi];rfl
       ·rw [List.getElem?_map,Option.map_eq_some_iff] at hi
        obtain ⟨row0,hi0,h0⟩:=hi
        have hd:row0 = .dead:=by cases row0<;>simp [X1i] at h0<;>rfl
        have hil:i < ks.length:=by
         rw [← hpl]
         rcases Nat.lt_or_ge i rs.length with h | h
         ·exact h
         ·rw [List.getElem?_eq_none h] at hi0;cases hi0
        rw [hpg i _ (List.getElem?_eq_getElem hil),hd] at hi0
        rw [hμ i _ (List.getElem?_eq_getElem hil)]
        exact hr'.mem.dead _ hi0
      cases e with
      | norm=>exact hpost
      | ret=>exact hpost
      | exit id=>exact absurd rfl (hex id)
    ·cases h
   ·cases h
  ·cases h
 split at h
 ·cases h
 ·rename_i e st0 ans' C' hne hev
  split at h
  ·cases h
  ·rename_i st hps
   exact fin e st0 st ans' C' (fun id he=>hne id he) hev hps h
 ·cases h
theorem X1c {P:Program} {E:Env} (hE:EOk P E) (hm:P.follows .mixedOrders=true) {f:FuncId} {fn:Func} {c:Code} (rows:List Row) {rows':List Row} {args:List AV} {ans:List Ans} (ps:List (NPos × Row)) (r:AV) (R:List Row) {C:List Prop}
  (hf : P.funcs[f]? = some fn) (s : Scr ans C) (hb : fn.body = some c) (hn : (fn.name == "runtime.NumGoroutine") = false) (h : X8J P E fn c rows args ans ps = some (r, R, C)) {r' : AV} (hr : r = r') (hR : R = rows') : Xz P f rows args r' rows' := by
 subst hr;subst hR;exact X65 hE hm hf hb hn h s
end Go.Ab

set_option linter.unusedVariables false
set_option linter.unusedSimpArgs false
namespace Go.Ab
def X1d:List (List Int):=[[0,2],[0,3],[0,4],[0,5],[1,2],[1,3],[1,4],[1,5],[2,4],[2,5],[3,4],[3,5]]
def okEb (n:Nat) (ts:List (List Int)):Bool:=decide (n≤64) && (decide (ts.length≤128) && ts.all fun t=>match t with
 | [a,b,c]=>decide ((0≤a∧a < (n:Int))∧(0≤b∧b < (n:Int))∧(0≤c∧c < (n:Int))∧a≠b∧b≠c∧a≠c)
 | _=>false)
theorem Xar {n:Nat} {ts:List (List Int)} (h:okEb n ts=true):OkE n ts:=by
 unfold okEb at h
 rw [Bool.and_eq_true,Bool.and_eq_true,decide_eq_true_iff,decide_eq_true_iff,List.all_eq_true] at h
 refine ⟨h.1,h.2.1,fun t ht => ?_⟩
 have q:=h.2.2 t ht
 split at q
 ·rename_i a b c
  exact ⟨a,b,c,rfl,of_decide_eq_true q⟩
 ·cases q
theorem X9P:OkE 6 ([[0,2,4],[2,1,4],[1,3,4],[3,0,4],[2,0,5],[1,2,5],[3,1,5],[0,3,5]]:List (List Int)):=Xar (by decide +kernel)
theorem X1Q {L:List (List Int)} (h:L=X1d) {x:Int} (h0:0≤x) (hx:x < (L.length:Int)):(L.getD x.toNat default).length=2∧(0≤(L.getD x.toNat default).getD 0 default∧(L.getD x.toNat default).getD 0 default < 6)∧(0≤(L.getD x.toNat default).getD 1 default∧(L.getD x.toNat default).getD 1 default < 6)∧L.length=12:=by
 subst h
 have hl:X1d.length=12:=rfl
 have key:∀ j,j < 12→(X1d.getD j default).length=2∧(0≤(X1d.getD j default).getD 0 default∧(X1d.getD j default).getD 0 default < 6)∧(0≤(X1d.getD j default).getD 1 default∧(X1d.getD j default).getD 1 default < 6):=by decide +kernel
 have:=key x.toNat (by omega)
 exact ⟨this.1,this.2.1,this.2.2,hl⟩
theorem X43 {L:List (List Int)} (h:L=X1d):∀ t∈L,t.length=2:=by subst h;decide
theorem X2Y {x:Int} (h0:0≤x) (hx:x < (([[0,2,4],[2,1,4],[1,3,4],[3,0,4],[2,0,5],[1,2,5],[3,1,5],[0,3,5]]:List (List Int)).length:Int)):(([[0,2,4],[2,1,4],[1,3,4],[3,0,4],[2,0,5],[1,2,5],[3,1,5],[0,3,5]]:List (List Int)).getD x.toNat default).length=3∧x < 8:=by
 have hl:([[0,2,4],[2,1,4],[1,3,4],[3,0,4],[2,0,5],[1,2,5],[3,1,5],[0,3,5]]:List (List Int)).length=8:=rfl
 have key:∀ j,j < 8→(([[0,2,4],[2,1,4],[1,3,4],[3,0,4],[2,0,5],[1,2,5],[3,1,5],[0,3,5]]:List (List Int)).getD j default).length=3:=by decide +kernel
 exact ⟨key x.toNat (by omega),by omega⟩
theorem XaS:∀ t∈([[0,2,4],[2,1,4],[1,3,4],[3,0,4],[2,0,5],[1,2,5],[3,1,5],[0,3,5]]:List (List Int)),t.length≤1073741824:=by decide
theorem X7y {L:List (List Int)} (h:L=X1d):L.length≤1073741824:=by subst h;decide
theorem X7z {L:List (List Int)} (h:L=X1d):∀ t∈L,t.length≤1073741824:=by subst h;decide
end Go.Ab
