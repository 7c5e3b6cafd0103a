/- The pure operations' evaluator, and that the machine does as it tells. -/
import Derived.Test.YtoibkmljibnjnaaA3
import Derived.Laws.Externs
set_option linter.unusedVariables false
set_option linter.unusedSimpArgs false
namespace Go.Ab
open Go.RowKit
def X1k (n:Nat):AV→Bool
 | .b _ | .i _ _ | .f _ _ | .nils=>true
 | .own r=>decide (r < n)
 | .mp r=>decide (r < n)
 | _=>false
def X1l (n:Nat):AV→Bool
 | .agg cs=>cs.all (X1k n)
 | v=>X1k n v
def X1a (n:Nat):AV→Bool
 | .tup vs=>vs.all (X1l n)
 | v=>X1l n v
def X4F (lo:Nat):AV→AV
 | .own r => .own (lo + r)
 | .mp r => .mp (lo + r)
 | v=>v
def X6l (lo:Nat):AV→AV
 | .agg cs => .agg (cs.map (X4F lo))
 | v=>X4F lo v
def X89 (lo:Nat):AV→AV
 | .tup vs => .tup (vs.map (X6l lo))
 | v=>X6l lo v
def X1T (rows:List Row):Bool:=rows.all fun | .vec .. | .nest .. | .mapN .. => true | _=>false
def X3d (P : Program) (g : FuncId) : Prop := ∃ fn, P.funcs[g]? = some fn ∧ fn.body.isNone = false ∧ (fn.name == "runtime.NumGoroutine") = false
def Fn (P:Program) (g:FuncId) (args:List AV) (r:AV) (new:List Row):Prop :=
 X3d P g∧∀ (w:World) (vs:Array Value),PW w.heap (fun _=>none) args vs →
  Calls P g vs w fun e w' => ∃ v μ',e = .returned v∧Bw w.heap.size w w'∧Grow w.heap (fun _=>none) μ' 0 new w.heap.size w'.heap∧Rep w.heap μ' r v
inductive XK where
 | sqrt | to64 | from64 | to32 | from32
def XK.sem:XK→Array Value→Sem Value
 | .sqrt=>Extern.MathSqrt.sqrt
 | .to64=>Extern.MathFloatBits.float64bits
 | .from64=>Extern.MathFloatBits.float64frombits
 | .to32=>Extern.MathFloatBits.float32bits
 | .from32=>Extern.MathFloatBits.float32frombits
structure XOk (P:Program) (g:FuncId) (x:XK):Prop where
 out : ∃ fn, P.funcs[g]? = some fn ∧ (fn.name == "runtime.NumGoroutine") = false ∧ fn.body.isNone = true ∧ Extern.findNext fn = none ∧ Extern.find fn = some x.sem
def resL (f:AV→Option AV):List AV→Option (List AV)
 | []=>some []
 | v :: vs=>match f v with
  | none=>none
  | some v'=>match resL f vs with
   | none=>none
   | some vs'=>some (v' :: vs')
def X8a:AV→Bool
 | .b _ | .i _ _ | .f _ _=>true
 | _=>false
theorem X8V {H H':Array Obj} {μ μ':Nat→Option FP} {c:AV} {v:Value} (h:Rep H μ c v) (hs:X8a c=true):Rep H' μ' c v:=by
 cases h<;>simp [X8a] at hs
 ·exact .b _
 ·exact .i _ _
 ·exact .f _ _ _ ‹_› ‹_›
def res (rows:List Row):Nat→AV→Option AV
 | 0,_=>none
 | n + 1,v=>match v with
  | .any=>some .any
  | .b x=>some (.b x)
  | .i k x=>some (.i k x)
  | .f k x=>some (.f k x)
  | .nils=>some (.sl [])
  | .sl l=>some (.sl l)
  | .ref cs off=>some (.ref cs off)
  | .own r=>match rows[r]? with
   | some (.vec _ _ l _)=>some (.sl l)
   | some (.nest _ ll _)=>some (.sl (ll.map fun l => [.sl l]))
   | _=>none
  | .ptr r 0 off=>match rows[r]? with
   | some (.box _ cs)=>(resL (res rows n) cs).map (.ref · off)
   | _=>none
  | .bx r m=>match rows[r]? with
   | some (.box _ cs)=>match Nat.beq cs.length m && cs.all X8a with
    | true=>some (.sl (cs.map fun c => [c]))
    | false=>none
   | _=>none
  | .inn r j=>match rows[r]? with
   | some (.nest _ ll _)=>some (.sl (ll.getD j []))
   | some (.mapN _ kv none)=>some (.sl ((kv.map (·.2)).getD j []))
   | _=>none
  | .agg cs=>(resL (res rows n) cs).map .agg
  | .fn g cap=>(resL (res rows n) cap).map (.fn g)
  | _=>none
theorem X1F {f:AV→Option AV}:∀ {l l':List AV},resL f l=some l'→l'.length=l.length∧∀ (j:Nat) (v':AV),l'[j]? = some v'→∃ v,l[j]? = some v∧f v=some v'
 | [],l',h=>by simp [resL] at h;subst h;simp
 | v :: vs,l',h=>by
  simp only [resL] at h
  cases hv:f v with
  | none=>rw [hv] at h;simp at h
  | some v1 =>
   rw [hv] at h
   cases hr:resL f vs with
   | none=>rw [hr] at h;simp at h
   | some vs1 =>
    rw [hr] at h;simp at h;subst h
    obtain ⟨h1,h2⟩:=X1F hr
    refine ⟨by simp [h1],fun j v' e => ?_⟩
    cases j with
    | zero=>simp at e;subst e;exact ⟨v,rfl,hv⟩
    | succ j=>simp at e;simpa using h2 j v' e
theorem X5w {w0:Old0} {w:World} {μ:Nat→Option FP} {rows:List Row} (hm:MemW w0 μ rows w):∀ (n:Nat) (av av':AV) (v:Value),res rows n av=some av'→Rep w0.heap μ av v→Rep w.heap (fun _=>none) av' v:=by
 intro n
 induction n with
 | zero=>intro av av' v h;simp [res] at h
 | succ n ih =>
  intro av av' v h hr
  have hold:Old w0.heap w.heap:=hm.bel.old
  have lists:∀ (cs cs':List AV) (vs:Array Value),resL (res rows n) cs=some cs'→vs.size=cs.length→(∀ (j:Nat) (c:AV),cs[j]? = some c→Rep w0.heap μ c (vs.getD j undef)) →
    vs.size=cs'.length∧∀ (j:Nat) (c:AV),cs'[j]? = some c→Rep w.heap (fun _=>none) c (vs.getD j undef):=by
   intro cs cs' vs hl hs hh
   obtain ⟨h1,h2⟩:=X1F hl
   exact ⟨by omega,fun j c e=>let ⟨u,eu,fu⟩:=h2 j c e;ih u c _ fu (hh j u eu)⟩
  cases hr with
  | any=>simp [res] at h;subst h;exact .any _
  | b=>simp [res] at h;subst h;exact .b _
  | i=>simp [res] at h;subst h;exact .i _ _
  | f k x bits hb e=>simp [res] at h;subst h;exact .f k x bits hb e
  | nils=>simp [res] at h;subst h;exact .slE _ _
  | slE a c=>simp [res] at h;subst h;exact .slE _ _
  | sl l es bl off c val a1 a2 a3 a4=>simp [res] at h;subst h;exact .sl l es bl off c val a1 (fun i cs j x e e'=>hold.cellAt (a2 i cs j x e e')) (fun i cs j x e e'=>(a3 i cs j x e e').old hold) a4
  | ref cs off bl base val a1 a2=>simp [res] at h;subst h;exact .ref cs off bl base val (fun j c e=>hold.cellAt (a1 j c e)) (fun j c e=>(a2 j c e).old hold)
  | tup=>simp [res] at h
  | inn r j p ib hp hb =>
   simp only [res] at h
   cases hrow:rows[r]? with
   | none=>rw [hrow] at h;simp at h
   | some row =>
    rw [hrow] at h
    have hok:=hm.row r row hrow
    rw [hp] at hok
    have hjl:j < p.inn.length:=by
     rcases Nat.lt_or_ge j p.inn.length with h | h
     ·exact h
     ·rw [List.getElem?_eq_none h] at hb;cases hb
    have hbg:p.inn.getD j none=ib:=by rw [List.getD_eq_getElem?_getD,hb];rfl
    cases row with
    | nest t ll full =>
     simp only [Option.some.injEq] at h;subst h
     rcases hok with ⟨hz,rfl,e0⟩ | ⟨hz,e1,e2,e3,e4,e5,arr,e6,e7,e8⟩
     ·rw [e0] at hjl;exact absurd hjl (Nat.not_lt_zero _)
     have hll:j < ll.length:=by omega
     have hI:=e8 j ll[j] (List.getElem?_eq_getElem hll)
     have hg:ll.getD j []=ll[j]:=by rw [List.getD_eq_getElem?_getD,List.getElem?_eq_getElem hll];rfl
     rw [hg]
     rw [hbg] at hI
     cases ib with
     | none=>obtain ⟨hv,h0⟩:=hI;rw [h0];exact .slE _ _
     | some bnc =>
      obtain ⟨b,n,c⟩:=bnc
      obtain ⟨f1,f0,f2,arr2,t2,f3,f4,f5⟩:=hI
      show Rep _ _ _ (.slice (some ⟨b,0,none⟩) n c)
      rw [f0]
      refine .sl _ 1 b 0 c (fun i j=>(arr2[i * 1 + j]?).getD undef) (fun i cs e=>(f5 i cs e).1) (fun i cs j x e e' => ?_) (fun i cs j x e e' => ?_) f2
      ·obtain ⟨v,ev,_⟩:=(f5 i cs e).2 j x e'
       unfold X5;rw [f3];simp only [Nat.zero_add,ev];rfl
      ·obtain ⟨v,ev,rv⟩:=(f5 i cs e).2 j x e'
       simp only [ev];exact Rep.of_S rv
    | mapN t kv hole =>
     cases hole with
     | some _=>simp at h
     | none =>
      simp only [Option.some.injEq] at h;subst h
      obtain ⟨_,e1,_,es,_,e4,e5⟩:=hok
      have hkl:j < kv.length:=by omega
      obtain ⟨_,_,_,_,hI,_⟩:=e5 j kv[j] (List.getElem?_eq_getElem hkl)
      have hg:(kv.map (·.2)).getD j []=kv[j].2:=by rw [List.getD_eq_getElem?_getD,List.getElem?_map,List.getElem?_eq_getElem hkl];rfl
      rw [hg]
      rw [hbg] at hI
      cases ib with
      | none=>rw [show kv[j].2=[] from hI];exact .slE _ _
      | some bnc =>
       obtain ⟨b,n,c⟩:=bnc
       obtain ⟨f0,f2,arr2,f3,f4,f5⟩:=hI
       show Rep _ _ _ (.slice (some ⟨b,0,none⟩) n c)
       rw [f0]
       refine .sl _ 1 b 0 c (fun i j=>(arr2[i * 1 + j]?).getD undef) (fun i cs e=>(f5 i cs e).1) (fun i cs j x e e' => ?_) (fun i cs j x e e' => ?_) f2
       ·obtain ⟨v,ev,_⟩:=(f5 i cs e).2 j x e'
        unfold X5;rw [f3];simp only [Nat.zero_add,ev];rfl
       ·obtain ⟨v,ev,rv⟩:=(f5 i cs e).2 j x e'
        simp only [ev];exact Rep.of_S rv
    | _=>simp at h
  | ipt=>simp [res] at h
  | mp=>simp [res] at h
  | agg cs vs hs hh =>
   simp only [res,Option.map_eq_some_iff] at h
   obtain ⟨cs',hl,rfl⟩:=h
   obtain ⟨a1,a2⟩:=lists cs cs' vs hl hs hh
   exact .agg cs' vs a1 a2
  | fn g cap vs hs hh =>
   simp only [res,Option.map_eq_some_iff] at h
   obtain ⟨cs',hl,rfl⟩:=h
   obtain ⟨a1,a2⟩:=lists cap cs' vs hl hs hh
   exact .fn g cs' vs a1 a2
  | own r p hp =>
   simp only [res] at h
   cases hrow:rows[r]? with
   | none=>rw [hrow] at h;simp at h
   | some row =>
    rw [hrow] at h
    have hok:=hm.row r row hrow
    rw [hp] at hok
    cases row with
    | dead=>simp at h
    | box=>simp at h
    | lits=>simp at h
    | mapN=>simp at h
    | mapS=>simp at h
    | nestD=>simp at h
    | vecU=>simp at h
    | vec t es l full =>
     simp at h;subst h
     rcases hok with ⟨hz,rfl,_⟩ | ⟨hz,e1,e2,e3,e4,e5,arr,e6,e7,e8⟩
     ·rw [FP.val_nul hz];exact .slE _ _
     rw [FP.val_of hz,e3]
     refine .sl l es p.blk 0 p.cap (fun i j=>(arr[i * es + j]?).getD undef) (fun i cs e=>(e8 i cs e).1) (fun i cs j x e e' => ?_) (fun i cs j x e e' => ?_) e4
     ·obtain ⟨v,ev,_⟩:=(e8 i cs e).2 j x e'
      unfold X5;rw [e6];simp only [Nat.zero_add,ev];rfl
     ·obtain ⟨v,ev,rv⟩:=(e8 i cs e).2 j x e'
      simp only [ev];exact Rep.of_S rv
    | nest t ll full =>
     simp at h;subst h
     rcases hok with ⟨hz,rfl,_⟩ | ⟨hz,e1,e2,e3,e4,e5,arr,e6,e7,e8⟩
     ·rw [FP.val_nul hz];exact .slE _ _
     rw [FP.val_of hz,e2,show ll.length=(ll.map fun l => [AV.sl l]).length from by simp]
     refine .sl _ 1 p.blk 0 p.cap (fun i _=>arr.getD i undef) (fun i cs e => ?_) (fun i cs j x e e' => ?_) (fun i cs j x e e' => ?_) (by rw [List.length_map];exact e3)
     ·simp at e;obtain ⟨l,_,rfl⟩:=e;rfl
     ·simp at e;obtain ⟨l,el,rfl⟩:=e
      have hj:j=0:=by cases j<;>simp at e' ⊢
      subst hj
      have hlt:i < ll.length:=by
       rcases Nat.lt_or_ge i ll.length with h | h
       ·exact h
       ·rw [List.getElem?_eq_none h] at el;cases el
      unfold X5;rw [e6]
      simp only [Nat.zero_add,Nat.mul_one,Nat.add_zero]
      rw [Array.getElem?_eq_getElem (by omega),Array.getD_eq_getD_getElem?,Array.getElem?_eq_getElem (by omega)];rfl
     ·simp at e;obtain ⟨l,el,rfl⟩:=e
      have hx:x = .sl l:=by cases j<;>simp at e';exact e'.symm
      subst hx
      have hI:=e8 i l el
      cases hib:p.inn.getD i none with
      | none=>rw [hib] at hI;obtain ⟨hv,rfl⟩:=hI;rw [hv];exact .slE _ _
      | some bnc =>
       obtain ⟨b,n,c⟩:=bnc
       rw [hib] at hI
       obtain ⟨f1,rfl,f2,arr2,t2,f3,f4,f5⟩:=hI
       rw [f1]
       refine .sl l 1 b 0 c (fun i j=>(arr2[i * 1 + j]?).getD undef) (fun i cs e=>(f5 i cs e).1) (fun i cs j x e e' => ?_) (fun i cs j x e e' => ?_) f2
       ·obtain ⟨v,ev,_⟩:=(f5 i cs e).2 j x e'
        unfold X5;rw [f3];simp only [Nat.zero_add,ev];rfl
       ·obtain ⟨v,ev,rv⟩:=(f5 i cs e).2 j x e'
        simp only [ev];exact Rep.of_S rv
  | bx r m c0 p hp hc0 =>
   simp only [res] at h
   cases hrow:rows[r]? with
   | none=>rw [hrow] at h;simp at h
   | some row =>
    rw [hrow] at h
    have hok:=hm.row r row hrow
    rw [hp] at hok
    cases row with
    | box t cs =>
     simp only at h
     split at h
     ·rename_i hb
      simp only [Bool.and_eq_true,Nat.beq_eq,List.all_eq_true] at hb
      obtain ⟨rfl,hfl⟩:=hb
      simp only [Option.some.injEq] at h;subst h
      obtain ⟨_,e1,e2,arr,e3,e4,e5⟩:=hok
      have:Rep w.heap (fun _=>none) (.sl (cs.map fun c => [c])) (.slice (some ⟨p.blk,0,none⟩) (cs.map fun c => [c]).length c0):=by
       refine .sl _ 1 p.blk 0 c0 (fun i _=>arr.getD i undef) (fun i l e => ?_) (fun i l j x e e' => ?_) (fun i l j x e e' => ?_) (by rw [List.length_map];exact hc0)
       ·rw [List.getElem?_map,Option.map_eq_some_iff] at e
        obtain ⟨c,_,rfl⟩:=e;rfl
       ·rw [List.getElem?_map,Option.map_eq_some_iff] at e
        obtain ⟨c,hc,rfl⟩:=e
        have hj:j=0:=by cases j<;>simp at e' ⊢
        subst hj
        have hi:i < arr.size:=by
         rcases Nat.lt_or_ge i cs.length with h | h
         ·omega
         ·rw [List.getElem?_eq_none h] at hc;cases hc
        unfold X5;rw [e3]
        simp only [Nat.zero_add,Nat.mul_one,Nat.add_zero]
        rw [Array.getElem?_eq_getElem hi,Array.getD_eq_getD_getElem?,Array.getElem?_eq_getElem hi];rfl
       ·rw [List.getElem?_map,Option.map_eq_some_iff] at e
        obtain ⟨c,hc,rfl⟩:=e
        have hx:x=c:=by cases j<;>simp at e';exact e'.symm
        subst hx
        exact X8V (e5 i x hc) (hfl x (List.mem_of_getElem? hc))
      simpa using this
     ·cases h
    | _=>simp at h
  | ptr r idx off p hp =>
   cases idx with
   | succ idx=>simp [res] at h
   | zero =>
    simp only [res] at h
    cases hrow:rows[r]? with
    | none=>rw [hrow] at h;simp at h
    | some row =>
     rw [hrow] at h
     have hok:=hm.row r row hrow
     rw [hp] at hok
     cases row with
     | box t cs =>
      simp only [Option.map_eq_some_iff] at h
      obtain ⟨cs',hl,rfl⟩:=h
      obtain ⟨_,e1,e2,arr,e3,e4,e5⟩:=hok
      obtain ⟨q1,q2⟩:=X1F hl
      have a2:∀ (j:Nat) (c:AV),cs'[j]? = some c→Rep w.heap (fun _=>none) c (arr.getD j undef):=fun j c e=>let ⟨u,eu,fu⟩:=q2 j c e;ih u c _ fu (e5 j u eu)
      rw [Nat.zero_mul]
      refine .ref cs' off p.blk 0 (fun j=>arr.getD j undef) (fun j c e => ?_) a2
      have hlt:j < arr.size:=by
       rcases Nat.lt_or_ge j cs'.length with h | h
       ·omega
       ·rw [List.getElem?_eq_none h] at e;cases e
      unfold X5;rw [e3]
      simp only [Nat.zero_add]
      rw [Array.getElem?_eq_getElem hlt,Array.getD_eq_getD_getElem?,Array.getElem?_eq_getElem hlt];rfl
     | _=>simp at h
theorem Xa1 {w0:Old0} {w:World} {μ:Nat→Option FP} {rows:List Row} (hm:MemW w0 μ rows w) {n:Nat} {avs avs':List AV} {vs:Array Value} (h:resL (res rows n) avs=some avs') (hp:PW w0.heap μ avs vs) :
  PW w.heap (fun _=>none) avs' vs:=by
 obtain ⟨h1,h2⟩:=X1F h
 exact ⟨by rw [hp.1,h1],fun j c e=>let ⟨u,eu,fu⟩:=h2 j c e;X5w hm n u c _ fu (hp.2 j u eu)⟩
theorem X4.indep {H H':Array Obj} {μ μ':Nat→Option FP} {heap:Array Obj} {p:Option FP} {row:Row} (hr:X1T [row]=true) (h:X4 H μ heap p row):X4 H' μ' heap p row:=by
 cases row<;>simp [X1T] at hr<;>cases p<;>exact h
theorem X6m {H H':Array Obj} {μ μ':Nat→Option FP} {n lo:Nat} {c:AV} {v:Value} (ho:X1k n c=true) (hs:∀ r,r < n→μ' (lo + r)=μ r) (h:Rep H μ c v):Rep H' μ' (X4F lo c) v:=by
 cases h<;>simp [X1k] at ho<;>simp only [X4F]
 ·exact .b _
 ·exact .i _ _
 ·exact .f _ _ _ ‹_› ‹_›
 ·exact .nils
 ·rename_i r p hp;exact .own _ p (by rw [hs r ho];exact hp)
 ·rename_i r p hz hp;exact .mp _ p (by rw [hs r ho];exact hp) hz
theorem X6n {H H':Array Obj} {μ μ':Nat→Option FP} {n lo:Nat} {c:AV} {v:Value} (ho:X1l n c=true) (hs:∀ r,r < n→μ' (lo + r)=μ r) (h:Rep H μ c v):Rep H' μ' (X6l lo c) v:=by
 cases c with
 | agg cs =>
  cases h with | agg _ vs hz hh =>
  simp only [X1l,List.all_eq_true] at ho
  refine .agg _ vs (by simp [hz]) fun j c e => ?_
  simp only [List.getElem?_map,Option.map_eq_some_iff] at e
  obtain ⟨c0,e0,rfl⟩:=e
  exact X6m (ho c0 (List.mem_of_getElem? e0)) hs (hh j c0 e0)
 | _=>simp only [X1l] at ho;exact X6m ho hs h
theorem X8W {H H':Array Obj} {μ μ':Nat→Option FP} {n lo:Nat} {c:AV} {v:Value} (ho:X1a n c=true) (hs:∀ r,r < n→μ' (lo + r)=μ r) (h:Rep H μ c v):Rep H' μ' (X89 lo c) v:=by
 cases c with
 | tup cs =>
  cases h with | tup _ vs hz hh =>
  simp only [X1a,List.all_eq_true] at ho
  refine .tup _ vs (by simp [hz]) fun j c e => ?_
  simp only [List.getElem?_map,Option.map_eq_some_iff] at e
  obtain ⟨c0,e0,rfl⟩:=e
  exact X6n (ho c0 (List.mem_of_getElem? e0)) hs (hh j c0 e0)
 | _=>simp only [X1a] at ho;exact X6n ho hs h
theorem Fn.post {P:Program} {g:FuncId} {args:List AV} {r:AV} {new:List Row} (h:Fn P g args r new) {w0:Old0} {w:World} {μ:Nat→Option FP} {vs:Array Value} {lo:Nat} {ans:List Ans} {C:List Prop}
  (hp:PW w.heap (fun _=>none) args vs) (hr:X1a new.length r=true) (hn:X1T new=true) :
  Calls P g vs w fun e w' => ∃ v,e = .returned v∧Post w0 μ lo w ⟨X89 lo r,new,ans,C⟩ v w':=by
 refine (h.2 w vs hp).mono fun e w' ⟨v,μ',he,hb,hg,hrep⟩=>⟨v,he,?_⟩
 let μ'':Nat→Option FP:=fun q=>if lo≤q∧q < lo + new.length then μ' (q - lo) else μ q
 have hin:∀ q,lo≤q→q < lo + new.length→μ'' q=μ' (q - lo):=fun q h1 h2=>if_pos ⟨h1,h2⟩
 refine ⟨μ'',⟨fun i h => ?_,fun q (hq:q < lo∨lo + new.length≤q)=>if_neg (by omega),fun i row e => ?_,fun q q' p p' b a1 a2 a3 a4 a5 a6 a7 a8 => ?_,fun q p a1 a2 a3 => ?_,fun q p b a1 a2 a3 a4 => ?_⟩,hb,X8W hr (fun q hq=>by rw [hin _ (by omega) (by omega)];congr 1;omega) hrep⟩
 ·simp only [X1T,List.all_eq_true] at hn
  exact absurd (hn _ (List.mem_of_getElem? h)) (by simp)
 ·have hi:i < new.length:=by
   rcases Nat.lt_or_ge i new.length with h | h
   ·exact h
   ·simp only at e;rw [List.getElem?_eq_none h] at e;cases e
  have:=hg.row i row e
  rw [Nat.zero_add] at this
  rw [hin _ (by omega) (by omega),show lo + i - lo=i from by omega]
  refine this.indep ?_
  simp only [X1T,List.all_eq_true] at hn ⊢
  intro x hx;simp at hx;subst hx;exact hn x (List.mem_of_getElem? e)
 ·simp only at a2 a4
  rw [hin q a1 a2] at a5;rw [hin q' a3 a4] at a6
  have:=hg.sep (q - lo) (q' - lo) p p' b (by omega) (by omega) (by omega) (by omega) a5 a6 a7 a8
  omega
 ·simp only at a2
  rw [hin q a1 a2] at a3
  exact hg.nodup (q - lo) p (by omega) (by omega) a3
 ·simp only at a2
  rw [hin q a1 a2] at a3
  exact hg.fresh (q - lo) p b (by omega) (by omega) a3 a4
end Go.Ab
