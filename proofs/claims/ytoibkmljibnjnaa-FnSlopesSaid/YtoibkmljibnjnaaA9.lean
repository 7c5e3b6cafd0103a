/- All pure operations together. -/
import Derived.Test.YtoibkmljibnjnaaA8
import Derived.Laws.StructEq
set_option linter.unusedVariables false
set_option linter.unusedSimpArgs false
namespace Go.Ab
open Go.RowKit
def X8f (x:XK) (args:List AV) (ans:List Ans):Option PR :=
 match x,args with
 | .sqrt,[.f .f64 a]=>some ⟨.f .f64 (X1y a),[],ans,[]⟩
 | .to64,[.f .f64 a]=>some ⟨.i .u64 a,[],ans,[Xm .f64 a=false]⟩
 | .from64,[.i .u64 n]=>some ⟨.f .f64 (cn .f64 n.toNat),[],ans,[n.toNat < 2 ^ 64]⟩
 | .to32,[.f .f32 a]=>some ⟨.i .u32 a,[],ans,[Xm .f32 a=false]⟩
 | .from32,[.i .u32 n]=>some ⟨.f .f32 (cn .f32 n.toNat),[],ans,[n.toNat < 2 ^ 32]⟩
 | _,_=>none
theorem X6v {P:Program} {w:World} (b:Nat):(XK.sqrt.sem #[.float .f64 b]).run P w =
  (match FloatKind.f64.format.sqrt b with
  | some r=>pure (.float .f64 r)
  | none=>do pure (.float .f64 (← choose (.nanBits .f64 b b))):Sem Value).run P w:=rfl
theorem X7J {P:Program} {w:World} {H:Array Obj} {μ:Nat→Option FP} {x:XK} {args:List AV} {vs:Array Value} {ans:List Ans} {r:PR} (hp:PW H μ args vs) (h:X8f x args ans=some r) (hC:All r.C) :
  r.new=[]∧∃ v w',(x.sem vs).run P w = .ok v w'∧Drew w w'∧Rep H μ r.av v:=by
 have one:∀ c,args=[c]→∃ v,vs=#[v]∧Rep H μ c v:=by
  intro c hc;subst hc
  have h1:=hp.1
  obtain ⟨l⟩:=vs
  match l,h1 with
  | [v],_=>exact ⟨v,rfl,by simpa using hp.2 0 c rfl⟩
 unfold X8f at h
 split at h
 ·rename_i a
  simp only [Option.some.injEq] at h;subst h
  obtain ⟨v,rfl,hv⟩:=one _ rfl
  cases hv with
  | f _ _ bits h1 h2 =>
   subst h2
   refine ⟨rfl,?_⟩
   cases hq:FloatKind.f64.format.sqrt bits with
   | some q =>
    have hre:=X1p (k := .f64) hq (fun d hd=>X8R hd)
    refine ⟨.float .f64 q,w,by rw [X6v,hq];rfl, .none, .f _ _ _ hre.2 ?_⟩
    rw [XJ hre.1];unfold X1y;rw [← X7T,hq];rfl
   | none =>
    refine ⟨.float .f64 ((Question.nanBits .f64 bits bits).cut (w.tape w.drawn (.nanBits .f64 bits bits))),{ w with drawn:=w.drawn + 1 },by rw [X6v,hq];rfl, .one, .f _ _ _ (X1I .f64 false bits bits _ _ (.inl rfl)).2 ?_⟩
    rw [X1v (X1I .f64 false bits bits _ _ (.inl rfl)).1];unfold X1y;rw [← X7T,hq];rfl
 ·rename_i a
  simp only [Option.some.injEq] at h;subst h
  obtain ⟨v,rfl,hv⟩:=one _ rfl
  cases hv with
  | f _ _ bits h1 h2 =>
   have hn:=hC.1
   rw [← h2,X6f] at hn
   rw [XJ hn] at h2;subst h2
   exact ⟨rfl,_,w,rfl, .none, .i _ _⟩
 ·rename_i n
  simp only [Option.some.injEq] at h;subst h
  obtain ⟨v,rfl,hv⟩:=one _ rfl
  cases hv with
  | i _ _=>exact ⟨rfl,_,w,rfl, .none, .f _ _ _ hC.1 rfl⟩
 ·rename_i a
  simp only [Option.some.injEq] at h;subst h
  obtain ⟨v,rfl,hv⟩:=one _ rfl
  cases hv with
  | f _ _ bits h1 h2 =>
   have hn:=hC.1
   rw [← h2,X6f] at hn
   rw [XJ hn] at h2;subst h2
   exact ⟨rfl,_,w,rfl, .none, .i _ _⟩
 ·rename_i n
  simp only [Option.some.injEq] at h;subst h
  obtain ⟨v,rfl,hv⟩:=one _ rfl
  cases hv with
  | i _ _=>exact ⟨rfl,_,w,rfl, .none, .f _ _ _ hC.1 rfl⟩
 ·cases h
theorem X2k {P:Program} {g:FuncId} (h:X3d P g) (args:Array Value) (w:World):(callFunc g args).run P w = .ok (.enter g args) w:=by
 obtain ⟨fn,h1,h2,h3⟩:=h
 unfold callFunc
 simp only [Sem.run_bind,run_program,Result.andThen_ok,h1,h3,Bool.false_eq_true,if_false,h2,Sem.run_pure]
theorem X6w {P:Program} {g:FuncId} {x:XK} (h:XOk P g x) {args:Array Value} {w w':World} {v:Value} (hr:(x.sem args).run P w = .ok v w'):(callFunc g args).run P w = .ok (.value v) w':=by
 obtain ⟨fn,h1,h2,h3,h4,h5⟩:=h.out
 unfold callFunc
 simp only [Sem.run_bind,run_program,Result.andThen_ok,h1,h2,Bool.false_eq_true,if_false,h3,if_true,run_mark,h4,h5,hr,Sem.run_pure]
def X5d (T:TypeId→Option TD) (t:TypeId):Bool :=
 match T t with
 | some d=>match d.kind with
  | .bool=>true
  | _=>false
 | none=>false
theorem X5Y {P:Program} {T:TypeId→Option TD} (hT:TOk P T) {t:TypeId} (h:X5d T t=true):P.underlying t=some .bool:=by
 unfold X5d at h
 cases hs:T t with
 | none=>rw [hs] at h;cases h
 | some d =>
  rw [hs] at h;simp only at h
  obtain ⟨u,hu,hk,_⟩:=(hT t d hs).desc
  split at h
  ·rename_i hkd
   rw [hkd] at hk
   cases u<;>simp only [Xa] at hk
   exact hu
  ·cases h
def X4q (T:TypeId→Option TD) (t:TypeId):Bool :=
 match T t with
 | some d=>match d.kind with
  | .slice _=>true
  | _=>false
 | none=>false
theorem X5e {P:Program} {T:TypeId→Option TD} (hT:TOk P T) {t:TypeId} (h:X4q T t=true):∃ e,P.underlying t=some (.slice e):=by
 unfold X4q at h
 cases hs:T t with
 | none=>rw [hs] at h;cases h
 | some d =>
  rw [hs] at h;simp only at h
  obtain ⟨u,hu,hk,_⟩:=(hT t d hs).desc
  split at h
  ·rename_i hkd
   rw [hkd] at hk
   cases u<;>simp only [Xa] at hk
   exact ⟨_,hu⟩
  ·cases h
def X5x (E:Env) (rows:List Row) (lo:Nat) (b:Builtin) (ts:List TypeId) (args:List AV) (ans:List Ans):Option PR :=
 match b,ts,args with
 | .len,[t],[x]=>match X4q E.T t,lenOf rows x,ans with
  | true,some k, .num n :: ans=>some ⟨.i .i64 n,[],ans,[k=n]⟩
  | _,_,_=>none
 | .max,_,[x,y]=>X1G true x y ans
 | .min,_,[x,y]=>X1G false x y ans
 | .append,[ts,tx],[s,x]=>X4H E.T rows lo ts tx s x ans
 | _,_,_=>none
def X6x (P:Program) (E:Env) (st:St) (lo:Nat) (c:Call) (ans:List Ans):Option PR :=
 match c.callee with
 | .builtin b=>X5x E st.rows lo b c.argTypes.toList (c.args.toList.map (opd st)) ans
 | .value f=>match opd st f with
  | .fn g cap=>match E.X g,cap with
   | some x,[]=>X8f x (c.args.toList.map (opd st)) ans
   | some _,_=>none
   | none,cap=>match resL (res st.rows 8) (c.args.toList.map (opd st) ++ cap),ans with
    | some as, .call r new :: ans=>match X1a new.length r && X1T new with
     | true=>some ⟨X89 lo r,new,ans,[Fn P g as r new]⟩
     | false=>none
    | _,_=>none
  | _=>none
 | _=>none
structure VecT (P:Program) (t:TypeId):Prop where
 und:P.underlying t=some (.struct (P.fieldsOf t))
 held:P.stoodInHeld t=false
 grd:P.eqGuardType P.depth t=false
 flds : ∃ f0 f1 f2, (P.fieldsOf t).toList = [f0, f1, f2] ∧ f0.name ≠ "_" ∧ f1.name ≠ "_" ∧ f2.name ≠ "_" ∧ f0.offset = 0 ∧ f1.offset = 1 ∧ f2.offset = 2
  ∧ P.underlying f0.type=some (.float .f32)∧P.underlying f1.type=some (.float .f32)∧P.underlying f2.type=some (.float .f32)
def X4I:Option TypeDesc→Bool
 | some (.float .f32)=>true
 | _=>false
theorem X4r {d:Option TypeDesc} (h:X4I d=true):d=some (.float .f32):=by
 unfold X4I at h
 split at h
 ·rfl
 ·cases h
def X9R (P:Program) (t:TypeId):Bool :=
 match P.underlying t with
 | some (.struct fs)=>match fs.toList with
  | [f0, f1, f2] => f0.name != "_" && (f1.name != "_" && (f2.name != "_" && (f0.offset == 0 && (f1.offset == 1 && (f2.offset == 2 && (X4I (P.underlying f0.type) && (X4I (P.underlying f1.type) && (X4I (P.underlying f2.type) && (!P.stoodInHeld t && !P.eqGuardType P.depth t)))))))))
  | _=>false
 | _=>false
theorem Xb7 {P:Program} {t:TypeId} (h:X9R P t=true):VecT P t:=by
 unfold X9R at h
 split at h
 ·rename_i fs hu
  have hf:P.fieldsOf t=fs:=by simp [Program.fieldsOf,hu]
  split at h
  ·rename_i f0 f1 f2 hl
   simp only [Bool.and_eq_true,bne_iff_ne,beq_iff_eq,Bool.not_eq_true'] at h
   obtain ⟨a1,a2,a3,a4,a5,a6,a7,a8,a9,b1,b2⟩:=h
   exact ⟨by rw [hf];exact hu,b1,b2,f0,f1,f2,by rw [hf];exact hl,a1,a2,a3,a4,a5,a6,X4r a7,X4r a8,X4r a9⟩
  ·cases h
 ·cases h
def X8g (P:Program) (op:BinOp) (t:TypeId) (x y:AV) (bt:Bool) (ans:List Ans):Option PR :=
 match op,x,y with
 | .eql, .agg [.f .f32 a, .f .f32 b, .f .f32 c], .agg [.f .f32 a', .f .f32 b', .f .f32 c']=>some ⟨.b (fcmp .eql .f32 a a' && fcmp .eql .f32 b b' && fcmp .eql .f32 c c'),[],ans,[VecT P t]⟩
 | op,x,y=>X2o op x y bt ans
theorem X1U {P:Program} (w:World) (d:Nat) {t:TypeId} (h:P.underlying t=some (.float .f32)) (a b:Nat):(Op.equalIn (d + 1) t (.float .f32 a) (.float .f32 b)).run P w = .ok (fcmp .eql .f32 (cn .f32 a) (cn .f32 b)) w:=by
 rw [← X7U]
 simp [Op.equalIn,run_underlying h,Op.floatEq,fcmp]
theorem X15 {P:Program} (w:World) {t:TypeId} (h:P.underlying t=some (.float .f32)) {xs:Array Value} {off:Nat} {v:Value} (hx:xs[off]? = some v):(part t xs off).run P w = .ok v w :=
 by simp [part,isAgg,run_underlying h,hx]
theorem rep3 {H:Array Obj} {μ:Nat→Option FP} {a b c:Nat} {v:Value} (h:Rep H μ (.agg [.f .f32 a, .f .f32 b, .f .f32 c]) v) :
  ∃ a1 b1 c1,v = .agg #[.float .f32 a1, .float .f32 b1, .float .f32 c1]∧cn .f32 a1=a∧cn .f32 b1=b∧cn .f32 c1=c:=by
 cases h with
 | agg _ vs hs hh =>
  obtain ⟨l⟩:=vs
  match l,hs with
  | [v0,v1,v2],_ =>
   have h0:=hh 0 _ rfl
   have h1:=hh 1 _ rfl
   have h2:=hh 2 _ rfl
   simp only [Array.getD_eq_getD_getElem?,List.getElem?_toArray,List.getElem?_cons_zero,List.getElem?_cons_succ,Option.getD_some] at h0 h1 h2
   cases h0 with | f _ _ a1 _ e0 =>
   cases h1 with | f _ _ b1 _ e1 =>
   cases h2 with | f _ _ c1 _ e2 =>
   exact ⟨a1,b1,c1,rfl,e0,e1,e2⟩
theorem X7K {P:Program} {w:World} {H:Array Obj} {μ:Nat→Option FP} {op:BinOp} {t:TypeId} {X Y:Operand} {x y:AV} {vx vy:Value} {bt:Bool} {ans:List Ans} {r:PR}
  (hb:bt=true→P.underlying t=some .bool) (hx:Rep H μ x vx) (hy:Rep H μ y vy) (h:X8g P op t x y bt ans=some r) (hC:All r.C) :
  r.new=[]∧∃ v w',((do eqGuard op t X Y vx vy;binOp op t vx vy):Sem Value).run P w = .ok v w'∧Drew w w'∧Rep H μ r.av v:=by
 unfold X8g at h
 split at h
 ·cases h
  obtain ⟨hv,-⟩:=hC
  obtain ⟨a1,b1,c1,rfl,rfl,rfl,rfl⟩:=rep3 hx
  obtain ⟨a2,b2,c2,rfl,rfl,rfl,rfl⟩:=rep3 hy
  obtain ⟨f0,f1,f2,hf,n0,n1,n2,o0,o1,o2,u0,u1,u2⟩:=hv.flds
  refine ⟨rfl, .bool (fcmp .eql .f32 (cn .f32 a1) (cn .f32 a2) && fcmp .eql .f32 (cn .f32 b1) (cn .f32 b2) && fcmp .eql .f32 (cn .f32 c1) (cn .f32 c2)),w,?_, .none, .b _⟩
  rw [Sem.run_bind,run_eqGuard_agg w .eql t X Y _ _ hv.grd,Result.andThen_ok,run_eql_struct,run_equalIn_struct w 9999 t _ _ hv.und hv.held,hf]
  simp only [Op.eqFields,ne_eq,n0,n1,n2,o0,o1,o2,not_false_eq_true,if_true,Sem.run_bind]
  rw [X15 (v := .float .f32 a1) w u0 rfl,Result.andThen_ok,X15 (v := .float .f32 a2) w u0 rfl,Result.andThen_ok,X1U w _ u0,Result.andThen_ok]
  cases fcmp .eql .f32 (cn .f32 a1) (cn .f32 a2) with
  | false=>simp
  | true =>
   simp only [Bool.not_true,Bool.false_eq_true,if_false,Bool.true_and,Sem.run_bind]
   rw [X15 (v := .float .f32 b1) w u1 rfl,Result.andThen_ok,X15 (v := .float .f32 b2) w u1 rfl,Result.andThen_ok,X1U w _ u1,Result.andThen_ok]
   cases fcmp .eql .f32 (cn .f32 b1) (cn .f32 b2) with
   | false=>simp
   | true =>
    simp only [Bool.not_true,Bool.false_eq_true,if_false,Bool.true_and,Sem.run_bind]
    rw [X15 (v := .float .f32 c1) w u2 rfl,Result.andThen_ok,X15 (v := .float .f32 c2) w u2 rfl,Result.andThen_ok,X1U w _ u2,Result.andThen_ok]
    cases fcmp .eql .f32 (cn .f32 c1) (cn .f32 c2)<;>simp
 ·exact X7E hb hx hy h hC
def evp (P:Program) (E:Env) (st:St) (lo:Nat) (op:Op) (ans:List Ans):Option PR :=
 match op with
 | .move x=>some ⟨opd st x,[],ans,[]⟩
 | .assign x=>some ⟨opd st x,[],ans,[]⟩
 | .pick c a b=>match opd st c,ans with
  | .b x, .bo true :: ans=>some ⟨opd st a,[],ans,[x=true]⟩
  | .b x, .bo false :: ans=>some ⟨opd st b,[],ans,[x=false]⟩
  | _,_=>none
 | .alloc t=>match E.T t with
  | some d=>some ⟨.ptr lo 0 0,[.box t d.zero],ans,[]⟩
  | none=>none
 | .box t x=>match Xj (opd st x) with
  | some cs=>some ⟨.ptr lo 0 0,[.box t cs],ans,[]⟩
  | none=>none
 | .build t parts=>X5a E.T (opd st) t parts.toList ans
 | .buildSlice t n parts=>X67 E.T (opd st) lo t n parts.toList ans
 | .load t x=>evLoad E.T st.rows t (opd st x) ans
 | .nilCheck x=>match opd st x with
  | .ptr r i o=>some ⟨.ptr r i o,[],ans,[]⟩
  | .ref cs o=>some ⟨.ref cs o,[],ans,[]⟩
  | .fn g cap=>some ⟨.fn g cap,[],ans,[]⟩
  | _=>none
 | .binOp op t x y _=>X8g P op t (opd st x) (opd st y) (X5d E.T t) ans
 | .unOp op _ x=>evUn op (opd st x) ans
 | .convert s d x=>X6o E.T s d (opd st x) ans
 | .makeFunc fn first captured=>match fn,first.toList with
  | .func g,[]=>some ⟨.fn g (captured.toList.map (opd st)),[],ans,[]⟩
  | _,_=>none
 | .makeSlice t l c=>X4G E.T lo t (opd st l) (opd st c) ans
 | .slice t x none none none=>match E.T t,opd st x with
  | some d, .ptr r 0 0=>match d.kind with
   | .arr n e=>match E.T e with
    | some _=>some ⟨.bx r n,[],ans,[]⟩
    | none=>none
   | _=>none
  | _,_=>none
 | .slice t x (some lo) none none=>match E.T t,opd st x,opd st lo with
  | some d, .sl l, .i _ n=>match d.kind with
   | .slice e=>match E.T e with
    | some de=>some ⟨.sl (l.drop n.toNat),[],ans,[0≤n∧n.toNat≤l.length,l.all (fun cs=>cs.length == de.size)=true]⟩
    | none=>none
   | _=>none
  | _,_,_=>none
 | .fieldAddr s x f=>evField E.T s (opd st x) f ans
 | .indexAddr t x i=>X59 E.T st.rows t (opd st x) (opd st i) ans
 | .extract x i=>match opd st x with
  | .tup vs=>match vs[i]? with
   | some v=>some ⟨v,[],ans,[]⟩
   | none=>none
  | _=>none
 | .call c=>X6x P E st lo c ans
 | _=>none
theorem X6y {H:Array Obj} {μ:Nat→Option FP} {val:Operand→AV} {ρ:Operand→Value} (hv:∀ x,Rep H μ (val x) (ρ x)) (l:Array Operand):PW H μ (l.toList.map val) (l.map ρ):=by
 refine ⟨by simp,fun j c e => ?_⟩
 rw [List.getElem?_map,Option.map_eq_some_iff] at e
 obtain ⟨x,ex,rfl⟩:=e
 rw [Array.getElem?_toList] at ex
 rw [Array.getD_eq_getD_getElem?,Array.getElem?_map,ex]
 exact hv x
theorem X5y {H:Array Obj} {μ:Nat→Option FP} {l m:List AV} {v u:Array Value} (h:PW H μ l v) (k:PW H μ m u):PW H μ (l ++ m) (v ++ u):=by
 refine ⟨by simp [h.1,k.1],fun j c e => ?_⟩
 rw [Array.getD_eq_getD_getElem?]
 by_cases hj:j < l.length
 ·rw [List.getElem?_append_left hj] at e
  rw [Array.getElem?_append_left (by rw [h.1];exact hj),← Array.getD_eq_getD_getElem?]
  exact h.2 j c e
 ·rw [List.getElem?_append_right (by omega)] at e
  rw [Array.getElem?_append_right (by rw [h.1];omega),← Array.getD_eq_getD_getElem?,h.1]
  exact k.2 _ c e
theorem X4J {H:Array Obj} {μ:Nat→Option FP} {x y:AV} {vs:Array Value} (h:PW H μ [x,y] vs):∃ a b,vs=#[a,b]∧Rep H μ x a∧Rep H μ y b:=by
 have h1:=h.1
 obtain ⟨l⟩:=vs
 match l,h1 with
 | [a,b],_=>exact ⟨a,b,rfl,by simpa using h.2 0 x rfl,by simpa using h.2 1 y rfl⟩
theorem X8Y {H:Array Obj} {μ:Nat→Option FP} {x:AV} {vs:Array Value} (h:PW H μ [x] vs):∃ a,vs=#[a]∧Rep H μ x a:=by
 have h1:=h.1
 obtain ⟨l⟩:=vs
 match l,h1 with
 | [a],_=>exact ⟨a,rfl,by simpa using h.2 0 x rfl⟩
theorem Post.of_plain {w0:Old0} {μ:Nat→Option FP} {lo:Nat} {w w':World} {r:PR} {v:Value} (hn:r.new=[]) (hd:Drew w w') (h:Rep w0.heap μ r.av v):Post w0 μ lo w r v w':=by
 obtain ⟨av,new,ans,C⟩:=r
 simp only at hn;subst hn
 exact Post.drew hd h
section
variable {P:Program} {E:Env} {w0:Old0} {w:World} {μ:Nat→Option FP} {st:St} {a:Act}
theorem X6z (hE:EOk P E) (hr:RelW w0 μ st a w) {lo:Nat} {o:Oper} {c:Call} {ans:List Ans} {r:PR} (ho:o.op = .call c) (h:X6x P E st lo c ans=some r) (hC:All r.C)
  (hn:∀ q,lo≤q→q < lo + r.new.length→μ q=none):Xb P o a w (Post w0 μ lo w r):=by
 have hargs:=X6y (fun x=>hr.opd x) c.args
 unfold X6x at h
 split at h
 ·rename_i b hb
  have hex:∃ k,(execOp a.eval o).run P w=(builtin b c.argTypes o.type k (c.args.map a.eval)).run P w :=
   ⟨_,by simp only [execOp,ho,Sem.run_bind,resolve,hb,Sem.run_pure,Result.andThen_ok,invoke];rfl⟩
  obtain ⟨k0,hex⟩:=hex
  unfold X5x at h
  split at h
  ·rename_i t x hts hxs
   rw [hxs] at hargs
   obtain ⟨v,hv,hx⟩:=X8Y hargs
   split at h
   ·rename_i k n ans' hst hlen
    simp only [Option.some.injEq] at h;subst h
    obtain ⟨e,he⟩:=X5e hE.T hst
    obtain ⟨ad,l,cp,hvl,hk⟩:=X7F hr.mem hx hlen
    subst hvl
    have hC1:=hC.1
    have hta:c.argTypes=#[t]:=by cases hq:c.argTypes;rw [hq] at hts;simp at hts;rw [hts]
    refine Xb.value (v := .int .i64 n) (w':=w) ?_ (Post.plain (.i _ _))
    rw [hex,hv,hta]
    simp [builtin,Builtin.len_,run_underlying he,goInt,hk,hC1]
   ·cases h
  ·rename_i x y _ hxs
   rw [hxs] at hargs
   obtain ⟨v,u,hv,hx,hy⟩:=X4J hargs
   obtain ⟨h1,v',w',h2,h3,h4⟩:=X7G (P:=P) (w:=w) c.argTypes o.type hx hy h hC
   refine Xb.value (v:=v') (w':=w') ?_ (Post.of_plain h1 h3 h4)
   rw [hex,hv];simp [builtin,h2]
  ·rename_i x y _ hxs
   rw [hxs] at hargs
   obtain ⟨v,u,hv,hx,hy⟩:=X4J hargs
   obtain ⟨h1,v',w',h2,h3,h4⟩:=X7H (P:=P) (w:=w) c.argTypes o.type hx hy h hC
   refine Xb.value (v:=v') (w':=w') ?_ (Post.of_plain h1 h3 h4)
   rw [hex,hv];simp [builtin,h2]
  ·rename_i ts tx s x hts hxs
   rw [hxs] at hargs
   obtain ⟨v,u,hv,hs,hx⟩:=X4J hargs
   have hta:c.argTypes=#[ts,tx]:=by cases hq:c.argTypes;rw [hq] at hts;simp at hts;rw [hts]
   have hnl:μ lo=none:=by
    refine hn lo (Nat.le_refl _) ?_
    unfold X4H at h
    repeat' split at h
    all_goals first | (cases h;done) | (simp only [Option.some.injEq] at h;subst h;simp)
   obtain ⟨v',w',h2,h3⟩:=X6u (P:=P) (ty:=o.type) hE.T hr.mem hnl hs hx h hC
   refine Xb.value (v:=v') (w':=w') ?_ h3
   rw [hex,hv,hta];simp [builtin,h2]
  ·cases h
 ·rename_i f hf
  split at h
  ·rename_i g cap hg
   have hfv:=hr.opd f
   rw [hg] at hfv
   generalize hfe:a.eval f=fv at hfv
   cases hfv with
   | fn _ _ vs hs hh =>
   have hex:(execOp a.eval o).run P w=(callFunc g (c.args.map a.eval ++ vs)).run P w:=by
    simp only [execOp,ho,Sem.run_bind,resolve,hf,hfe,Deferred.ofValue,Sem.run_pure,Result.andThen_ok,invoke]
    simp
   split at h
   ·rename_i x hX
    have hvs:vs=#[]:=by
     apply Array.eq_empty_of_size_eq_zero;simpa using hs
    obtain ⟨h1,v',w',h2,h3,h4⟩:=X7J (P:=P) (w:=w) hargs h hC
    refine Xb.value (v:=v') (w':=w') ?_ (Post.of_plain h1 h3 h4)
    rw [hex,hvs,Array.append_empty]
    exact X6w (hE.X g x hX) h2
   ·cases h
   ·split at h
    ·rename_i as r' new ans' hres
     split at h
     ·rename_i hok
      simp only [Option.some.injEq] at h;subst h
      simp only [Bool.and_eq_true] at hok
      have hFn:=hC.1
      have hpw:=Xa1 hr.mem hres (X5y hargs ⟨hs,hh⟩)
      refine Xb.enter (f:=g) (args:=c.args.map a.eval ++ vs) (w1:=w) ?_ (hFn.post hpw hok.1 hok.2)
      rw [hex];exact X2k hFn.1 _ _
     ·cases h
    ·cases h
  ·cases h
 ·cases h
theorem X2N (hE:EOk P E) (hr:RelW w0 μ st a w) {lo:Nat} {o:Oper} {ans:List Ans} {r:PR} (h:evp P E st lo o.op ans=some r) (hC:All r.C)
  (hn:∀ q,lo≤q→q < lo + r.new.length→μ q=none):Xb P o a w (Post w0 μ lo w r):=by
 have hv:∀ x,Rep w0.heap μ (opd st x) (a.eval x):=fun x=>hr.opd x
 unfold evp at h
 split at h
 ·rename_i x ho
  simp only [Option.some.injEq] at h;subst h
  exact Xb.value (v:=a.eval x) (w':=w) (by simp [execOp,ho]) (Post.plain (hv x))
 ·rename_i x ho
  simp only [Option.some.injEq] at h;subst h
  exact Xb.value (v:=a.eval x) (w':=w) (by simp [execOp,ho]) (Post.plain (hv x))
 ·rename_i c x y ho
  split at h
  ·rename_i b ans' hc
   simp only [Option.some.injEq] at h;subst h
   have hc':=hv c
   rw [hc] at hc'
   generalize hce:a.eval c=cv at hc'
   cases hc'
   have:=hC.1;subst this
   exact Xb.value (v:=a.eval x) (w':=w) (by simp [execOp,ho,hce,asBool]) (Post.plain (hv x))
  ·rename_i b ans' hc
   simp only [Option.some.injEq] at h;subst h
   have hc':=hv c
   rw [hc] at hc'
   generalize hce:a.eval c=cv at hc'
   cases hc'
   have:=hC.1;subst this
   exact Xb.value (v:=a.eval y) (w':=w) (by simp [execOp,ho,hce,asBool]) (Post.plain (hv y))
  ·cases h
 ·rename_i t ho
  split at h
  ·rename_i d hd
   simp only [Option.some.injEq] at h;subst h
   obtain ⟨z,hz,hpw⟩:=X5c (hE.T t d hd) w0.heap μ w
   refine Xb.value (v := .pointer (some ⟨w.heap.size,0,none⟩)) (w':=newB w z.cells t) ?_ ?_
   ·simp only [execOp,ho,Instr.alloc,Sem.run_bind,hz,Result.andThen_ok,newVar,run_newRow',Sem.run_pure]
   ·refine Post.new (p:=⟨w.heap.size,d.zero.length,0,0,[],false⟩) (hn lo (Nat.le_refl _) (by simp)) rfl rfl (fun μ' hs' => ?_) (fun μ' e => ?_)
    ·exact ⟨rfl,rfl,rfl,z.cells,Xq _ _ _,Nat.le_of_eq hpw.1.symm,fun j c e=>(hpw.2 j c e).mono hs'⟩
    ·have:=Rep.ptr (H:=w0.heap) lo 0 0 _ e
     simpa using this
  ·cases h
 ·rename_i t x ho
  split at h
  ·rename_i cs hcs
   simp only [Option.some.injEq] at h;subst h
   have hpw:=X4p (hv x) hcs
   refine Xb.value (v := .pointer (some ⟨w.heap.size,0,none⟩)) (w':=newB w (a.eval x).cells t) ?_ ?_
   ·simp only [execOp,ho,Instr.box,Sem.run_bind,newVar,run_newRow',Result.andThen_ok,Sem.run_pure]
   ·refine Post.new (p:=⟨w.heap.size,cs.length,0,0,[],false⟩) (hn lo (Nat.le_refl _) (by simp)) rfl rfl (fun μ' hs' => ?_) (fun μ' e => ?_)
    ·exact ⟨rfl,rfl,rfl,_,Xq _ _ _,Nat.le_of_eq hpw.1.symm,fun j c e=>(hpw.2 j c e).mono hs'⟩
    ·have:=Rep.ptr (H:=w0.heap) lo 0 0 _ e
     simpa using this
  ·cases h
 ·rename_i t parts ho
  obtain ⟨h1,v,h2,h3⟩:=X5W (P:=P) (w:=w) hE.T hv h
  exact Xb.value (v:=v) (w':=w) (by simp only [execOp,ho,Sem.run_bind];rw [h2];simp) (Post.of_plain h1 .none h3)
 ·rename_i t n parts ho
  have hnl:μ lo=none:=by
   refine hn lo (Nat.le_refl _) ?_
   unfold X67 at h
   repeat' split at h
   all_goals first | (cases h;done) | (simp only [Option.some.injEq] at h;subst h;simp)
  obtain ⟨v,w',h2,h3⟩:=X7I (P:=P) (w:=w) hE.T hv hnl h
  exact Xb.value (v:=v) (w':=w') (by simp only [execOp,ho,Sem.run_bind];rw [h2];simp) h3
 ·rename_i t x ho
  obtain ⟨h1,v,h2,h3⟩:=X6q hE.T hr.mem (hv x) h hC
  exact Xb.value (v:=v) (w':=w) (by simp [execOp,ho,h2]) (Post.of_plain h1 .none h3)
 ·rename_i x ho
  have hx:=hv x
  split at h
  ·rename_i q i off hq
   simp only [Option.some.injEq] at h;subst h
   rw [hq] at hx
   generalize hxe:a.eval x=xv at hx
   cases hx with | ptr _ _ _ p hp=>exact Xb.value (v := .pointer (some ⟨p.blk,i * p.es + off,none⟩)) (w':=w) (by simp [execOp,ho,hxe]) (Post.plain (.ptr _ _ _ p hp))
  ·rename_i cs off hq
   simp only [Option.some.injEq] at h;subst h
   rw [hq] at hx
   generalize hxe:a.eval x=xv at hx
   cases hx with | ref _ _ bl base val h1 h2=>exact Xb.value (v := .pointer (some ⟨bl,base + off,none⟩)) (w':=w) (by simp [execOp,ho,hxe]) (Post.plain (.ref cs off bl base val h1 h2))
  ·rename_i g cap hq
   simp only [Option.some.injEq] at h;subst h
   rw [hq] at hx
   generalize hxe:a.eval x=xv at hx
   cases hx with | fn _ _ vs h1 h2=>exact Xb.value (v := .func (.func g) #[] vs) (w':=w) (by simp [execOp,ho,hxe]) (Post.plain (.fn g cap vs h1 h2))
  ·cases h
 ·rename_i op t x y ty ho
  obtain ⟨h1,v,w',h2,h3,h4⟩:=X7K (P:=P) (w:=w) (t:=t) (X:=x) (Y:=y) (fun hb=>X5Y hE.T hb) (hv x) (hv y) h hC
  refine Xb.value (v:=v) (w':=w') ?_ (Post.of_plain h1 h3 h4)
  simp only [execOp,ho]
  rw [Sem.run_bind,h2];rfl
 ·rename_i op t x ho
  obtain ⟨h1,v,h2,h3⟩:=X8b (P:=P) (w:=w) (hv x) h hC
  exact Xb.value (v:=v) (w':=w) (by simp [execOp,ho,h2]) (Post.of_plain h1 .none h3)
 ·rename_i s d x ho
  obtain ⟨h1,v,w',h2,h3,h4⟩:=X6p (P:=P) (w:=w) hE.T (hv x) h hC
  exact Xb.value (v:=v) (w':=w') (by simp [execOp,ho,h2]) (Post.of_plain h1 h3 h4)
 ·rename_i fn first captured ho
  split at h
  ·rename_i _ g hfst
   simp only [Option.some.injEq] at h;subst h
   have hf0:first=#[]:=by cases first;simp at hfst;rw [hfst]
   have hpw:=X6y hv captured
   exact Xb.value (v := .func (.func g) #[] (captured.map a.eval)) (w':=w) (by simp [execOp,ho,Instr.makeFunc,hf0]) (Post.plain (.fn g _ _ hpw.1 hpw.2))
  ·cases h
 ·rename_i t l c ho
  have hnl:μ lo=none:=by
   refine hn lo (Nat.le_refl _) ?_
   unfold X4G at h
   repeat' split at h
   all_goals first | (cases h;done) | (simp only [Option.some.injEq] at h;subst h;simp)
  obtain ⟨v,w',h2,h3⟩:=X6s (P:=P) hE.T hnl (hv l) (hv c) h hC
  exact Xb.value (v:=v) (w':=w') (by simp only [execOp,ho,Sem.run_bind];rw [h2];simp) h3
 ·rename_i t x ho
  split at h
  ·rename_i d r hd hx
   split at h
   ·rename_i n e hkd
    split at h
    ·rename_i de hde
     simp only [Option.some.injEq] at h;subst h
     obtain ⟨u,hu,hk,_⟩:=(hE.T t d hd).desc
     rw [hkd] at hk
     cases u<;>simp only [Xa] at hk
     rw [hk.1,hk.2] at hu
     obtain ⟨inf,hinf,_⟩:=hE.T.info hde
     have hxv:=hv x
     rw [hx] at hxv
     generalize hxe:a.eval x=xv at hxv
     cases hxv with
     | ptr _ _ _ p hp =>
     refine Xb.value (v := .slice (some ⟨p.blk,0,none⟩) n n) (w':=w) ?_ (Post.plain (.bx r n n p hp (Nat.le_refl _)))
     simp [execOp,ho,hxe,Instr.sliceAt,run_underlying hu,Instr.sureAddr,Instr.sliceBounds,run_sizeOf' w hinf,Addr.add]
    ·cases h
   ·cases h
  ·cases h
 ·rename_i t x lo ho
  split at h
  ·rename_i d l k n hd hx hl
   split at h
   ·rename_i e hkd
    split at h
    ·rename_i de hde
     simp only [Option.some.injEq] at h;subst h
     obtain ⟨⟨c1,c2⟩,c3,_⟩:=hC
     obtain ⟨u,hu,hk,_⟩:=(hE.T t d hd).desc
     rw [hkd] at hk
     cases u<;>simp only [Xa] at hk
     rw [hk] at hu
     obtain ⟨inf,hinf,hsz,_⟩:=hE.T.info hde
     have hxv:=hv x
     have hlv:=hv lo
     rw [hx] at hxv
     rw [hl] at hlv
     generalize hxe:a.eval x=xv at hxv
     generalize hle:a.eval lo=lv at hlv
     cases hlv with
     | i _ _ =>
     obtain ⟨m,rfl⟩:=Int.eq_ofNat_of_zero_le c1
     rw [Int.toNat_natCast] at c2
     have hex:∀ (b:Option Addr) (cap:Nat),xv = .slice b l.length cap →
       (Instr.sliceAt t xv (some (.int k (m:Int))) none none).run P w = .ok (.slice (if cap=m then b else b.map (·.add (m * de.size))) (l.length - m) (cap - m)) w:=by
      intro b cap hb
      subst hb
      have hb2:(Instr.sliceBound (.int k (m:Int)) l.length .sliceB).run P w = .ok m w:=by
       simp [Instr.sliceBound,asIntOf,c2]
      simp [Instr.sliceAt,Instr.slice,run_underlying hu,Instr.sliceBounds,hb2,run_sizeOf' w hinf,hsz]
     cases hxv with
     | slE b c =>
      have hm0:m=0:=by simpa using c2
      subst hm0
      refine Xb.value (v := .slice (if c=0 then b else b.map (·.add (0 * de.size))) 0 (c - 0)) (w':=w) ?_ (Post.plain ?_)
      ·have:=hex b c rfl
       simp only [execOp,ho,Option.map_some,Option.map_none,hxe,hle,Sem.run_bind,this,Result.andThen_ok];rfl
      ·simp only [Int.toNat_natCast,List.drop_nil];exact .slE _ _
     | sl _ es bl off c val h1 h2 h3 h4 =>
      refine Xb.value (v := .slice (if c=m then some ⟨bl,off,none⟩ else (some (⟨bl,off,none⟩:Addr)).map (·.add (m * de.size))) (l.length - m) (c - m)) (w':=w) ?_ (Post.plain ?_)
      ·have:=hex (some ⟨bl,off,none⟩) c rfl
       simp only [execOp,ho,Option.map_some,Option.map_none,hxe,hle,Sem.run_bind,this,Result.andThen_ok];rfl
      ·simp only [Int.toNat_natCast]
       by_cases hml:m=l.length
       ·subst hml
        rw [List.drop_length,Nat.sub_self];exact .slE _ _
       ·have hes:es=de.size:=by
         have:=h1 0 _ (List.getElem?_eq_getElem (by omega:0 < l.length))
         simp only [List.all_eq_true,beq_iff_eq] at c3
         rw [← this];exact c3 _ (List.getElem_mem _)
        rw [if_neg (by omega),← List.length_drop,Option.map_some,Xy,← hes]
        refine .sl _ es bl (off + m * es) (c - m) (fun i j=>val (m + i) j) (fun i cs e=>h1 (m + i) cs (by rwa [List.getElem?_drop] at e)) (fun i cs j x e e' => ?_) (fun i cs j x e e'=>h3 (m + i) cs j x (by rwa [List.getElem?_drop] at e) e') (by rw [List.length_drop];omega)
        have:=h2 (m + i) cs j x (by rwa [List.getElem?_drop] at e) e'
        rw [show off + m * es + (i * es + j)=off + ((m + i) * es + j) from by rw [Nat.add_mul];omega]
        exact this
    ·cases h
   ·cases h
  ·cases h
 ·rename_i s x f ho
  obtain ⟨h1,v,h2,h3⟩:=X5T (P:=P) (w:=w) hE.T (hv x) h
  exact Xb.value (v:=v) (w':=w) (by simp [execOp,ho,h2]) (Post.of_plain h1 .none h3)
 ·rename_i t x i ho
  obtain ⟨h1,v,h2,h3⟩:=X5U (P:=P) hE.T hr.mem (hv x) (hv i) h hC
  exact Xb.value (v:=v) (w':=w) (by simp [execOp,ho,h2]) (Post.of_plain h1 .none h3)
 ·rename_i x i ho
  have hx:=hv x
  split at h
  ·rename_i vs hvs
   split at h
   ·rename_i v hvi
    simp only [Option.some.injEq] at h;subst h
    rw [hvs] at hx
    generalize hxe:a.eval x=xv at hx
    cases hx with
    | tup _ us h1 h2 =>
     have hlt:i < us.size:=by
      rw [h1]
      rcases Nat.lt_or_ge i vs.length with h | h
      ·exact h
      ·rw [List.getElem?_eq_none h] at hvi;cases hvi
     have:=h2 i v hvi
     rw [Array.getD_eq_getD_getElem?,Array.getElem?_eq_getElem hlt] at this
     exact Xb.value (v:=us[i]) (w':=w) (by simp [execOp,ho,hxe,Instr.extract,hlt]) (Post.plain this)
   ·cases h
  ·cases h
 ·rename_i c ho
  exact X6z hE hr ho h hC hn
 ·cases h
end
end Go.Ab
