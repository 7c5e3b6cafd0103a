/- What the evaluator is told, and that what is owed holds, told step by step: both lists come of the facts' own forms. -/
import Derived.Test.YtpndflbllggeiaaGreatA30
namespace Go.Ab
def Scr (_:List Ans) (C:List Prop):Prop:=All C
section
variable {P:Program} {a:List Ans} {C:List Prop}
theorem sN:Scr [] []:=trivial
theorem sK (ks:List Nat) (s:Scr a C):Scr (.keep ks :: a) C:=s
theorem sA (x:Ans) (s:Scr a C):Scr (x :: a) C:=s
theorem sC {p:Prop} (h:p) (s:Scr a C):Scr a (p :: C):=⟨h,s⟩
theorem sB {x b:Bool} (h:x=b) (s:Scr a C):Scr (.bo b :: a) ((x=b) :: C):=⟨h,s⟩
theorem sB' {x b:Bool} (h:x=b) (s:Scr a C):Scr (.bo (!b) :: a) (((!x)=!b) :: C):=⟨congrArg not h,s⟩
theorem sM {x n:Int} (h:x=n) (s:Scr a C):Scr (.num n :: a) ((x=n) :: C):=⟨h,s⟩
theorem sW (k:IntKind) (e:Int) (s:Scr a C):Scr (.num (k.wrap e) :: a) ((k.wrap e=k.wrap e) :: C):=⟨rfl,s⟩
theorem sI (e:Int) (h1:-9223372036854775808≤e) (h2:e≤9223372036854775807) (s:Scr a C):Scr (.num e :: a) ((IntKind.i64.wrap e=e) :: C):=⟨Xb h1 h2,s⟩
theorem sQ (e:Int) (s:Scr a C):Scr (.num e :: a) ((e=e) :: C):=⟨rfl,s⟩
theorem sE {l:List (List AV)} {k:Nat} {cs:List AV} (h:l[k]? = some cs) (s:Scr a C):Scr (.el cs :: a) ((l[k]? = some cs) :: C):=⟨h,s⟩
theorem sG {α:Type} [Inhabited α] (c:α→List AV) (l:List α) (i:Int) (h0:0≤i) (h:i < l.length) (s:Scr a C):Scr (.el (c (l.getD i.toNat default)) :: a) ((0≤i∧(l.map c)[i.toNat]? = some (c (l.getD i.toNat default))) :: C):=⟨X7S h0 h,s⟩
theorem sV {α:Type} [Inhabited α] (c:α→List AV) (l:List α) (k:Nat) (h:k < l.length) (s:Scr a C):Scr (.el (c (l.getD k default)) :: a) (((l.map c)[k]? = some (c (l.getD k default))) :: C):=⟨X1q h,s⟩
theorem sX {α:Type} (c:α→List AV) (l:List α) (i:Int) (h0:0≤i) (h:i < l.length) (s:Scr a C):Scr a ((0≤i∧i.toNat < (l.map c).length) :: C):=⟨XC h0 h,s⟩
theorem sZ {α:Type} (c:α→List AV) (l:List α) (s:Scr a C):Scr (.num (l.length:Int) :: a) ((((l.map c).length:Int)=(l.length:Int)) :: C):=⟨X7T,s⟩
theorem sF {g:FuncId} {args:List AV} {r:AV} {rows:List Row} (h:Fn P g args r rows) (s:Scr a C):Scr (.call r rows :: a) (Fn P g args r rows :: C):=⟨h,s⟩
theorem sS {g:FuncId} {R R':List Row} {args:List AV} {r:AV} (h:X4 P g R args r R') (s:Scr a C):Scr (.calls r R' :: a) (X4 P g R args r R' :: C):=⟨h,s⟩
theorem sL (mask:List Bool) (n:Nat) {N:Nat} {body:Code} {st st':St} {e:Ex} (h:Lp P N body st e st') (s:Scr a C):Scr (.loop mask n e st' :: a) (Lp P N body st e st' :: C):=⟨h,s⟩
end
theorem Xl {α:Type} {c:α→List AV} {l:List α} {k:Nat} (h:k < l.length):k < (l.map c).length:=by simpa using h
theorem X2g {α:Type} {c:α→List AV} {l:List (List α)} {k:Nat} (h:k < l.length):k < (l.map fun l=>l.map c).length:=by simpa using h
theorem X1V {α:Type} {c:α→List AV} {l:List (List α)} {i:Int} (h0:0≤i) (h:i.toNat < l.length):0≤i∧i.toNat < (l.map fun l=>l.map c).length:=⟨h0,by simpa using h⟩
theorem X1 {P:Program} {N:Nat} {body:Code} {st:St} {α:Type} (f:α→Ex × St) {x y:α} (h:Lp P N body st (f x).1 (f x).2) (e:x=y):Lp P N body st (f y).1 (f y).2:=e ▸ h
theorem X23 {P:Program} {E:Env} (hE:EOk P E) (hm:P.follows .mixedOrders=true) {f:FuncId} {fn:Func} {c:Code} (rows:List Row) {rows':List Row} {args:List AV} {ans:List Ans} (ps:List (NPos × Row)) (r:AV) (R:List Row) {C:List Prop}
  (hf : P.funcs[f]? = some fn) (s : Scr ans C) (hb : fn.body = some c) (hn : (fn.name == "runtime.NumGoroutine") = false) (h : X4P P E fn c rows args ans ps = some (r, R, C)) {r' : AV} (hr : r = r') (hR : R = rows') : X4 P f rows args r' rows' := by
 subst hr;subst hR;exact X30 hE hm hf hb hn h s
theorem fnS {P:Program} {E:Env} (hE:EOk P E) (hm:P.follows .mixedOrders=true) {f:FuncId} {fn:Func} {c:Code} {rows':List Row} {args:List AV} {ans:List Ans} (ps:List (NPos × Row)) (r:AV) (R:List Row) {C:List Prop}
  (hf : P.funcs[f]? = some fn) (s : Scr ans C) (hb : fn.body = some c) (hn : (fn.name == "runtime.NumGoroutine") = false) (h : X4P P E fn c [] args ans ps = some (r, R, C)) (hok : X1v R = true) {r' : AV} (hr : r = r') (hR : R = rows') : Fn P f args r' rows' := by
 subst hr;subst hR;exact X4.fn (X30 hE hm hf hb hn h s) hok
theorem X9 {P:Program} {E:Env} (hE:EOk P E) (hm:P.follows .mixedOrders=true) {body:Code} {st st3 st':St} {ans:List Ans} (ps:List (NPos × Row)) (mask:List Bool) (ks:List Nat) {e:Ex} {C:List Prop} (st2:St)
  (s:Scr ans C) (h:X1K P E body st ans ps mask ks=some (.norm,st2,C)) (hs:st2=st3) (k:Lp P E.np body st3 e st'):Lp P E.np body st e st':=X3W hE hm h s hs k
theorem X8 {P:Program} {E:Env} (hE:EOk P E) (hm:P.follows .mixedOrders=true) {body:Code} {st st3 st':St} {ans:List Ans} (ps:List (NPos × Row)) (mask:List Bool) (ks:List Nat) {e:Ex} {C:List Prop}
  (k:Lp P E.np body st3 e st') (s:Scr ans C) (h:X1K P E body st ans ps mask ks=some (.norm,st3,C)):Lp P E.np body st e st':=X3W hE hm h s rfl k
theorem outR {P:Program} {E:Env} (hE:EOk P E) (hm:P.follows .mixedOrders=true) {body:Code} {st st3:St} {ans:List Ans} (ps:List (NPos × Row)) (mask:List Bool) (ks:List Nat) {e:Ex} {C:List Prop}
  (s:Scr ans C) (h:X1K P E body st ans ps mask ks=some (e,st3,C)) (he:e ≠ .norm):Lp P E.np body st e st3:=X72 hE hm h s he rfl
end Go.Ab
