/- What the evaluator is told, and that what is owed holds, told step by step: both lists come of the facts' own forms. -/
import Derived.Test.YtiddhiepmakopaaA30
namespace Go.Ab
def Scr (_:List Ans) (C:List Prop):Prop:=All C
section
variable {P:Program} {a:List Ans} {C:List Prop}
theorem sN:Scr [] []:=trivial
theorem sK (ks:List Nat) (s:Scr a C):Scr (.keep ks :: a) C:=s
theorem sC {p:Prop} (h:p) (s:Scr a C):Scr a (p :: C):=⟨h,s⟩
theorem sB {x b:Bool} (h:x=b) (s:Scr a C):Scr (.bo b :: a) ((x=b) :: C):=⟨h,s⟩
theorem sB' {x b:Bool} (h:x=b) (s:Scr a C):Scr (.bo (!b) :: a) (((!x)=!b) :: C):=⟨congrArg not h,s⟩
theorem sI (e:Int) (h1:-9223372036854775808≤e) (h2:e≤9223372036854775807) (s:Scr a C):Scr (.num e :: a) ((IntKind.i64.wrap e=e) :: C):=⟨X7e h1 h2,s⟩
theorem sQ (e:Int) (s:Scr a C):Scr (.num e :: a) ((e=e) :: C):=⟨rfl,s⟩
theorem sF {g:FuncId} {args:List AV} {r:AV} {rows:List Row} (h:Fn P g args r rows) (s:Scr a C):Scr (.call r rows :: a) (Fn P g args r rows :: C):=⟨h,s⟩
theorem sL (mask:List Bool) (n:Nat) {N:Nat} {body:Code} {st st':St} {e:Ex} (h:Lp P N body st e st') (s:Scr a C):Scr (.loop mask n e st' :: a) (Lp P N body st e st' :: C):=⟨h,s⟩
end
theorem X2n {P:Program} {N:Nat} {body:Code} {st:St} {α:Type} (f:α→Ex × St) {x y:α} (h:Lp P N body st (f x).1 (f x).2) (e:x=y):Lp P N body st (f y).1 (f y).2:=e ▸ h
theorem fnS {P:Program} {E:Env} (hE:EOk P E) (hm:P.follows .mixedOrders=true) {f:FuncId} {fn:Func} {c:Code} {rows':List Row} {args:List AV} {ans:List Ans} (ps:List (NPos × Row)) (r:AV) (R:List Row) {C:List Prop}
  (hf : P.funcs[f]? = some fn) (s : Scr ans C) (hb : fn.body = some c) (hn : (fn.name == "runtime.NumGoroutine") = false) (h : X63 P E fn c [] args ans ps = some (r, R, C)) (hok : X1n R = true) {r' : AV} (hr : r = r') (hR : R = rows') : Fn P f args r' rows' := by
 subst hr;subst hR;exact XW.fn (X4m hE hm hf hb hn h s) hok
theorem X36 {P:Program} {E:Env} (hE:EOk P E) (hm:P.follows .mixedOrders=true) {body:Code} {st st3 st':St} {ans:List Ans} (ps:List (NPos × Row)) (mask:List Bool) (ks:List Nat) {e:Ex} {C:List Prop}
  (k:Lp P E.np body st3 e st') (s:Scr ans C) (h:X1Q P E body st ans ps mask ks=some (.norm,st3,C)):Lp P E.np body st e st':=X62 hE hm h s rfl k
theorem outR {P:Program} {E:Env} (hE:EOk P E) (hm:P.follows .mixedOrders=true) {body:Code} {st st3:St} {ans:List Ans} (ps:List (NPos × Row)) (mask:List Bool) (ks:List Nat) {e:Ex} {C:List Prop}
  (s:Scr ans C) (h:X1Q P E body st ans ps mask ks=some (e,st3,C)) (he:e ≠ .norm):Lp P E.np body st e st3:=X6p hE hm h s he rfl
end Go.Ab
