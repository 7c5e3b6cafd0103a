/- Steps of loops, parts of code, facts about lists of cells. -/
import Derived.Test.YtoibkmljibnjnaaA17
set_option linter.unusedVariables false
set_option linter.unusedSimpArgs false
namespace Go.Ab
open Go.RowKit
def sub:Code→List Nat→Code
 | c,[]=>c
 | .seq a _,0 :: p=>sub a p
 | .seq _ b,1 :: p=>sub b p
 | .cond _ a _,0 :: p=>sub a p
 | .cond _ _ b,1 :: p=>sub b p
 | .block _ c,_ :: p=>sub c p
 | .loop c,_ :: p=>sub c p
 | c,_=>c
def X0 (fn:Func):Code:=fn.body.getD .skip
theorem X1e {P:Program} {N:Nat} {body:Code} {st st2 st':St} {e:Ex} (h:Lp P N body st e st') (hs:st2=st):Lp P N body st2 e st':=by
 subst hs;exact h
theorem Fn.castA {P:Program} {g:FuncId} {args args':List AV} {r:AV} {n:List Row} (h:Fn P g args r n) (ha:args=args'):Fn P g args' r n:=by
 subst ha;exact h
/- elements of lists, in cells -/
def cI (k:IntKind) (n:Int):List AV:=[.i k n]
def cF (k:FloatKind) (n:Nat):List AV:=[.f k n]
def cB (n:Bool):List AV:=[.b n]
def cL {α:Type} (c:α→List AV) (l:List α):List AV:=[.sl (l.map c)]
theorem X4b {α:Type} [Inhabited α] {l:List α} {c:α→List AV} {k:Nat} (h:k < l.length):(l.map c)[k]? = some (c (l.getD k default)):=by
 simp [h]
theorem XaD {α:Type} [Inhabited α] {l:List α} {c:α→List AV} {i:Int} (h0:0≤i) (h:i < l.length):0≤i∧(l.map c)[i.toNat]? = some (c (l.getD i.toNat default)) :=
 ⟨h0,X4b (by omega)⟩
theorem X75 {α:Type} {l:List α} {c:α→List AV} {i:Int} (h0:0≤i) (h:i < l.length):0≤i∧i.toNat < (l.map c).length :=
 ⟨h0,by simp;omega⟩
theorem XaE {α:Type} {l:List α} {c:α→List AV}:((l.map c).length:Int)=(l.length:Int):=by simp
theorem X3g {α:Type} {l:List α} {c:α→List AV} {es:Nat} (h:∀ x,((c x).length == es && (c x).all isS)=true):(l.map c).all (fun cs=>cs.length == es && cs.all isS)=true:=by
 simp only [List.all_map,List.all_eq_true]
 intro x _;exact h x
theorem Xt {n:Int} (h1:-9223372036854775808≤n) (h2:n≤9223372036854775807):IntKind.i64.wrap n=n:=by
 simp only [IntKind.wrap,IntKind.bits,IntKind.signed]
 simp
 split<;>omega
end Go.Ab
