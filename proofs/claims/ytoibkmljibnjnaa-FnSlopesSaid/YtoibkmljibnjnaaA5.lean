/- The evaluator of the pure operations, one by one. -/
import Derived.Test.YtoibkmljibnjnaaA4
set_option linter.unusedVariables false
set_option linter.unusedSimpArgs false
namespace Go.Ab
open Go.RowKit
structure Env where
 T:TypeId→Option TD
 X:FuncId→Option XK
 np:Nat:=0
structure EOk (P:Program) (E:Env):Prop where
 T:TOk P E.T
 X:∀ g x,E.X g=some x→XOk P g x
def isS:AV→Bool
 | .b _ | .i _ _ | .f _ _=>true
 | _=>false
theorem X46 {H:Array Obj} {μ:Nat→Option FP} {c:AV} {v:Value} (h:Rep H μ c v) (hs:isS c=true):RepS c v:=by
 cases h<;>simp [isS] at hs
 ·rfl
 ·rfl
 ·exact ⟨_,rfl,‹_›,‹_›⟩
/- arithmetic and comparisons -/
def bitsOf (op:BinOp) (k:IntKind) (x y:Int):Int :=
 let a:=BitVec.ofInt k.bits x
 let b:=BitVec.ofInt k.bits y
 match op with
 | .and=>k.wrap (a &&& b).toNat
 | .or=>k.wrap (a ||| b).toNat
 | .xor=>k.wrap (a ^^^ b).toNat
 | _=>k.wrap (a &&& ~~~b).toNat
def X2o (op:BinOp) (x y:AV) (bt:Bool) (ans:List Ans):Option PR :=
 match x,y with
 | .i k a, .i k' b =>
  if k=k' then
   match op,ans with
   | .add, .num n :: ans=>some ⟨.i k n,[],ans,[k.wrap (a + b)=n]⟩
   | .sub, .num n :: ans=>some ⟨.i k n,[],ans,[k.wrap (a - b)=n]⟩
   | .mul, .num n :: ans=>some ⟨.i k n,[],ans,[k.wrap (a * b)=n]⟩
   | .quo, .num n :: ans=>some ⟨.i k n,[],ans,[b≠0,k.wrap (a.tdiv b)=n]⟩
   | .rem, .num n :: ans=>some ⟨.i k n,[],ans,[b≠0,a.tmod b=n]⟩
   | .and, .num n :: ans=>some ⟨.i k n,[],ans,[bitsOf .and k a b=n]⟩
   | .or, .num n :: ans=>some ⟨.i k n,[],ans,[bitsOf .or k a b=n]⟩
   | .xor, .num n :: ans=>some ⟨.i k n,[],ans,[bitsOf .xor k a b=n]⟩
   | .andNot, .num n :: ans=>some ⟨.i k n,[],ans,[bitsOf .andNot k a b=n]⟩
   | .shl, .num n :: ans=>some ⟨.i k n,[],ans,[0≤b,k.wrap (a * 2 ^ (min b.toNat k.bits))=n]⟩
   | .shr, .num n :: ans=>some ⟨.i k n,[],ans,[0≤b,a.fdiv (2 ^ (min b.toNat k.bits))=n]⟩
   | .eql,ans=>some ⟨.b (a == b),[],ans,[]⟩
   | .neq,ans=>some ⟨.b (a != b),[],ans,[]⟩
   | .lss,ans=>some ⟨.b (decide (a < b)),[],ans,[]⟩
   | .leq,ans=>some ⟨.b (decide (a≤b)),[],ans,[]⟩
   | .gtr,ans=>some ⟨.b (decide (a > b)),[],ans,[]⟩
   | .geq,ans=>some ⟨.b (decide (a ≥ b)),[],ans,[]⟩
   | _,_=>none
  else match op,ans with
   | .shr, .num n :: ans=>some ⟨.i k n,[],ans,[0≤b,a.fdiv (2 ^ (min b.toNat k.bits))=n]⟩
   | _,_=>none
 | .f k a, .f k' b =>
  if k=k' then
   match op with
   | .add=>some ⟨.f k (fop .add k a b),[],ans,[]⟩
   | .sub=>some ⟨.f k (fop .sub k a b),[],ans,[]⟩
   | .mul=>some ⟨.f k (fop .mul k a b),[],ans,[]⟩
   | .quo=>some ⟨.f k (fop .quo k a b),[],ans,[]⟩
   | .eql=>some ⟨.b (fcmp .eql k a b),[],ans,[]⟩
   | .neq=>some ⟨.b (fcmp .neq k a b),[],ans,[]⟩
   | .lss=>some ⟨.b (fcmp .lss k a b),[],ans,[]⟩
   | .leq=>some ⟨.b (fcmp .leq k a b),[],ans,[]⟩
   | .gtr=>some ⟨.b (fcmp .gtr k a b),[],ans,[]⟩
   | .geq=>some ⟨.b (fcmp .geq k a b),[],ans,[]⟩
   | _=>none
  else none
 | .b a, .b b =>
  match bt,op with
  | true, .eql=>some ⟨.b (a == b),[],ans,[]⟩
  | true, .neq=>some ⟨.b (!(a == b)),[],ans,[]⟩
  | _,_=>none
 | _,_=>none
theorem XC {op:BinOp} {t:TypeId} {k:IntKind} {a b:Int} (h1:op ≠ .shl) (h2:op ≠ .shr):binOp op t (.int k a) (.int k b) =
  match op with
  | .add | .sub | .mul=>Op.intArith op k a b
  | .quo | .rem=>Op.intDiv op k a b
  | .and | .or | .xor | .andNot=>Op.intBits op k a b
  | _=>Op.intCmp op a b:=by
 cases op<;>first | (exact absurd rfl h1) | (exact absurd rfl h2) | (simp only [binOp,ne_eq,not_true_eq_false,if_false])
theorem XL {op:BinOp} {t:TypeId} {k:FloatKind} {a b:Nat} (h1:op ≠ .shl) (h2:op ≠ .shr):binOp op t (.float k a) (.float k b) =
  match op with
  | .add | .sub | .mul | .quo=>Op.floatArith op k a b
  | _=>Op.floatCmp op k a b:=by
 cases op<;>first | (exact absurd rfl h1) | (exact absurd rfl h2) | (simp only [binOp,ne_eq,not_true_eq_false,if_false])
theorem X7E {P:Program} {w:World} {H:Array Obj} {μ:Nat→Option FP} {op:BinOp} {t:TypeId} {X Y:Operand} {x y:AV} {vx vy:Value} {bt:Bool} {ans:List Ans} {r:PR}
  (hb:bt=true→P.underlying t=some .bool) (hx:Rep H μ x vx) (hy:Rep H μ y vy) (h:X2o op x y bt ans=some r) (hC:All r.C) :
  r.new=[]∧∃ v w',((do eqGuard op t X Y vx vy;binOp op t vx vy):Sem Value).run P w = .ok v w'∧Drew w w'∧Rep H μ r.av v:=by
 cases hx with
 | i k a =>
  cases hy with
  | i k' b =>
   simp only [X2o] at h
   split at h
   ·rename_i hk;subst hk
    have hg:∀ op,(eqGuard op t X Y (.int k a) (.int k b)).run P w = .ok () w:=by
     intro op;unfold eqGuard;split<;>simp
    rw [Sem.run_bind,hg,Result.andThen_ok]
    cases op
    case add =>
     cases ans with | nil=>cases h | cons q ans=>cases q<;>simp only [Option.some.injEq,reduceCtorEq] at h;subst h;exact ⟨rfl, .int k _,w,by rw [XC (by decide) (by decide)];exact congrArg (fun z=>Result.ok (Value.int k z) w) hC.1, .none, .i _ _⟩
    case sub =>
     cases ans with | nil=>cases h | cons q ans=>cases q<;>simp only [Option.some.injEq,reduceCtorEq] at h;subst h;exact ⟨rfl, .int k _,w,by rw [XC (by decide) (by decide)];exact congrArg (fun z=>Result.ok (Value.int k z) w) hC.1, .none, .i _ _⟩
    case mul =>
     cases ans with | nil=>cases h | cons q ans=>cases q<;>simp only [Option.some.injEq,reduceCtorEq] at h;subst h;exact ⟨rfl, .int k _,w,by rw [XC (by decide) (by decide)];exact congrArg (fun z=>Result.ok (Value.int k z) w) hC.1, .none, .i _ _⟩
    case quo =>
     cases ans with | nil=>cases h | cons q ans=>cases q<;>simp only [Option.some.injEq,reduceCtorEq] at h;subst h;exact ⟨rfl, .int k _,w,by rw [XC (by decide) (by decide)];simp only [Op.intDiv,if_neg hC.1];exact congrArg (fun z=>Result.ok (Value.int k z) w) hC.2.1, .none, .i _ _⟩
    case rem =>
     cases ans with | nil=>cases h | cons q ans=>cases q<;>simp only [Option.some.injEq,reduceCtorEq] at h;subst h;exact ⟨rfl, .int k _,w,by rw [XC (by decide) (by decide)];simp only [Op.intDiv,if_neg hC.1];exact congrArg (fun z=>Result.ok (Value.int k z) w) hC.2.1, .none, .i _ _⟩
    case and =>
     cases ans with | nil=>cases h | cons q ans=>cases q<;>simp only [Option.some.injEq,reduceCtorEq] at h;subst h;exact ⟨rfl, .int k _,w,by rw [XC (by decide) (by decide)];exact congrArg (fun z=>Result.ok (Value.int k z) w) hC.1, .none, .i _ _⟩
    case or =>
     cases ans with | nil=>cases h | cons q ans=>cases q<;>simp only [Option.some.injEq,reduceCtorEq] at h;subst h;exact ⟨rfl, .int k _,w,by rw [XC (by decide) (by decide)];exact congrArg (fun z=>Result.ok (Value.int k z) w) hC.1, .none, .i _ _⟩
    case xor =>
     cases ans with | nil=>cases h | cons q ans=>cases q<;>simp only [Option.some.injEq,reduceCtorEq] at h;subst h;exact ⟨rfl, .int k _,w,by rw [XC (by decide) (by decide)];exact congrArg (fun z=>Result.ok (Value.int k z) w) hC.1, .none, .i _ _⟩
    case andNot =>
     cases ans with | nil=>cases h | cons q ans=>cases q<;>simp only [Option.some.injEq,reduceCtorEq] at h;subst h;exact ⟨rfl, .int k _,w,by rw [XC (by decide) (by decide)];exact congrArg (fun z=>Result.ok (Value.int k z) w) hC.1, .none, .i _ _⟩
    case shl =>
     cases ans with
     | nil=>cases h
     | cons q ans =>
      cases q<;>simp only [Option.some.injEq,reduceCtorEq] at h
      subst h
      obtain ⟨c1,c2,_⟩:=hC
      refine ⟨rfl, .int k _,w,?_, .none, .i k _⟩
      have hq:binOp .shl t (.int k a) (.int k b)=Op.shift .shl k a k b:=by simp only [binOp]
      rw [hq];unfold Op.shift;rw [if_neg (by omega),← c2];rfl
    case shr =>
     cases ans with
     | nil=>cases h
     | cons q ans =>
      cases q<;>simp only [Option.some.injEq,reduceCtorEq] at h
      subst h
      obtain ⟨c1,c2,_⟩:=hC
      refine ⟨rfl, .int k _,w,?_, .none, .i k _⟩
      have hq:binOp .shr t (.int k a) (.int k b)=Op.shift .shr k a k b:=by simp only [binOp]
      rw [hq];unfold Op.shift;rw [if_neg (by omega),← c2];rfl
    case eql=>simp only [Option.some.injEq] at h;subst h;exact ⟨rfl, .bool _,w,by rw [XC (by decide) (by decide)];rfl, .none, .b _⟩
    case neq=>simp only [Option.some.injEq] at h;subst h;exact ⟨rfl, .bool _,w,by rw [XC (by decide) (by decide)];rfl, .none, .b _⟩
    case lss=>simp only [Option.some.injEq] at h;subst h;exact ⟨rfl, .bool _,w,by rw [XC (by decide) (by decide)];rfl, .none, .b _⟩
    case leq=>simp only [Option.some.injEq] at h;subst h;exact ⟨rfl, .bool _,w,by rw [XC (by decide) (by decide)];rfl, .none, .b _⟩
    case gtr=>simp only [Option.some.injEq] at h;subst h;exact ⟨rfl, .bool _,w,by rw [XC (by decide) (by decide)];rfl, .none, .b _⟩
    case geq=>simp only [Option.some.injEq] at h;subst h;exact ⟨rfl, .bool _,w,by rw [XC (by decide) (by decide)];rfl, .none, .b _⟩
   ·rename_i hk
    cases op
    case shr =>
     cases ans with
     | nil=>cases h
     | cons q ans =>
      cases q<;>simp only [Option.some.injEq,reduceCtorEq] at h
      subst h
      obtain ⟨c1,c2,_⟩:=hC
      refine ⟨rfl, .int k _,w,?_, .none, .i k _⟩
      have hg:(eqGuard .shr t X Y (.int k a) (.int k' b)).run P w = .ok () w:=by unfold eqGuard;simp
      rw [Sem.run_bind,hg,Result.andThen_ok]
      have hq:binOp .shr t (.int k a) (.int k' b)=Op.shift .shr k a k' b:=by simp only [binOp]
      rw [hq];unfold Op.shift;rw [if_neg (by omega),← c2];rfl
    all_goals (cases ans with | nil=>cases h | cons q ans=>cases q<;>cases h)
  | _=>simp [X2o] at h
 | f k x bx h1 h2 =>
  cases hy with
  | f k' y by' h3 h4 =>
   simp only [X2o] at h
   split at h
   ·rename_i hk;subst hk
    have hg:∀ op,(eqGuard op t X Y (.float k bx) (.float k by')).run P w = .ok () w:=by
     intro op;unfold eqGuard;split<;>simp
    rw [Sem.run_bind,hg,Result.andThen_ok]
    subst h2;subst h4
    cases op
    case add =>
     simp only [Option.some.injEq] at h;subst h
     obtain ⟨rr,w',e1,e2,e3,e4⟩:=X43 (P:=P) .add k bx by' w (by simp)
     exact ⟨rfl,_,w',by rw [XL (by decide) (by decide)];exact e1,e2, .f _ _ _ e4 e3⟩
    case sub =>
     simp only [Option.some.injEq] at h;subst h
     obtain ⟨rr,w',e1,e2,e3,e4⟩:=X43 (P:=P) .sub k bx by' w (by simp)
     exact ⟨rfl,_,w',by rw [XL (by decide) (by decide)];exact e1,e2, .f _ _ _ e4 e3⟩
    case mul =>
     simp only [Option.some.injEq] at h;subst h
     obtain ⟨rr,w',e1,e2,e3,e4⟩:=X43 (P:=P) .mul k bx by' w (by simp)
     exact ⟨rfl,_,w',by rw [XL (by decide) (by decide)];exact e1,e2, .f _ _ _ e4 e3⟩
    case quo =>
     simp only [Option.some.injEq] at h;subst h
     obtain ⟨rr,w',e1,e2,e3,e4⟩:=X43 (P:=P) .quo k bx by' w (by simp)
     exact ⟨rfl,_,w',by rw [XL (by decide) (by decide)];exact e1,e2, .f _ _ _ e4 e3⟩
    case eql =>
     simp only [Option.some.injEq] at h;subst h
     exact ⟨rfl,_,w,by rw [XL (by decide) (by decide)];exact X20 (P:=P) .eql k bx by' w (by simp), .none, .b _⟩
    case neq =>
     simp only [Option.some.injEq] at h;subst h
     exact ⟨rfl,_,w,by rw [XL (by decide) (by decide)];exact X20 (P:=P) .neq k bx by' w (by simp), .none, .b _⟩
    case lss =>
     simp only [Option.some.injEq] at h;subst h
     exact ⟨rfl,_,w,by rw [XL (by decide) (by decide)];exact X20 (P:=P) .lss k bx by' w (by simp), .none, .b _⟩
    case leq =>
     simp only [Option.some.injEq] at h;subst h
     exact ⟨rfl,_,w,by rw [XL (by decide) (by decide)];exact X20 (P:=P) .leq k bx by' w (by simp), .none, .b _⟩
    case gtr =>
     simp only [Option.some.injEq] at h;subst h
     exact ⟨rfl,_,w,by rw [XL (by decide) (by decide)];exact X20 (P:=P) .gtr k bx by' w (by simp), .none, .b _⟩
    case geq =>
     simp only [Option.some.injEq] at h;subst h
     exact ⟨rfl,_,w,by rw [XL (by decide) (by decide)];exact X20 (P:=P) .geq k bx by' w (by simp), .none, .b _⟩
    all_goals cases h
   ·cases h
  | _=>simp [X2o] at h
 | b a =>
  cases hy with
  | b b =>
   simp only [X2o] at h
   cases bt with
   | false=>simp at h
   | true =>
    have hu:=hb rfl
    have he:∀ w,(Op.equal t (.bool a) (.bool b)).run P w = .ok (a == b) w:=by
     intro w;exact run_equal_bool (P:=P) w t a b hu
    have hg:∀ op,(eqGuard op t X Y (.bool a) (.bool b)).run P w = .ok () w:=by
     intro op;unfold eqGuard;split<;>simp
    rw [Sem.run_bind,hg,Result.andThen_ok]
    cases op<;>simp at h<;>subst h
    ·exact ⟨rfl,_,w,by simp [binOp,he], .none, .b _⟩
    ·exact ⟨rfl,_,w,by simp [binOp,he], .none, .b _⟩
  | _=>simp [X2o] at h
 | _=>simp [X2o] at h
def evUn (op:UnOp) (x:AV) (ans:List Ans):Option PR :=
 match op,x with
 | .not, .b x=>some ⟨.b (!x),[],ans,[]⟩
 | .neg, .f k x=>some ⟨.f k (fneg k x),[],ans,[]⟩
 | .neg, .i k n=>match ans with
  | .num m :: ans=>some ⟨.i k m,[],ans,[k.wrap (0 - n)=m]⟩
  | _=>none
 | _,_=>none
theorem X8b {P:Program} {w:World} {H:Array Obj} {μ:Nat→Option FP} {op:UnOp} {x:AV} {vx:Value} {ans:List Ans} {r:PR}
  (hx:Rep H μ x vx) (h:evUn op x ans=some r) (hC:All r.C):r.new=[]∧∃ v,(Op.unary op vx).run P w = .ok v w∧Rep H μ r.av v:=by
 cases hx with
 | b x=>cases op<;>simp [evUn] at h;subst h;exact ⟨rfl,_,by simp [Op.unary], .b _⟩
 | f k x bits h1 h2 =>
  cases op<;>simp [evUn] at h;subst h;subst h2
  exact ⟨rfl,_,by simp [Op.unary], .f _ _ _ (X3L k h1).2 (Xaz k h1)⟩
 | i k n =>
  cases op<;>simp only [evUn] at h<;>(try (cases h;done))
  cases ans with
  | nil=>cases h
  | cons q ans =>
   cases q<;>simp only [Option.some.injEq,reduceCtorEq] at h
   subst h
   exact ⟨rfl, .int k _,congrArg (fun z=>Result.ok (Value.int k z) w) hC.1, .i _ _⟩
 | _=>cases op<;>simp [evUn] at h
def X6o (T:TypeId→Option TD) (src dst:TypeId) (x:AV) (ans:List Ans):Option PR :=
 match T src,T dst with
 | some _,some d =>
  match d.kind,x with
  | .int k, .i _ n=>match ans with
   | .num m :: ans=>some ⟨.i k m,[],ans,[k.wrap n=m]⟩
   | _=>none
  | .float k, .i _ n=>some ⟨.f k (X1 k n),[],ans,[]⟩
  | .float k, .f s x=>some ⟨.f k (fcv s k x),[],ans,[X1Q s k x=true]⟩
  | .int k, .f s x=>match ans with
   | .num m :: ans=>some ⟨.i k m,[],ans,[floatToIntVal s x k=some m]⟩
   | _=>none
  | _,_=>none
 | _,_=>none
theorem X9v {s:FloatKind} {b:Nat} {k:IntKind} {m:Int} (h:floatToIntVal s (cn s b) k=some m):floatToIntVal s b k=some m:=by
 rcases hn:Xm s b with _ | _
 ·rwa [XJ hn] at h
 ·rw [X1v hn] at h
  have h2:=X1u s
  unfold Xm at h2
  unfold floatToIntVal at h
  cases hx:s.decode (XI s)<;>rw [hx] at h h2<;>simp [Ieee.Datum.isNaN] at h2
  simp [Ieee.Datum.toInt,Ieee.Datum.integral] at h
theorem X6p {P:Program} {w:World} {H:Array Obj} {μ:Nat→Option FP} {T:TypeId→Option TD} (hT:TOk P T) {src dst:TypeId} {x:AV} {vx:Value} {ans:List Ans} {r:PR}
  (hx:Rep H μ x vx) (h:X6o T src dst x ans=some r) (hC:All r.C):r.new=[]∧∃ v w',(convert src dst vx).run P w = .ok v w'∧Drew w w'∧Rep H μ r.av v:=by
 unfold X6o at h
 cases hs:T src with
 | none=>rw [hs] at h;simp at h
 | some ds =>
  cases hd:T dst with
  | none=>rw [hs,hd] at h;simp at h
  | some d =>
   rw [hs,hd] at h
   simp only at h
   obtain ⟨us,hus,_⟩:=(hT src ds hs).desc
   obtain ⟨ud,hud,hk,_⟩:=(hT dst d hd).desc
   cases hkd:d.kind with
   | int k =>
    rw [hkd] at h hk
    cases ud<;>simp [Xa] at hk
    subst hk
    cases hx with
    | i k' n =>
     simp only at h
     split at h
     ·simp at h;subst h;simp [All] at hC
      refine ⟨rfl,_,w,?_, .none, .i _ _⟩
      cases us<;>simp [convert,run_underlying hus,run_underlying hud,Conv.intToInt,hC]
     ·cases h
    | f s x bits h1 h2 =>
     simp only at h
     split at h
     ·simp at h;subst h;simp [All] at hC;subst h2
      exact ⟨rfl,_,w,run_convert_float_int w src dst s _ bits _ (by rw [hus];rfl) hud (X9v hC), .none, .i _ _⟩
     ·cases h
    | _=>simp at h
   | float k =>
    rw [hkd] at h hk
    cases ud<;>simp [Xa] at hk
    subst hk
    cases hx with
    | i k' n =>
     simp at h;subst h
     refine ⟨rfl,_,w,?_, .none, .f _ _ _ (X6j _ n).2 (X6j _ n).1⟩
     cases us<;>simp [convert,run_underlying hus,run_underlying hud,Conv.intToFloat,X1]
    | f s x bits h1 h2 =>
     simp at h;subst h;simp [All] at hC;subst h2
     obtain ⟨rr,w',e1,e2,e3,e4⟩:=Xa0 (P:=P) s _ bits w h1 hC
     refine ⟨rfl,_,w',?_,e2, .f _ _ _ e4 e3⟩
     cases us<;>simp [convert,run_underlying hus,run_underlying hud,e1]
    | _=>simp at h
   | _=>rw [hkd] at h;simp at h
end Go.Ab
