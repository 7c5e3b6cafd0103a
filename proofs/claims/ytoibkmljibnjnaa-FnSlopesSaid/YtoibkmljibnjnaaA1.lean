/- Floats up to the bits of a NaN: the operations of the model's floats, as plain functions of words in which every NaN is one. -/
import Derived.WalkKit
import Derived.Laws.FloatArith
set_option linter.unusedVariables false
set_option linter.unusedSimpArgs false
namespace Go.Ab
def XI (k:FloatKind):Nat:=k.format.infRung + 2 ^ (k.format.fractionBits - 1)
def Xm (k:FloatKind) (b:Nat):Bool:=(k.decode b).isNaN
def cn (k:FloatKind) (b:Nat):Nat:=if Xm k b then XI k else b
def Wd (k:FloatKind) (b:Nat):Prop:=b < 2 ^ k.format.width
theorem X1u (k:FloatKind):Xm k (XI k)=true:=by cases k<;>decide +kernel
theorem X9q (k:FloatKind):Wd k (XI k):=by cases k<;>(unfold Wd;decide +kernel)
theorem XJ {k:FloatKind} {b:Nat} (h:Xm k b=false):cn k b=b:=by simp [cn,h]
theorem X1v {k:FloatKind} {b:Nat} (h:Xm k b=true):cn k b=XI k:=by simp [cn,h]
theorem X6f (k:FloatKind) (b:Nat):Xm k (cn k b)=Xm k b:=by
 unfold cn;split
 ·rename_i h;rw [h,X1u]
 ·rfl
def Xs (d e:Ieee.Datum):Prop:=d=e∨(d.isNaN=true∧e.isNaN=true)
theorem XO (k:FloatKind) (b:Nat):Xs (k.decode b) (k.decode (cn k b)):=by
 rcases h:Xm k b with _ | _
 ·rw [XJ h];exact .inl rfl
 ·rw [X1v h];exact .inr ⟨h,X1u k⟩
theorem Xs.refl (d:Ieee.Datum):Xs d d := .inl rfl
theorem Xs.opposite {d e:Ieee.Datum} (h:Xs d e):Xs d.opposite e.opposite:=by
 rcases h with rfl | ⟨h1,h2⟩
 ·exact .inl rfl
 ·cases d<;>simp [Ieee.Datum.isNaN] at h1
  cases e<;>simp [Ieee.Datum.isNaN] at h2
  exact .inr ⟨rfl,rfl⟩
theorem Xs.sum {d e d' e':Ieee.Datum} (h:Xs d e) (h':Xs d' e'):d.sum d'=e.sum e':=by
 rcases h with rfl | ⟨h1,h2⟩
 ·rcases h' with rfl | ⟨h3,h4⟩
  ·rfl
  ·cases d'<;>simp [Ieee.Datum.isNaN] at h3
   cases e'<;>simp [Ieee.Datum.isNaN] at h4
   cases d<;>simp [Ieee.Datum.sum]
 ·cases d<;>simp [Ieee.Datum.isNaN] at h1
  cases e<;>simp [Ieee.Datum.isNaN] at h2
  simp [Ieee.Datum.sum]
theorem Xs.product {d e d' e':Ieee.Datum} (h:Xs d e) (h':Xs d' e'):d.product d'=e.product e':=by
 rcases h with rfl | ⟨h1,h2⟩
 ·rcases h' with rfl | ⟨h3,h4⟩
  ·rfl
  ·cases d'<;>simp [Ieee.Datum.isNaN] at h3
   cases e'<;>simp [Ieee.Datum.isNaN] at h4
   cases d<;>simp [Ieee.Datum.product]
 ·cases d<;>simp [Ieee.Datum.isNaN] at h1
  cases e<;>simp [Ieee.Datum.isNaN] at h2
  simp [Ieee.Datum.product]
theorem Xs.quotient {n:Nat} {d e d' e':Ieee.Datum} (h:Xs d e) (h':Xs d' e'):d.quotient n d'=e.quotient n e':=by
 rcases h with rfl | ⟨h1,h2⟩
 ·rcases h' with rfl | ⟨h3,h4⟩
  ·rfl
  ·cases d'<;>simp [Ieee.Datum.isNaN] at h3
   cases e'<;>simp [Ieee.Datum.isNaN] at h4
   cases d<;>simp [Ieee.Datum.quotient]
 ·cases d<;>simp [Ieee.Datum.isNaN] at h1
  cases e<;>simp [Ieee.Datum.isNaN] at h2
  simp [Ieee.Datum.quotient]
theorem Xs.root {n:Nat} {d e:Ieee.Datum} (h:Xs d e):d.root n=e.root n:=by
 rcases h with rfl | ⟨h1,h2⟩
 ·rfl
 ·cases d<;>simp [Ieee.Datum.isNaN] at h1
  cases e<;>simp [Ieee.Datum.isNaN] at h2
  simp [Ieee.Datum.root]
theorem Xs.order {d e d' e':Ieee.Datum} (h:Xs d e) (h':Xs d' e'):d.order d'=e.order e':=by
 rcases h with rfl | ⟨h1,h2⟩
 ·rcases h' with rfl | ⟨h3,h4⟩
  ·rfl
  ·cases d'<;>simp [Ieee.Datum.isNaN] at h3
   cases e'<;>simp [Ieee.Datum.isNaN] at h4
   cases d<;>simp [Ieee.Datum.order]
 ·cases d<;>simp [Ieee.Datum.isNaN] at h1
  cases e<;>simp [Ieee.Datum.isNaN] at h2
  simp [Ieee.Datum.order]
theorem X9r {d e r:Ieee.Datum} (h:d.sum e=some r):r.isNaN=false:=by
 cases d<;>cases e<;>simp only [Ieee.Datum.sum] at h<;>(try (split at h))<;>simp at h<;>subst h<;>rfl
theorem X6g {d e r:Ieee.Datum} (h:d.product e=some r):r.isNaN=false:=by
 cases d<;>cases e<;>simp only [Ieee.Datum.product] at h<;>(try (split at h))<;>simp at h<;>subst h<;>rfl
theorem X5S {n:Nat} {d e r:Ieee.Datum} (h:d.quotient n e=some r):r.isNaN=false:=by
 cases d<;>cases e<;>simp only [Ieee.Datum.quotient] at h<;>(repeat' (split at h))<;>simp at h<;>subst h<;>rfl
theorem X8R {n:Nat} {d r:Ieee.Datum} (h:d.root n=some r):r.isNaN=false:=by
 cases d<;>simp only [Ieee.Datum.root] at h<;>(repeat' (split at h))<;>simp at h<;>subst h<;>rfl
section
open Ieee
theorem X9s (f:Format) (neg:Bool) {r:Nat} (h:r < f.signWeight):f.word neg r % f.signWeight=r:=by
 unfold Format.word;split
 ·rw [Nat.add_mod_left,Nat.mod_eq_of_lt h]
 ·exact Nat.mod_eq_of_lt h
theorem X1E (f:Format) (neg:Bool) {r:Nat} (h:r≤f.infRung):(f.read (f.word neg r)).isNaN=false:=by
 have hlt:r < f.signWeight:=Nat.lt_of_le_of_lt h f.infRung_lt
 unfold Format.read
 simp only [X9s f neg hlt]
 repeat' split
 all_goals first | rfl | omega
theorem X1P (f:Format) {d:Datum} (h:d.isNaN=false):(f.read (f.write d)).isNaN=false:=by
 cases d with
 | nan=>simp [Datum.isNaN] at h
 | infinity s=>exact X1E f s (Nat.le_refl _)
 | number s m e =>
  simp only [Format.write,Format.nearest]
  split
  ·exact X1E f s (Nat.zero_le _)
  ·exact X1E f s (Nat.min_le_right ..)
end
theorem Xav (k:FloatKind) (a b:Nat):k.format.add a b=k.format.add (cn k a) (cn k b):=by
 unfold Ieee.Format.add;exact congrArg _ (Xs.sum (XO k a) (XO k b))
theorem Xaw (k:FloatKind) (a b:Nat):k.format.sub a b=k.format.sub (cn k a) (cn k b):=by
 unfold Ieee.Format.sub;exact congrArg _ (Xs.sum (XO k a) (XO k b).opposite)
theorem Xax (k:FloatKind) (a b:Nat):k.format.mul a b=k.format.mul (cn k a) (cn k b):=by
 unfold Ieee.Format.mul;exact congrArg _ (Xs.product (XO k a) (XO k b))
theorem Xay (k:FloatKind) (a b:Nat):k.format.div a b=k.format.div (cn k a) (cn k b):=by
 unfold Ieee.Format.div;exact congrArg _ (Xs.quotient (XO k a) (XO k b))
theorem X7T (k:FloatKind) (a:Nat):k.format.sqrt a=k.format.sqrt (cn k a):=by
 unfold Ieee.Format.sqrt;exact congrArg _ (Xs.root (XO k a))
theorem X6h (k:FloatKind) (a b:Nat):k.format.order a b=k.format.order (cn k a) (cn k b):=by
 unfold Ieee.Format.order;exact Xs.order (XO k a) (XO k b)
theorem X1p {k:FloatKind} {x:Option Ieee.Datum} {r:Nat} (h:x.map k.format.write=some r) (hx:∀ d,x=some d→d.isNaN=false) :
  Xm k r=false∧Wd k r:=by
 cases x with
 | none=>simp at h
 | some d =>
  simp at h;subst h
  exact ⟨X1P _ (hx d rfl),k.format.write_lt d⟩
theorem X3K (op:BinOp) (k:FloatKind) (a b:Nat):floatBits op k a b=floatBits op k (cn k a) (cn k b):=by
 cases op<;>simp only [floatBits]<;>first | exact Xav .. | exact Xaw .. | exact Xax .. | exact Xay ..
theorem X3b {op:BinOp} {k:FloatKind} {a b r:Nat} (h:floatBits op k a b=some r):Xm k r=false∧Wd k r:=by
 cases op<;>simp only [floatBits] at h<;>first
  | (cases h;done)
  | exact X1p h (fun d hd=>X9r hd)
  | exact X1p h (fun d hd=>X6g hd)
  | exact X1p h (fun d hd=>X5S hd)
def fop (op:BinOp) (k:FloatKind) (x y:Nat):Nat:=(floatBits op k x y).getD (XI k)
def X1y (x:Nat):Nat:=(FloatKind.f64.format.sqrt x).getD (XI .f64)
def fneg (k:FloatKind) (x:Nat):Nat:=cn k (Op.negFloat k x)
def fcmp (op:BinOp) (k:FloatKind) (x y:Nat):Bool :=
 let c:=k.format.order x y
 match op with
 | .eql=>c == some .eq
 | .neq=>c != some .eq
 | .lss=>c == some .lt
 | .leq=>c == some .lt || c == some .eq
 | .gtr=>c == some .gt
 | .geq=>c == some .gt || c == some .eq
 | _=>false
def fmax (k:FloatKind) (x y:Nat):Nat :=
 match k.format.order x y with
 | none=>XI k
 | some .lt=>y
 | some .gt=>x
 | some .eq=>if (k.decode x).neg then y else x
def X1 (k:FloatKind) (n:Int):Nat:=k.nearest n
theorem X7U (op:BinOp) (k:FloatKind) (a b:Nat):fcmp op k a b=fcmp op k (cn k a) (cn k b):=by
 unfold fcmp;rw [← X6h]
theorem X88 (f:Ieee.Format) {b r:Nat} (h:b % f.signWeight=r) (h1:f.infRung < r) (h2:f.binade≤r):(f.read b).isNaN=true:=by
 subst h
 unfold Ieee.Format.read
 dsimp only
 rw [if_neg (by omega),if_neg (by omega),if_neg (by omega)]
 rfl
theorem X6i (f:Ieee.Format) {s x:Nat} (hs:s < 2) (hx:x + 1 < f.binade) (hle:f.binade≤f.infRung) :
  (f.read (s * f.signWeight + f.infRung + 1 + x)).isNaN=true∧s * f.signWeight + f.infRung + 1 + x < 2 ^ f.width:=by
 have h1:=f.infRung_add_binade
 have hm:(s * f.signWeight + f.infRung + 1 + x) % f.signWeight=f.infRung + 1 + x:=by
  have e:s * f.signWeight + f.infRung + 1 + x=f.infRung + 1 + x + f.signWeight * s:=by rw [Nat.mul_comm f.signWeight s];omega
  rw [e,Nat.add_mul_mod_self_left]
  exact Nat.mod_eq_of_lt (by omega)
 constructor
 ·refine X88 f hm ?_ ?_<;>omega
 ·have two:2 ^ f.width=2 * f.signWeight:=by
   unfold Ieee.Format.width Ieee.Format.signWeight
   rw [Nat.add_assoc,Nat.add_comm 1,Nat.pow_succ,Nat.mul_comm]
  rw [two]
  have:s * f.signWeight≤1 * f.signWeight:=Nat.mul_le_mul_right _ (by omega)
  omega
theorem X3n:Ieee.single.signWeight=2 ^ 31∧Ieee.single.infRung=0x7f800000∧Ieee.single.binade=2 ^ 23:=by decide +kernel
theorem X3o:Ieee.double.signWeight=2 ^ 63∧Ieee.double.infRung=0x7ff0000000000000∧Ieee.double.binade=2 ^ 52:=by decide +kernel
theorem X9Y (t:Nat):Xm .f32 ((t % 2) * 2 ^ 31 + 0x7f800000 + 1 + (t / 2) % (2 ^ 23 - 1))=true∧Wd .f32 ((t % 2) * 2 ^ 31 + 0x7f800000 + 1 + (t / 2) % (2 ^ 23 - 1)):=by
 have h:=X6i Ieee.single (s:=t % 2) (x:=(t / 2) % (2 ^ 23 - 1)) (Nat.mod_lt _ (by omega)) (by
  rw [X3n.2.2];have:=Nat.mod_lt (t / 2) (show 0 < 2 ^ 23 - 1 by omega);omega) (by decide +kernel)
 rw [X3n.1,X3n.2.1] at h
 exact h
theorem X9Z (t:Nat):Xm .f64 ((t % 2) * 2 ^ 63 + 0x7ff0000000000000 + 1 + (t / 2) % (2 ^ 52 - 1))=true∧Wd .f64 ((t % 2) * 2 ^ 63 + 0x7ff0000000000000 + 1 + (t / 2) % (2 ^ 52 - 1)):=by
 have h:=X6i Ieee.double (s:=t % 2) (x:=(t / 2) % (2 ^ 52 - 1)) (Nat.mod_lt _ (by omega)) (by
  rw [X3o.2.2];have:=Nat.mod_lt (t / 2) (show 0 < 2 ^ 52 - 1 by omega);omega) (by decide +kernel)
 rw [X3o.1,X3o.2.1] at h
 exact h
theorem X1I (k:FloatKind) (c:Bool) (a b:Nat) (q:Question) (t:Nat)
  (h:q = .nanBits k a b∨q = .nanConv k a∨q = .nanMinMax k c a b):Xm k (q.cut t)=true∧Wd k (q.cut t):=by
 have h32:=X9Y t
 have h64:=X9Z t
 generalize hN:(t % 2) * 2 ^ 31 + 0x7f800000 + 1 + (t / 2) % (2 ^ 23 - 1)=N at h32
 generalize hM:(t % 2) * 2 ^ 63 + 0x7ff0000000000000 + 1 + (t / 2) % (2 ^ 52 - 1)=M at h64
 cases k<;>rcases h with rfl | rfl | rfl<;>simp only [Question.cut]<;>(first | rw [hN] | rw [hM])<;>assumption
theorem X3L (k:FloatKind) {a:Nat} (h:Wd k a):Xm k (Op.negFloat k a)=Xm k a∧Wd k (Op.negFloat k a):=by
 have key:∀ (f:Ieee.Format),a < 2 ^ f.width→(a ^^^ 2 ^ (f.exponentBits + f.fractionBits)) % f.signWeight=a % f.signWeight∧(a ^^^ 2 ^ (f.exponentBits + f.fractionBits)) < 2 ^ f.width:=by
  intro f ha
  have hsw:f.signWeight=2 ^ (f.exponentBits + f.fractionBits):=rfl
  constructor
  ·rw [hsw]
   apply Nat.eq_of_testBit_eq
   intro i
   simp only [Nat.testBit_mod_two_pow,Nat.testBit_xor,Nat.testBit_two_pow]
   by_cases hi:i < f.exponentBits + f.fractionBits
   ·simp only [hi,decide_true,Bool.true_and]
    have:decide (f.exponentBits + f.fractionBits=i)=false:=by simp;omega
    rw [this];simp
   ·simp [hi]
  ·apply Nat.xor_lt_two_pow ha
   apply Nat.pow_lt_pow_right (by omega)
   unfold Ieee.Format.width;omega
 have hk:=key k.format h
 refine ⟨?_,hk.2⟩
 unfold Xm FloatKind.decode Ieee.Format.read Op.negFloat
 simp only [hk.1]
 split
 ·rfl
 ·split
  ·rfl
  ·split<;>rfl
theorem Xaz (k:FloatKind) {a:Nat} (h:Wd k a):cn k (Op.negFloat k a)=fneg k (cn k a):=by
 unfold fneg
 rcases hn:Xm k a with _ | _
 ·rw [XJ hn]
 ·rw [X1v hn,X1v (by rw [(X3L k h).1,hn]),X1v (by rw [(X3L k (X9q k)).1,X1u])]
def fcv (s d:FloatKind) (x:Nat):Nat:=if s=d then x else
 match s.decode x with
 | .nan .. => XI d
 | y=>d.encode y
def X1Q (s d:FloatKind) (x:Nat):Bool:=s == d || match s.decode x with
 | .number a m e => !(d.decode (d.encode (.number a m e))).isInfinity
 | _=>true
section
variable {P:Program}
inductive Drew (w:World):World→Prop
 | none:Drew w w
 | one:Drew w { w with drawn:=w.drawn + 1 }
theorem X43 (op:BinOp) (k:FloatKind) (a b:Nat) (w:World) (hop:op = .add∨op = .sub∨op = .mul∨op = .quo) :
  ∃ r w',(Op.floatArith op k a b).run P w = .ok (.float k r) w'∧Drew w w'∧cn k r=fop op k (cn k a) (cn k b)∧Wd k r:=by
 cases h:floatBits op k a b with
 | some r =>
  refine ⟨r,w,?_, .none,?_,(X3b h).2⟩
  ·rcases hop with rfl | rfl | rfl | rfl<;>simp only [floatBits] at h<;>simp [Op.floatArith,h]
  ·rw [XJ (X3b h).1];unfold fop;rw [← X3K,h];rfl
 | none =>
  refine ⟨(Question.nanBits k a b).cut (w.tape w.drawn (.nanBits k a b)),{ w with drawn:=w.drawn + 1 },?_, .one,?_,(X1I k false a b _ _ (.inl rfl)).2⟩
  ·rcases hop with rfl | rfl | rfl | rfl<;>simp only [floatBits] at h<;>simp [Op.floatArith,h,choose,Sem.run,Question.forced]
  ·rw [X1v (X1I k false a b _ _ (.inl rfl)).1];unfold fop;rw [← X3K,h];rfl
theorem X20 (op:BinOp) (k:FloatKind) (a b:Nat) (w:World) (hop:op = .eql∨op = .neq∨op = .lss∨op = .leq∨op = .gtr∨op = .geq) :
  (Op.floatCmp op k a b).run P w = .ok (.bool (fcmp op k (cn k a) (cn k b))) w:=by
 rw [← X7U]
 rcases hop with rfl | rfl | rfl | rfl | rfl | rfl<;>simp [Op.floatCmp,fcmp]
theorem Xa0 (s d:FloatKind) (a:Nat) (w:World) (ha:Wd s a) (hok:X1Q s d (cn s a)=true) :
  ∃ r w',(Conv.floatToFloat s a d).run P w = .ok (.float d r) w'∧Drew w w'∧cn d r=fcv s d (cn s a)∧Wd d r:=by
 by_cases e:s=d
 ·subst e
  exact ⟨a,w,by simp [Conv.floatToFloat], .none,by simp [fcv],ha⟩
 ·rcases hn:Xm s a with _ | _
  ·have hc:=XJ hn
   unfold X1Q fcv at *
   rw [hc] at hok ⊢
   cases hd:s.decode a with
   | nan t u=>unfold Xm at hn;rw [hd] at hn;simp [Ieee.Datum.isNaN] at hn
   | infinity t =>
    refine ⟨d.encode (.infinity t),w,by simp [Conv.floatToFloat,e,hd], .none,?_,d.format.write_lt _⟩
    simp only [e,if_false]
    exact XJ (X1P d.format rfl)
   | number t m q =>
    rw [hd] at hok
    have hinf:(d.decode (d.encode (.number t m q))).isInfinity=false:=by simpa [e] using hok
    refine ⟨d.encode (.number t m q),w,by simp [Conv.floatToFloat,e,hd,hinf], .none,?_,d.format.write_lt _⟩
    simp only [e,if_false]
    exact XJ (X1P d.format rfl)
  ·have hnan:∃ t u,s.decode a = .nan t u:=by
    unfold Xm at hn
    cases hd:s.decode a<;>rw [hd] at hn<;>simp [Ieee.Datum.isNaN] at hn
    exact ⟨_,_,rfl⟩
   obtain ⟨t,u,hd⟩:=hnan
   refine ⟨(Question.nanConv d a).cut (w.tape w.drawn (.nanConv d a)),{ w with drawn:=w.drawn + 1 },by simp [Conv.floatToFloat,e,hd,choose,Sem.run,Question.forced], .one,?_,(X1I d false a 0 _ _ (.inr (.inl rfl))).2⟩
   rw [X1v (X1I d false a 0 _ _ (.inr (.inl rfl))).1,X1v hn]
   have h2:=X1u s
   unfold Xm at h2
   unfold fcv
   simp only [e,if_false]
   cases hx:s.decode (XI s)<;>rw [hx] at h2<;>simp [Ieee.Datum.isNaN] at h2
theorem X9t (k:FloatKind) (a b:Nat) (w:World) (ha:Wd k a) (hb:Wd k b) :
  ∃ r w',(Builtin.max2 (.float k a) (.float k b)).run P w = .ok (.float k r) w'∧Drew w w'∧cn k r=fmax k (cn k a) (cn k b)∧Wd k r:=by
 cases ho:k.format.order a b with
 | none =>
  refine ⟨(Question.nanMinMax k true a b).cut (w.tape w.drawn (.nanMinMax k true a b)),{ w with drawn:=w.drawn + 1 },by simp [Builtin.max2,ho,choose,Sem.run,Question.forced], .one,?_,(X1I k true a b _ _ (.inr (.inr rfl))).2⟩
  rw [X1v (X1I k true a b _ _ (.inr (.inr rfl))).1];unfold fmax;rw [← X6h,ho]
 | some o =>
  have hna:Xm k a=false∧Xm k b=false:=by
   unfold Ieee.Format.order at ho
   unfold Xm FloatKind.decode
   cases h1:k.format.read a<;>cases h2:k.format.read b<;>rw [h1,h2] at ho<;>simp [Ieee.Datum.order] at ho<;>exact ⟨rfl,rfl⟩
  rw [XJ hna.1,XJ hna.2]
  cases o with
  | lt=>exact ⟨b,w,by simp [Builtin.max2,ho], .none,by rw [XJ hna.2];simp [fmax,ho],hb⟩
  | gt=>exact ⟨a,w,by simp [Builtin.max2,ho], .none,by rw [XJ hna.1];simp [fmax,ho],ha⟩
  | eq =>
   by_cases hs:(k.decode a).neg=true
   ·exact ⟨b,w,by simp [Builtin.max2,ho,hs], .none,by rw [XJ hna.2];simp [fmax,ho,hs],hb⟩
   ·exact ⟨a,w,by simp [Builtin.max2,ho,hs], .none,by rw [XJ hna.1];simp [fmax,ho,hs],ha⟩
theorem X6j (k:FloatKind) (n:Int):cn k (X1 k n)=X1 k n∧Wd k (X1 k n) :=
 ⟨XJ (X1P k.format (d := .number (n < 0) n.natAbs 0) rfl),k.format.write_lt (.number (n < 0) n.natAbs 0)⟩
end
end Go.Ab
