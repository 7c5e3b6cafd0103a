/- A region whose order is open: pure operations in whatever order, then a tail that waits for all of them. -/
import Derived.Test.YtoibkmljibnjnaaA12
set_option linter.unusedVariables false
set_option linter.unusedSimpArgs false
namespace Go.Ab
open Go.RowKit
structure DR where
 dst:Option Tmp
 av:AV
 new:List Row
def X1W (tm:List AV) (dst:Option Tmp) (v:AV):List AV :=
 match dst with
 | some d=>tm.set d v
 | none=>tm
def Xz (tm:List AV):List DR→(Nat→Bool)→Nat→List AV
 | [],_,_=>tm
 | r :: R,D,k=>match D k with
  | true=>Xz (X1W tm r.dst r.av) R D (k + 1)
  | false=>Xz tm R D (k + 1)
def X6:List DR→(Nat→Bool)→Nat→List Row
 | [],_,_ => []
 | r :: R,D,k=>(match D k with
  | true=>r.new
  | false=>r.new.map fun _ => .dead) ++ X6 R D (k + 1)
def view (tmB:List AV) (rows:List Row) (R:List DR) (D:Nat→Bool):St:=⟨Xz tmB R D 0,rows ++ X6 R D 0⟩
def X2V (deps:List Nat) (o:Oper):Nat :=
 o.after.toList.foldl (fun s e=>match Region.binds .any e with
  | true=>s ||| 2 ^ e.on ||| (deps[e.on]?).getD 0
  | false=>s) 0
def X1r (i:Nat) (o:Oper):Bool:=o.after.toList.all fun e => !Region.binds .any e || Nat.blt e.on i
def evPO (P:Program) (E:Env) (ops:List Oper) (v:St) (o:Oper) (ans:List Ans):Option PR :=
 match o.guard with
 | none=>evpL P E v v.rows.length o.op ans
 | some (j,want)=>match (ops[j]?).bind (·.dst) with
  | some d=>match v.tm[d]?,ans with
   | some (.tup []),ans=>some ⟨.tup [],[],ans,[]⟩
   | some (.b x), .bo b :: ans=>match b == want with
    | true=>match evpL P E v v.rows.length o.op ans with
     | some r=>some { r with C:=(x=b) :: r.C }
     | none=>none
    | false=>some ⟨.tup [],[],ans,[x=b]⟩
   | _,_=>none
  | _=>none
def X48 (P:Program) (E:Env) (ops:List Oper) (deps:List Nat) (tmB:List AV) (rows:List Row):List Oper→List DR→List Ans→Option (List DR × List Ans × List Prop)
 | [],R,ans=>some (R,ans,[])
 | o :: rest,R,ans=>match evPO P E ops (view tmB rows R (Nat.testBit ((deps[R.length]?).getD 0))) o ans with
  | some r=>match X48 P E ops deps tmB rows rest (R ++ [⟨o.dst,r.av,r.new⟩]) r.ans with
   | some (R',ans',C)=>some (R',ans',r.C ++ C)
   | none=>none
  | none=>none
def X2:List Oper→List Nat→List Nat
 | [],deps=>deps
 | o :: rest,deps=>X2 rest (deps ++ [X2V deps o])
def X1H:List Oper→Nat→Bool
 | [],_=>true
 | o :: rest,i=>X1r i o && X1H rest (i + 1)
def X2G:List Nat→Nat→Bool
 | [],_=>true
 | d :: ds,i=>(List.range i).all (fun j=>d.testBit j) && X2G ds (i + 1)
def X1X (ops:List Oper):List Tmp:=ops.filterMap (·.dst)
def X2y (Z:List Nat):List Nat→Nat→Bool
 | [],_=>true
 | d :: ds,i=>(List.range i).all (fun j=>d.testBit j || Z.contains j) && X2y Z ds (i + 1)
def Xo (R:List DR) (Z:List Nat):List (Tmp × AV):=Z.filterMap fun z=>(R[z]?).bind fun r=>r.dst.map fun d=>(d,r.av)
def XH (t:Tmp) (o:Oper):Bool:=match o.dst with
 | some d => !(d == t)
 | none=>true
def X4U:Op→Option Tmp
 | .extract x _=>match x with
  | .tmp s=>some s
  | _=>none
 | _=>none
theorem X8m {x:Op} {s:Tmp} (h:X4U x=some s):∃ i,x = .extract (.tmp s) i:=by
 cases x<;>simp only [X4U] at h<;>(try (cases h;done))
 rename_i y i
 cases y<;>simp only [Option.some.injEq,reduceCtorEq] at h
 subst h;exact ⟨i,rfl⟩
def XaB:List Ans→Option (List Nat × List Ans)
 | []=>none
 | a :: l=>match a with
  | .keep ks=>some (ks,l)
  | _=>none
def X4V (ops:List Oper) (deps:List Nat) (m:Nat) (Z:List Nat) (T:List Oper) (z:Nat):Bool :=
 Nat.blt z m && match ops[z]? with
 | some o=>o.guard.isNone && match X4U o.op with
  | some s=>match o.dst with
   | some d=>T.all (fun o'=>XH d o' && XH s o') && Z.all fun z' => !(((deps[z]?).getD 0).testBit z') && match ops[z']? with
    | some o'=>XH s o'
    | none=>false
   | none=>false
  | none=>false
 | none=>false
def X1s (ds:List Tmp) (st:St):St:={ st with tm:=ds.foldl (fun tm d=>tm.set d .any) st.tm }
def setT (L:List (Tmp × AV)) (st:St):St:={ st with tm:=L.foldl (fun tm p=>tm.set p.1 p.2) st.tm }
def evT1 (P:Program) (E:Env) (ops:List Oper) (R:List DR) (Z:List Nat) (deps:List Nat):Nat→List Oper→St→List Ans→Option (St × List Ans × List Prop)
 | _,[],st,ans=>some (st,ans,[])
 | i,o :: rest,st,ans=>match evo P E ops (setT (Xo R (Z.filter fun z=>((deps[i]?).getD 0).testBit z)) st) o ans with
  | some (st,ans,C)=>match evT1 P E ops R Z deps (i + 1) rest (X1s ((Xo R Z).map (·.1)) st) ans with
   | some (st,ans,C')=>some (st,ans,C ++ C')
   | none=>none
  | none=>none
def isSc:AV→Bool
 | .b _ | .i _ _ | .f _ _=>true
 | _=>false
def X6X (P:Program) (E:Env) (ops:List Oper) (st:St) (ans:List Ans):Option (St × List Ans × List Prop) :=
 match XaB ans with
 | some (m :: m1 :: Z,ans)=>match XU (X1X (ops.take m)) && X1H ops 0 && X2y Z (((X2 ops []).take m1).drop m) m && X2G ((X2 ops []).drop m1) m1 && (Nat.ble m m1 && Nat.ble m1 ops.length) && Z.all (X4V ops (X2 ops []) m Z ((ops.take m1).drop m)) with
  | true=>match X48 P E ops (X2 ops []) ((X1X (ops.take m)).foldl (fun tm d=>tm.set d .any) st.tm) st.rows (ops.take m) [] ans with
   | some (R,ans,C)=>match (Xo R Z).all (fun p=>isSc p.2 && Nat.blt p.1 st.tm.length) with
    | true=>match evT1 P E ops R Z (X2 ops []) m ((ops.take m1).drop m) (X1s ((Xo R Z).map (·.1)) (view ((X1X (ops.take m)).foldl (fun tm d=>tm.set d .any) st.tm) st.rows R (fun _=>true))) ans with
     | some (st1,ans,C1)=>match X17 P E ops (ops.drop m1) (setT (Xo R Z) st1) ans with
      | some (st',ans,C')=>some (st',ans,C ++ (C1 ++ C'))
      | none=>none
     | none=>none
    | false=>none
   | none=>none
  | false=>none
 | _=>none
/- views -/
theorem length_setDst (tm:List AV) (dst:Option Tmp) (v:AV):(X1W tm dst v).length=tm.length:=by cases dst<;>simp [X1W]
theorem Xc:∀ (R:List DR) (tm:List AV) (D:Nat→Bool) (k:Nat),(Xz tm R D k).length=tm.length:=by
 intro R
 induction R with
 | nil=>intro tm D k;rfl
 | cons r R ih=>intro tm D k;unfold Xz;split<;>simp [ih,length_setDst]
theorem X8n {tm:List AV} {dst:Option Tmp} {v u:AV} {t:Nat} (h:(X1W tm dst v)[t]? = some u):(dst=some t∧u=v)∨(dst≠some t∧tm[t]? = some u):=by
 cases dst with
 | none=>exact .inr ⟨by simp,h⟩
 | some d =>
  simp only [X1W] at h
  by_cases hd:d=t
  ·subst hd
   rw [List.getElem?_set_self'] at h
   cases hx:tm[d]? with
   | none=>rw [hx] at h;simp at h
   | some y=>rw [hx] at h;simp at h;exact .inl ⟨rfl,h.symm⟩
  ·rw [List.getElem?_set_ne hd] at h
   exact .inr ⟨by simpa using hd,h⟩
theorem XW:∀ (R:List DR) (tm:List AV) (D:Nat→Bool) (k t:Nat) (u:AV),(Xz tm R D k)[t]? = some u →
  (∃ j r,R[j]? = some r∧D (k + j)=true∧r.dst=some t∧u=r.av)∨((∀ (j:Nat) (r:DR),R[j]? = some r→D (k + j)=true→r.dst≠some t)∧tm[t]? = some u):=by
 intro R
 induction R with
 | nil=>intro tm D k t u h;exact .inr ⟨by simp,h⟩
 | cons r R ih =>
  intro tm D k t u h
  unfold Xz at h
  split at h
  ·rename_i hD
   rcases ih _ D (k + 1) t u h with ⟨j,r',h1,h2,h3,h4⟩ | ⟨h1,h2⟩
   ·exact .inl ⟨j + 1,r',by simpa using h1,by rwa [show k + (j + 1)=k + 1 + j from by omega],h3,h4⟩
   ·rcases X8n h2 with ⟨e1,e2⟩ | ⟨e1,e2⟩
    ·exact .inl ⟨0,r,rfl,hD,e1,e2⟩
    ·refine .inr ⟨fun j r' e hd => ?_,e2⟩
     cases j with
     | zero=>simp at e;subst e;exact e1
     | succ j=>exact h1 j r' (by simpa using e) (by rwa [show k + 1 + j=k + (j + 1) from by omega])
  ·rename_i hD
   rcases ih _ D (k + 1) t u h with ⟨j,r',h1,h2,h3,h4⟩ | ⟨h1,h2⟩
   ·exact .inl ⟨j + 1,r',by simpa using h1,by rwa [show k + (j + 1)=k + 1 + j from by omega],h3,h4⟩
   ·refine .inr ⟨fun j r' e hd => ?_,h2⟩
    cases j with
    | zero=>rw [Nat.add_zero,hD] at hd;cases hd
    | succ j=>exact h1 j r' (by simpa using e) (by rwa [show k + 1 + j=k + (j + 1) from by omega])
def Xk:List DR→Nat
 | []=>0
 | r :: R=>r.new.length + Xk R
theorem XX:∀ (R:List DR) (D:Nat→Bool) (k:Nat),(X6 R D k).length=Xk R:=by
 intro R
 induction R with
 | nil=>intro D k;rfl
 | cons r R ih=>intro D k;unfold X6 Xk;split<;>simp [ih]
theorem X5k (R S:List DR):Xk (R ++ S)=Xk R + Xk S:=by
 induction R with
 | nil=>simp [Xk]
 | cons r R ih=>simp [Xk,ih];omega
theorem X1Y:∀ (R S:List DR) (D:Nat→Bool) (k:Nat),X6 (R ++ S) D k=X6 R D k ++ X6 S D (k + R.length):=by
 intro R
 induction R with
 | nil=>intro S D k;rfl
 | cons r R ih=>intro S D k;simp only [List.cons_append,X6,ih,List.length_cons,List.append_assoc];rw [show k + 1 + R.length=k + (R.length + 1) from by omega]
theorem X22:∀ (R:List DR) (D D':Nat→Bool) (k:Nat),(∀ j,j < R.length→D (k + j)=D' (k + j))→X6 R D k=X6 R D' k:=by
 intro R
 induction R with
 | nil=>intro D D' k _;rfl
 | cons r R ih =>
  intro D D' k h
  unfold X6
  have h0:=h 0 (by simp)
  rw [Nat.add_zero] at h0
  rw [h0,ih D D' (k + 1) fun j hj=>by have:=h (j + 1) (by simp;omega);rwa [show k + 1 + j=k + (j + 1) from by omega]]
theorem X62:∀ (R:List DR) (D D':Nat→Bool) (k q:Nat) (row:Row),(∀ j,D j=true→D' j=true)→(X6 R D k)[q]? = some row→row = .dead∨(X6 R D' k)[q]? = some row:=by
 intro R
 induction R with
 | nil=>intro D D' k q row _ h;simp [X6] at h
 | cons r R ih =>
  intro D D' k q row hs h
  unfold X6 at h ⊢
  have hl:(match D k with | true=>r.new | false=>r.new.map fun _=>Row.dead).length=r.new.length:=by split<;>simp
  have hl':(match D' k with | true=>r.new | false=>r.new.map fun _=>Row.dead).length=r.new.length:=by split<;>simp
  by_cases hq:q < r.new.length
  ·rw [List.getElem?_append_left (by rw [hl];exact hq)] at h
   rw [List.getElem?_append_left (by rw [hl'];exact hq)]
   split at h
   ·rename_i hD
    rw [hs k hD];exact .inr h
   ·simp at h;exact .inl h.2.symm
  ·rw [List.getElem?_append_right (by rw [hl];omega),hl] at h
   rw [List.getElem?_append_right (by rw [hl'];omega),hl']
   exact ih D D' (k + 1) _ row hs h
theorem Xa5 {A B C N:List Row} (h:B.length=N.length):lay (A ++ (B ++ C)) A.length N=A ++ (N ++ C):=by
 unfold lay
 rw [List.take_left,← h,List.drop_append,List.drop_eq_nil_of_le (by omega),List.nil_append,show A.length + B.length - A.length=B.length from by omega,List.drop_left,List.append_assoc]
def upd (D:Nat→Bool) (i:Nat):Nat→Bool:=fun j=>decide (j=i) || D j
theorem X6Y {R:List DR} {D:Nat→Bool} {i:Nat} {r:DR} (hi:R[i]? = some r) (hD:D i=false) (rows:List Row) :
  rows ++ X6 R (upd D i) 0=lay (rows ++ X6 R D 0) (rows.length + Xk (R.take i)) r.new ∧
  ∀ q,q < r.new.length→(rows ++ X6 R D 0)[rows.length + Xk (R.take i) + q]? = some .dead:=by
 have hlt:i < R.length:=by
  rcases Nat.lt_or_ge i R.length with h | h
  ·exact h
  ·rw [List.getElem?_eq_none h] at hi;cases hi
 have hsplit:R=R.take i ++ r :: R.drop (i + 1):=by
  have:=List.take_append_drop i R
  rw [List.drop_eq_getElem_cons hlt] at this
  rw [List.getElem?_eq_getElem hlt] at hi
  cases hi
  exact this.symm
 have htl:(R.take i).length=i:=by simp;omega
 have e1:X6 R D 0=X6 (R.take i) D 0 ++ ((r.new.map fun _ => .dead) ++ X6 (R.drop (i + 1)) D (i + 1)):=by
  rw [hsplit,X1Y,htl,Nat.zero_add]
  simp only [X6,hD]
  rw [← hsplit]
 have e2:X6 R (upd D i) 0=X6 (R.take i) D 0 ++ (r.new ++ X6 (R.drop (i + 1)) D (i + 1)):=by
  rw [hsplit,X1Y,htl,Nat.zero_add]
  simp only [X6]
  rw [show upd D i i=true from by simp [upd],← hsplit]
  rw [X22 (R.take i) (upd D i) D 0 (fun j hj=>by
   have:j≠i:=by omega
   simp [upd,this])]
  rw [X22 (R.drop (i + 1)) (upd D i) D (i + 1) (fun j hj=>by
   have:i + 1 + j≠i:=by omega
   simp [upd,this])]
 constructor
 ·rw [e1,e2]
  have hl:rows.length + Xk (R.take i)=(rows ++ X6 (R.take i) D 0).length:=by simp [XX]
  rw [hl]
  have:=Xa5 (A:=rows ++ X6 (R.take i) D 0) (B:=r.new.map fun _ => .dead) (C:=X6 (R.drop (i + 1)) D (i + 1)) (N:=r.new) (by simp)
  simp only [List.append_assoc] at this ⊢
  exact this.symm
 ·intro q hq
  rw [e1,← List.append_assoc,List.getElem?_append_right (by simp [XX])]
  simp only [List.length_append,XX]
  rw [show rows.length + Xk (R.take i) + q - (rows.length + Xk (R.take i))=q from by omega,List.getElem?_append_left (by simpa using hq)]
  simp [hq]
end Go.Ab
