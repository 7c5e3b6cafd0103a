/- That a region whose order is open comes to what its evaluator tells. -/
import Derived.Test.YtoibkmljibnjnaaA13
import Derived.Orders
set_option linter.unusedVariables false
set_option linter.unusedSimpArgs false
namespace Go.Ab
open Go.RowKit
theorem X2n:∀ (l:List Oper) (i j:Nat) (o:Oper),X1H l i=true→l[j]? = some o→X1r (i + j) o=true
 | [],i,j,o,_,h=>by simp at h
 | x :: l,i,0,o,h,e=>by
  simp at e;subst e
  simp only [X1H,Bool.and_eq_true] at h;exact h.1
 | x :: l,i,j + 1,o,h,e=>by
  simp only [X1H,Bool.and_eq_true] at h
  have:=X2n l (i + 1) j o h.2 (by simpa using e)
  rwa [show i + 1 + j=i + (j + 1) from by omega] at this
theorem XF {i:Nat} {o:Oper} (h:X1r i o=true) {e:Edge} (he:e∈o.after) (hb:Region.binds .any e=true):e.on < i:=by
 unfold X1r at h
 rw [List.all_eq_true] at h
 have:=h e (by simpa using he)
 simpa [hb] using this
theorem X29:∀ (l:List Oper) (acc:List Nat),∃ t,X2 l acc=acc ++ t∧t.length=l.length
 | [],acc=>⟨[],by simp [X2],rfl⟩
 | o :: l,acc=>by
  obtain ⟨t,h1,h2⟩:=X29 l (acc ++ [X2V acc o])
  exact ⟨X2V acc o :: t,by simp [X2,h1],by simp [h2]⟩
theorem X4i:∀ (l:List Oper) (acc:List Nat) (j:Nat) (o:Oper),l[j]? = some o→(X2 l acc)[acc.length + j]? = some (X2V ((X2 l acc).take (acc.length + j)) o)
 | [],acc,j,o,h=>by simp at h
 | x :: l,acc,0,o,h=>by
  simp at h;subst h
  obtain ⟨t,h1,h2⟩:=X29 l (acc ++ [X2V acc x])
  simp only [X2,h1]
  simp [List.append_assoc]
 | x :: l,acc,j + 1,o,h=>by
  have:=X4i l (acc ++ [X2V acc x]) j o (by simpa using h)
  simp only [X2]
  simpa [show acc.length + 1 + j=acc.length + (j + 1) from by omega] using this
theorem X8o {deps:List Nat} {o:Oper} {b:Nat} (h:(X2V deps o).testBit b=true):∃ e∈o.after,Region.binds .any e=true∧(b=e.on∨((deps[e.on]?).getD 0).testBit b=true):=by
 have key:∀ (l:List Edge) (s:Nat),(l.foldl (fun s e=>match Region.binds .any e with
   | true=>s ||| 2 ^ e.on ||| (deps[e.on]?).getD 0
   | false=>s) s).testBit b=true→s.testBit b=true∨∃ e∈l,Region.binds .any e=true∧(b=e.on∨((deps[e.on]?).getD 0).testBit b=true):=by
  intro l
  induction l with
  | nil=>intro s h;exact .inl h
  | cons e l ih =>
   intro s h
   simp only [List.foldl_cons] at h
   rcases ih _ h with h1 | ⟨e',h1,h2⟩
   ·cases hb:Region.binds .any e with
    | false=>rw [hb] at h1;exact .inl h1
    | true =>
     rw [hb] at h1
     simp only [Nat.testBit_or,Bool.or_eq_true] at h1
     rcases h1 with (h1 | h1) | h1
     ·exact .inl h1
     ·rw [Nat.testBit_two_pow] at h1
      exact .inr ⟨e,by simp,hb, .inl (by simpa using (of_decide_eq_true h1).symm)⟩
     ·exact .inr ⟨e,by simp,hb, .inr h1⟩
   ·exact .inr ⟨e',by simp [h1],h2⟩
 unfold X2V at h
 rcases key _ 0 h with h | ⟨e,h1,h2⟩
 ·simp at h
 ·exact ⟨e,by simpa using h1,h2⟩
def X2j (ops:List Oper) (D:Nat→Bool):Prop:=∀ (j:Nat) (o:Oper),ops[j]? = some o→D j=true→∀ e∈o.after,Region.binds .any e=true→D e.on=true
theorem X3f {ops:List Oper} {D:Nat→Bool} (hc:X2j ops D) (hedge:∀ j o,ops[j]? = some o→X1r j o=true):∀ (i:Nat) (o:Oper),ops[i]? = some o→(∀ e∈o.after,Region.binds .any e=true→D e.on=true) →
  ∀ b,(((X2 ops [])[i]?).getD 0).testBit b=true→D b=true:=by
 intro i
 induction i using Nat.strongRecOn with
 | _ i ih =>
  intro o ho hD b hb
  have hg:=X4i ops [] i o ho
  simp only [List.length_nil,Nat.zero_add] at hg
  rw [hg] at hb
  simp only [Option.getD_some] at hb
  obtain ⟨e,he,hbind,h⟩:=X8o hb
  have hlt:=XF (hedge i o ho) he hbind
  have hDe:=hD e he hbind
  rcases h with rfl | h
  ·exact hDe
  ·rw [List.getElem?_take_of_lt hlt] at h
   have hi:i < ops.length:=by
    rcases Nat.lt_or_ge i ops.length with h | h
    ·exact h
    ·rw [List.getElem?_eq_none h] at ho;cases ho
   have ho':ops[e.on]? = some ops[e.on]:=List.getElem?_eq_getElem (by omega)
   exact ih e.on hlt _ ho' (hc e.on _ ho' hDe) b h
theorem X39:∀ (l:List Nat) (i k:Nat) (d:Nat),X2G l i=true→l[k]? = some d→∀ j,j < i + k→d.testBit j=true
 | [],i,k,d,_,h=>by simp at h
 | x :: l,i,0,d,h,e=>by
  simp at e;subst e
  simp only [X2G,Bool.and_eq_true,List.all_eq_true,List.mem_range] at h
  intro j hj;exact h.1 j (by omega)
 | x :: l,i,k + 1,d,h,e=>by
  simp only [X2G,Bool.and_eq_true] at h
  intro j hj
  exact X39 l (i + 1) k d h.2 (by simpa using e) j (by omega)
section
variable {P:Program} {E:Env} {w0:Old0}
theorem X8p (hE:EOk P E) {ops:Array Oper} {v:St} {a:Act} {w:World} {μ:Nat→Option FP} {o:Oper} {ans:List Ans} {r:PR} (hr:RelW w0 μ v a w) (h:evPO P E ops.toList v o ans=some r) (hC:All r.C)
  (hn:∀ q,v.rows.length≤q→q < v.rows.length + r.new.length→μ q=none) {next:Act→World→Prop} {Q:Exit→Act→World→Prop} (hnx:∀ x w',Post w0 μ v.rows.length w r x w'→next (a.put o.dst x) w') :
  if Region.wanted o (yielded ops a.tmps) then o.wp P a w next Q∨(o.asks P a w∧LetsOut Q) else next (a.put o.dst undef) w:=by
 unfold evPO at h
 cases hg:o.guard with
 | none =>
  rw [hg] at h
  rw [if_pos (by simp [Region.wanted,hg])]
  exact .inl (X4Q hE hr h hC hn next Q hnx)
 | some jw =>
  obtain ⟨j,want⟩:=jw
  rw [hg] at h;simp only at h
  split at h
  ·rename_i d hd
   split at h
   ·rename_i ans0 hx
    have hy:yielded ops a.tmps j=none:=by
     have hrep:=hr.tmps d _ hx
     have hlt:d < a.tmps.size:=by
      rw [hr.size]
      rcases Nat.lt_or_ge d v.tm.length with h | h
      ·exact h
      ·rw [List.getElem?_eq_none h] at hx;cases hx
     rw [Array.getD_eq_getD_getElem?,Array.getElem?_eq_getElem hlt] at hrep
     simp only [Option.getD_some] at hrep
     unfold yielded
     rw [← Array.getElem?_toList,hd]
     simp only [Option.bind_some,Array.getElem?_eq_getElem hlt]
     generalize a.tmps[d]=q at hrep
     cases hrep;rfl
    simp only [Option.some.injEq] at h;subst h
    rw [if_neg (by simp [Region.wanted,hg,hy])]
    exact hnx undef w (Post.plain X2T)
   ·rename_i x b ans1 hx
    have hy:yielded ops a.tmps j=some x:=by
     have hrep:=hr.tmps d _ hx
     have hlt:d < a.tmps.size:=by
      rw [hr.size]
      rcases Nat.lt_or_ge d v.tm.length with h | h
      ·exact h
      ·rw [List.getElem?_eq_none h] at hx;cases hx
     rw [Array.getD_eq_getD_getElem?,Array.getElem?_eq_getElem hlt] at hrep
     simp only [Option.getD_some] at hrep
     unfold yielded
     rw [← Array.getElem?_toList,hd]
     simp only [Option.bind_some,Array.getElem?_eq_getElem hlt]
     generalize a.tmps[d]=q at hrep
     cases hrep;rfl
    split at h
    ·rename_i hbw
     simp only [beq_iff_eq] at hbw
     split at h
     ·rename_i r0 hev
      simp only [Option.some.injEq] at h;subst h
      rw [if_pos (by simp [Region.wanted,hg,hy,hC.1,hbw])]
      exact .inl (X4Q hE hr hev hC.2 hn next Q hnx)
     ·cases h
    ·rename_i hbw
     simp only [beq_eq_false_iff_ne] at hbw
     simp only [Option.some.injEq] at h;subst h
     rw [if_neg (by simp [Region.wanted,hg,hy,hC.1,hbw])]
     exact hnx undef w (Post.plain X2T)
   ·cases h
  ·cases h
theorem X8q {ops:List Oper} {deps:List Nat} {tmB:List AV} {rows:List Row}:∀ (l:List Oper) (R:List DR) (ans:List Ans) (R':List DR) (ans':List Ans) (C:List Prop),X48 P E ops deps tmB rows l R ans=some (R',ans',C)→All C →
  R'.length=R.length + l.length∧R'.take R.length=R∧∀ i o,l[i]? = some o→∃ ans r,evPO P E ops (view tmB rows (R'.take (R.length + i)) (Nat.testBit ((deps[R.length + i]?).getD 0))) o ans=some r∧All r.C∧R'[R.length + i]? = some ⟨o.dst,r.av,r.new⟩:=by
 intro l
 induction l with
 | nil =>
  intro R ans R' ans' C h hC
  simp only [X48,Option.some.injEq,Prod.mk.injEq] at h
  obtain ⟨rfl,rfl,rfl⟩:=h
  exact ⟨by simp,by simp,by simp⟩
 | cons o l ih =>
  intro R ans R' ans' C h hC
  simp only [X48] at h
  split at h
  ·rename_i r hev
   split at h
   ·rename_i R1 ans1 C1 hrest
    simp only [Option.some.injEq,Prod.mk.injEq] at h
    obtain ⟨rfl,rfl,rfl⟩:=h
    rw [All.append] at hC
    obtain ⟨h1,h2,h3⟩:=ih _ _ _ _ _ hrest hC.2
    simp only [List.length_append,List.length_cons,List.length_nil,Nat.zero_add] at h1 h2 h3
    have htake:R1.take R.length=R:=by
     have:=congrArg (List.take R.length) h2
     rw [List.take_take,Nat.min_eq_left (by omega),List.take_left] at this
     exact this
    refine ⟨by simp;omega,htake,fun i o' ho' => ?_⟩
    cases i with
    | zero =>
     simp at ho';subst ho'
     refine ⟨ans,r,by rw [Nat.add_zero,htake];exact hev,hC.1,?_⟩
     have:(R1.take (R.length + 1))[R.length]? = some ⟨o.dst,r.av,r.new⟩:=by rw [h2];simp
     rw [List.getElem?_take_of_lt (by omega)] at this
     simpa using this
    | succ i =>
     obtain ⟨a1,r1,b1,b2,b3⟩:=h3 i o' (by simpa using ho')
     rw [show R.length + (i + 1)=R.length + 1 + i from by omega]
     exact ⟨a1,r1,b1,b2,b3⟩
   ·cases h
  ·cases h
theorem X2q:∀ (l:List Bool) (i:Nat),l[i]? = some false→(l.set i true).countP (fun b => !b) + 1=l.countP (fun b => !b)
 | [],i,h=>by simp at h
 | x :: l,0,h=>by simp at h;subst h;simp
 | x :: l,i + 1,h=>by
  have:=X2q l i (by simpa using h)
  simp only [List.set_cons_succ,List.countP_cons]
  omega
theorem XY {ops:Array Oper} {listed:Array Bool} (hs:listed.size=ops.size) {i:Nat}:i∈Region.ready .any ops listed↔i < ops.size∧listed[i]? = some false∧∀ o,ops.toList[i]? = some o→∀ e∈o.after,Region.binds .any e=true→listed.getD e.on false=true:=by
 unfold Region.ready
 simp only [List.mem_filter,List.mem_range,Bool.and_eq_true,Bool.not_eq_true',Array.getElem?_toList]
 constructor
 ·rintro ⟨h1,h2,h3⟩
  have hl:listed[i]? = some false:=by
   rw [Array.getD_eq_getD_getElem?,Array.getElem?_eq_getElem (by omega)] at h2
   rw [Array.getElem?_eq_getElem (by omega)];simpa using h2
  refine ⟨h1,hl,fun o ho e he hb => ?_⟩
  rw [ho] at h3
  simp only [Option.map_some,Option.getD_some,Array.all_eq_true_iff_forall_mem,Bool.or_eq_true,Bool.not_eq_true'] at h3
  rcases h3 e he with h | h
  ·rw [hb] at h;cases h
  ·exact h
 ·rintro ⟨h1,h2,h3⟩
  refine ⟨h1,by rw [Array.getD_eq_getD_getElem?,h2];rfl,?_⟩
  have ho:ops[i]? = some ops[i]:=Array.getElem?_eq_getElem h1
  rw [ho]
  simp only [Option.map_some,Option.getD_some,Array.all_eq_true_iff_forall_mem,Bool.or_eq_true,Bool.not_eq_true']
  intro e he
  cases hb:Region.binds .any e with
  | false=>exact .inl rfl
  | true=>exact .inr (h3 _ ho e he hb)
end
end Go.Ab
