/- Edges of triangles: plain. -/
import Derived.Test.YtiddhiepmakopaaA33
set_option linter.unusedVariables false
set_option linter.unusedSimpArgs false
namespace Go.Ab
open Go.RowKit
structure Gedge where
 e0:Int
 e1:Int
 deriving Inhabited,DecidableEq
def Gedge.cells (v:Gedge):List AV:=[.i .i64 v.e0, .i .i64 v.e1]
def Gedge.pr (v:Gedge):Int × Int:=(v.e0,v.e1)
theorem Gedge.inj:∀ x y:Gedge,x.pr=y.pr→x=y:=by
 rintro ⟨a,b⟩ ⟨c,d⟩ h
 simp only [Gedge.pr,Prod.mk.injEq] at h
 rw [h.1,h.2]
def OkE (n:Nat) (ts:List (List Int)):Prop :=
 n≤64∧ts.length≤128∧∀ t∈ts,∃ a b c,t=[a,b,c]∧(0≤a∧a < (n:Int))∧(0≤b∧b < (n:Int))∧(0≤c∧c < (n:Int))∧a≠b∧b≠c∧a≠c
theorem OkE.tris {n:Nat} {ts:List (List Int)} (h:OkE n ts):X2V n ts:=fun t ht=>by
 obtain ⟨a,b,c,rfl,h1,h2,h3,-⟩:=h.2.2 t ht
 refine ⟨rfl,fun x hx => ?_⟩
 simp only [List.mem_cons,List.not_mem_nil,or_false] at hx
 rcases hx with rfl | rfl | rfl<;>omega
theorem OkE.at {n:Nat} {ts:List (List Int)} {i k:Int} (h:OkE n ts) (h0:0≤i) (hi:i < (ts.length:Int)) (k0:0≤k) (k3:k < 3) :
  (ts.getD i.toNat default).length=3∧0≤Int.tmod (k + 1) 3∧Int.tmod (k + 1) 3 < 3 ∧
  (0≤(ts.getD i.toNat default).getD k.toNat default∧(ts.getD i.toNat default).getD k.toNat default < (n:Int)) ∧
  (0≤(ts.getD i.toNat default).getD (Int.tmod (k + 1) 3).toNat default∧(ts.getD i.toNat default).getD (Int.tmod (k + 1) 3).toNat default < (n:Int))∧(n:Int)≤64∧(ts.length:Int)≤128:=by
 have q1:=h.tris.at2 h0 hi k0 (.inl k3)
 have q2:=X7G (x:=k + 1) (by omega)
 have q3:=h.tris.at2 h0 hi q2.1 (.inl q2.2)
 have:=h.1;have:=h.2.1
 exact ⟨q1.1,q2.1,q2.2,q1.2,q3.2,by omega,by omega⟩
def mkE (u v:Int):Gedge:=if u≤v then ⟨u,v⟩ else ⟨v,u⟩
def tE (t:List Int):List Gedge:=[mkE (t.getD 0 default) (t.getD 1 default),mkE (t.getD 1 default) (t.getD 2 default),mkE (t.getD 2 default) (t.getD 0 default)]
def tHas (t:List Int) (a b:Int):Bool:=(t.getD 0 default == a || (t.getD 1 default == a || t.getD 2 default == a)) && (t.getD 0 default == b || (t.getD 1 default == b || t.getD 2 default == b))
theorem X7z {u v a b:Int} (h:a < b):mkE u v=⟨a,b⟩↔(u=a∧v=b)∨(u=b∧v=a):=by
 unfold mkE
 split<;>simp only [Gedge.mk.injEq]<;>omega
theorem X6q {x y z:Int} (h1:x≠y) (h2:y≠z) (h3:x≠z) {a b:Int} (h:a < b):(⟨a,b⟩:Gedge)∈tE [x,y,z]↔tHas [x,y,z] a b=true:=by
 unfold tE tHas
 simp only [List.getD_cons_zero,List.getD_cons_succ,List.mem_cons,List.not_mem_nil,or_false,eq_comm (a:=(⟨a,b⟩:Gedge)),X7z h,Bool.and_eq_true,Bool.or_eq_true,beq_iff_eq]
 constructor
 ·rintro ((⟨rfl,rfl⟩ | ⟨rfl,rfl⟩) | (⟨rfl,rfl⟩ | ⟨rfl,rfl⟩) | (⟨rfl,rfl⟩ | ⟨rfl,rfl⟩))<;>simp
 ·rintro ⟨rfl | rfl | rfl,rfl | rfl | rfl⟩<;>first | omega | simp_all
theorem X6N {x y z:Int} (h1:x≠y) (h2:y≠z) (h3:x≠z):(tE [x,y,z]).Nodup:=by
 unfold tE mkE
 simp only [List.getD_cons_zero,List.getD_cons_succ,List.nodup_cons,List.mem_cons,List.not_mem_nil,or_false,not_or,not_false_iff,List.nodup_nil,and_true]
 refine ⟨⟨?_,?_⟩,?_⟩<;>(split<;>split<;>simp only [Gedge.mk.injEq]<;>omega)
def gl (l:List (Gedge × List Int)) (e:Gedge):List Int:=cond (mhas l e) ((l.getD (midx l e) default).2) []
theorem Xu {x:Gedge × List Int} {l:List (Gedge × List Int)} {e:Gedge}:mhas (x :: l) e=(decide (x.1=e) || mhas l e):=rfl
theorem X46 {x:Gedge × List Int} {l:List (Gedge × List Int)} {e:Gedge}:midx (x :: l) e=cond (decide (x.1=e)) 0 (midx l e + 1):=by
 unfold midx;rw [List.findIdx_cons]
theorem X1A {x:Gedge × List Int} {l:List (Gedge × List Int)} {e:Gedge}:gl (x :: l) e=cond (decide (x.1=e)) x.2 (gl l e):=by
 unfold gl;rw [Xu,X46]
 cases decide (x.1=e)<;>simp
theorem X4n {x:Gedge × List Int} {l:List (Gedge × List Int)} {y:List Int}:mput (x :: l) 0 y=(x.1,y) :: l:=rfl
theorem X3Q {x:Gedge × List Int} {l:List (Gedge × List Int)} {y:List Int} {j:Nat}:mput (x :: l) (j + 1) y=x :: mput l j y:=by simp [mput]
theorem X5B:∀ (l:List (Gedge × List Int)) (e:Gedge) (y:List Int) (e':Gedge),mhas l e=true→mhas (mput l (midx l e) y) e'=mhas l e'∧gl (mput l (midx l e) y) e'=if e'=e then y else gl l e'
 | [],e,y,e',h=>by simp [mhas] at h
 | x :: l,e,y,e',h=>by
  rw [Xu] at h
  rw [X46]
  cases hx:decide (x.1=e) with
  | true =>
   have hx':=of_decide_eq_true hx
   rw [cond_true,X4n,Xu,Xu,X1A,X1A]
   refine ⟨rfl,?_⟩
   simp only
   by_cases h1:e'=e
   ·rw [if_pos h1,hx',decide_eq_true h1.symm];rfl
   ·rw [if_neg h1,hx',decide_eq_false fun h=>h1 h.symm];rfl
  | false =>
   rw [hx,Bool.false_or] at h
   obtain ⟨g1,g2⟩:=X5B l e y e' h
   rw [cond_false,X3Q,Xu,Xu,X1A,X1A,g1,g2]
   refine ⟨rfl,?_⟩
   have hx':=of_decide_eq_false hx
   by_cases h1:e'=e
   ·rw [if_pos h1,if_pos h1,decide_eq_false fun h=>hx' (h.trans h1)];rfl
   ·rw [if_neg h1,if_neg h1]
theorem X5C:∀ (l:List (Gedge × List Int)) (e:Gedge) (y:List Int) (e':Gedge),mhas l e=false→mhas (l ++ [(e,y)]) e'=(decide (e=e') || mhas l e')∧gl (l ++ [(e,y)]) e'=if e'=e then y else gl l e'
 | [],e,y,e',_=>by
  rw [List.nil_append,Xu,X1A]
  refine ⟨rfl,?_⟩
  by_cases h1:e'=e
  ·rw [if_pos h1,decide_eq_true h1.symm];rfl
  ·rw [if_neg h1,decide_eq_false fun h=>h1 h.symm];rfl
 | x :: l,e,y,e',h=>by
  rw [Xu,Bool.or_eq_false_iff] at h
  obtain ⟨g1,g2⟩:=X5C l e y e' h.2
  have hx':=of_decide_eq_false h.1
  rw [List.cons_append,Xu,X1A,g1,g2,Xu,X1A]
  constructor
  ·cases decide (x.1=e')<;>cases decide (e=e')<;>rfl
  ·by_cases h1:e'=e
   ·rw [if_pos h1,if_pos h1,decide_eq_false fun h=>hx' (h.trans h1)];rfl
   ·rw [if_neg h1,if_neg h1]
def stE (s:List (Gedge × List Int) × List Gedge) (e:Gedge) (i:Int):List (Gedge × List Int) × List Gedge :=
 cond (mhas s.1 e) (cond (((s.1.getD (midx s.1 e) default).2.length:Int) == 0) (mput s.1 (midx s.1 e) ((s.1.getD (midx s.1 e) default).2 ++ [i]),s.2 ++ [e])
  (mput s.1 (midx s.1 e) ((s.1.getD (midx s.1 e) default).2 ++ [i]),s.2)) (s.1 ++ [(e,[i])],s.2 ++ [e])
structure EInv (s:List (Gedge × List Int) × List Gedge):Prop where
 has:∀ e,mhas s.1 e=true↔gl s.1 e≠[]
 mem:∀ e,e∈s.2↔gl s.1 e≠[]
 nd:s.2.Nodup
theorem EInv.nil:EInv ([],[]):=⟨fun e=>by simp [mhas,gl],fun e=>by simp [mhas,gl],List.nodup_nil⟩
theorem X5e {s:List (Gedge × List Int) × List Gedge} (h:EInv s) (e:Gedge) (i:Int):EInv (stE s e i)∧∀ e',gl (stE s e i).1 e'=if e'=e then gl s.1 e ++ [i] else gl s.1 e':=by
 unfold stE
 cases hh:mhas s.1 e with
 | true =>
  have hne:=(h.has e).1 hh
  have hgl:(s.1.getD (midx s.1 e) default).2=gl s.1 e:=by unfold gl;rw [hh];rfl
  have hz:(((s.1.getD (midx s.1 e) default).2.length:Int) == 0)=false:=by
   rw [hgl,beq_eq_false_iff_ne];intro hc;exact hne (List.length_eq_zero_iff.1 (by omega))
  rw [hz,cond_true,cond_false,hgl]
  have P:=fun e'=>X5B s.1 e (gl s.1 e ++ [i]) e' hh
  refine ⟨⟨fun e' => ?_,fun e' => ?_,h.nd⟩,fun e'=>(P e').2⟩
  ·rw [(P e').1,(P e').2,h.has]
   split
   ·rename_i h1;subst h1;simp [hne]
   ·rfl
  ·rw [(P e').2,h.mem]
   split
   ·rename_i h1;subst h1;simp [hne]
   ·rfl
 | false =>
  have hgl:gl s.1 e=[]:=by unfold gl;rw [hh];rfl
  rw [cond_false,hgl]
  have P:=fun e'=>X5C s.1 e [i] e' hh
  refine ⟨⟨fun e' => ?_,fun e' => ?_,?_⟩,fun e'=>(P e').2⟩
  ·rw [(P e').1,(P e').2,Bool.or_eq_true,h.has,decide_eq_true_iff]
   split
   ·rename_i h1;subst h1;simp
   ·rename_i h1;simp only [eq_comm (a:=e),h1,false_or]
  ·rw [List.mem_append,(P e').2,h.mem,List.mem_singleton]
   split
   ·rename_i h1;subst h1;simp
   ·rename_i h1;simp only [h1,or_false]
  ·rw [List.nodup_append]
   refine ⟨h.nd,by simp,fun a ha b hb => ?_⟩
   simp only [List.mem_singleton] at hb
   subst hb
   intro hab;subst hab
   exact (h.mem a).1 ha hgl
def stT (s:List (Gedge × List Int) × List Gedge) (t:List Int) (i:Int):List (Gedge × List Int) × List Gedge :=
 stE (stE (stE s (mkE (t.getD 0 default) (t.getD 1 default)) i) (mkE (t.getD 1 default) (t.getD 2 default)) i) (mkE (t.getD 2 default) (t.getD 0 default)) i
theorem X7g {s:List (Gedge × List Int) × List Gedge} (h:EInv s) {x y z:Int} (h1:x≠y) (h2:y≠z) (h3:x≠z) (i:Int) :
  EInv (stT s [x,y,z] i)∧∀ e,gl (stT s [x,y,z] i).1 e=gl s.1 e ++ (if e∈tE [x,y,z] then [i] else []):=by
 obtain ⟨a1,a2⟩:=X5e h (mkE x y) i
 obtain ⟨b1,b2⟩:=X5e a1 (mkE y z) i
 obtain ⟨c1,c2⟩:=X5e b1 (mkE z x) i
 refine ⟨c1,fun e => ?_⟩
 have hnd:=X6N h1 h2 h3
 unfold tE at hnd ⊢
 unfold stT
 simp only [List.getD_cons_zero,List.getD_cons_succ,List.nodup_cons,List.mem_cons,List.not_mem_nil,or_false,not_or,not_false_iff,List.nodup_nil,and_true] at hnd ⊢
 obtain ⟨⟨n1,n2⟩,n3⟩:=hnd
 rw [c2,b2,b2,a2,a2,a2]
 by_cases e1:e=mkE x y
 ·subst e1;simp [n1,n2]
 ·by_cases e2:e=mkE y z
  ·subst e2;simp [n3,Ne.symm n1,e1]
  ·by_cases e3:e=mkE z x
   ·subst e3;simp [Ne.symm n2,Ne.symm n3]
   ·simp [e1,e2,e3]
def idxE (ts:List (List Int)) (j:Nat) (e:Gedge):List Int:=((List.range j).filter fun i=>decide (e∈tE (ts.getD i default))).map fun (i:Nat)=>(i:Int)
theorem X6r (ts:List (List Int)) (j:Nat) (e:Gedge):idxE ts (j + 1) e=idxE ts j e ++ (if e∈tE (ts.getD j default) then [(j:Int)] else []):=by
 unfold idxE
 rw [List.range_succ,List.filter_append,List.map_append]
 congr 1
 by_cases h:e∈tE (ts.getD j default)
 ·rw [if_pos h,List.filter_cons_of_pos (by simpa using h)];rfl
 ·rw [if_neg h,List.filter_cons_of_neg (by simpa using h)];rfl
structure ETab (ts:List (List Int)) (j:Nat) (s:List (Gedge × List Int) × List Gedge):Prop where
 inv:EInv s
 val:∀ e,gl s.1 e=idxE ts j e
theorem ETab.loop {n:Nat} {ts:List (List Int)} (ok:OkE n ts) {lo:Nat→Int→List (Gedge × List Int)→List Gedge→List (Gedge × List Int) × List Gedge}
  (h:∀ k i b l,0≤i→lo (k + 1) i b l=cond (decide (i < (ts.length:Int))) (lo k (i + 1) (stT (b,l) (ts.getD i.toNat default) i).1 (stT (b,l) (ts.getD i.toNat default) i).2) (b,l)) :
  ∀ (k:Nat) (i:Nat) (s:List (Gedge × List Int) × List Gedge),i≤ts.length→ETab ts i s→((ts.length:Int) - i).toNat < k→ETab ts ts.length (lo k i s.1 s.2):=by
 intro k
 induction k with
 | zero=>intro i s _ _ hk;exact absurd hk (Nat.not_lt_zero _)
 | succ k ih =>
  intro i s hle hs hk
  rw [h _ _ _ _ (by omega)]
  by_cases hi:(i:Int) < (ts.length:Int)
  ·rw [decide_eq_true hi,cond_true]
   have hm:ts.getD i default∈ts:=by rw [List.getD_eq_getElem?_getD,List.getElem?_eq_getElem (by omega)];exact List.getElem_mem _
   obtain ⟨x,y,z,ht,-,-,-,n1,n2,n3⟩:=ok.2.2 _ hm
   rw [show ((i:Int)).toNat=i from by omega,ht]
   obtain ⟨g1,g2⟩:=X7g hs.inv n1 n2 n3 (i:Int)
   have:=ih (i + 1) (stT s [x,y,z] i) (by omega) ⟨g1,fun e=>by rw [g2,hs.val,X6r,ht]⟩ (by omega)
   exact this
  ·rw [decide_eq_false hi,cond_false]
   have:i=ts.length:=by omega
   rw [this] at hs;exact hs
theorem ETab.nil (ts:List (List Int)):ETab ts 0 ([],[]):=⟨EInv.nil,fun e=>by simp [gl,mhas,idxE]⟩
def edgL (n:Nat) (ts:List (List Int)):List Gedge :=
 (List.range n).flatMap fun (a:Nat)=>((List.range (n - (a + 1))).filter fun (j:Nat)=>ts.any fun t=>tHas t a ((a:Int) + 1 + j)).map fun (j:Nat)=>(⟨a,(a:Int) + 1 + j⟩:Gedge)
theorem X6O {n:Nat} {ts:List (List Int)} {e:Gedge}:e∈edgL n ts↔(0≤e.e0∧e.e0 < e.e1∧e.e1 < (n:Int))∧(ts.any fun t=>tHas t e.e0 e.e1)=true:=by
 unfold edgL
 simp only [List.mem_flatMap,List.mem_range,List.mem_map,List.mem_filter]
 constructor
 ·rintro ⟨a,ha,j,⟨hj,hh⟩,rfl⟩
  exact ⟨by simp only;omega,hh⟩
 ·obtain ⟨a,b⟩:=e
  rintro ⟨⟨h0,h1,h2⟩,hh⟩
  simp only at h0 h1 h2 hh
  have e1:((a.toNat:Nat):Int)=a:=by omega
  have e2:(((b - a - 1).toNat:Nat):Int)=b - a - 1:=by omega
  refine ⟨a.toNat,by omega,(b - a - 1).toNat,⟨by omega,?_⟩,?_⟩
  ·rw [e1,e2,show a + 1 + (b - a - 1)=b from by omega];exact hh
  ·rw [e1,e2,show a + 1 + (b - a - 1)=b from by omega]
theorem X7h {n:Nat} {ts:List (List Int)} (ok:OkE n ts) (e:Gedge):idxE ts ts.length e≠[]↔e∈edgL n ts:=by
 rw [X6O]
 unfold idxE
 rw [Ne,List.map_eq_nil_iff,← List.isEmpty_iff,Bool.not_eq_true,List.isEmpty_eq_false_iff_exists_mem]
 simp only [List.mem_filter,List.mem_range,decide_eq_true_eq,List.any_eq_true]
 obtain ⟨a,b⟩:=e
 constructor
 ·rintro ⟨i,hi,hh⟩
  have hm:ts.getD i default∈ts:=by rw [List.getD_eq_getElem?_getD,List.getElem?_eq_getElem hi];exact List.getElem_mem _
  obtain ⟨x,y,z,ht,r1,r2,r3,n1,n2,n3⟩:=ok.2.2 _ hm
  have hab:0≤a∧a < b∧b < (n:Int):=by
   rw [ht] at hh
   unfold tE mkE at hh
   simp only [List.getD_cons_zero,List.getD_cons_succ,List.mem_cons,List.not_mem_nil,or_false] at hh
   rcases hh with hh | hh | hh<;>(split at hh<;>simp only [Gedge.mk.injEq] at hh<;>omega)
  refine ⟨hab,_,hm,?_⟩
  rw [ht] at hh ⊢
  exact (X6q n1 n2 n3 hab.2.1).1 hh
 ·rintro ⟨hab,t,hm,hh⟩
  obtain ⟨i,hi,rfl⟩:=List.getElem_of_mem hm
  refine ⟨i,hi,?_⟩
  rw [List.getD_eq_getElem?_getD,List.getElem?_eq_getElem hi,Option.getD_some]
  obtain ⟨x,y,z,ht,r1,r2,r3,n1,n2,n3⟩:=ok.2.2 _ hm
  rw [ht] at hh ⊢
  exact (X6q n1 n2 n3 hab.2.1).2 hh
theorem ETab.at {n:Nat} {ts:List (List Int)} (ok:OkE n ts) {s:List (Gedge × List Int) × List Gedge} (h:ETab ts ts.length s) {e:Gedge} (he:e∈edgL n ts) :
  mhas s.1 e=true∧(s.1.getD (midx s.1 e) default).2=idxE ts ts.length e:=by
 have h1:=(X7h ok e).2 he
 have h2:mhas s.1 e=true:=(h.inv.has e).2 (by rw [h.val];exact h1)
 refine ⟨h2,?_⟩
 rw [← h.val];unfold gl;rw [h2];rfl
theorem Okh.at {n:Nat} {t:List Int} (h:t.length=4∧∀ x∈t,0≤x∧x < (n:Int)) :
  t.length=4∧(0≤t.getD 0 default∧t.getD 0 default < (n:Int))∧(0≤t.getD 1 default∧t.getD 1 default < (n:Int))∧(0≤t.getD 2 default∧t.getD 2 default < (n:Int))∧(0≤t.getD 3 default∧t.getD 3 default < (n:Int)):=by
 obtain ⟨h1,h2⟩:=h
 match t,h1 with
 | [a,b,c,d],_=>exact ⟨rfl,h2 a (by simp),h2 b (by simp),h2 c (by simp),h2 d (by simp)⟩
def e2 (e:Gedge):List Int:=[e.e0,e.e1]
end Go.Ab
