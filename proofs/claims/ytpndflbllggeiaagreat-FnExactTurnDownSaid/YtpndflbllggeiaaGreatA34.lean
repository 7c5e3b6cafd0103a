/- Edges of triangles: plain. -/
import Derived.Test.YtpndflbllggeiaaGreatA33
set_option linter.unusedVariables false
set_option linter.unusedSimpArgs false
namespace Go.Ab
open Go.RowKit
structure Gedge where
 e0:Int
 e1:Int
 deriving Inhabited,DecidableEq
def Gedge.cells (v:Gedge):List AV:=[.i .i64 v.e0, .i .i64 v.e1]
def Gedge.pr (v:Gedge):Int × Int:=(v.e0,v.e1)
theorem Gedge.inj:∀ x y:Gedge,x.pr=y.pr→x=y:=by
 rintro ⟨a,b⟩ ⟨c,d⟩ h
 simp only [Gedge.pr,Prod.mk.injEq] at h
 rw [h.1,h.2]
def cmpP (a b:Int × Int):Int:=if a.1 < b.1 then -1 else if a.1 > b.1 then 1 else if a.2 < b.2 then -1 else if a.2 > b.2 then 1 else 0
def leP (a b:Int × Int):Bool:=!(decide (cmpP b a < 0))
def X24 {α:Type} (ck:α→Int × Int) (l:List α):List α:=l.mergeSort fun x y=>leP (ck x) (ck y)
theorem X27 (a b:Int × Int):leP a b=true↔a.1 < b.1∨(a.1=b.1∧a.2≤b.2):=by
 unfold leP cmpP
 simp only [Bool.not_eq_true',decide_eq_false_iff_not]
 split
 ·constructor<;>intro<;>omega
 ·split
  ·constructor<;>intro<;>omega
  ·split
   ·constructor<;>intro<;>omega
   ·split<;>constructor<;>intro<;>omega
@[simp] theorem X5H {α:Type} (ck:α→Int × Int) (l:List α):(X24 ck l).length=l.length:=by simp [X24]
def OkE (n:Nat) (ts:List (List Int)):Prop :=
 n≤64∧ts.length≤128∧∀ t∈ts,∃ a b c,t=[a,b,c]∧(0≤a∧a < (n:Int))∧(0≤b∧b < (n:Int))∧(0≤c∧c < (n:Int))∧a≠b∧b≠c∧a≠c
theorem OkE.tris {n:Nat} {ts:List (List Int)} (h:OkE n ts):Xr n ts:=fun t ht=>by
 obtain ⟨a,b,c,rfl,h1,h2,h3,-⟩:=h.2.2 t ht
 refine ⟨rfl,fun x hx => ?_⟩
 simp only [List.mem_cons,List.not_mem_nil,or_false] at hx
 rcases hx with rfl | rfl | rfl<;>omega
theorem OkE.at {n:Nat} {ts:List (List Int)} {i k:Int} (h:OkE n ts) (h0:0≤i) (hi:i < (ts.length:Int)) (k0:0≤k) (k3:k < 3) :
  (ts.getD i.toNat default).length=3∧0≤Int.tmod (k + 1) 3∧Int.tmod (k + 1) 3 < 3 ∧
  (0≤(ts.getD i.toNat default).getD k.toNat default∧(ts.getD i.toNat default).getD k.toNat default < (n:Int)) ∧
  (0≤(ts.getD i.toNat default).getD (Int.tmod (k + 1) 3).toNat default∧(ts.getD i.toNat default).getD (Int.tmod (k + 1) 3).toNat default < (n:Int))∧(n:Int)≤64∧(ts.length:Int)≤128:=by
 have q1:=h.tris.at2 h0 hi k0 (.inl k3)
 have q2:=X6G (x:=k + 1) (by omega)
 have q3:=h.tris.at2 h0 hi q2.1 (.inl q2.2)
 have:=h.1;have:=h.2.1
 exact ⟨q1.1,q2.1,q2.2,q1.2,q3.2,by omega,by omega⟩
theorem tri3 {n:Nat} {ts:List (List Int)} (h:OkE n ts) {i:Int} (h0:0≤i) (hi:decide (i < (ts.length:Int))=true):(ts.getD i.toNat default).length=3∧∀ x∈ts.getD i.toNat default,0≤x∧x < (n:Int):=Xr.get h.tris h0 (of_decide_eq_true hi)
theorem X4Q {n:Nat} {ts:List (List Int)} (h:OkE n ts) {i:Int} (h0:0≤i) (hi:decide (i < (ts.length:Int))=true):(ts.getD i.toNat default).length≤1073741824:=by have:=(tri3 h h0 hi).1;omega
theorem ix2 {n a b:Int} (hn:n≤64) (a0:0≤a) (an:a < n) (b0:0≤b) (bn:b < n) :
  IntKind.wrap .i64 (IntKind.wrap .i64 (a * n) + b)=a * n + b∧0≤a * n + b∧a * n + b < n * n∧IntKind.wrap .i64 (n * n)=n * n∧n * n≤4096:=by
 have h1:0≤a * n:=Int.mul_nonneg a0 (by omega)
 have h2:a * n + n≤n * n:=by
  have:(a + 1) * n≤n * n:=Int.mul_le_mul_of_nonneg_right (by omega) (by omega)
  rw [Int.add_mul,Int.one_mul] at this;exact this
 have h3:n * n≤64 * 64:=Int.mul_le_mul hn hn (by omega) (by omega)
 have e1:IntKind.wrap .i64 (a * n)=a * n:=Xb (by omega) (by omega)
 have e2:IntKind.wrap .i64 (n * n)=n * n:=Xb (by omega) (by omega)
 refine ⟨by rw [e1];exact Xb (by omega) (by omega),by omega,by omega,e2,by omega⟩
theorem ix2F {n a b:Int} (hn:n≤64) (a0:0≤a) (an:a < n) (b0:0≤b) (bn:b < n) :
  0≤IntKind.wrap .i64 (IntKind.wrap .i64 (a * n) + b)∧IntKind.wrap .i64 (IntKind.wrap .i64 (a * n) + b) < ((IntKind.wrap .i64 (n * n)).toNat:Int)∧(IntKind.wrap .i64 (IntKind.wrap .i64 (a * n) + b)).toNat < (IntKind.wrap .i64 (n * n)).toNat:=by
 obtain ⟨h1,h2,h3,h4,h5⟩:=ix2 hn a0 an b0 bn
 rw [h1,h4];omega
theorem ixN {n:Nat} (h:n≤64):0≤IntKind.wrap .i64 ((n:Int) * (n:Int))∧IntKind.wrap .i64 ((n:Int) * (n:Int))≤4096:=by
 have h1:0≤(n:Int) * (n:Int):=Int.mul_nonneg (by omega) (by omega)
 have h3:(n:Int) * (n:Int)≤64 * 64:=Int.mul_le_mul (by omega) (by omega) (by omega) (by omega)
 rw [Xb (by omega) (by omega)];omega
theorem X7H {n a b c d:Int} (b0:0≤b) (bn:b < n) (d0:0≤d) (dn:d < n) (h:a * n + b=c * n + d):a=c∧b=d:=by
 have h1:(a * n + b) / n=a:=by rw [Int.add_comm,Int.add_mul_ediv_right _ _ (by omega),Int.ediv_eq_zero_of_lt b0 bn];omega
 have h2:(c * n + d) / n=c:=by rw [Int.add_comm,Int.add_mul_ediv_right _ _ (by omega),Int.ediv_eq_zero_of_lt d0 dn];omega
 rw [h] at h1
 have:a=c:=by rw [← h1,h2]
 subst this
 exact ⟨rfl,by omega⟩
def mkE (u v:Int):Gedge:=if u≤v then ⟨u,v⟩ else ⟨v,u⟩
def tE (t:List Int):List Gedge:=[mkE (t.getD 0 default) (t.getD 1 default),mkE (t.getD 1 default) (t.getD 2 default),mkE (t.getD 2 default) (t.getD 0 default)]
def tHas (t:List Int) (a b:Int):Bool:=(t.getD 0 default == a || (t.getD 1 default == a || t.getD 2 default == a)) && (t.getD 0 default == b || (t.getD 1 default == b || t.getD 2 default == b))
theorem X7Y {u v a b:Int} (h:a < b):mkE u v=⟨a,b⟩↔(u=a∧v=b)∨(u=b∧v=a):=by
 unfold mkE
 split<;>simp only [Gedge.mk.injEq]<;>omega
theorem X3X {x y z:Int} (h1:x≠y) (h2:y≠z) (h3:x≠z) {a b:Int} (h:a < b):(⟨a,b⟩:Gedge)∈tE [x,y,z]↔tHas [x,y,z] a b=true:=by
 unfold tE tHas
 simp only [List.getD_cons_zero,List.getD_cons_succ,List.mem_cons,List.not_mem_nil,or_false,eq_comm (a:=(⟨a,b⟩:Gedge)),X7Y h,Bool.and_eq_true,Bool.or_eq_true,beq_iff_eq]
 constructor
 ·rintro ((⟨rfl,rfl⟩ | ⟨rfl,rfl⟩) | (⟨rfl,rfl⟩ | ⟨rfl,rfl⟩) | (⟨rfl,rfl⟩ | ⟨rfl,rfl⟩))<;>simp
 ·rintro ⟨rfl | rfl | rfl,rfl | rfl | rfl⟩<;>first | omega | simp_all
theorem X7r {x y z:Int} (h1:x≠y) (h2:y≠z) (h3:x≠z):(tE [x,y,z]).Nodup:=by
 unfold tE mkE
 simp only [List.getD_cons_zero,List.getD_cons_succ,List.nodup_cons,List.mem_cons,List.not_mem_nil,or_false,not_or,not_false_iff,List.nodup_nil,and_true]
 refine ⟨⟨?_,?_⟩,?_⟩<;>(split<;>split<;>simp only [Gedge.mk.injEq]<;>omega)
def gl (l:List (Gedge × List Int)) (e:Gedge):List Int:=cond (mhas l e) ((l.getD (midx l e) default).2) []
theorem XE {x:Gedge × List Int} {l:List (Gedge × List Int)} {e:Gedge}:mhas (x :: l) e=(decide (x.1=e) || mhas l e):=rfl
theorem X4x {x:Gedge × List Int} {l:List (Gedge × List Int)} {e:Gedge}:midx (x :: l) e=cond (decide (x.1=e)) 0 (midx l e + 1):=by
 unfold midx;rw [List.findIdx_cons]
theorem X1L {x:Gedge × List Int} {l:List (Gedge × List Int)} {e:Gedge}:gl (x :: l) e=cond (decide (x.1=e)) x.2 (gl l e):=by
 unfold gl;rw [XE,X4x]
 cases decide (x.1=e)<;>simp
theorem X4J {x:Gedge × List Int} {l:List (Gedge × List Int)} {y:List Int}:mput (x :: l) 0 y=(x.1,y) :: l:=rfl
theorem X4d {x:Gedge × List Int} {l:List (Gedge × List Int)} {y:List Int} {j:Nat}:mput (x :: l) (j + 1) y=x :: mput l j y:=by simp [mput]
theorem X68:∀ (l:List (Gedge × List Int)) (e:Gedge) (y:List Int) (e':Gedge),mhas l e=true→mhas (mput l (midx l e) y) e'=mhas l e'∧gl (mput l (midx l e) y) e'=if e'=e then y else gl l e'
 | [],e,y,e',h=>by simp [mhas] at h
 | x :: l,e,y,e',h=>by
  rw [XE] at h
  rw [X4x]
  cases hx:decide (x.1=e) with
  | true =>
   have hx':=of_decide_eq_true hx
   rw [cond_true,X4J,XE,XE,X1L,X1L]
   refine ⟨rfl,?_⟩
   simp only
   by_cases h1:e'=e
   ·rw [if_pos h1,hx',decide_eq_true h1.symm];rfl
   ·rw [if_neg h1,hx',decide_eq_false fun h=>h1 h.symm];rfl
  | false =>
   rw [hx,Bool.false_or] at h
   obtain ⟨g1,g2⟩:=X68 l e y e' h
   rw [cond_false,X4d,XE,XE,X1L,X1L,g1,g2]
   refine ⟨rfl,?_⟩
   have hx':=of_decide_eq_false hx
   by_cases h1:e'=e
   ·rw [if_pos h1,if_pos h1,decide_eq_false fun h=>hx' (h.trans h1)];rfl
   ·rw [if_neg h1,if_neg h1]
theorem X69:∀ (l:List (Gedge × List Int)) (e:Gedge) (y:List Int) (e':Gedge),mhas l e=false→mhas (l ++ [(e,y)]) e'=(decide (e=e') || mhas l e')∧gl (l ++ [(e,y)]) e'=if e'=e then y else gl l e'
 | [],e,y,e',_=>by
  rw [List.nil_append,XE,X1L]
  refine ⟨rfl,?_⟩
  by_cases h1:e'=e
  ·rw [if_pos h1,decide_eq_true h1.symm];rfl
  ·rw [if_neg h1,decide_eq_false fun h=>h1 h.symm];rfl
 | x :: l,e,y,e',h=>by
  rw [XE,Bool.or_eq_false_iff] at h
  obtain ⟨g1,g2⟩:=X69 l e y e' h.2
  have hx':=of_decide_eq_false h.1
  rw [List.cons_append,XE,X1L,g1,g2,XE,X1L]
  constructor
  ·cases decide (x.1=e')<;>cases decide (e=e')<;>rfl
  ·by_cases h1:e'=e
   ·rw [if_pos h1,if_pos h1,decide_eq_false fun h=>hx' (h.trans h1)];rfl
   ·rw [if_neg h1,if_neg h1]
def stE (s:List (Gedge × List Int) × List Gedge) (e:Gedge) (i:Int):List (Gedge × List Int) × List Gedge :=
 cond (mhas s.1 e) (cond (((s.1.getD (midx s.1 e) default).2.length:Int) == 0) (mput s.1 (midx s.1 e) ((s.1.getD (midx s.1 e) default).2 ++ [i]),s.2 ++ [e])
  (mput s.1 (midx s.1 e) ((s.1.getD (midx s.1 e) default).2 ++ [i]),s.2)) (s.1 ++ [(e,[i])],s.2 ++ [e])
structure EInv (s:List (Gedge × List Int) × List Gedge):Prop where
 has:∀ e,mhas s.1 e=true↔gl s.1 e≠[]
 mem:∀ e,e∈s.2↔gl s.1 e≠[]
 nd:s.2.Nodup
theorem EInv.nil:EInv ([],[]):=⟨fun e=>by simp [mhas,gl],fun e=>by simp [mhas,gl],List.nodup_nil⟩
theorem X5I {s:List (Gedge × List Int) × List Gedge} (h:EInv s) (e:Gedge) (i:Int):EInv (stE s e i)∧∀ e',gl (stE s e i).1 e'=if e'=e then gl s.1 e ++ [i] else gl s.1 e':=by
 unfold stE
 cases hh:mhas s.1 e with
 | true =>
  have hne:=(h.has e).1 hh
  have hgl:(s.1.getD (midx s.1 e) default).2=gl s.1 e:=by unfold gl;rw [hh];rfl
  have hz:(((s.1.getD (midx s.1 e) default).2.length:Int) == 0)=false:=by
   rw [hgl,beq_eq_false_iff_ne];intro hc;exact hne (List.length_eq_zero_iff.1 (by omega))
  rw [hz,cond_true,cond_false,hgl]
  have P:=fun e'=>X68 s.1 e (gl s.1 e ++ [i]) e' hh
  refine ⟨⟨fun e' => ?_,fun e' => ?_,h.nd⟩,fun e'=>(P e').2⟩
  ·rw [(P e').1,(P e').2,h.has]
   split
   ·rename_i h1;subst h1;simp [hne]
   ·rfl
  ·rw [(P e').2,h.mem]
   split
   ·rename_i h1;subst h1;simp [hne]
   ·rfl
 | false =>
  have hgl:gl s.1 e=[]:=by unfold gl;rw [hh];rfl
  rw [cond_false,hgl]
  have P:=fun e'=>X69 s.1 e [i] e' hh
  refine ⟨⟨fun e' => ?_,fun e' => ?_,?_⟩,fun e'=>(P e').2⟩
  ·rw [(P e').1,(P e').2,Bool.or_eq_true,h.has,decide_eq_true_iff]
   split
   ·rename_i h1;subst h1;simp
   ·rename_i h1;simp only [eq_comm (a:=e),h1,false_or]
  ·rw [List.mem_append,(P e').2,h.mem,List.mem_singleton]
   split
   ·rename_i h1;subst h1;simp
   ·rename_i h1;simp only [h1,or_false]
  ·rw [List.nodup_append]
   refine ⟨h.nd,by simp,fun a ha b hb => ?_⟩
   simp only [List.mem_singleton] at hb
   subst hb
   intro hab;subst hab
   exact (h.mem a).1 ha hgl
def stT (s:List (Gedge × List Int) × List Gedge) (t:List Int) (i:Int):List (Gedge × List Int) × List Gedge :=
 stE (stE (stE s (mkE (t.getD 0 default) (t.getD 1 default)) i) (mkE (t.getD 1 default) (t.getD 2 default)) i) (mkE (t.getD 2 default) (t.getD 0 default)) i
theorem X7I {s:List (Gedge × List Int) × List Gedge} (h:EInv s) {x y z:Int} (h1:x≠y) (h2:y≠z) (h3:x≠z) (i:Int) :
  EInv (stT s [x,y,z] i)∧∀ e,gl (stT s [x,y,z] i).1 e=gl s.1 e ++ (if e∈tE [x,y,z] then [i] else []):=by
 obtain ⟨a1,a2⟩:=X5I h (mkE x y) i
 obtain ⟨b1,b2⟩:=X5I a1 (mkE y z) i
 obtain ⟨c1,c2⟩:=X5I b1 (mkE z x) i
 refine ⟨c1,fun e => ?_⟩
 have hnd:=X7r h1 h2 h3
 unfold tE at hnd ⊢
 unfold stT
 simp only [List.getD_cons_zero,List.getD_cons_succ,List.nodup_cons,List.mem_cons,List.not_mem_nil,or_false,not_or,not_false_iff,List.nodup_nil,and_true] at hnd ⊢
 obtain ⟨⟨n1,n2⟩,n3⟩:=hnd
 rw [c2,b2,b2,a2,a2,a2]
 by_cases e1:e=mkE x y
 ·subst e1;simp [n1,n2]
 ·by_cases e2:e=mkE y z
  ·subst e2;simp [n3,Ne.symm n1,e1]
  ·by_cases e3:e=mkE z x
   ·subst e3;simp [Ne.symm n2,Ne.symm n3]
   ·simp [e1,e2,e3]
def idxE (ts:List (List Int)) (j:Nat) (e:Gedge):List Int:=((List.range j).filter fun i=>decide (e∈tE (ts.getD i default))).map fun (i:Nat)=>(i:Int)
theorem X74 (ts:List (List Int)) (j:Nat) (e:Gedge):idxE ts (j + 1) e=idxE ts j e ++ (if e∈tE (ts.getD j default) then [(j:Int)] else []):=by
 unfold idxE
 rw [List.range_succ,List.filter_append,List.map_append]
 congr 1
 by_cases h:e∈tE (ts.getD j default)
 ·rw [if_pos h,List.filter_cons_of_pos (by simpa using h)];rfl
 ·rw [if_neg h,List.filter_cons_of_neg (by simpa using h)];rfl
structure ETab (ts:List (List Int)) (j:Nat) (s:List (Gedge × List Int) × List Gedge):Prop where
 inv:EInv s
 val:∀ e,gl s.1 e=idxE ts j e
theorem ETab.loop {n:Nat} {ts:List (List Int)} (ok:OkE n ts) {lo:Nat→Int→List (Gedge × List Int)→List Gedge→List (Gedge × List Int) × List Gedge}
  (h:∀ k i b l,0≤i→lo (k + 1) i b l=cond (decide (i < (ts.length:Int))) (lo k (i + 1) (stT (b,l) (ts.getD i.toNat default) i).1 (stT (b,l) (ts.getD i.toNat default) i).2) (b,l)) :
  ∀ (k:Nat) (i:Nat) (s:List (Gedge × List Int) × List Gedge),i≤ts.length→ETab ts i s→((ts.length:Int) - i).toNat < k→ETab ts ts.length (lo k i s.1 s.2):=by
 intro k
 induction k with
 | zero=>intro i s _ _ hk;exact absurd hk (Nat.not_lt_zero _)
 | succ k ih =>
  intro i s hle hs hk
  rw [h _ _ _ _ (by omega)]
  by_cases hi:(i:Int) < (ts.length:Int)
  ·rw [decide_eq_true hi,cond_true]
   have hm:ts.getD i default∈ts:=by rw [List.getD_eq_getElem?_getD,List.getElem?_eq_getElem (by omega)];exact List.getElem_mem _
   obtain ⟨x,y,z,ht,-,-,-,n1,n2,n3⟩:=ok.2.2 _ hm
   rw [show ((i:Int)).toNat=i from by omega,ht]
   obtain ⟨g1,g2⟩:=X7I hs.inv n1 n2 n3 (i:Int)
   have:=ih (i + 1) (stT s [x,y,z] i) (by omega) ⟨g1,fun e=>by rw [g2,hs.val,X74,ht]⟩ (by omega)
   exact this
  ·rw [decide_eq_false hi,cond_false]
   have:i=ts.length:=by omega
   rw [this] at hs;exact hs
theorem ETab.nil (ts:List (List Int)):ETab ts 0 ([],[]):=⟨EInv.nil,fun e=>by simp [gl,mhas,idxE]⟩
def edgL (n:Nat) (ts:List (List Int)):List Gedge :=
 (List.range n).flatMap fun (a:Nat)=>((List.range (n - (a + 1))).filter fun (j:Nat)=>ts.any fun t=>tHas t a ((a:Int) + 1 + j)).map fun (j:Nat)=>(⟨a,(a:Int) + 1 + j⟩:Gedge)
theorem X3E {n:Nat} {ts:List (List Int)} {e:Gedge}:e∈edgL n ts↔(0≤e.e0∧e.e0 < e.e1∧e.e1 < (n:Int))∧(ts.any fun t=>tHas t e.e0 e.e1)=true:=by
 unfold edgL
 simp only [List.mem_flatMap,List.mem_range,List.mem_map,List.mem_filter]
 constructor
 ·rintro ⟨a,ha,j,⟨hj,hh⟩,rfl⟩
  exact ⟨by simp only;omega,hh⟩
 ·obtain ⟨a,b⟩:=e
  rintro ⟨⟨h0,h1,h2⟩,hh⟩
  simp only at h0 h1 h2 hh
  have e1:((a.toNat:Nat):Int)=a:=by omega
  have e2:(((b - a - 1).toNat:Nat):Int)=b - a - 1:=by omega
  refine ⟨a.toNat,by omega,(b - a - 1).toNat,⟨by omega,?_⟩,?_⟩
  ·rw [e1,e2,show a + 1 + (b - a - 1)=b from by omega];exact hh
  ·rw [e1,e2,show a + 1 + (b - a - 1)=b from by omega]
theorem X5X (n:Nat) (ts:List (List Int)):(edgL n ts).Pairwise fun x y=>leP x.pr y.pr=true:=by
 unfold edgL
 rw [List.pairwise_flatMap]
 refine ⟨fun a _ => ?_,?_⟩
 ·rw [List.pairwise_map]
  refine List.Pairwise.filter _ (List.pairwise_lt_range.imp fun h => ?_)
  rw [X27];exact .inr ⟨rfl,by simp only [Gedge.pr];have h:_ < _:=h;omega⟩
 ·refine List.pairwise_lt_range.imp fun h x hx y hy => ?_
  simp only [List.mem_map,List.mem_filter] at hx hy
  obtain ⟨j,-,rfl⟩:=hx
  obtain ⟨i,-,rfl⟩:=hy
  rw [X27];simp only [Gedge.pr];omega
theorem X6H (n:Nat) (ts:List (List Int)):(edgL n ts).Nodup:=by
 unfold edgL List.Nodup
 rw [List.pairwise_flatMap]
 refine ⟨fun a _ => ?_,?_⟩
 ·rw [List.pairwise_map]
  refine List.Pairwise.filter _ (List.pairwise_lt_range.imp fun h hc => ?_)
  simp only [Gedge.mk.injEq] at hc;omega
 ·refine List.pairwise_lt_range.imp fun h x hx y hy hc => ?_
  simp only [List.mem_map,List.mem_filter] at hx hy
  obtain ⟨j,-,rfl⟩:=hx
  obtain ⟨i,-,rfl⟩:=hy
  simp only [Gedge.mk.injEq] at hc;omega
theorem X2W {n:Nat} {ts:List (List Int)} (ok:OkE n ts):(edgL n ts).length≤4096:=by
 have h:∀ (l:List Nat),(l.flatMap fun (a:Nat)=>((List.range (n - (a + 1))).filter fun (j:Nat)=>ts.any fun t=>tHas t a ((a:Int) + 1 + j)).map fun (j:Nat)=>(⟨a,(a:Int) + 1 + j⟩:Gedge)).length≤l.length * n:=by
  intro l
  induction l with
  | nil=>simp
  | cons a l ih =>
   rw [List.flatMap_cons,List.length_append,List.length_map,List.length_cons,Nat.add_mul,Nat.one_mul]
   have h1:=List.length_filter_le (fun (j:Nat)=>ts.any fun t=>tHas t a ((a:Int) + 1 + j)) (List.range (n - (a + 1)))
   rw [List.length_range] at h1
   omega
 have h2:=h (List.range n)
 rw [List.length_range] at h2
 have h3:n * n≤64 * 64:=Nat.mul_le_mul ok.1 ok.1
 unfold edgL
 omega
theorem X6a {n:Nat} {ts:List (List Int)} (ok:OkE n ts) (e:Gedge):idxE ts ts.length e≠[]↔e∈edgL n ts:=by
 rw [X3E]
 unfold idxE
 rw [Ne,List.map_eq_nil_iff,← List.isEmpty_iff,Bool.not_eq_true,List.isEmpty_eq_false_iff_exists_mem]
 simp only [List.mem_filter,List.mem_range,decide_eq_true_eq,List.any_eq_true]
 obtain ⟨a,b⟩:=e
 constructor
 ·rintro ⟨i,hi,hh⟩
  have hm:ts.getD i default∈ts:=by rw [List.getD_eq_getElem?_getD,List.getElem?_eq_getElem hi];exact List.getElem_mem _
  obtain ⟨x,y,z,ht,r1,r2,r3,n1,n2,n3⟩:=ok.2.2 _ hm
  have hab:0≤a∧a < b∧b < (n:Int):=by
   rw [ht] at hh
   unfold tE mkE at hh
   simp only [List.getD_cons_zero,List.getD_cons_succ,List.mem_cons,List.not_mem_nil,or_false] at hh
   rcases hh with hh | hh | hh<;>(split at hh<;>simp only [Gedge.mk.injEq] at hh<;>omega)
  refine ⟨hab,_,hm,?_⟩
  rw [ht] at hh ⊢
  exact (X3X n1 n2 n3 hab.2.1).1 hh
 ·rintro ⟨hab,t,hm,hh⟩
  obtain ⟨i,hi,rfl⟩:=List.getElem_of_mem hm
  refine ⟨i,hi,?_⟩
  rw [List.getD_eq_getElem?_getD,List.getElem?_eq_getElem hi,Option.getD_some]
  obtain ⟨x,y,z,ht,r1,r2,r3,n1,n2,n3⟩:=ok.2.2 _ hm
  rw [ht] at hh ⊢
  exact (X3X n1 n2 n3 hab.2.1).2 hh
theorem ETab.sorted {n:Nat} {ts:List (List Int)} (ok:OkE n ts) {s:List (Gedge × List Int) × List Gedge} (h:ETab ts ts.length s):X24 Gedge.pr s.2=edgL n ts:=by
 have hp:(X24 Gedge.pr s.2).Perm s.2:=List.mergeSort_perm _ _
 refine List.Perm.eq_of_pairwise (le:=fun x y:Gedge=>leP x.pr y.pr=true) (fun a b _ _ h1 h2=>Gedge.inj _ _ ?_) ?_ (X5X n ts) ?_
 ·rw [X27] at h1 h2
  exact Prod.ext (by omega) (by omega)
 ·refine List.pairwise_mergeSort (fun a b c h1 h2 => ?_) (fun a b => ?_) _
  ·rw [X27] at h1 h2 ⊢;omega
  ·rw [Bool.or_eq_true,X27,X27];omega
 ·refine hp.trans ((List.perm_ext_iff_of_nodup h.inv.nd (X6H n ts)).2 fun e => ?_)
  rw [h.inv.mem,h.val,X6a ok]
theorem ETab.at {n:Nat} {ts:List (List Int)} (ok:OkE n ts) {s:List (Gedge × List Int) × List Gedge} (h:ETab ts ts.length s) {e:Gedge} (he:e∈edgL n ts) :
  mhas s.1 e=true∧(s.1.getD (midx s.1 e) default).2=idxE ts ts.length e:=by
 have h1:=(X6a ok e).2 he
 have h2:mhas s.1 e=true:=(h.inv.has e).2 (by rw [h.val];exact h1)
 refine ⟨h2,?_⟩
 rw [← h.val];unfold gl;rw [h2];rfl
def idxP (ts:List (List Int)) (a b:Int):List Int:=((List.range ts.length).filter fun i=>tHas (ts.getD i default) a b).map fun (i:Nat)=>(i:Int)
theorem X7J {n:Nat} {ts:List (List Int)} (ok:OkE n ts) {e:Gedge} (he:e.e0 < e.e1):idxE ts ts.length e=idxP ts e.e0 e.e1:=by
 unfold idxE idxP
 congr 1
 refine List.filter_congr fun i hi => ?_
 rw [List.mem_range] at hi
 have hm:ts.getD i default∈ts:=by rw [List.getD_eq_getElem?_getD,List.getElem?_eq_getElem hi];exact List.getElem_mem _
 obtain ⟨x,y,z,ht,r1,r2,r3,n1,n2,n3⟩:=ok.2.2 _ hm
 rw [ht]
 have:=X3X n1 n2 n3 he
 cases hh:tHas [x,y,z] e.e0 e.e1
 ·rw [hh] at this;simpa using this
 ·rw [hh] at this;simpa using this
theorem X4e {n:Nat} {ts:List (List Int)} {e:Gedge} (h:e∈edgL n ts):0≤e.e0∧e.e0 < e.e1∧e.e1 < (n:Int):=(X3E.1 h).1
theorem X6I {α β:Type} [Inhabited α] {p:α→Bool} {f:α→β} {a:List α} {lo:Nat→Int→List β→List β}
  (h:∀ k i r,0≤i→i < (a.length:Int)→lo (k + 1) i r=cond (p (a.getD i.toNat default)) (lo k (i + 1) (r ++ [f (a.getD i.toNat default)])) (lo k (i + 1) r))
  (h':∀ k i r,(a.length:Int)≤i→lo (k + 1) i r=r) :
  ∀ (k:Nat) (i:Int) (r:List β),0≤i→((a.length:Int) - i).toNat < k→lo k i r=r ++ ((a.drop i.toNat).filter p).map f:=by
 intro k
 induction k with
 | zero=>intro i r _ hk;exact absurd hk (Nat.not_lt_zero _)
 | succ k ih =>
  intro i r h0 hk
  by_cases hi:i < (a.length:Int)
  ·have hn:i.toNat < a.length:=by omega
   have hg:a.getD i.toNat default=a[i.toNat]:=by rw [List.getD_eq_getElem?_getD,List.getElem?_eq_getElem hn];rfl
   rw [h _ _ _ h0 hi,List.drop_eq_getElem_cons hn,hg,List.filter_cons]
   cases hp:p a[i.toNat] with
   | true=>rw [cond_true,ih _ _ (by omega) (by omega),show (i + 1).toNat=i.toNat + 1 from by omega];simp
   | false=>rw [cond_false,ih _ _ (by omega) (by omega),show (i + 1).toNat=i.toNat + 1 from by omega];simp
  ·rw [h' _ _ _ (by omega),List.drop_eq_nil_of_le (by omega)];simp
theorem X3Y {α β:Type} [Inhabited α] {p:α→Bool} {f:α→β} {a:List α} {lo:Nat→Int→List β→List β}
  (h:∀ k i r,0≤i→i < (a.length:Int)→lo (k + 1) i r=cond (p (a.getD i.toNat default)) (lo k (i + 1) (r ++ [f (a.getD i.toNat default)])) (lo k (i + 1) r))
  (h':∀ k i r,(a.length:Int)≤i→lo (k + 1) i r=r):lo (((a.length:Int) - 0).toNat + 1) 0 []=(a.filter p).map f:=by
 rw [X6I h h' _ _ _ (Int.le_refl 0) (Nat.lt_succ_self _)];simp
theorem X5J {ts:List (List Int)} {a b i:Int} (h:i∈idxP ts a b):0≤i∧i < (ts.length:Int)∧tHas (ts.getD i.toNat default) a b=true:=by
 unfold idxP at h
 rw [List.mem_map] at h
 obtain ⟨j,hj,rfl⟩:=h
 rw [List.mem_filter,List.mem_range] at hj
 exact ⟨by omega,by omega,by rw [show ((j:Nat):Int).toNat=j from by omega];exact hj.2⟩
theorem X4f {ts:List (List Int)} {a b:Int} {k:Nat} (h:k < (idxP ts a b).length):0≤(idxP ts a b).getD k default∧(idxP ts a b).getD k default < (ts.length:Int)∧tHas (ts.getD ((idxP ts a b).getD k default).toNat default) a b=true:=by
 refine X5J ?_
 rw [List.getD_eq_getElem?_getD,List.getElem?_eq_getElem h];exact List.getElem_mem h
def thd (t:List Int) (a b:Int):Int:=t.getD 0 default + t.getD 1 default + t.getD 2 default - a - b
theorem X6b {x y z a b:Int} (n1:x≠y) (n2:y≠z) (n3:x≠z) (h:a≠b) (hh:tHas [x,y,z] a b=true) :
  (thd [x,y,z] a b=x∧x≠a∧x≠b∧(y=a∨y=b)∧(z=a∨z=b))∨(thd [x,y,z] a b=y∧y≠a∧y≠b∧(x=a∨x=b)∧(z=a∨z=b))∨(thd [x,y,z] a b=z∧z≠a∧z≠b∧(x=a∨x=b)∧(y=a∨y=b)):=by
 unfold tHas at hh
 unfold thd
 simp only [List.getD_cons_zero,List.getD_cons_succ,Bool.and_eq_true,Bool.or_eq_true,beq_iff_eq] at hh ⊢
 obtain ⟨h1,h2⟩:=hh
 omega
def hgL (n:Nat) (ts:List (List Int)):List (List Int) :=
 ((edgL n ts).filter fun e=>decide ((idxP ts e.e0 e.e1).length=2)).map fun e => [e.e0,e.e1] ++ (idxP ts e.e0 e.e1).map fun i=>thd (ts.getD i.toNat default) e.e0 e.e1
theorem X6c {n:Nat} {ts:List (List Int)} (ok:OkE n ts):(hgL n ts).length≤4096:=by
 unfold hgL
 rw [List.length_map]
 exact Nat.le_trans (List.length_filter_le _ _) (X2W ok)
theorem X75 {n:Nat} {ts:List (List Int)} (ok:OkE n ts) {a b i:Int} (hab:a≠b) (h:i∈idxP ts a b):0≤thd (ts.getD i.toNat default) a b∧thd (ts.getD i.toNat default) a b < (n:Int):=by
 obtain ⟨h0,h1,h2⟩:=X5J h
 have hm:ts.getD i.toNat default∈ts:=by rw [List.getD_eq_getElem?_getD,List.getElem?_eq_getElem (by omega)];exact List.getElem_mem _
 obtain ⟨x,y,z,ht,r1,r2,r3,n1,n2,n3⟩:=ok.2.2 _ hm
 rw [ht] at h2 ⊢
 rcases X6b n1 n2 n3 hab h2 with h | h | h<;>rw [h.1]<;>assumption
theorem X6d {n:Nat} {ts:List (List Int)} (ok:OkE n ts) {t:List Int} (h:t∈hgL n ts):t.length=4∧∀ x∈t,0≤x∧x < (n:Int):=by
 unfold hgL at h
 rw [List.mem_map] at h
 obtain ⟨e,he,rfl⟩:=h
 rw [List.mem_filter,decide_eq_true_iff] at he
 have hb:=X4e he.1
 refine ⟨by rw [List.length_append,List.length_map,he.2];rfl,fun x hx => ?_⟩
 rw [List.mem_append] at hx
 rcases hx with hx | hx
 ·simp only [List.mem_cons,List.not_mem_nil,or_false] at hx
  rcases hx with rfl | rfl<;>omega
 ·rw [List.mem_map] at hx
  obtain ⟨i,hi,rfl⟩:=hx
  exact X75 ok (by omega) hi
theorem Okh.at {n:Nat} {t:List Int} (h:t.length=4∧∀ x∈t,0≤x∧x < (n:Int)) :
  t.length=4∧(0≤t.getD 0 default∧t.getD 0 default < (n:Int))∧(0≤t.getD 1 default∧t.getD 1 default < (n:Int))∧(0≤t.getD 2 default∧t.getD 2 default < (n:Int))∧(0≤t.getD 3 default∧t.getD 3 default < (n:Int)):=by
 obtain ⟨h1,h2⟩:=h
 match t,h1 with
 | [a,b,c,d],_=>exact ⟨rfl,h2 a (by simp),h2 b (by simp),h2 c (by simp),h2 d (by simp)⟩
@[simp] theorem X83 {α:Type} (c:α→List AV) (o:Option (List α)):(Option.map (fun l=>List.map c l) o).getD []=(o.getD default).map c:=by cases o<;>rfl
def e2 (e:Gedge):List Int:=[e.e0,e.e1]
theorem X7s {β:Type} (f:Gedge→β) (n:Nat) (ts:List (List Int)):(edgL n ts).map f=(List.range n).flatMap fun (a:Nat)=>((List.range (n - (a + 1))).filter fun (j:Nat)=>ts.any fun t=>tHas t a ((a:Int) + 1 + j)).map fun (j:Nat)=>f (⟨a,(a:Int) + 1 + j⟩:Gedge):=by
 unfold edgL
 rw [List.map_flatMap]
 simp only [List.map_map,Function.comp_def]
theorem X3F {n:Int} {r:List Bool} {u v mn mx a b:Int} (hn:n≤64) (hm:(⟨mn,mx⟩:Gedge)=mkE u v) (m1:0≤mn∧mn < n) (m2:0≤mx∧mx < n) (ha:0≤a) (hab:a < b) (hb:b < n)
  (hr:r.length=(IntKind.wrap .i64 (n * n)).toNat) :
  (r.set (IntKind.wrap .i64 (IntKind.wrap .i64 (mn * n) + mx)).toNat true).getD (IntKind.wrap .i64 (IntKind.wrap .i64 (a * n) + b)).toNat default
   = (decide ((⟨a,b⟩:Gedge)=mkE u v) || r.getD (IntKind.wrap .i64 (IntKind.wrap .i64 (a * n) + b)).toNat default):=by
 obtain ⟨p1,p2,p3,-,-⟩:=ix2 (n:=n) hn m1.1 m1.2 m2.1 m2.2
 obtain ⟨q1,q2,q3,q4,-⟩:=ix2 (n:=n) (a:=a) (b:=b) hn ha (by omega) (by omega) hb
 rw [p1,q1]
 rw [q4] at hr
 by_cases h:(⟨a,b⟩:Gedge)=mkE u v
 ·rw [decide_eq_true h,Bool.true_or]
  rw [← hm] at h
  simp only [Gedge.mk.injEq] at h
  obtain ⟨rfl,rfl⟩:=h
  rw [List.getD_eq_getElem?_getD,List.getElem?_set_self (by omega)];rfl
 ·rw [decide_eq_false h,Bool.false_or]
  have hne:(mn * n + mx).toNat≠(a * n + b).toNat:=by
   intro hc
   have hc2:mn * n + mx=a * n + b:=by omega
   obtain ⟨h1,h2⟩:=X7H m2.1 m2.2 (by omega) hb hc2
   apply h
   rw [← hm,h1,h2]
  rw [List.getD_eq_getElem?_getD,List.getElem?_set_ne hne,← List.getD_eq_getElem?_getD]
theorem X76 {n:Nat} {β:Type} {p:Int→Int→Bool} {g:Int→Int→β} {lo:Nat→Int→List β→List β} {li:Int→List β→List β}
  (h:∀ k a r,lo (k + 1) a r=cond (decide (a < (n:Int))) (lo k (a + 1) (li a r)) r)
  (hi:∀ (a:Nat) r,(a:Int) < n→li a r=r ++ ((List.range (n - (a + 1))).filter fun (j:Nat)=>p a ((a:Int) + 1 + j)).map fun (j:Nat)=>g a ((a:Int) + 1 + j)) :
  ∀ (k:Nat) (a:Nat),a≤n→((n:Int) - a).toNat < k →
   lo k a ((List.range a).flatMap fun (a:Nat)=>((List.range (n - (a + 1))).filter fun (j:Nat)=>p a ((a:Int) + 1 + j)).map fun (j:Nat)=>g a ((a:Int) + 1 + j))
    = (List.range n).flatMap fun (a:Nat)=>((List.range (n - (a + 1))).filter fun (j:Nat)=>p a ((a:Int) + 1 + j)).map fun (j:Nat)=>g a ((a:Int) + 1 + j):=by
 intro k
 induction k with
 | zero=>intro a _ hk;exact absurd hk (Nat.not_lt_zero _)
 | succ k ih =>
  intro a hle hk
  rw [h]
  by_cases hc:(a:Int) < n
  ·rw [decide_eq_true hc,cond_true,hi a _ hc]
   have:=ih (a + 1) (by omega) (by omega)
   rw [List.range_succ,List.flatMap_append,List.flatMap_singleton] at this
   exact this
  ·rw [decide_eq_false hc,cond_false]
   rw [show a=n from by omega]
end Go.Ab
