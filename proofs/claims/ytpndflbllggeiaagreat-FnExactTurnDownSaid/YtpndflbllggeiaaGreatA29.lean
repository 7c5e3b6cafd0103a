/- Loops that mark what they go over, loops that look for the marks; triangles at an index. -/
import Derived.Test.YtpndflbllggeiaaGreatA28
set_option linter.unusedVariables false
set_option linter.unusedSimpArgs false
namespace Go.Ab
open Go.RowKit
def mkL {α:Type} (f:α→Int→Int × α):List α→Int→Int × List α
 | [],c=>(c,[])
 | x :: l,c=>((mkL f l (f x c).1).1,(f x c).2 :: (mkL f l (f x c).1).2)
def hdL {α:Type} (p:α→Int→Bool) (q:α→Int→Int):List α→Int→Option Int
 | [],c=>some c
 | x :: l,c=>cond (p x c) (hdL p q l (q x c)) none
theorem X6E {α:Type} (f:α→Int→Int × α):∀ (l:List α) (c:Int),(mkL f l c).2.length=l.length
 | [],_=>rfl
 | x :: l,c=>by simp [mkL,X6E f l]
theorem X2D {α:Type} {f:α→Int→Int × α} {p:α→Int→Bool} {q:α→Int→Int} (hp:∀ x c,p (f x c).2 c=true) (hq:∀ x c,q (f x c).2 c=(f x c).1) :
  ∀ (l:List α) (c:Int),hdL p q (mkL f l c).2 c=some (mkL f l c).1
 | [],c=>rfl
 | x :: l,c=>by
  show cond (p (f x c).2 c) (hdL p q (mkL f l (f x c).1).2 (q (f x c).2 c)) none=_
  rw [hp,hq,cond_true,X2D hp hq l (f x c).1]
  rfl
theorem X3D {α:Type} {f:α→Int→Int × α} {W:Nat} {M:Int}:∀ (l:List α) (c:Int),(∀ x∈l,∀ c:Int,0≤c→c + W≤M→c≤(f x c).1∧(f x c).1≤c + W)→0≤c→c + (l.length:Int) * W≤M →
  c≤(mkL f l c).1∧(mkL f l c).1≤c + (l.length:Int) * W
 | [],c,_,h0,h=>by simp [mkL]
 | x :: l,c,hf,h0,h=>by
  simp only [List.length_cons,Int.natCast_add,Int.natCast_one,Int.add_mul,Int.one_mul] at h ⊢
  have hm:0≤(l.length:Int) * (W:Int):=Int.mul_nonneg (by omega) (by omega)
  obtain ⟨h1,h2⟩:=hf x (by simp) c h0 (by omega)
  obtain ⟨h3,h4⟩:=X3D l (f x c).1 (fun y hy=>hf y (by simp [hy])) (by omega) (by omega)
  show c≤(mkL f l (f x c).1).1∧_
  exact ⟨by omega,by show (mkL f l (f x c).1).1≤_;omega⟩
theorem X3f {α:Type} {f:α→Int→Int × α} {W:Nat} (l:List α) (c:Int) (hf:∀ x∈l,∀ c:Int,0≤c→c + W≤9223372036854775807→c≤(f x c).1∧(f x c).1≤c + W) (h0:0≤c) (h:c + (l.length:Int) * W≤9223372036854775807) :
  c≤(mkL f l c).1∧(mkL f l c).1≤c + (l.length:Int) * W:=X3D l c hf h0 h
theorem X4v {α:Type} {f:α→Int→Int × α} {p:α→Int→Bool} {q:α→Int→Int} {W:Nat} {M:Int} :
  ∀ (l:List α) (c:Int),(∀ x∈l,∀ c:Int,0≤c→c + W≤M→p (f x c).2 c=true∧q (f x c).2 c=(f x c).1∧c≤(f x c).1∧(f x c).1≤c + W)→0≤c→c + (l.length:Int) * W≤M→hdL p q (mkL f l c).2 c=some (mkL f l c).1
 | [],c,_,_,_=>rfl
 | x :: l,c,hf,h0,h=>by
  simp only [List.length_cons,Int.natCast_add,Int.natCast_one,Int.add_mul,Int.one_mul] at h
  have hm:0≤(l.length:Int) * (W:Int):=Int.mul_nonneg (by omega) (by omega)
  obtain ⟨h1,h2,h3,h4⟩:=hf x (by simp) c h0 (by omega)
  show cond (p (f x c).2 c) (hdL p q (mkL f l (f x c).1).2 (q (f x c).2 c)) none=_
  rw [h1,h2,cond_true,X4v l (f x c).1 (fun y hy=>hf y (by simp [hy])) (by omega) (by omega)]
  rfl
theorem X1r {α:Type} [Inhabited α] {f:α→Int→Int × α} {lo:Nat→Int→Int→List α→Int × List α}
  (h:∀ k c i r,lo (k + 1) c i r=cond (decide (i < (r.length:Int))) (lo k (f (r.getD i.toNat default) c).1 (i + 1) (r.set i.toNat (f (r.getD i.toNat default) c).2)) (c,r)) :
  ∀ (k:Nat) (c i:Int) (r:List α),0≤i→((r.length:Int) - i).toNat < k→lo k c i r=((mkL f (r.drop i.toNat) c).1,r.take i.toNat ++ (mkL f (r.drop i.toNat) c).2):=by
 intro k
 induction k with
 | zero=>intro c i r _ hk;exact absurd hk (Nat.not_lt_zero _)
 | succ k ih =>
  intro c i r h0 hk
  rw [h]
  by_cases hi:i < (r.length:Int)
  ·have hn:i.toNat < r.length:=by omega
   have hg:r.getD i.toNat default=r[i.toNat]:=by rw [List.getD_eq_getElem?_getD,List.getElem?_eq_getElem hn];rfl
   rw [decide_eq_true hi,cond_true,ih _ _ _ (by omega) (by rw [List.length_set];omega),hg]
   have e1:(i + 1).toNat=i.toNat + 1:=by omega
   rw [e1,List.drop_set_of_lt (by omega),List.drop_eq_getElem_cons hn]
   simp only [mkL,Prod.mk.injEq,true_and]
   rw [List.take_succ_eq_append_getElem (by rw [List.length_set];exact hn),List.getElem_set_self,List.take_set_of_le (by omega),List.append_assoc]
   rfl
  ·rw [decide_eq_false hi,cond_false,List.drop_eq_nil_of_le (by omega),List.take_of_length_le (by omega)];simp [mkL]
theorem X1U {α:Type} [Inhabited α] {p:α→Int→Bool} {q:α→Int→Int} {a:List α} {A:Type} {x:A} {lo:Nat→Int→Int→A ⊕ Int}
  (h:∀ k c i,lo (k + 1) c i=cond (decide (i < (a.length:Int))) (cond (p (a.getD i.toNat default) c) (lo k (q (a.getD i.toNat default) c) (i + 1)) (.inl x)) (.inr c)) :
  ∀ (k:Nat) (c i:Int),0≤i→((a.length:Int) - i).toNat < k→lo k c i=match hdL p q (a.drop i.toNat) c with
   | some c' => .inr c'
   | none => .inl x:=by
 intro k
 induction k with
 | zero=>intro c i _ hk;exact absurd hk (Nat.not_lt_zero _)
 | succ k ih =>
  intro c i h0 hk
  rw [h]
  by_cases hi:i < (a.length:Int)
  ·have hn:i.toNat < a.length:=by omega
   have hg:a.getD i.toNat default=a[i.toNat]:=by rw [List.getD_eq_getElem?_getD,List.getElem?_eq_getElem hn];rfl
   rw [decide_eq_true hi,cond_true,List.drop_eq_getElem_cons hn,hg]
   simp only [hdL]
   cases p a[i.toNat] c with
   | false=>rfl
   | true=>rw [cond_true,cond_true,ih _ _ (by omega) (by omega),show (i + 1).toNat=i.toNat + 1 from by omega]
  ·rw [decide_eq_false hi,cond_false,List.drop_eq_nil_of_le (by omega)];rfl
theorem X22 (n:Int):fcmp .neq .f32 (X2 .f32 n) (X2 .f32 n)=false:=by
 rw [X7l];exact X12 FloatKind.f32.format (d := .number (n < 0) n.natAbs 0) rfl
theorem X73 {α:Type} {l:List (List α)} {n j:Nat} (h:∀ t∈l,t.length≤n):(l.getD j default).length≤n:=by
 rw [List.getD_eq_getElem?_getD]
 cases e:l[j]? with
 | none=>exact Nat.zero_le _
 | some t=>exact h t (List.mem_of_getElem? e)
theorem Xr.at2 {n:Nat} {ts:List (List Int)} {i k:Int} (h:Xr n ts) (h0:0≤i) (hi:i < (ts.length:Int)) (k0:0≤k) (hk:k < 3∨k < ((ts.getD i.toNat default).length:Int)) :
  (ts.getD i.toNat default).length=3∧0≤(ts.getD i.toNat default).getD k.toNat default∧(ts.getD i.toNat default).getD k.toNat default < (n:Int):=by
 have hn:i.toNat < ts.length:=by omega
 have hm:(ts.getD i.toNat default)∈ts:=by rw [List.getD_eq_getElem?_getD,List.getElem?_eq_getElem hn];exact List.getElem_mem hn
 obtain ⟨h1,h2⟩:=h _ hm
 generalize ts.getD i.toNat default=t at *
 have hk':k.toNat < t.length:=by omega
 refine ⟨h1,?_⟩
 rw [List.getD_eq_getElem?_getD,List.getElem?_eq_getElem hk']
 exact h2 _ (List.getElem_mem hk')
theorem Okt.at {n:Nat} {t:List Int} (h:t.length=3∧∀ x∈t,0≤x∧x < (n:Int)) :
  t.length=3∧(0≤t.getD 0 default∧t.getD 0 default < (n:Int))∧(0≤t.getD 1 default∧t.getD 1 default < (n:Int))∧(0≤t.getD 2 default∧t.getD 2 default < (n:Int)):=by
 obtain ⟨h1,h2⟩:=h
 match t,h1 with
 | [a,b,c],_=>exact ⟨rfl,h2 a (by simp),h2 b (by simp),h2 c (by simp)⟩
theorem Xr.get {n:Nat} {ts:List (List Int)} {i:Int} (h:Xr n ts) (h0:0≤i) (hi:i < (ts.length:Int)) :
  (ts.getD i.toNat default).length=3∧∀ x∈(ts.getD i.toNat default),0≤x∧x < (n:Int):=by
 have hn:i.toNat < ts.length:=by omega
 exact h _ (by rw [List.getD_eq_getElem?_getD,List.getElem?_eq_getElem hn];exact List.getElem_mem hn)
end Go.Ab
