/- Bounds on the sizes of floats. -/
import Derived.Test.YtoibkmljibnjnaaA21
set_option linter.unusedVariables false
set_option linter.unusedSimpArgs false
namespace Go.Ab
open Go.RowKit Ieee
def X1b (d:Datum) (S:Int):Prop:=∀ s m e,d = .number s m e→m=0∨e + (m.log2:Int)≤S
theorem XaC (neg:Bool) (n drop:Nat):Toward.even.cut neg n drop≤n / 2 ^ drop + 1:=by
 have hb:∀ b:Bool,b.toNat≤1:=by intro b;cases b<;>decide
 unfold Toward.cut
 simp only [Nat.shiftLeft_eq,Nat.one_mul]
 rcases Nat.le_total drop (n.log2 + 2) with h | h
 ·rw [Nat.min_eq_left h]
  exact Nat.add_le_add_left (hb _) _
 ·rw [Nat.min_eq_right h]
  have:n / 2 ^ (n.log2 + 2)=0:=Nat.div_eq_of_lt (Nat.lt_trans Nat.lt_log2_self (Nat.pow_lt_pow_right (by omega) (by omega)))
  rw [this]
  exact Nat.add_le_add (Nat.zero_le _) (hb _)
theorem X5G (f:Format) (neg:Bool) (m:Nat) (e S:Int) (h0:m≠0) (hS:e + (m.log2:Int)≤S) (hl:f.leastPlace≤S - f.fractionBits) :
  ∃ r,r≤(S - f.fractionBits - f.leastPlace).toNat * 2 ^ f.fractionBits + 2 ^ (f.fractionBits + 1) + 1∧r≤f.infRung∧f.nearest neg m e=f.word neg r:=by
 unfold Format.nearest
 rw [if_neg h0]
 refine ⟨_,?_,Nat.min_le_right _ _,rfl⟩
 refine Nat.le_trans (Nat.min_le_left _ _) ?_
 generalize hlast:max (e + (m.log2:Int) - (f.fractionBits:Int)) f.leastPlace=last
 have h1:last≤S - f.fractionBits:=by omega
 have h2:e + (m.log2:Int) - f.fractionBits≤last:=by omega
 have hkept:Toward.even.cut neg (m <<< (e - last).toNat) (last - e).toNat≤2 ^ (f.fractionBits + 1) + 1:=by
  refine Nat.le_trans (XaC _ _ _) (Nat.add_le_add_right ?_ 1)
  have hm:m < 2 ^ (m.log2 + 1):=Nat.lt_log2_self
  refine Nat.le_of_lt (Nat.div_lt_of_lt_mul ?_)
  rw [Nat.shiftLeft_eq,← Nat.pow_add]
  refine Nat.lt_of_lt_of_le (Nat.mul_lt_mul_of_pos_right hm (Nat.two_pow_pos _)) ?_
  rw [← Nat.pow_add]
  exact Nat.pow_le_pow_right (by omega) (by omega)
 have hb:f.binade=2 ^ f.fractionBits:=rfl
 rw [hb,Nat.add_assoc]
 refine Nat.add_le_add (Nat.mul_le_mul_right _ ?_) hkept
 omega
theorem X3U (f:Format) (neg:Bool) {r:Nat} (hr:r < f.signWeight):(f.word neg r) % f.signWeight=r:=by
 unfold Format.word
 split
 ·rw [Nat.add_mod_left];exact Nat.mod_eq_of_lt hr
 ·exact Nat.mod_eq_of_lt hr
theorem X79 {S:Int} (neg:Bool) (m:Nat) (e:Int) (h:m=0∨e + (m.log2:Int)≤S) (hl:-1022≤S):X1b (double.read (double.nearest neg m e)) (S + 1):=by
 have hp:double.leastPlace=-1074:=by decide +kernel
 have hb:double.binade=4503599627370496:=by decide +kernel
 have hw:double.infRung < double.signWeight:=by decide +kernel
 have key:∃ r:Nat,(r:Int)≤(S + 1022) * 4503599627370496 + 9007199254740993∧r≤double.infRung∧double.nearest neg m e=double.word neg r:=by
  by_cases h0:m=0
  ·refine ⟨0,?_,Nat.zero_le _,by unfold Format.nearest;rw [if_pos h0]⟩
   have:0≤(S + 1022) * 4503599627370496:=Int.mul_nonneg (by omega) (by omega)
   omega
  ·have hfb:double.fractionBits=52:=rfl
   obtain ⟨r,h1,h2,h3⟩:=X5G double neg m e S h0 (h.resolve_left h0) (by rw [hp,hfb];omega)
   refine ⟨r,?_,h2,h3⟩
   rw [hp,hfb] at h1
   have e1:(S - 52 - -1074).toNat=(S + 1022).toNat:=by congr 1;omega
   rw [show ((52:Nat):Int)=52 from rfl,e1] at h1
   have e2:((S + 1022).toNat:Int)=S + 1022:=Int.toNat_of_nonneg (by omega)
   have e3:((r:Nat):Int)≤(((S + 1022).toNat * 2 ^ 52 + 2 ^ (52 + 1) + 1:Nat):Int):=Int.ofNat_le.2 h1
   rw [Int.natCast_add,Int.natCast_add,Int.natCast_mul,e2] at e3
   have e4:((2 ^ 52:Nat):Int)=4503599627370496:=by decide +kernel
   have e5:((2 ^ (52 + 1):Nat):Int)=9007199254740992:=by decide +kernel
   rw [e4,e5] at e3
   omega
 obtain ⟨r,h1,h2,h3⟩:=key
 intro s m' e' hd
 rw [h3] at hd
 unfold Format.read at hd
 simp only [X3U double neg (Nat.lt_of_le_of_lt h2 hw),hb,hp] at hd
 split at hd
 ·rename_i hlt
  cases hd
  by_cases hr:r=0
  ·exact .inl hr
  ·right
   have:r.log2 < 52:=(Nat.log2_lt hr).2 hlt
   omega
 ·split at hd
  ·rename_i hge hlt
   cases hd
   right
   have hm:4503599627370496 + r % 4503599627370496 < 2 ^ 53:=by
    have:r % 4503599627370496 < 4503599627370496:=Nat.mod_lt _ (by omega)
    simp only [Nat.reducePow];omega
   have hlog:(4503599627370496 + r % 4503599627370496).log2 < 53:=(Nat.log2_lt (by omega)).2 hm
   have hq:r / 4503599627370496 * 4503599627370496≤r:=Nat.div_mul_le_self _ _
   have hq1:1≤r / 4503599627370496:=by omega
   have:((r / 4503599627370496:Nat):Int)≤S + 1024:=by omega
   omega
  ·split at hd<;>cases hd
theorem X7a {x:Nat} {S:Int} (h:X1b (FloatKind.f64.decode x) S) (hS:S≤120):XG .f64 .f32 x=true:=by
 unfold XG
 simp only [Bool.or_eq_true]
 right
 split
 ·rename_i neg m e hx
  have hm:=h neg m e hx
  have hp:single.leastPlace=-149:=by decide +kernel
  have hb:single.binade=8388608:=by decide +kernel
  have hi:single.infRung=255 * 8388608:=by decide +kernel
  have hw:single.infRung < single.signWeight:=by decide +kernel
  have key:∃ r:Nat,r < single.infRung∧single.nearest neg m e=single.word neg r:=by
   by_cases h0:m=0
   ·exact ⟨0,by decide +kernel,by unfold Format.nearest;rw [if_pos h0]⟩
   ·have hfb:single.fractionBits=23:=rfl
    obtain ⟨r,h1,h2,h3⟩:=X5G single neg m e 120 h0 (by have:=hm.resolve_left h0;omega) (by rw [hp,hfb];omega)
    refine ⟨r,?_,h3⟩
    rw [hp,hfb] at h1
    rw [hi]
    have e1:((120:Int) - ((23:Nat):Int) - -149).toNat=246:=by decide
    rw [e1] at h1
    simp only [Nat.reducePow,Nat.reduceMul,Nat.reduceAdd] at h1
    omega
  obtain ⟨r,h1,h2⟩:=key
  have:(FloatKind.f32.decode (FloatKind.f32.encode (Datum.number neg m e))).isInfinity=false:=by
   show (single.read (single.nearest neg m e)).isInfinity=false
   rw [h2]
   unfold Format.read
   simp only [X3U single neg (Nat.lt_trans h1 hw)]
   split
   ·rfl
   ·rfl
  rw [this];rfl
 ·rfl
theorem X4o (n:Nat):∀ (todo root:Nat),root * root≤n→Datum.rootFrom n todo root * Datum.rootFrom n todo root≤n:=by
 intro todo
 induction todo with
 | zero=>intro root h;exact h
 | succ t ih =>
  intro root h
  unfold Datum.rootFrom
  simp only
  split
  ·rename_i hl;exact ih _ hl
  ·exact ih _ h
theorem X5H {d:Datum} {S:Int} (h:d.isNaN=true):X1b d S:=by
 intro s m e he;subst he;cases h
theorem X5I {d:Datum} {S:Int} (h:d.isInfinity=true):X1b d S:=by
 intro s m e he;subst he;cases h
theorem X1b.mono {d:Datum} {S T:Int} (h:X1b d S) (hS:S≤T):X1b d T:=fun s m e he=>(h s m e he).imp id fun h=>Int.le_trans h hS
theorem X90 {m W b M:Nat} {i S:Int} (hm:i + (m.log2:Int)≤S) (hw:W * W≤m <<< M) (hb1:b≤1):2 * W + b=0∨(i - M) / 2 - 1 + ((2 * W + b).log2:Int)≤(S + 1) / 2:=by
 by_cases hz:2 * W + b=0
 ·exact .inl hz
 ·right
  have hlt:W < 2 ^ ((m.log2 + 1 + M) / 2 + 1):=by
   rcases Nat.lt_or_ge W (2 ^ ((m.log2 + 1 + M) / 2 + 1)) with h | hge
   ·exact h
   ·exfalso
    have h1:2 ^ ((m.log2 + 1 + M) / 2 + 1) * 2 ^ ((m.log2 + 1 + M) / 2 + 1)≤W * W:=Nat.mul_le_mul hge hge
    rw [← Nat.pow_add] at h1
    have h2:m <<< M < 2 ^ (m.log2 + 1 + M):=by
     rw [Nat.shiftLeft_eq,Nat.pow_add]
     exact Nat.mul_lt_mul_of_pos_right Nat.lt_log2_self (Nat.two_pow_pos _)
    have h3:2 ^ (m.log2 + 1 + M)≤2 ^ ((m.log2 + 1 + M) / 2 + 1 + ((m.log2 + 1 + M) / 2 + 1)):=Nat.pow_le_pow_right (by omega) (by omega)
    exact absurd (Nat.lt_of_lt_of_le (Nat.lt_of_le_of_lt hw h2) (Nat.le_trans h3 h1)) (Nat.lt_irrefl _)
  have hmag:2 * W + b < 2 ^ ((m.log2 + 1 + M) / 2 + 2):=by
   have:2 ^ ((m.log2 + 1 + M) / 2 + 2)=2 * 2 ^ ((m.log2 + 1 + M) / 2 + 1):=by rw [Nat.pow_succ 2 ((m.log2 + 1 + M) / 2 + 1),Nat.mul_comm]
   omega
  have hlog:=(Nat.log2_lt hz).2 hmag
  omega
theorem X8s {d:Datum} {S:Int} (h:X1b d S):Datum.root 54 d=none∨(∃ s,Datum.root 54 d=some (.infinity s))∨∃ s m i,Datum.root 54 d=some (.number s m i)∧(m=0∨i + (m.log2:Int)≤(S + 1) / 2):=by
 cases d with
 | nan s t=>exact .inl rfl
 | infinity s =>
  cases s with
  | true=>exact .inl rfl
  | false=>exact .inr (.inl ⟨false,rfl⟩)
 | number s m i =>
  unfold Datum.root
  by_cases h0:m=0
  ·simp only [if_pos h0]
   exact .inr (.inr ⟨s,m,i,rfl, .inl h0⟩)
  ·simp only [if_neg h0]
   cases s with
   | true=>exact .inl rfl
   | false =>
    simp only [Bool.false_eq_true,if_false]
    refine .inr (.inr ⟨_,_,_,rfl,X90 ((h false m i rfl).resolve_left h0) (X4o _ _ 0 (Nat.zero_le _)) ?_⟩)
    have hq:∀ q:Bool,q.toNat≤1:=by intro q;cases q<;>decide
    exact hq _
theorem XaD (S:Int):X1b (double.read (Xn .f64)) S:=X5H (by decide +kernel)
theorem XaE (s:Bool) (S:Int):X1b (double.read (double.write (.infinity s))) S:=by
 cases s<;>exact X5I (by decide +kernel)
theorem X7b (x:Nat):X2l x=((Datum.root 54 (double.read x)).map double.write).getD (Xn .f64):=rfl
theorem Xac {x:Nat} {S:Int} (h:X1b (double.read x) S) (hS:-1022≤(S + 1) / 2):X1b (double.read (X2l x)) ((S + 1) / 2 + 1):=by
 rw [X7b]
 rcases X8s h with e | ⟨s,e⟩ | ⟨s,m,i,e,hm⟩
 ·rw [e,Option.map_none,Option.getD_none];exact XaD _
 ·rw [e,Option.map_some,Option.getD_some];exact XaE _ _
 ·rw [e,Option.map_some,Option.getD_some];exact X79 s m i hm hS
theorem XR {x:Nat} {neg:Bool} {m:Nat} {e:Int} (hx:single.read x = .number neg m e):m < 2 ^ 24∧-149≤e∧e≤104:=by
 unfold Format.read at hx
 have hp:single.leastPlace=-149:=by decide +kernel
 have hbin:single.binade=8388608:=by decide +kernel
 have hinf:single.infRung=255 * 8388608:=by decide +kernel
 rw [hp,hbin,hinf] at hx
 simp only at hx
 split at hx
 ·cases hx;simp only [Nat.reducePow];omega
 ·split at hx
  ·rename_i h1 h2
   cases hx
   have:x % single.signWeight % 8388608 < 8388608:=Nat.mod_lt _ (by omega)
   have:x % single.signWeight / 8388608 < 255:=Nat.div_lt_of_lt_mul (by omega)
   simp only [Nat.reducePow];omega
  ·split at hx<;>cases hx
theorem X91 {x:Nat}:X1b (single.read x) 127:=by
 intro s m e hx
 obtain ⟨h1,h2,h3⟩:=XR hx
 by_cases h0:m=0
 ·exact .inl h0
 ·right
  have h4:m.log2 < 24:=(Nat.log2_lt h0).2 h1
  clear h1 hx
  omega
theorem X2f (x:Nat):fcv .f32 .f64 x=match single.read x with
  | .nan .. => Xn .f64
  | y=>double.write y:=rfl
theorem X9w (x:Nat):X1b (double.read (fcv .f32 .f64 x)) 128:=by
 rw [X2f]
 have h:=@X91 x
 generalize single.read x=d at h
 cases d with
 | nan s t=>exact X5H (show (double.read (Xn .f64)).isNaN=true by decide +kernel)
 | infinity s=>cases s<;>exact X5I (by decide +kernel)
 | number neg m e=>exact X79 (S:=127) neg m e (h neg m e rfl) (by decide)
theorem X4p (x:Nat):XG .f64 .f32 (X2l (fcv .f32 .f64 x))=true :=
 X7a (S:=65) (Xac (X9w x) (by decide)) (by decide)
end Go.Ab

set_option linter.unusedVariables false
set_option linter.unusedSimpArgs false
namespace Go.Ab
theorem X7M {α:Type} [Inhabited α] {p:α→Bool} {a:List α} {A B:Type} {x:A} {y:B} {lo:Nat→Int→A ⊕ B}
  (h:∀ k i,lo (k + 1) i=cond (decide (i < (a.length:Int))) (cond (p (a.getD i.toNat default)) (lo k (i + 1)) (.inl x)) (.inr y)) :
  ∀ (k:Nat) (i:Int),0≤i→((a.length:Int) - i).toNat < k→lo k i=cond ((a.drop i.toNat).all p) (.inr y) (.inl x):=by
 intro k
 induction k with
 | zero=>intro i h0 hk;exact absurd hk (Nat.not_lt_zero _)
 | succ k ih =>
  intro i h0 hk
  rw [h]
  by_cases hi:i < (a.length:Int)
  ·have hn:i.toNat < a.length:=by omega
   rw [decide_eq_true hi,cond_true,List.drop_eq_getElem_cons hn,List.all_cons,List.getD_eq_getElem?_getD,List.getElem?_eq_getElem hn,Option.getD_some]
   cases p a[i.toNat] with
   | false=>rfl
   | true =>
    rw [cond_true,Bool.true_and,ih (i + 1) (by omega) (by omega),show (i + 1).toNat=i.toNat + 1 from by omega]
  ·rw [decide_eq_false hi,cond_false,List.drop_eq_nil_of_le (by omega)];rfl
theorem X7c {α:Type} [Inhabited α] {p:α→Bool} {a:List α} {A B:Type} {x:A} {y:B} {lo:Nat→Int→A ⊕ B}
  (h:∀ k i,lo (k + 1) i=cond (decide (i < (a.length:Int))) (cond (p (a.getD i.toNat default)) (lo k (i + 1)) (.inl x)) (.inr y)) :
  lo (((a.length:Int) - 0).toNat + 1) 0=cond (a.all p) (.inr y) (.inl x):=by
 rw [X7M h _ _ (Int.le_refl 0) (Nat.lt_succ_self _)];simp
def Xs (n:Nat) (ts:List (List Int)):Prop:=∀ t∈ts,t.length=3∧∀ x∈t,0≤x∧x < (n:Int)
theorem Xs.at {n:Nat} {ts:List (List Int)} {i:Int} (h:Xs n ts) (h0:0≤i) (hi:i < (ts.length:Int)) :
  (ts.getD i.toNat default).length=3∧(0≤(ts.getD i.toNat default).getD 0 default∧(ts.getD i.toNat default).getD 0 default < (n:Int)) ∧
  (0≤(ts.getD i.toNat default).getD 1 default∧(ts.getD i.toNat default).getD 1 default < (n:Int))∧(0≤(ts.getD i.toNat default).getD 2 default∧(ts.getD i.toNat default).getD 2 default < (n:Int)):=by
 have hn:i.toNat < ts.length:=by omega
 have hm:(ts.getD i.toNat default)∈ts:=by rw [List.getD_eq_getElem?_getD,List.getElem?_eq_getElem hn];exact List.getElem_mem hn
 obtain ⟨h1,h2⟩:=h _ hm
 generalize ts.getD i.toNat default=t at *
 match t,h1 with
 | [a,b,c],_=>exact ⟨rfl,h2 a (by simp),h2 b (by simp),h2 c (by simp)⟩
theorem X7d {β:Type} {f:Int→β} {n:Int} {lo:Nat→Int→List β→List β}
  (h:∀ k i r,lo (k + 1) i r=cond (decide (i < n)) (lo k (i + 1) (r ++ [f i])) r) :
  ∀ (k:Nat) (i:Int) (r:List β),(n - i).toNat < k→lo k i r=r ++ (List.range (n - i).toNat).map fun (j:Nat)=>f (i + (j:Int)):=by
 intro k
 induction k with
 | zero=>intro i r hk;exact absurd hk (Nat.not_lt_zero _)
 | succ k ih =>
  intro i r hk
  rw [h]
  by_cases hi:i < n
  ·rw [decide_eq_true hi,cond_true,ih (i + 1) _ (by omega)]
   rw [show (n - i).toNat=(n - (i + 1)).toNat + 1 from by omega,List.range_succ_eq_map,List.map_cons,List.map_map,List.append_assoc]
   congr 1
   simp only [List.singleton_append,Int.natCast_zero,Int.add_zero,List.cons.injEq,true_and]
   refine List.map_congr_left fun j _ => ?_
   simp only [Function.comp_apply]
   congr 1
   omega
  ·rw [decide_eq_false hi,cond_false,show (n - i).toNat=0 from by omega];simp
end Go.Ab

set_option linter.unusedVariables false
set_option linter.unusedSimpArgs false
namespace Go.Ab
open Go.RowKit
def XA (n:Nat):Row→Bool
 | .vec .. | .nest .. | .mapN .. => true
 | .box _ cs=>cs.all (X1m n)
 | _=>false
def XS (ks:List Nat):Row→Row
 | .box t cs => .box t (cs.map (renC ks))
 | .vec t es l _ => .vec t es l false
 | .nest t ll _ => .nest t ll false
 | r=>r
theorem X92 {H:Array Obj} {μ μ':Nat→Option FP} {heap:Array Obj} {ks:List Nat} (hs:∀ (i k:Nat),ks[i]? = some k→μ' i=μ k) {p:Option FP} {row:Row} (ho:XA ks.length (XS ks row)=true)
  (h:X6 H μ heap p row):X6 H μ' heap p (XS ks row):=by
 cases row with
 | box t cs =>
  cases p with
  | none=>exact h.elim
  | some p =>
   obtain ⟨ez,e1,e2,arr,e3,e4,e5⟩:=h
   simp only [XS,XA,List.all_eq_true,List.mem_map,forall_exists_index,and_imp,forall_apply_eq_imp_iff₂] at ho
   refine ⟨ez,by simpa [XS] using e1,e2,arr,e3,by simpa [XS] using e4,fun j c e => ?_⟩
   rw [List.getElem?_map,Option.map_eq_some_iff] at e
   obtain ⟨c0,e0,rfl⟩:=e
   exact X2S hs (ho c0 (List.mem_of_getElem? e0)) (e5 j c0 e0)
 | vec t es l full =>
  cases p with
  | none=>exact h.elim
  | some p =>
   rcases h with ⟨h1,h2,_⟩ | ⟨ez,e1,e2,e3,e4,_,e6⟩
   ·exact .inl ⟨h1,h2,rfl⟩
   ·exact .inr ⟨ez,e1,e2,e3,e4,(fun h=>by cases h),e6⟩
 | nest t ll full =>
  cases p with
  | none=>exact h.elim
  | some p =>
   rcases h with h | ⟨ez,e1,e2,e3,_,e6⟩
   ·exact .inl h
   ·exact .inr ⟨ez,e1,e2,e3,(fun h=>by cases h),e6⟩
 | mapN=>cases p<;>exact h
 | mapS=>simp [XS,XA] at ho
 | nestD=>simp [XS,XA] at ho
 | vecU=>simp [XS,XA] at ho
 | dead=>simp [XS,XA] at ho
 | lits t cs=>simp [XS,XA] at ho
def Xc:Nat→Nat→List Nat
 | _,0 => []
 | k,n + 1=>k :: Xc (k + 1) n
theorem X2C:∀ (n k i:Nat),i < n→(Xc k n)[i]? = some (k + i)
 | 0,k,i,h=>by omega
 | n + 1,k,0,h=>by simp [Xc]
 | n + 1,k,i + 1,h=>by
  rw [Xc,List.getElem?_cons_succ,X2C n (k + 1) i (by omega)];congr 1;omega
theorem X1J:∀ (n k:Nat),(Xc k n).length=n
 | 0,_=>rfl
 | n + 1,k=>by simp [Xc,X1J n]
end Go.Ab

set_option linter.unusedVariables false
set_option linter.unusedSimpArgs false
namespace Go.Ab
open Go.RowKit
def dark (F:List Nat) (H:Array Obj):Array Obj:=H.mapIdx fun b o=>if F.contains b then .cells #[] 0 (0,0) else o
theorem X1W (F:List Nat) (H:Array Obj):(dark F H).size=H.size:=by simp [dark]
theorem X3D {F:List Nat} {H:Array Obj} {b:Nat} (h:b ∉ F):(dark F H)[b]? = H[b]? := by
 unfold dark
 rw [Array.getElem?_mapIdx]
 cases H[b]? with
 | none=>rfl
 | some o=>simp [h]
theorem Xad {F:List Nat} {H:Array Obj} {b:Nat} (h:b∈F) (o:Nat):X8 (dark F H) b o=none:=by
 unfold X8 dark
 rw [Array.getElem?_mapIdx]
 cases H[b]? with
 | none=>rfl
 | some o=>simp [h]
def vwC (ks:List Nat) (D:List Row):AV→Option AV
 | .own r=>match idx ks r with
  | some i=>some (.own i)
  | none=>res D 8 (.own r)
 | .ptr r j off=>match idx ks r with
  | some i=>some (.ptr i j off)
  | none=>res D 8 (.ptr r j off)
 | v=>res D 8 v
def vw (ks:List Nat) (D:List Row):AV→Option AV
 | .agg cs=>(resL (vwC ks D) cs).map .agg
 | .fn g cap=>(resL (vwC ks D) cap).map (.fn g)
 | v=>vwC ks D v
def X3b (ks:List Nat) (D:List Row):Row→Option Row
 | .vec t es l _=>some (.vec t es l false)
 | .nest t ll _=>some (.nest t ll false)
 | .box t cs=>(resL (vwC ks D) cs).map (.box t)
 | _=>none
def X3V (ks:List Nat) (D:List Row):List Row→Option (List Row)
 | []=>some []
 | r :: rs=>match X3b ks D r,X3V ks D rs with
  | some r',some rs'=>some (r' :: rs')
  | _,_=>none
theorem X50 {ks:List Nat} {D:List Row}:∀ {l l':List Row},X3V ks D l=some l'→l'.length=l.length∧∀ (j:Nat) (r':Row),l'[j]? = some r'→∃ r,l[j]? = some r∧X3b ks D r=some r'
 | [],l',h=>by simp [X3V] at h;subst h;simp
 | r :: rs,l',h=>by
  simp only [X3V] at h
  split at h
  ·rename_i a b h1 h2
   simp only [Option.some.injEq] at h;subst h
   obtain ⟨g1,g2⟩:=X50 h2
   refine ⟨by simp [g1],fun j r' e => ?_⟩
   cases j with
   | zero=>simp at e;subst e;exact ⟨r,rfl,h1⟩
   | succ j=>simp at e;simpa using g2 j r' e
  ·cases h
def X3c (ks:List Nat) (m i:Nat):Nat:=match ks[i]? with
 | some k=>k
 | none=>m + (i - ks.length)
def bkC (ks:List Nat) (m:Nat):AV→AV
 | .own i => .own (X3c ks m i)
 | .mp i => .mp (X3c ks m i)
 | v=>v
def bkA (ks:List Nat) (m:Nat):AV→AV
 | .agg cs => .agg (cs.map (bkC ks m))
 | v=>bkC ks m v
def bk (ks:List Nat) (m:Nat):AV→AV
 | .tup vs => .tup (vs.map (bkA ks m))
 | v=>bkA ks m v
def X3E (ks:List Nat) (m:Nat):Row→Row
 | .box t cs => .box t (cs.map (bkC ks m))
 | r=>r
def X1x (ks:List Nat) (m:Nat) (new:List Row):Nat→List Row→List Row
 | _,[]=>(new.drop ks.length).map (X3E ks m)
 | i,r :: rs=>(match idx ks i with
  | some j=>match new[j]? with
   | some q=>X3E ks m q
   | none=>r
  | none=>r) :: X1x ks m new (i + 1) rs
theorem X3g (ks:List Nat) (m:Nat) (new:List Row):∀ (rs:List Row) (i j:Nat) (row:Row),(X1x ks m new i rs)[j]? = some row →
  (j < rs.length∧((∃ q x,idx ks (i + j)=some q∧new[q]? = some x∧row=X3E ks m x)∨((idx ks (i + j)=none∨∃ q,idx ks (i + j)=some q∧new[q]? = none)∧rs[j]? = some row))) ∨
  (rs.length≤j∧∃ x,new[ks.length + (j - rs.length)]? = some x∧row=X3E ks m x)
 | [],i,j,row,h=>by
  simp only [X1x,List.getElem?_map,List.getElem?_drop,Option.map_eq_some_iff] at h
  obtain ⟨x,h1,h2⟩:=h
  exact .inr ⟨Nat.zero_le _,x,by simpa using h1,h2.symm⟩
 | r :: rs,i,0,row,h=>by
  simp only [X1x,List.getElem?_cons_zero,Option.some.injEq] at h
  left;refine ⟨by simp,?_⟩
  simp only [Nat.add_zero]
  split at h
  ·rename_i q hi
   split at h
   ·rename_i x hq
    exact .inl ⟨q,x,hi,hq,h.symm⟩
   ·rename_i hq
    exact .inr ⟨.inr ⟨q,hi,hq⟩,by simp [h]⟩
  ·rename_i hi
   exact .inr ⟨.inl hi,by simp [h]⟩
 | r :: rs,i,j + 1,row,h=>by
  simp only [X1x,List.getElem?_cons_succ] at h
  have:=X3g ks m new rs (i + 1) j row h
  rw [show i + 1 + j=i + (j + 1) from by omega] at this
  simp only [List.length_cons,List.getElem?_cons_succ]
  rcases this with ⟨h1,h2⟩ | ⟨h1,x,h2,h3⟩
  ·exact .inl ⟨by omega,h2⟩
  ·exact .inr ⟨by omega,x,by rw [← h2];congr 1;omega,h3⟩
theorem X3n (ks:List Nat) (m:Nat) (new:List Row):∀ (rs:List Row) (i:Nat),(X1x ks m new i rs).length=rs.length + (new.length - ks.length)
 | [],i=>by simp [X1x]
 | r :: rs,i=>by simp [X1x,X3n ks m new rs];omega
theorem X5n {H H':Array Obj} {μ M:Nat→Option FP} {ks:List Nat} {m n:Nat} (hs:∀ i p,i < n→μ i=some p→M (X3c ks m i)=some p) {c:AV} {v:Value} (ho:X1m n c=true) (h:Rep H μ c v):Rep H' M (bkC ks m c) v:=by
 cases h<;>simp [X1m] at ho<;>simp only [bkC]
 ·exact .b _
 ·exact .i _ _
 ·exact .f _ _ _ ‹_› ‹_›
 ·exact .nils
 ·rename_i r p hp;exact .own _ p (hs r p ho hp)
 ·rename_i r p hz hp;exact .mp _ p (hs r p ho hp) hz
theorem X7T {H H':Array Obj} {μ M:Nat→Option FP} {ks:List Nat} {m n:Nat} (hs:∀ i p,i < n→μ i=some p→M (X3c ks m i)=some p) {c:AV} {v:Value} (ho:X1n n c=true) (h:Rep H μ c v):Rep H' M (bkA ks m c) v:=by
 cases c with
 | agg cs =>
  cases h with | agg _ vs hz hh =>
  simp only [X1n,List.all_eq_true] at ho
  refine .agg _ vs (by simp [hz]) fun j c e => ?_
  simp only [List.getElem?_map,Option.map_eq_some_iff] at e
  obtain ⟨c0,e0,rfl⟩:=e
  exact X5n hs (ho c0 (List.mem_of_getElem? e0)) (hh j c0 e0)
 | _=>simp only [X1n] at ho;exact X5n hs ho h
theorem XaF {H H':Array Obj} {μ M:Nat→Option FP} {ks:List Nat} {m n:Nat} (hs:∀ i p,i < n→μ i=some p→M (X3c ks m i)=some p) {c:AV} {v:Value} (ho:X1a n c=true) (h:Rep H μ c v):Rep H' M (bk ks m c) v:=by
 cases c with
 | tup cs =>
  cases h with | tup _ vs hz hh =>
  simp only [X1a,List.all_eq_true] at ho
  refine .tup _ vs (by simp [hz]) fun j c e => ?_
  simp only [List.getElem?_map,Option.map_eq_some_iff] at e
  obtain ⟨c0,e0,rfl⟩:=e
  exact X7T hs (ho c0 (List.mem_of_getElem? e0)) (hh j c0 e0)
 | _=>simp only [X1a] at ho;exact X7T hs ho h
theorem X7e {H H':Array Obj} {heap:Array Obj} {μ M:Nat→Option FP} {ks:List Nat} {m n:Nat} (hs:∀ i p,i < n→μ i=some p→M (X3c ks m i)=some p) {p:Option FP} {row:Row} (ho:XA n row=true)
  (h:X6 H μ heap p row):X6 H' M heap p (X3E ks m row):=by
 cases row with
 | box t cs =>
  cases p with
  | none=>exact h.elim
  | some p =>
   obtain ⟨ez,e1,e2,arr,e3,e4,e5⟩:=h
   simp only [XA,List.all_eq_true] at ho
   refine ⟨ez,by simpa using e1,e2,arr,e3,by simpa using e4,fun j c e => ?_⟩
   rw [List.getElem?_map,Option.map_eq_some_iff] at e
   obtain ⟨c0,e0,rfl⟩:=e
   exact X5n hs (ho c0 (List.mem_of_getElem? e0)) (e5 j c0 e0)
 | vec t es l full=>cases p<;>exact h
 | nest t ll full=>cases p<;>exact h
 | mapN=>cases p<;>exact h
 | mapS=>simp [XA] at ho
 | nestD=>simp [XA] at ho
 | vecU=>simp [XA] at ho
 | dead=>simp [XA] at ho
 | lits t cs=>simp [XA] at ho
theorem Xz.frame {P:Program} {g:FuncId} {rows rows':List Row} {args:List AV} {r:AV} (h:Xz P g rows args r rows') (ks:List Nat) {R:List Row} {args':List AV}
  (hR:(X11 R ks).bind (X3V ks (Xj ks 0 R))=some rows) (hA:resL (vw ks (Xj ks 0 R)) args'=some args) (hnd:XW ks=true)
  (hlen:Nat.ble ks.length rows'.length=true) (hok:rows'.all (XA rows'.length)=true) (hr:X1a rows'.length r=true) :
  Xz P g R args' (bk ks R.length r) (X1x ks R.length rows' 0 R):=by
 rw [Nat.ble_eq] at hlen
 obtain ⟨RK,hpick,hview⟩:=Option.bind_eq_some_iff.1 hR
 obtain ⟨hpl,hpg⟩:=X1r hpick
 obtain ⟨hvl,hvg⟩:=X50 hview
 have hnd':=XM hnd
 have hkl:∀ i k,ks[i]? = some k→k < R.length:=fun i k e=>by
  have hi:i < RK.length:=by
   rw [hpl]
   rcases Nat.lt_or_ge i ks.length with h | h
   ·exact h
   ·rw [List.getElem?_eq_none h] at e;cases e
  have:=hpg i k e
  rcases Nat.lt_or_ge k R.length with h | h
  ·exact h
  ·rw [List.getElem?_eq_none h,List.getElem?_eq_getElem hi] at this;cases this
 have hidx:∀ k,idx ks k=none→k ∉ ks:=by
  intro k
  clear hpick hpl hpg hnd hnd' hkl hR hA hlen hview hvl hvg
  induction ks with
  | nil=>simp
  | cons a as ih =>
   intro hn
   simp only [idx] at hn
   split at hn
   ·cases hn
   ·rename_i hne
    simp only [beq_eq_false_iff_ne] at hne
    simp only [Option.map_eq_none_iff] at hn
    simp only [List.mem_cons,not_or]
    exact ⟨fun e=>hne e.symm,ih hn⟩
 refine ⟨h.1,fun W0 M W vs hm hp => ?_⟩
 let F:List Nat:=ks.flatMap fun k=>match M k with
  | some p=>p.blks
  | none => []
 have hF:∀ b,b∈F↔∃ k∈ks,∃ p,M k=some p∧b∈p.blks:=by
  intro b
  show b∈List.flatMap _ _↔_
  rw [List.mem_flatMap]
  constructor
  ·rintro ⟨k,hk,hb⟩
   split at hb
   ·rename_i p hMp;exact ⟨k,hk,p,hMp,hb⟩
   ·cases hb
  ·rintro ⟨k,hk,p,hMp,hb⟩
   exact ⟨k,hk,by rw [hMp];exact hb⟩
 let w0:Old0:={ toWorld:={ W with heap:=dark F W.heap },opn:=(· ∈ F),dark:=fun b hb o=>Xad hb o,pin:=fun _=>none,np:=0,pinLt:=fun _ _ e=>by cases e }
 have hh0:w0.heap=dark F W.heap:=rfl
 have hFm:∀ b,b∈F→W0.mine b∧b < W.heap.size:=fun b hb=>by
  obtain ⟨k,_,p,hMp,hbp⟩:=(hF b).1 hb
  exact hm.own k p b hMp hbp
 have hFo:∀ q p b,q ∉ ks→M q=some p→b∈p.blks→b ∉ F:=fun q p b hq hMq hb hbF=>by
  obtain ⟨k,hk,p',hMk,hb'⟩:=(hF b).1 hbF
  have:=hm.sep q k p p' b hMq hMk hb hb'
  subst this;exact hq hk
 let μ:Nat→Option FP:=fun i=>(ks[i]?).bind M
 have hμ:∀ i k,ks[i]? = some k→μ i=M k:=fun i k e=>by show (ks[i]?).bind M=M k;rw [e];rfl
 have hμ0:∀ i p,μ i=some p→∃ k,ks[i]? = some k∧M k=some p:=by
  intro i p e
  cases hk:ks[i]? with
  | none=>have e2:(ks[i]?).bind M=some p:=e;rw [hk] at e2;cases e2
  | some k=>exact ⟨k,rfl,by rw [← hμ i k hk];exact e⟩
 have hmd:MemW W0 M (Xj ks 0 R) { W with heap:=dark F W.heap }:=by
  refine ⟨hm.bel.step rfl rfl rfl (by simp [X1W]) (Nat.le_refl _) (fun k hk ho=>X3D fun hkF => ?_),fun q row e => ?_,hm.sep,hm.nodup,fun q p b e hb => ?_⟩
  ·rcases (hFm k hkF).1 with h | h
   ·exact ho h
   ·omega
  ·rcases X6J _ _ _ _ _ e with rfl | ⟨h1,h2⟩
   ·cases M q<;>exact trivial
   ·rw [Nat.zero_add] at h1
    exact (hm.row q row h2).heap fun p hp' b hb=>X3D (hFo q p b (hidx q h1) hp' hb)
  ·simpa [X1W] using hm.own q p b e hb
 have vC:∀ c c' v,vwC ks (Xj ks 0 R) c=some c'→Rep W0.heap M c v→Rep w0.heap μ c' v:=by
  have dflt:∀ c c' v,res (Xj ks 0 R) 8 c=some c'→Rep W0.heap M c v→Rep w0.heap μ c' v:=fun c c' v e hrep =>
   (X5v hmd 8 c c' v e hrep).mono fun q p e=>by cases e
  intro c c' v e hrep
  cases c with
  | own q =>
   simp only [vwC] at e
   split at e
   ·rename_i i hi
    simp only [Option.some.injEq] at e;subst e
    cases hrep with
    | own _ p hp'=>exact .own i p (by rw [hμ i q (XF hi)];exact hp')
   ·exact dflt _ _ _ e hrep
  | ptr q j off =>
   simp only [vwC] at e
   split at e
   ·rename_i i hi
    simp only [Option.some.injEq] at e;subst e
    cases hrep with
    | ptr _ _ _ p hp'=>exact .ptr i j off p (by rw [hμ i q (XF hi)];exact hp')
   ·exact dflt _ _ _ e hrep
  | _=>refine dflt _ _ _ ?_ hrep;exact e
 have vL:∀ (cs cs':List AV) (us:Array Value),resL (vwC ks (Xj ks 0 R)) cs=some cs'→us.size=cs.length→(∀ (j:Nat) (c:AV),cs[j]? = some c→Rep W0.heap M c (us.getD j undef)) →
   us.size=cs'.length∧∀ (j:Nat) (c:AV),cs'[j]? = some c→Rep w0.heap μ c (us.getD j undef):=by
  intro cs cs' us hl hs hh
  obtain ⟨h1,h2⟩:=X1N hl
  exact ⟨by omega,fun j c e=>let ⟨u,eu,fu⟩:=h2 j c e;vC u c _ fu (hh j u eu)⟩
 have vA:∀ c c' v,vw ks (Xj ks 0 R) c=some c'→Rep W0.heap M c v→Rep w0.heap μ c' v:=by
  intro c c' v e hrep
  cases c with
  | agg cs =>
   simp only [vw,Option.map_eq_some_iff] at e
   obtain ⟨cs',hl,rfl⟩:=e
   cases hrep with
   | agg _ us hz hh =>
    obtain ⟨g1,g2⟩:=vL cs cs' us hl hz hh
    exact .agg cs' us g1 g2
  | fn f cap =>
   simp only [vw,Option.map_eq_some_iff] at e
   obtain ⟨cs',hl,rfl⟩:=e
   cases hrep with
   | fn _ _ us hz hh =>
    obtain ⟨g1,g2⟩:=vL cap cs' us hl hz hh
    exact .fn f cs' us g1 g2
  | _=>refine vC _ _ _ ?_ hrep;exact e
 have pw:PW w0.heap μ args vs:=by
  obtain ⟨h1,h2⟩:=X1N hA
  exact ⟨by rw [hp.1,h1],fun j c e=>let ⟨u,eu,fu⟩:=h2 j c e;vA u c _ fu (hp.2 j u eu)⟩
 have hil:∀ i,i < rows.length→∃ k,ks[i]? = some k:=fun i hi=>⟨_,List.getElem?_eq_getElem (by omega)⟩
 have mem:Mem w0 μ rows W:=by
  refine ⟨⟨⟨rfl,rfl,rfl,by rw [hh0,X1W];exact Nat.le_refl _,fun k _ ho=>(X3D ho).symm,Nat.le_refl _⟩,fun i row e => ?_,fun i j p p' b e e' hb hb' => ?_,fun i p e => ?_,fun i p b e hb => ?_⟩,fun i hi => ?_,fun i e => ?_,fun i p e=>by cases e⟩
  ·obtain ⟨row0,e0,hv⟩:=hvg i row e
   have hi:i < ks.length:=by
    rw [← hpl]
    rcases Nat.lt_or_ge i RK.length with h | h
    ·exact h
    ·rw [List.getElem?_eq_none h] at e0;cases e0
   rw [hμ i _ (List.getElem?_eq_getElem hi)]
   rw [hpg i _ (List.getElem?_eq_getElem hi)] at e0
   have hrow:=hm.row _ row0 e0
   cases row0 with
   | vec t es l full =>
    simp only [X3b,Option.some.injEq] at hv;subst hv
    cases hM:M ks[i] with
    | none=>rw [hM] at hrow;exact hrow.elim
    | some p =>
     rw [hM] at hrow
     rcases hrow with ⟨h1,h2,_⟩ | ⟨f0,f1,f2,f3,f4,_,f6⟩
     ·exact .inl ⟨h1,h2,rfl⟩
     ·exact .inr ⟨f0,f1,f2,f3,f4,(fun h=>by cases h),f6⟩
   | nest t ll full =>
    simp only [X3b,Option.some.injEq] at hv;subst hv
    cases hM:M ks[i] with
    | none=>rw [hM] at hrow;exact hrow.elim
    | some p =>
     rw [hM] at hrow
     rcases hrow with h | ⟨f0,f1,f2,f3,_,f6⟩
     ·exact .inl h
     ·exact .inr ⟨f0,f1,f2,f3,(fun h=>by cases h),f6⟩
   | box t cs =>
    simp only [X3b,Option.map_eq_some_iff] at hv
    obtain ⟨cs',hl,rfl⟩:=hv
    cases hM:M ks[i] with
    | none=>rw [hM] at hrow;exact hrow.elim
    | some p =>
     rw [hM] at hrow
     obtain ⟨f0,f1,f2,arr,f3,f4,f5⟩:=hrow
     obtain ⟨g1,g2⟩:=X1N hl
     exact ⟨f0,by rw [f1,g1],f2,arr,f3,by rw [g1];exact f4,fun j c e=>let ⟨u,eu,fu⟩:=g2 j c e;vC u c _ fu (f5 j u eu)⟩
   | _=>simp [X3b] at hv
  ·obtain ⟨k,g1,g2⟩:=hμ0 i p e
   obtain ⟨k',g3,g4⟩:=hμ0 j p' e'
   have:=hm.sep k k' p p' b g2 g4 hb hb'
   subst this
   have hil:i < ks.length:=by
    rcases Nat.lt_or_ge i ks.length with h | h
    ·exact h
    ·rw [List.getElem?_eq_none h] at g1;cases g1
   have hjl:j < ks.length:=by
    rcases Nat.lt_or_ge j ks.length with h | h
    ·exact h
    ·rw [List.getElem?_eq_none h] at g3;cases g3
   rw [List.getElem?_eq_getElem hil] at g1
   rw [List.getElem?_eq_getElem hjl] at g3
   exact X3a hnd' hil hjl ((Option.some.inj g1).trans (Option.some.inj g3).symm)
  ·obtain ⟨k,g1,g2⟩:=hμ0 i p e
   exact hm.nodup k p g2
  ·obtain ⟨k,g1,g2⟩:=hμ0 i p e
   exact ⟨.inl ((hF b).2 ⟨k,List.mem_of_getElem? g1,p,g2,hb⟩),(hm.own k p b g2 hb).2⟩
  ·show (ks[i]?).bind M=none
   rw [List.getElem?_eq_none (by omega)];rfl
  ·obtain ⟨row0,e0,hv⟩:=hvg i _ e
   cases row0<;>simp [X3b] at hv
 refine (h.2 w0 μ W vs mem pw).mono fun e w' ⟨v,μ',he,hsub,hm',hrep⟩ => ?_
 let M':Nat→Option FP:=fun q=>if q < R.length then M q else μ' (ks.length + (q - R.length))
 have hMo:∀ q,q < R.length→M' q=M q:=fun q hq=>if_pos hq
 have hMn:∀ q,R.length≤q→M' q=μ' (ks.length + (q - R.length)):=fun q hq=>if_neg (by omega)
 have hMsub:Sub M M':=fun q p e=>by
  have hq:q < R.length:=by
   rcases Nat.lt_or_ge q R.length with h | h
   ·exact h
   ·rw [hm.out q h] at e;cases e
  rw [hMo q hq];exact e
 have hsome:∀ i k,ks[i]? = some k→∃ p,M k=some p∧μ' i=some p:=fun i k e=>by
  have hi:i < rows.length:=by
   rw [hvl,hpl]
   rcases Nat.lt_or_ge i ks.length with h | h
   ·exact h
   ·rw [List.getElem?_eq_none h] at e;cases e
  have hrow:=mem.row i _ (List.getElem?_eq_getElem hi)
  cases hM:M k with
  | none =>
   rw [hμ i k e,hM] at hrow
   have hd:=mem.dead i
   cases hx:rows[i]<;>rw [hx] at hrow<;>try exact hrow.elim
   obtain ⟨row0,e0,hv⟩:=hvg i _ (by rw [List.getElem?_eq_getElem hi,hx])
   cases row0<;>simp [X3b] at hv
  | some p=>exact ⟨p,rfl,hsub i p (by rw [hμ i k e];exact hM)⟩
 have hback:∀ i p,i < rows'.length→μ' i=some p→M' (X3c ks R.length i)=some p:=fun i p hi e=>by
  unfold X3c
  cases hk:ks[i]? with
  | some k =>
   obtain ⟨p2,g1,g2⟩:=hsome i k hk
   rw [hMo k (hkl i k hk),g1,← g2];exact e
  | none =>
   rw [List.getElem?_eq_none_iff] at hk
   show M' (R.length + (i - ks.length))=some p
   rw [hMn (R.length + (i - ks.length)) (by omega),← e];congr 1;omega
 have hnewF:∀ q p b,R.length≤q→M' q=some p→b∈p.blks→W.heap.size≤b∧b < w'.heap.size:=fun q p b hq e hb=>by
  rw [hMn q hq] at e
  obtain ⟨g1,g2⟩:=hm'.own _ p b e hb
  refine ⟨?_,g2⟩
  rcases g1 with g1 | g1
  ·exfalso
   obtain ⟨k,hk,p2,hMk,hb2⟩:=(hF b).1 g1
   obtain ⟨i,hi,rfl⟩:=List.getElem_of_mem hk
   obtain ⟨p3,f1,f2⟩:=hsome i _ (List.getElem?_eq_getElem hi)
   rw [hMk] at f1;cases f1
   have:=hm'.sep _ _ p p2 b e f2 hb hb2
   omega
  ·rw [hh0,X1W] at g1;exact g1
 have hsz:W.heap.size≤w'.heap.size:=by have:=hm'.bel.size;rw [hh0,X1W] at this;exact this
 have hblk:∀ b,b < W.heap.size→b ∉ F→w'.heap[b]? = W.heap[b]? := fun b hb hn=>by
  rw [hm'.bel.block b (by rw [hh0,X1W];exact hb) hn,hh0,X3D hn]
 refine ⟨v,M',he,hMsub,⟨⟨hm.bel.step hm'.bel.os hm'.bel.tape hm'.bel.output hsz hm'.bel.drawn fun k hk ho=>hblk k (Nat.lt_of_lt_of_le hk hm.bel.size) fun hkF => ?_,fun q row e => ?_,fun q q' p p' b e e' hb hb' => ?_,fun q p e => ?_,fun q p b e hb => ?_⟩,fun q hq => ?_,fun q e => ?_,hm.pin.trans hMsub⟩,XaF hback hr hrep⟩
 ·rcases (hFm k hkF).1 with h | h
  ·exact ho h
  ·omega
 ·rw [List.all_eq_true] at hok
  rcases X3g _ _ _ _ _ _ _ e with ⟨h1,⟨j,x,h2,h3,rfl⟩ | ⟨h2,h3⟩⟩ | ⟨h1,x,h2,rfl⟩
  ·rw [Nat.zero_add] at h2
   have hkj:=XF h2
   obtain ⟨p,g1,g2⟩:=hsome j q hkj
   rw [hMo q h1,g1,← g2]
   exact X7e hback (hok x (List.mem_of_getElem? h3)) (hm'.row j x h3)
  ·have hqk:q ∉ ks:=by
    rcases h2 with h2 | ⟨j,h2,h4⟩
    ·rw [Nat.zero_add] at h2;exact hidx q h2
    ·rw [Nat.zero_add] at h2
     have hkj:=XF h2
     have:j < ks.length:=by
      rcases Nat.lt_or_ge j ks.length with h | h
      ·exact h
      ·rw [List.getElem?_eq_none h] at hkj;cases hkj
     rw [List.getElem?_eq_none_iff] at h4
     omega
   rw [hMo q h1]
   exact ((hm.row q row h3).mono hMsub).heap fun p hp' b hb=>hblk b (hm.own q p b hp' hb).2 (hFo q p b hqk hp' hb)
  ·rw [hMn q h1]
   exact X7e hback (hok x (List.mem_of_getElem? h2)) (hm'.row _ x h2)
 ·rcases Nat.lt_or_ge q R.length with hq | hq<;>rcases Nat.lt_or_ge q' R.length with hq' | hq'
  ·rw [hMo q hq] at e;rw [hMo q' hq'] at e'
   exact hm.sep q q' p p' b e e' hb hb'
  ·rw [hMo q hq] at e
   have h1:=(hm.own q p b e hb).2
   have h2:=hnewF q' p' b hq' e' hb'
   omega
  ·rw [hMo q' hq'] at e'
   have h1:=(hm.own q' p' b e' hb').2
   have h2:=hnewF q p b hq e hb
   omega
  ·rw [hMn q hq] at e;rw [hMn q' hq'] at e'
   have:=hm'.sep _ _ p p' b e e' hb hb'
   omega
 ·rcases Nat.lt_or_ge q R.length with hq | hq
  ·rw [hMo q hq] at e;exact hm.nodup q p e
  ·rw [hMn q hq] at e;exact hm'.nodup _ p e
 ·rcases Nat.lt_or_ge q R.length with hq | hq
  ·rw [hMo q hq] at e
   have:=hm.own q p b e hb
   exact ⟨this.1,by omega⟩
  ·have:=hnewF q p b hq e hb
   have:=hm.bel.size
   exact ⟨.inr (by omega),by omega⟩
 ·rw [X3n] at hq
  rw [hMn q (by omega)]
  exact hm'.out _ (by omega)
 ·rw [List.all_eq_true] at hok
  rcases X3g _ _ _ _ _ _ _ e with ⟨h1,⟨j,x,h2,h3,h4⟩ | ⟨h2,h3⟩⟩ | ⟨h1,x,h2,h4⟩
  ·have:=hok x (List.mem_of_getElem? h3)
   cases x<;>simp [X3E] at h4
   simp [XA] at this
  ·rw [hMo q h1];exact hm.dead q h3
  ·have:=hok x (List.mem_of_getElem? h2)
   cases x<;>simp [X3E] at h4
   simp [XA] at this
end Go.Ab

set_option linter.unusedVariables false
set_option linter.unusedSimpArgs false
namespace Go.Ab
open Go.RowKit
end Go.Ab

set_option linter.unusedVariables false
set_option linter.unusedSimpArgs false
namespace Go.Ab
open Go.RowKit
inductive NPos where
 | tm (t:Nat)
 | tmc (t j:Nat)
 | row (r j:Nat)
 | dn (r:Nat)
def X3o:Row→Bool
 | .vec _ _ [] false=>true
 | .nest _ [] false=>true
 | _=>false
def nil1 (st:St) (p:NPos) (row:Row):Option St :=
 match X3o row,p with
 | true, .tm t=>match st.tm[t]? with
  | some .nils=>some ⟨st.tm.set t (.own st.rows.length),st.rows ++ [row]⟩
  | _=>none
 | true, .tmc t j=>match st.tm[t]? with
  | some (.agg cs)=>match cs[j]? with
   | some .nils=>some ⟨st.tm.set t (.agg (cs.set j (.own st.rows.length))),st.rows ++ [row]⟩
   | _=>none
  | _=>none
 | true, .row r j=>match st.rows[r]? with
  | some (.box ty cs)=>match cs[j]? with
   | some .nils=>some ⟨st.tm,(st.rows ++ [row]).set r (.box ty (cs.set j (.own st.rows.length)))⟩
   | _=>none
  | _=>none
 | _,_=>none
def nilX (st:St) (p:NPos) (row:Row):Option St:=match p with
 | .dn r=>match st.rows[r]? with
  | some (.nest t ll _)=>some ⟨st.tm,st.rows.set r (.nestD t ll 0)⟩
  | _=>none
 | p=>nil1 st p row
def X1D:List (NPos × Row)→St→Option St
 | [],st=>some st
 | (p,row) :: ps,st=>match nilX st p row with
  | some st'=>X1D ps st'
  | none=>none
theorem X8t {w0:Old0} {st st':St} {a:Act} {w:World} {p:NPos} {row:Row} (h:nil1 st p row=some st') (hr:Rel w0 st a w):Rel w0 st' a w:=by
 obtain ⟨μ,hr⟩:=hr
 let fp:FP:=⟨0,0,0,0,[],true⟩
 have hnone:=hr.mem.out st.rows.length (Nat.le_refl _)
 have hsub:Sub μ (setμ μ st.rows.length fp):=X6n hnone
 have hval:fp.val = .slice none 0 0:=rfl
 have hown:∀ v,Rep w0.heap μ .nils v→Rep w0.heap (setμ μ st.rows.length fp) (.own st.rows.length) v:=fun v hv=>by
  cases hv;exact .own st.rows.length fp (by simp [setμ])
 unfold nil1 at h
 cases hn:X3o row with
 | false=>rw [hn] at h;cases h
 | true =>
  rw [hn] at h
  have hrow:∀ H heap,X6 H (setμ μ st.rows.length fp) heap (some fp) row:=by
   intro H heap
   cases row with
   | vec t es l full=>cases l<;>cases full<;>simp [X3o] at hn;exact .inl ⟨rfl,rfl,rfl⟩
   | nest t l full=>cases l<;>cases full<;>simp [X3o] at hn;exact .inl ⟨rfl,rfl,rfl⟩
   | _=>simp [X3o] at hn
  have hdead:X1k row=false:=by cases row<;>simp [X3o] at hn<;>rfl
  have hgrow:Grow w0.heap μ (setμ μ st.rows.length fp) st.rows.length [row] w.heap.size w.heap:=by
   have one:∀ r q,st.rows.length≤r→r < st.rows.length + [row].length→setμ μ st.rows.length fp r=some q→q=fp:=fun r q h1 h2 e=>by
    have:r=st.rows.length:=by simp at h2;omega
    subst this;simp [setμ] at e;exact e.symm
   refine ⟨fun i e => ?_,fun r h => ?_,fun i row' e => ?_,fun r r' p p' b h1 h2 h3 h4 => ?_,fun r q h1 h2 e => ?_,fun r q b h1 h2 e hm => ?_⟩
   ·cases i with
    | zero=>simp at e;subst e;simp [X1k] at hdead
    | succ i=>simp at e
   ·unfold setμ;rw [if_neg (by simp at h;omega)]
   ·cases i with
    | zero=>simp at e;subst e;simpa [setμ] using hrow w0.heap w.heap
    | succ i=>simp at e
   ·simp at h2 h4;omega
   ·rw [one r q h1 h2 e];exact List.nodup_nil
   ·rw [one r q h1 h2 e] at hm;cases hm
  have hm1:=hr.mem.grow (Bw.refl _ w) hgrow (Nat.le_refl _) (fun r h1 _=>hr.mem.out r h1)
  rw [X2b] at hm1
  have htm:∀ t v,st.tm[t]? = some v→Rep w0.heap (setμ μ st.rows.length fp) v (a.tmps.getD t undef):=fun t v e=>(hr.tmps t v e).mono hsub
  have hset:∀ (t:Nat) (v:AV),Rep w0.heap (setμ μ st.rows.length fp) v (a.tmps.getD t undef)→Rel w0 ⟨st.tm.set t v,st.rows ++ [row]⟩ a w:=fun t v hv =>
   ⟨_,hr.defers,by simpa using hr.size,fun s u e=>by
    simp only at e
    by_cases hts:t=s
    ·subst hts
     rw [List.getElem?_set_self'] at e
     cases hx:st.tm[t]? with
     | none=>rw [hx] at e;simp at e
     | some y=>rw [hx] at e;simp at e;subst e;exact hv
    ·rw [List.getElem?_set_ne hts] at e;exact htm s u e,hm1⟩
  cases p with
  | tm t =>
   simp only at h
   split at h
   ·rename_i ht
    simp only [Option.some.injEq] at h;subst h
    exact hset t _ (hown _ (hr.tmps t _ ht))
   ·cases h
  | tmc t j =>
   simp only at h
   split at h
   ·rename_i cs ht
    split at h
    ·rename_i hj
     simp only [Option.some.injEq] at h;subst h
     refine hset t _ ?_
     have hrep:=hr.tmps t _ ht
     generalize a.tmps.getD t undef=x at hrep
     cases hrep with
     | agg _ vs hz hh =>
      refine .agg _ vs (by simpa using hz) fun i c e => ?_
      by_cases hji:j=i
      ·subst hji
       rw [List.getElem?_set_self'] at e
       rw [hj] at e
       simp at e;subst e
       exact hown _ (hh j _ hj)
      ·rw [List.getElem?_set_ne hji] at e;exact (hh i c e).mono hsub
    ·cases h
   ·cases h
  | row r j =>
   simp only at h
   split at h
   ·rename_i ty cs hrr
    split at h
    ·rename_i hj
     simp only [Option.some.injEq] at h;subst h
     refine ⟨_,hr.defers,hr.size,htm,hm1.repl ?_ rfl⟩
     have hrlt:r < st.rows.length:=by
      rcases Nat.lt_or_ge r st.rows.length with h | h
      ·exact h
      ·rw [List.getElem?_eq_none h] at hrr;cases hrr
     have hok:=hm1.row r (.box ty cs) (by rw [List.getElem?_append_left hrlt];exact hrr)
     have hok0:=hr.mem.row r _ hrr
     have hμr:setμ μ st.rows.length fp r=μ r:=by unfold setμ;rw [if_neg (by omega)]
     rw [hμr] at hok ⊢
     cases hq:μ r with
     | none=>rw [hq] at hok;exact hok.elim
     | some q =>
      rw [hq] at hok hok0
      obtain ⟨e0,e1,e2,arr,e3,e4,e5⟩:=hok
      obtain ⟨f0,f1,f2,arr',f3,f4,f5⟩:=hok0
      have harr:arr'=arr:=by rw [e3] at f3;cases f3;rfl
      subst harr
      refine ⟨e0,by simpa using e1,e2,arr',e3,by simpa using e4,fun i c e => ?_⟩
      by_cases hji:j=i
      ·subst hji
       rw [List.getElem?_set_self'] at e
       rw [hj] at e
       simp at e;subst e
       exact hown _ (f5 j _ hj)
      ·rw [List.getElem?_set_ne hji] at e;exact e5 i c e
    ·cases h
   ·cases h
  | dn r=>cases h
theorem X8u {w0:Old0} {st st':St} {a:Act} {w:World} {p:NPos} {row:Row} (h:nilX st p row=some st') (hr:Rel w0 st a w):Rel w0 st' a w:=by
 unfold nilX at h
 split at h
 ·rename_i r
  split at h
  ·rename_i t ll full hrr
   simp only [Option.some.injEq] at h;subst h
   obtain ⟨μ,hr⟩:=hr
   refine ⟨μ,hr.defers,hr.size,hr.tmps,hr.mem.repl ?_ rfl⟩
   have hok:=hr.mem.row r _ hrr
   cases hq:μ r with
   | none=>rw [hq] at hok;exact hok.elim
   | some q =>
    rw [hq] at hok
    rcases hok with h | ⟨hz,h1,h2,h3,h4,h5,arr,h6,h7,h8⟩
    ·exact .inl h
    ·exact .inr ⟨hz,h1,h2,h3,h5,arr,h6,h7,fun i l _ hi=>h8 i l hi⟩
  ·cases h
 ·exact X8t h hr
theorem X16 {w0:Old0} {a:Act} {w:World}:∀ {ps:List (NPos × Row)} {st st':St},X1D ps st=some st'→Rel w0 st a w→Rel w0 st' a w
 | [],st,st',h,hr=>by simp [X1D] at h;subst h;exact hr
 | (p,row) :: ps,st,st',h,hr=>by
  simp only [X1D] at h
  split at h
  ·rename_i st1 h1
   exact X16 h (X8u h1 hr)
  ·cases h
def rnF (ks:List Nat):AV→AV
 | .own r=>match idx ks r with
  | some i => .own i
  | none => .any
 | .ptr r j o=>match idx ks r with
  | some i => .ptr i j o
  | none => .any
 | .inn r j=>match idx ks r with
  | some i => .inn i j
  | none => .any
 | .ipt r j k=>match idx ks r with
  | some i => .ipt i j k
  | none => .any
 | .mp r=>match idx ks r with
  | some i => .mp i
  | none => .any
 | .bx r n=>match idx ks r with
  | some i => .bx i n
  | none => .any
 | .agg _ | .tup _ | .fn _ _ => .any
 | v=>v
def rnC (ks:List Nat):AV→AV
 | .agg cs => .agg (cs.map (rnF ks))
 | v=>rnF ks v
def rn (ks:List Nat):AV→AV
 | .tup vs => .tup (vs.map (rnC ks))
 | .fn g cap => .fn g (cap.map (rnF ks))
 | v=>rnC ks v
def X1i (ks:List Nat):Row→Row
 | .box t cs => .box t (cs.map (rn ks))
 | .lits t cs => .lits t (cs.map (rn ks))
 | .vec t es l _ => .vec t es l false
 | .nest t ll _ => .nest t ll false
 | .mapN t kv h => .mapN t kv h
 | .mapS t k kv pend => .mapS t k kv pend
 | .nestD t ll d => .nestD t ll d
 | .vecU l => .vecU l
 | .dead => .dead
section
variable {H:Array Obj} {μ μ':Nat→Option FP} {ks:List Nat}
theorem X5o (hs:∀ (i k:Nat),ks[i]? = some k→μ' i=μ k) {c:AV} {v:Value} (h:Rep H μ c v):Rep H μ' (rnF ks c) v:=by
 cases h with
 | any v=>exact .any v
 | b x=>exact .b x
 | i k n=>exact .i k n
 | f k x bits h e=>exact .f k x bits h e
 | nils=>exact .nils
 | slE a c=>exact .slE a c
 | sl l es bl off c val h h1 h2 hc=>exact .sl l es bl off c val h h1 h2 hc
 | ref cs off bl base val h h2=>exact .ref cs off bl base val h h2
 | own r p h =>
  simp only [rnF]
  split
  ·rename_i i hi;exact .own i p (by rw [hs i r (XF hi)];exact h)
  ·exact .any _
 | ptr r idx off p h =>
  simp only [rnF]
  split
  ·rename_i i hi;exact .ptr i idx off p (by rw [hs i r (XF hi)];exact h)
  ·exact .any _
 | inn r j p ib h hb =>
  simp only [rnF]
  split
  ·rename_i i hi;exact .inn i j p ib (by rw [hs i r (XF hi)];exact h) hb
  ·exact .any _
 | ipt r j k p b n c h hb =>
  simp only [rnF]
  split
  ·rename_i i hi;exact .ipt i j k p b n c (by rw [hs i r (XF hi)];exact h) hb
  ·exact .any _
 | mp r p h hz =>
  simp only [rnF]
  split
  ·rename_i i hi;exact .mp i p (by rw [hs i r (XF hi)];exact h) hz
  ·exact .any _
 | bx r n c p h hz =>
  simp only [rnF]
  split
  ·rename_i i hi;exact .bx i n c p (by rw [hs i r (XF hi)];exact h) hz
  ·exact .any _
 | agg=>exact .any _
 | tup=>exact .any _
 | fn=>exact .any _
theorem X7U (hs:∀ (i k:Nat),ks[i]? = some k→μ' i=μ k) {c:AV} {v:Value} (h:Rep H μ c v):Rep H μ' (rnC ks c) v:=by
 cases c with
 | agg cs =>
  cases h with | agg _ vs hz hh =>
  refine .agg _ vs (by simpa using hz) fun j c e => ?_
  rw [List.getElem?_map,Option.map_eq_some_iff] at e
  obtain ⟨c0,e0,rfl⟩:=e
  exact X5o hs (hh j c0 e0)
 | _=>exact X5o hs h
theorem X51 (hs:∀ (i k:Nat),ks[i]? = some k→μ' i=μ k) {c:AV} {v:Value} (h:Rep H μ c v):Rep H μ' (rn ks c) v:=by
 cases c with
 | tup cs =>
  cases h with | tup _ vs hz hh =>
  refine .tup _ vs (by simpa using hz) fun j c e => ?_
  rw [List.getElem?_map,Option.map_eq_some_iff] at e
  obtain ⟨c0,e0,rfl⟩:=e
  exact X7U hs (hh j c0 e0)
 | fn g cap =>
  cases h with | fn _ _ vs hz hh =>
  refine .fn g _ vs (by simpa using hz) fun j c e => ?_
  rw [List.getElem?_map,Option.map_eq_some_iff] at e
  obtain ⟨c0,e0,rfl⟩:=e
  exact X5o hs (hh j c0 e0)
 | _=>exact X7U hs h
theorem X7f (hs:∀ (i k:Nat),ks[i]? = some k→μ' i=μ k) {heap:Array Obj} {p:Option FP} {row:Row} (h:X6 H μ heap p row):X6 H μ' heap p (X1i ks row):=by
 cases row with
 | box t cs =>
  cases p with
  | none=>exact h.elim
  | some p =>
   obtain ⟨ez,e1,e2,arr,e3,e4,e5⟩:=h
   refine ⟨ez,by simpa [X1i] using e1,e2,arr,e3,by simpa [X1i] using e4,fun j c e => ?_⟩
   rw [List.getElem?_map,Option.map_eq_some_iff] at e
   obtain ⟨c0,e0,rfl⟩:=e
   exact X51 hs (e5 j c0 e0)
 | lits t cs =>
  cases p with
  | none=>exact h.elim
  | some p =>
   obtain ⟨ez,e1,e2,e2',e2'',arr,e3,e4,e5⟩:=h
   refine ⟨ez,e1,e2,by simpa [X1i] using e2',by simpa [X1i] using e2'',arr,e3,by simpa [X1i] using e4,fun j c e => ?_⟩
   rw [List.getElem?_map,Option.map_eq_some_iff] at e
   obtain ⟨c0,e0,rfl⟩:=e
   exact X51 hs (e5 j c0 e0)
 | vec t es l full =>
  cases p with
  | none=>exact h.elim
  | some p =>
   rcases h with ⟨h1,h2,_⟩ | ⟨ez,e1,e2,e3,e4,_,e6⟩
   ·exact .inl ⟨h1,h2,rfl⟩
   ·exact .inr ⟨ez,e1,e2,e3,e4,(fun h=>by cases h),e6⟩
 | nest t ll full =>
  cases p with
  | none=>exact h.elim
  | some p =>
   rcases h with h | ⟨ez,e1,e2,e3,_,e6⟩
   ·exact .inl h
   ·exact .inr ⟨ez,e1,e2,e3,(fun h=>by cases h),e6⟩
 | mapN=>cases p<;>exact h
 | mapS=>cases p<;>exact h
 | nestD=>cases p<;>exact h
 | vecU=>cases p<;>exact h
 | dead=>cases p<;>exact trivial
end
def X5p (np:Nat) (mask:List Bool) (ks:List Nat) (st:St):Option St :=
 match XW (Xc 0 np ++ ks),X11 st.rows (Xc 0 np ++ ks) with
 | true,some rs=>some ⟨(X13 mask st.tm).map (rn (Xc 0 np ++ ks)),rs.map (X1i (Xc 0 np ++ ks))⟩
 | _,_=>none
theorem Rel.forgetK {w0:Old0} {st st':St} {a:Act} {w:World} {np:Nat} {mask:List Bool} {ks:List Nat} (hn:w0.np≤np) (he:X5p np mask ks st=some st') (h:Rel w0 st a w):Rel w0 st' a w:=by
 obtain ⟨μ,h⟩:=h
 unfold Ab.X5p at he
 generalize hks:Xc 0 np ++ ks=qs at he
 split at he
 ·rename_i rs hnd hpick
  simp only [Option.some.injEq] at he;subst he
  obtain ⟨hpl,hpg⟩:=X1r hpick
  have hnd:=XM hnd
  let μ':Nat→Option FP:=fun i=>(qs[i]?).bind μ
  have hs:∀ i k,qs[i]? = some k→μ' i=μ k:=fun i k e=>by show (qs[i]?).bind μ=μ k;rw [e];rfl
  have hμ0:∀ i p,μ' i=some p→∃ k,qs[i]? = some k∧μ k=some p:=by
   intro i p e
   cases hk:qs[i]? with
   | none =>
    have e2:(qs[i]?).bind μ=some p:=e
    rw [hk] at e2;cases e2
   | some k=>exact ⟨k,rfl,by rw [← hs i k hk];exact e⟩
  have hlt:∀ i k,qs[i]? = some k→i < qs.length:=fun i k e=>by
   rcases Nat.lt_or_ge i qs.length with h | h
   ·exact h
   ·rw [List.getElem?_eq_none h] at e;cases e
  have hrow:∀ i row,(rs.map (X1i qs))[i]? = some row→∃ k row0,qs[i]? = some k∧st.rows[k]? = some row0∧row=X1i qs row0:=fun i row e=>by
   rw [List.getElem?_map,Option.map_eq_some_iff] at e
   obtain ⟨row0,e0,rfl⟩:=e
   have hil:i < qs.length:=by
    rw [← hpl]
    rcases Nat.lt_or_ge i rs.length with h | h
    ·exact h
    ·rw [List.getElem?_eq_none h] at e0;cases e0
   exact ⟨qs[i],row0,List.getElem?_eq_getElem hil,by rw [← hpg i _ (List.getElem?_eq_getElem hil)];exact e0,rfl⟩
  refine ⟨μ',h.defers,by simp [X24,h.size],fun t v e => ?_,⟨⟨h.mem.bel,fun i row e => ?_,fun i j p p' b e e' hb hb' => ?_,fun i p e => ?_,fun i p b e hb => ?_⟩,fun i hi => ?_,fun i e => ?_,fun r p e => ?_⟩⟩
  ·simp only [List.getElem?_map,Option.map_eq_some_iff] at e
   obtain ⟨v0,e0,rfl⟩:=e
   rcases X36 _ _ _ _ e0 with rfl | e1
   ·exact .any _
   ·exact X51 hs (h.tmps t v0 e1)
  ·obtain ⟨k,row0,e1,e2,rfl⟩:=hrow i row e
   rw [hs i k e1]
   exact X7f hs (h.mem.row k row0 e2)
  ·obtain ⟨k,g1,g2⟩:=hμ0 i p e
   obtain ⟨k',g3,g4⟩:=hμ0 j p' e'
   have:=h.mem.sep k k' p p' b g2 g4 hb hb'
   subst this
   have hil:=hlt i k g1
   have hjl:=hlt j k g3
   rw [List.getElem?_eq_getElem hil] at g1
   rw [List.getElem?_eq_getElem hjl] at g3
   exact X3a hnd hil hjl ((Option.some.inj g1).trans (Option.some.inj g3).symm)
  ·obtain ⟨k,g1,g2⟩:=hμ0 i p e
   exact h.mem.nodup k p g2
  ·obtain ⟨k,g1,g2⟩:=hμ0 i p e
   exact h.mem.own k p b g2 hb
  ·show (qs[i]?).bind μ=none
   simp only [List.length_map,hpl] at hi
   rw [List.getElem?_eq_none hi];rfl
  ·obtain ⟨k,row0,e1,e2,e3⟩:=hrow i _ e
   rw [hs i k e1]
   refine h.mem.dead k ?_
   cases row0<;>simp [X1i] at e3
   exact e2
  ·have hrn:=w0.pinLt r p e
   have:qs[r]? = some r:=by
    rw [← hks,List.getElem?_append_left (by rw [X1J];omega),X2C _ _ _ (by omega),Nat.zero_add]
   rw [hs r r this]
   exact h.mem.pin r p e
 ·cases he
theorem Lp.nil {P:Program} {N:Nat} {body:Code} {st st2 st':St} {e:Ex} {ps:List (NPos × Row)} (h:X1D ps st=some st2) (k:Lp P N body st2 e st'):Lp P N body st e st':=by
 obtain ⟨m,k⟩:=k
 exact ⟨m,fun w0 hp a w Q hr hQ=>k w0 hp a w Q (X16 h hr) hQ⟩
theorem Lp.pick {P:Program} {N:Nat} {body:Code} {st st2 st':St} {e:Ex} {mask:List Bool} {ks:List Nat} (h:X5p N mask ks st=some st2) (k:Lp P N body st2 e st'):Lp P N body st e st':=by
 obtain ⟨m,k⟩:=k
 exact ⟨m,fun w0 hp a w Q hr hQ=>k w0 hp a w Q (hr.forgetK hp h) hQ⟩
def X2g (P:Program) (E:Env) (body:Code) (st:St) (ans:List Ans) (ps:List (NPos × Row)) (mask:List Bool) (ks:List Nat):Option (Ex × St × List Prop) :=
 match evc P E body st ans with
 | some (e,st',[],C)=>match X1D ps st' with
  | some st''=>match X5p E.np mask ks st'' with
   | some st3=>some (e,st3,C)
   | none=>none
  | none=>none
 | _=>none
theorem X52 {P:Program} {E:Env} (hE:EOk P E) (hm:P.follows .mixedOrders=true) {body:Code} {st st2 st3 st':St} {ans:List Ans} {ps:List (NPos × Row)} {mask:List Bool} {ks:List Nat} {e:Ex} {C:List Prop}
  (h:X2g P E body st ans ps mask ks=some (.norm,st2,C)) (hC:All C) (hs:st2=st3) (k:Lp P E.np body st3 e st'):Lp P E.np body st e st':=by
 unfold X2g at h
 split at h
 ·rename_i e1 st1 C1 hev
  split at h
  ·rename_i st4 h4
   split at h
   ·rename_i st5 h5
    simp only [Option.some.injEq,Prod.mk.injEq] at h
    obtain ⟨rfl,rfl,rfl⟩:=h
    subst hs
    obtain ⟨m,k⟩:=k
    refine ⟨m + 1,fun w0 hp a w Q hr hQ => ?_⟩
    rw [rounds_succ]
    exact X38 hE hm body hev hC w0 hp a w _ hr fun a' w' hr'=>k w0 hp a' w' Q ((X16 h4 hr').forgetK hp h5) hQ
   ·cases h
  ·cases h
 ·cases h
theorem X93 {P:Program} {E:Env} (hE:EOk P E) (hm:P.follows .mixedOrders=true) {body:Code} {st st2 st3:St} {ans:List Ans} {ps:List (NPos × Row)} {mask:List Bool} {ks:List Nat} {e:Ex} {C:List Prop}
  (h:X2g P E body st ans ps mask ks=some (e,st2,C)) (hC:All C) (he:e ≠ .norm) (hs:st2=st3):Lp P E.np body st e st3:=by
 unfold X2g at h
 split at h
 ·rename_i e1 st1 C1 hev
  split at h
  ·rename_i st4 h4
   split at h
   ·rename_i st5 h5
    simp only [Option.some.injEq,Prod.mk.injEq] at h
    obtain ⟨rfl,rfl,rfl⟩:=h
    subst hs
    refine ⟨1,fun w0 hp a w Q hr hQ => ?_⟩
    rw [rounds_succ]
    refine X38 hE hm body hev hC w0 hp a w _ hr fun a' w' hr' => ?_
    have:=hQ a' w' ((X16 h4 hr').forgetK hp h5)
    cases e1 with
    | norm=>exact absurd rfl he
    | exit id=>exact this
    | ret=>exact this
   ·cases h
  ·cases h
 ·cases h
end Go.Ab

set_option linter.unusedVariables false
set_option linter.unusedSimpArgs false
namespace Go.Ab
open Go.RowKit
def X8v (P:Program) (E:Env) (fn:Func) (c:Code) (rows:List Row) (args:List AV) (ans:List Ans) (ps:List (NPos × Row)):Option (AV × List Row × List Prop) :=
 match Nat.beq rows.length E.np with
 | false=>none
 | true=>match evc P E c ⟨args ++ List.replicate (fn.ntmps - args.length) .any,rows⟩ ans with
  | some (.exit _,_,_,_)=>none
  | some (_,st0,ans',C)=>match X1D ps st0 with
   | none=>none
   | some st=>match X4b E.T st fn.results.toList,ans' with
   | some r,[.keep ks]=>match X11 st.rows (Xc 0 rows.length ++ ks) with
    | some rs=>match XW (Xc 0 rows.length ++ ks) && (rs.map (XS (Xc 0 rows.length ++ ks))).all (XA (Xc 0 rows.length ++ ks).length) && X1a (Xc 0 rows.length ++ ks).length (ren (Xc 0 rows.length ++ ks) r) with
     | true=>some (ren (Xc 0 rows.length ++ ks) r,rs.map (XS (Xc 0 rows.length ++ ks)),C)
     | false=>none
    | none=>none
   | _,_=>none
  | none=>none
theorem X63 {P:Program} {E:Env} (hE:EOk P E) (hm:P.follows .mixedOrders=true) {f:FuncId} {fn:Func} {c:Code} {rows rows':List Row} {args:List AV} {ans:List Ans} {ps:List (NPos × Row)} {r:AV} {C:List Prop}
  (hf : P.funcs[f]? = some fn) (hb : fn.body = some c) (hn : (fn.name == "runtime.NumGoroutine") = false) (h : X8v P E fn c rows args ans ps = some (r, rows', C)) (hC : All C) : Xz P f rows args r rows' := by
 refine ⟨⟨fn,hf,by rw [hb];rfl,hn⟩,fun w0 μ0 w vs hmem hp => ?_⟩
 unfold X8v at h
 split at h
 ·cases h
 rename_i hnp
 rw [Nat.beq_eq] at hnp
 have hlt:∀ q p,μ0 q=some p→q < rows.length:=fun q p e=>by
  rcases Nat.lt_or_ge q rows.length with h | h
  ·exact h
  ·rw [hmem.out q h] at e;cases e
 let w1:Old0:={ w0 with pin:=μ0,np:=rows.length,pinLt:=hlt }
 have fin:∀ (e:Ex) (st0 st:St) (ans':List Ans) (C':List Prop),(∀ id,e ≠ .exit id)→evc P E c ⟨args ++ List.replicate (fn.ntmps - args.length) .any,rows⟩ ans=some (e,st0,ans',C')→X1D ps st0=some st →
   (match X4b E.T st fn.results.toList,ans' with
   | some r,[.keep ks]=>match X11 st.rows (Xc 0 rows.length ++ ks) with
    | some rs=>match XW (Xc 0 rows.length ++ ks) && (rs.map (XS (Xc 0 rows.length ++ ks))).all (XA (Xc 0 rows.length ++ ks).length) && X1a (Xc 0 rows.length ++ ks).length (ren (Xc 0 rows.length ++ ks) r) with
     | true=>some (ren (Xc 0 rows.length ++ ks) r,rs.map (XS (Xc 0 rows.length ++ ks)),C')
     | false=>none
    | none=>none
   | _,_=>none)=some (r,rows',C)→Calls P f vs w fun e w' => ∃ v μ',e = .returned v∧Sub μ0 μ'∧Mem w0 μ' rows' w'∧Rep w0.heap μ' r v:=by
  intro e st0 st ans' C' hex hev hps h
  split at h
  ·rename_i r0 ks1 hres
   generalize hks:Xc 0 rows.length ++ ks1=ks at h
   split at h
   ·rename_i rs hpick
    split at h
    ·rename_i hok
     simp only [Bool.and_eq_true] at hok
     simp only [Option.some.injEq,Prod.mk.injEq] at h
     obtain ⟨rfl,rfl,rfl⟩:=h
     obtain ⟨hpl,hpg⟩:=X1r hpick
     have hnd:=XM hok.1.1
     have hokr:=hok.1.2
     rw [List.all_eq_true] at hokr
     have hEv:=X38 hE hm c hev hC
     have hkn:∀ i,i < rows.length→ks[i]? = some i:=fun i hi=>by
      rw [← hks,List.getElem?_append_left (by rw [X1J];exact hi),X2C _ _ _ hi,Nat.zero_add]
     refine calls_of_wp hf hb (hEv w1 (Nat.le_of_eq hnp) _ w _ ⟨μ0,rfl,?_,?_,⟨⟨⟨hmem.bel.os,hmem.bel.tape,hmem.bel.output,hmem.bel.size,hmem.bel.block,hmem.bel.drawn⟩,hmem.row,hmem.sep,hmem.nodup,hmem.own⟩,hmem.out,hmem.dead,Sub.refl _⟩⟩ fun a' w' hr' => ?_)
     ·simp [hp.1]
     ·intro t v e
      simp only at e ⊢
      rw [Array.getD_eq_getD_getElem?]
      by_cases ht:t < args.length
      ·rw [List.getElem?_append_left ht] at e
       rw [Array.getElem?_append_left (by rw [hp.1];exact ht),← Array.getD_eq_getD_getElem?]
       exact hp.2 t v e
      ·rw [List.getElem?_append_right (by omega),List.getElem?_replicate] at e
       split at e
       ·cases e;exact .any _
       ·cases e
     ·obtain ⟨μ,hr'⟩:=X16 hps hr'
      obtain ⟨x,hx1,hx2⟩:=X4n hE.T hr' hres
      let μ':Nat→Option FP:=fun i=>(ks[i]?).bind μ
      have hμ:∀ i k,ks[i]? = some k→μ' i=μ k:=fun i k e=>by show (ks[i]?).bind μ=μ k;rw [e];rfl
      have hμ0:∀ i p,μ' i=some p→∃ k,ks[i]? = some k∧μ k=some p:=by
       intro i p e
       cases hk:ks[i]? with
       | none =>
        have e2:(ks[i]?).bind μ=some p:=e
        rw [hk] at e2;cases e2
       | some k=>exact ⟨k,rfl,by rw [← hμ i k hk];exact e⟩
      have hsub:Sub μ0 μ':=fun q p e=>by
       have hq:q < rows.length:=w1.pinLt q p e
       rw [hμ q q (hkn q hq)]
       exact hr'.mem.pin q p e
      have hbel:=hr'.mem.bel
      have hpost:a'.defers=[]∧∃ v,(results fn a'.tmps).run P w' = .ok v w'∧∃ v' μ',Ending.returned v = .returned v'∧Sub μ0 μ'∧Mem w0 μ' (rs.map (XS ks)) w'∧Rep w0.heap μ' (ren ks r0) v':=by
       refine ⟨hr'.defers,x,hx1,x,μ',rfl,hsub,⟨⟨⟨hbel.os,hbel.tape,hbel.output,hbel.size,hbel.block,hbel.drawn⟩,fun i row hi => ?_,fun i j p p' b h5 h6 h7 h8 => ?_,fun i p h3 => ?_,fun i p b h3 h4 => ?_⟩,fun i hi => ?_,fun i hi => ?_,hmem.pin.trans hsub⟩,Xa9 hμ hok.2 hx2⟩
       ·rw [List.getElem?_map,Option.map_eq_some_iff] at hi
        obtain ⟨row0,hi0,rfl⟩:=hi
        have hil:i < ks.length:=by
         rw [← hpl]
         rcases Nat.lt_or_ge i rs.length with h | h
         ·exact h
         ·rw [List.getElem?_eq_none h] at hi0;cases hi0
        have hi1:=hi0
        rw [hpg i _ (List.getElem?_eq_getElem hil)] at hi1
        rw [hμ i _ (List.getElem?_eq_getElem hil)]
        exact X92 hμ (hokr _ (List.mem_map.2 ⟨row0,List.mem_of_getElem? hi0,rfl⟩)) (hr'.mem.row _ _ hi1)
       ·obtain ⟨k,g1,g2⟩:=hμ0 i p h5
        obtain ⟨k',g3,g4⟩:=hμ0 j p' h6
        have:=hr'.mem.sep k k' p p' b g2 g4 h7 h8
        subst this
        have hil:i < ks.length:=by
         rcases Nat.lt_or_ge i ks.length with h | h
         ·exact h
         ·rw [List.getElem?_eq_none h] at g1;cases g1
        have hjl:j < ks.length:=by
         rcases Nat.lt_or_ge j ks.length with h | h
         ·exact h
         ·rw [List.getElem?_eq_none h] at g3;cases g3
        rw [List.getElem?_eq_getElem hil] at g1
        rw [List.getElem?_eq_getElem hjl] at g3
        exact X3a hnd hil hjl ((Option.some.inj g1).trans (Option.some.inj g3).symm)
       ·obtain ⟨k,g1,g2⟩:=hμ0 i p h3
        exact hr'.mem.nodup k p g2
       ·obtain ⟨k,g1,g2⟩:=hμ0 i p h3
        exact hr'.mem.own k p b g2 h4
       ·show (ks[i]?).bind μ=none
        rw [List.length_map,hpl] at hi
        rw [List.getElem?_eq_none hi];rfl
       ·rw [List.getElem?_map,Option.map_eq_some_iff] at hi
        obtain ⟨row0,hi0,h0⟩:=hi
        have:=hokr _ (List.mem_map.2 ⟨row0,List.mem_of_getElem? hi0,rfl⟩)
        rw [h0] at this
        simp [XA] at this
      cases e with
      | norm=>exact hpost
      | ret=>exact hpost
      | exit id=>exact absurd rfl (hex id)
    ·cases h
   ·cases h
  ·cases h
 split at h
 ·cases h
 ·rename_i e st0 ans' C' hne hev
  split at h
  ·cases h
  ·rename_i st hps
   exact fin e st0 st ans' C' (fun id he=>hne id he) hev hps h
 ·cases h
theorem Xz.fn {P:Program} {g:FuncId} {args:List AV} {r:AV} {new:List Row} (h:Xz P g [] args r new) (hok:X22 new=true):Fn P g args r new:=by
 refine ⟨h.1,fun w vs hp => ?_⟩
 have hmem:Mem (Old0.of w) (fun _=>none) [] w :=
  ⟨⟨⟨rfl,rfl,rfl,Nat.le_refl _,fun _ _ _=>rfl,Nat.le_refl _⟩,(fun i row e=>by simp at e),(fun _ _ _ _ _ e=>by cases e),(fun _ _ e=>by cases e),(fun _ _ _ e=>by cases e)⟩,fun _ _=>rfl,(fun i e=>by simp at e),(fun _ _ e=>by cases e)⟩
 refine (h.2 (Old0.of w) _ w vs hmem hp).mono fun e w' ⟨v,μ',he,_,hm,hr⟩=>⟨v,μ',he,hm.bel.of,⟨fun i e => ?_,fun q hq => ?_,fun i row e => ?_,fun q q' p p' b _ _ _ _ e e' hb hb'=>hm.sep q q' p p' b e e' hb hb',fun q p _ _ e=>hm.nodup q p e,fun q p b _ _ e hb => ?_⟩,hr⟩
 ·simp only [X22,List.all_eq_true] at hok
  exact absurd (hok _ (List.mem_of_getElem? e)) (by simp)
 ·exact hm.out q (by omega)
 ·rw [Nat.zero_add];exact hm.row i row e
 ·obtain ⟨g5,g6⟩:=hm.own q p b e hb
  exact ⟨g5.elim (fun h=>h.elim) fun h=>h,g6⟩
def subA:Option Nat→AV→AV
 | some n, .ref cs off => .ref ((cs.drop off).take n) 0
 | _,v=>v
def subL:List (Option Nat)→List AV→List AV
 | n :: ns,v :: vs=>subA n v :: subL ns vs
 | _,vs=>vs
theorem X9x {H:Array Obj} {μ:Nat→Option FP} {n:Option Nat} {v:AV} {x:Value} (h:Rep H μ v x):Rep H μ (subA n v) x:=by
 cases n with
 | none=>cases v<;>exact h
 | some n =>
  cases h with
  | ref cs off bl base val h1 h2 =>
   have:=Rep.ref (μ:=μ) ((cs.drop off).take n) 0 bl (base + off) (fun j=>val (off + j)) (fun j c e=>by
    rw [getElem?_part] at e
    split at e
    ·rw [Nat.add_assoc];exact h1 _ _ e
    ·cases e) (fun j c e=>by
    rw [getElem?_part] at e
    split at e
    ·exact h2 _ _ e
    ·cases e)
   exact this
  | _=>first | exact .any _ | exact .b _ | exact .i _ _ | exact .f _ _ _ ‹_› ‹_› | exact .agg _ _ ‹_› ‹_› | exact .tup _ _ ‹_› ‹_› | exact .nils | exact .slE _ _ | exact .sl _ _ _ _ _ _ ‹_› ‹_› ‹_› ‹_› | exact .own _ _ ‹_› | exact .inn _ _ _ _ ‹_› ‹_› | exact .ipt _ _ _ _ _ _ _ ‹_› ‹_› | exact .ptr _ _ _ _ ‹_› | exact .mp _ _ ‹_› ‹_› | exact .bx _ _ _ _ ‹_› ‹_› | exact .fn _ _ _ ‹_› ‹_›
theorem X7g:∀ {ns:List (Option Nat)} {vs:List AV},(subL ns vs).length=vs.length∧∀ (j:Nat) (c:AV),(subL ns vs)[j]? = some c→∃ n u,vs[j]? = some u∧c=subA n u
 | [],vs=>⟨by cases vs<;>rfl,fun j c e=>⟨none,c,by cases vs<;>exact e,by cases c<;>rfl⟩⟩
 | n :: ns,[]=>⟨rfl,fun j c e=>by simp [subL] at e⟩
 | n :: ns,v :: vs=>by
  obtain ⟨h1,h2⟩:=X7g (ns:=ns) (vs:=vs)
  refine ⟨by simp [subL,h1],fun j c e => ?_⟩
  cases j with
  | zero=>simp [subL] at e;exact ⟨n,v,rfl,e.symm⟩
  | succ j=>simp [subL] at e;simpa using h2 j c e
theorem X7V {H:Array Obj} {μ:Nat→Option FP} {ns:List (Option Nat)} {args:List AV} {vs:Array Value} (h:PW H μ args vs):PW H μ (subL ns args) vs:=by
 obtain ⟨h1,h2⟩:=X7g (ns:=ns) (vs:=args)
 refine ⟨by rw [h.1,h1],fun j c e => ?_⟩
 obtain ⟨n,u,e1,rfl⟩:=h2 j c e
 exact X9x (h.2 j u e1)
theorem Fn.sub {P:Program} {g:FuncId} {args:List AV} {r:AV} {new:List Row} (ns:List (Option Nat)) (h:Fn P g (subL ns args) r new):Fn P g args r new :=
 ⟨h.1,fun w vs hp=>h.2 w vs (X7V hp)⟩
theorem Xz.sub {P:Program} {g:FuncId} {args:List AV} {r:AV} {R R':List Row} (ns:List (Option Nat)) (h:Xz P g R (subL ns args) r R'):Xz P g R args r R' :=
 ⟨h.1,fun w0 μ w vs hm hp=>h.2 w0 μ w vs hm (X7V hp)⟩
theorem X7W {α β:Type} {l:List α} {f:α→β}:((l.map f).length:Int)=(l.length:Int):=by simp
theorem nest_getD {α:Type} [Inhabited α] {c:α→List AV} {l:List (List α)} {j:Nat}:((l.map fun l=>l.map c).getD j [])=(l.getD j default).map c:=by
 rw [List.getD_eq_getElem?_getD,List.getD_eq_getElem?_getD,List.getElem?_map]
 cases l[j]? <;> rfl
theorem X17 {α:Type} [Inhabited α] {c:α→List AV} {l:List (List α)} {j k:Nat} (h:k < (l.getD j default).length):((l.map fun l=>l.map c).getD j [])[k]? = some (c ((l.getD j default).getD k default)):=by
 rw [nest_getD];exact X3m h
theorem X18 {α:Type} [Inhabited α] {c:α→List AV} {l:List (List α)} {j:Nat} {i:Int} (h0:0≤i) (h:i < (l.getD j default).length):0≤i∧i.toNat < ((l.map fun l=>l.map c).getD j []).length:=by
 rw [nest_getD];exact X4Y h0 h
end Go.Ab

set_option linter.unusedVariables false
set_option linter.unusedSimpArgs false
namespace Go.Ab
open Go.RowKit
theorem Xs.at2 {n:Nat} {ts:List (List Int)} {i k:Int} (h:Xs n ts) (h0:0≤i) (hi:i < (ts.length:Int)) (k0:0≤k) (hk:k < 3∨k < ((ts.getD i.toNat default).length:Int)) :
  (ts.getD i.toNat default).length=3∧0≤(ts.getD i.toNat default).getD k.toNat default∧(ts.getD i.toNat default).getD k.toNat default < (n:Int):=by
 have hn:i.toNat < ts.length:=by omega
 have hm:(ts.getD i.toNat default)∈ts:=by rw [List.getD_eq_getElem?_getD,List.getElem?_eq_getElem hn];exact List.getElem_mem hn
 obtain ⟨h1,h2⟩:=h _ hm
 generalize ts.getD i.toNat default=t at *
 have hk':k.toNat < t.length:=by omega
 refine ⟨h1,?_⟩
 rw [List.getD_eq_getElem?_getD,List.getElem?_eq_getElem hk']
 exact h2 _ (List.getElem_mem hk')
theorem Okt.at {n:Nat} {t:List Int} (h:t.length=3∧∀ x∈t,0≤x∧x < (n:Int)) :
  t.length=3∧(0≤t.getD 0 default∧t.getD 0 default < (n:Int))∧(0≤t.getD 1 default∧t.getD 1 default < (n:Int))∧(0≤t.getD 2 default∧t.getD 2 default < (n:Int)):=by
 obtain ⟨h1,h2⟩:=h
 match t,h1 with
 | [a,b,c],_=>exact ⟨rfl,h2 a (by simp),h2 b (by simp),h2 c (by simp)⟩
end Go.Ab

set_option linter.unusedVariables false
set_option linter.unusedSimpArgs false
namespace Go.Ab
def OkIx {α:Type} (n:Nat) (f:α→Int) (l:List α):Prop:=∀ x∈l,0≤f x∧f x < (n:Int)
theorem OkIx.at {α:Type} [Inhabited α] {n:Nat} {f:α→Int} {l:List α} (h:OkIx n f l) {i:Int} (h0:0≤i) (hi:i < (l.length:Int)):0≤f (l.getD i.toNat default)∧f (l.getD i.toNat default) < (n:Int):=by
 have hn:i.toNat < l.length:=by omega
 rw [List.getD_eq_getElem?_getD,List.getElem?_eq_getElem hn]
 exact h _ (List.getElem_mem hn)
theorem X8w {α:Type} [Inhabited α] (l:List α):((List.range l.length).map fun (j:Nat)=>l.getD j default)=l:=by
 apply List.ext_getElem
 ·simp
 ·intro i h1 h2
  simp only [List.getElem_map,List.getElem_range]
  rw [List.getD_eq_getElem?_getD,List.getElem?_eq_getElem h2];rfl
theorem X4q {α:Type} [Inhabited α] (l:List α):((List.range l.length).map fun (j:Nat)=>l[j]?.getD default)=l:=by
 have:=X8w l
 simpa [List.getD_eq_getElem?_getD] using this
end Go.Ab

namespace Go.Ab
def Scr (_:List Ans) (C:List Prop):Prop:=All C
section
variable {P:Program} {a:List Ans} {C:List Prop}
theorem sN:Scr [] []:=trivial
theorem sK (ks:List Nat) (s:Scr a C):Scr (.keep ks :: a) C:=s
theorem sA (x:Ans) (s:Scr a C):Scr (x :: a) C:=s
theorem sC {p:Prop} (h:p) (s:Scr a C):Scr a (p :: C):=⟨h,s⟩
theorem sB {x b:Bool} (h:x=b) (s:Scr a C):Scr (.bo b :: a) ((x=b) :: C):=⟨h,s⟩
theorem sB' {x b:Bool} (h:x=b) (s:Scr a C):Scr (.bo (!b) :: a) (((!x)=!b) :: C):=⟨congrArg not h,s⟩
theorem sM {x n:Int} (h:x=n) (s:Scr a C):Scr (.num n :: a) ((x=n) :: C):=⟨h,s⟩
theorem sW (k:IntKind) (e:Int) (s:Scr a C):Scr (.num (k.wrap e) :: a) ((k.wrap e=k.wrap e) :: C):=⟨rfl,s⟩
theorem sI (e:Int) (h1:-9223372036854775808≤e) (h2:e≤9223372036854775807) (s:Scr a C):Scr (.num e :: a) ((IntKind.i64.wrap e=e) :: C):=⟨XO h1 h2,s⟩
theorem sQ (e:Int) (s:Scr a C):Scr (.num e :: a) ((e=e) :: C):=⟨rfl,s⟩
theorem sE {l:List (List AV)} {k:Nat} {cs:List AV} (h:l[k]? = some cs) (s:Scr a C):Scr (.el cs :: a) ((l[k]? = some cs) :: C):=⟨h,s⟩
theorem sG {α:Type} [Inhabited α] (c:α→List AV) (l:List α) (i:Int) (h0:0≤i) (h:i < l.length) (s:Scr a C):Scr (.el (c (l.getD i.toNat default)) :: a) ((0≤i∧(l.map c)[i.toNat]? = some (c (l.getD i.toNat default))) :: C):=⟨XaA h0 h,s⟩
theorem sV {α:Type} [Inhabited α] (c:α→List AV) (l:List α) (k:Nat) (h:k < l.length) (s:Scr a C):Scr (.el (c (l.getD k default)) :: a) (((l.map c)[k]? = some (c (l.getD k default))) :: C):=⟨X3m h,s⟩
theorem sX {α:Type} (c:α→List AV) (l:List α) (i:Int) (h0:0≤i) (h:i < l.length) (s:Scr a C):Scr a ((0≤i∧i.toNat < (l.map c).length) :: C):=⟨X4Y h0 h,s⟩
theorem sZ {α:Type} (c:α→List AV) (l:List α) (s:Scr a C):Scr (.num (l.length:Int) :: a) ((((l.map c).length:Int)=(l.length:Int)) :: C):=⟨XaB,s⟩
theorem sF {g:FuncId} {args:List AV} {r:AV} {rows:List Row} (h:Fn P g args r rows) (s:Scr a C):Scr (.call r rows :: a) (Fn P g args r rows :: C):=⟨h,s⟩
theorem sS {g:FuncId} {R R':List Row} {args:List AV} {r:AV} (h:Xz P g R args r R') (s:Scr a C):Scr (.calls r R' :: a) (Xz P g R args r R' :: C):=⟨h,s⟩
theorem sL (mask:List Bool) (n:Nat) {N:Nat} {body:Code} {st st':St} {e:Ex} (h:Lp P N body st e st') (s:Scr a C):Scr (.loop mask n e st' :: a) (Lp P N body st e st' :: C):=⟨h,s⟩
end
theorem X8x {α:Type} {c:α→List AV} {l:List α} {k:Nat} (h:k < l.length):k < (l.map c).length:=by simpa using h
theorem X7h {α:Type} {c:α→List AV} {l:List (List α)} {k:Nat} (h:k < l.length):k < (l.map fun l=>l.map c).length:=by simpa using h
theorem X7i {α:Type} {c:α→List AV} {l:List (List α)} {i:Int} (h0:0≤i) (h:i.toNat < l.length):0≤i∧i.toNat < (l.map fun l=>l.map c).length:=⟨h0,by simpa using h⟩
theorem Xl {P:Program} {N:Nat} {body:Code} {st:St} {α:Type} (f:α→Ex × St) {x y:α} (h:Lp P N body st (f x).1 (f x).2) (e:x=y):Lp P N body st (f y).1 (f y).2:=e ▸ h
theorem fnS {P:Program} {E:Env} (hE:EOk P E) (hm:P.follows .mixedOrders=true) {f:FuncId} {fn:Func} {c:Code} {rows':List Row} {args:List AV} {ans:List Ans} (ps:List (NPos × Row)) (r:AV) (R:List Row) {C:List Prop}
  (hf : P.funcs[f]? = some fn) (s : Scr ans C) (hb : fn.body = some c) (hn : (fn.name == "runtime.NumGoroutine") = false) (h : X8v P E fn c [] args ans ps = some (r, R, C)) (hok : X22 R = true) {r' : AV} (hr : r = r') (hR : R = rows') : Fn P f args r' rows' := by
 subst hr;subst hR;exact Xz.fn (X63 hE hm hf hb hn h s) hok
theorem X2D {P:Program} {E:Env} (hE:EOk P E) (hm:P.follows .mixedOrders=true) {body:Code} {st st3 st':St} {ans:List Ans} (ps:List (NPos × Row)) (mask:List Bool) (ks:List Nat) {e:Ex} {C:List Prop} (st2:St)
  (s:Scr ans C) (h:X2g P E body st ans ps mask ks=some (.norm,st2,C)) (hs:st2=st3) (k:Lp P E.np body st3 e st'):Lp P E.np body st e st':=X52 hE hm h s hs k
theorem Xo {P:Program} {E:Env} (hE:EOk P E) (hm:P.follows .mixedOrders=true) {body:Code} {st st3 st':St} {ans:List Ans} (ps:List (NPos × Row)) (mask:List Bool) (ks:List Nat) {e:Ex} {C:List Prop}
  (k:Lp P E.np body st3 e st') (s:Scr ans C) (h:X2g P E body st ans ps mask ks=some (.norm,st3,C)):Lp P E.np body st e st':=X52 hE hm h s rfl k
theorem outR {P:Program} {E:Env} (hE:EOk P E) (hm:P.follows .mixedOrders=true) {body:Code} {st st3:St} {ans:List Ans} (ps:List (NPos × Row)) (mask:List Bool) (ks:List Nat) {e:Ex} {C:List Prop}
  (s:Scr ans C) (h:X2g P E body st ans ps mask ks=some (e,st3,C)) (he:e ≠ .norm):Lp P E.np body st e st3:=X93 hE hm h s he rfl
end Go.Ab

set_option linter.unusedVariables false
set_option linter.unusedSimpArgs false
namespace Go.Ab
theorem X94 {β:Type} {f:Int→Bool} {g:Int→β} {n:Int} {lo:Nat→Int→List β→List β}
  (h:∀ k i r,lo (k + 1) i r=cond (decide (i < n)) (cond (f i) (lo k (i + 1) r) (lo k (i + 1) (r ++ [g i]))) r) :
  ∀ (k:Nat) (i:Int) (r:List β),(n - i).toNat < k→lo k i r=r ++ (((List.range (n - i).toNat).filter fun (j:Nat) => !(f (i + j))).map fun (j:Nat)=>g (i + j)):=by
 intro k
 induction k with
 | zero=>intro i r hk;exact absurd hk (Nat.not_lt_zero _)
 | succ k ih =>
  intro i r hk
  rw [h]
  by_cases hi:i < n
  ·rw [decide_eq_true hi,cond_true]
   have e:(n - i).toNat=(n - (i + 1)).toNat + 1:=by omega
   rw [ih (i + 1) r (by omega),ih (i + 1) (r ++ [g i]) (by omega),e,List.range_succ_eq_map]
   have key:∀ l:List Nat,((l.map Nat.succ).filter fun (j:Nat) => !(f (i + j))).map (fun (j:Nat)=>g (i + j))=(l.filter fun (j:Nat) => !(f (i + 1 + j))).map (fun (j:Nat)=>g (i + 1 + j)):=by
    intro l
    induction l with
    | nil=>rfl
    | cons a l ih =>
     have ea:i + ((Nat.succ a:Nat):Int)=i + 1 + (a:Int):=by push_cast;omega
     simp only [List.map_cons,List.filter_cons,ea]
     split
     ·simp only [List.map_cons,ih,ea]
     ·exact ih
   simp only [List.filter_cons,Int.natCast_zero,Int.add_zero]
   cases hf:f i
   ·simp [key]
   ·simp [key]
  ·rw [decide_eq_false hi,cond_false]
   have:(n - i).toNat=0:=by omega
   rw [this];simp
end Go.Ab

set_option linter.unusedVariables false
set_option linter.unusedSimpArgs false
namespace Go.Ab
def mhas {α β:Type} [DecidableEq α] (l:List (α × β)) (k:α):Bool:=l.any fun x=>decide (x.1=k)
def midx {α β:Type} [DecidableEq α] (l:List (α × β)) (k:α):Nat:=l.findIdx fun x=>decide (x.1=k)
def mput {α β:Type} [Inhabited α] (l:List (α × List β)) (j:Nat) (y:List β):List (α × List β):=l.set j ((l.getD j default).1,y)
section
variable {α β:Type} {ck:α→Int × Int} {cv:β→List AV} {l:List (α × List β)} {k:α}
end
theorem XaT {x:Int} (h:0≤x):0≤Int.tmod x 3∧Int.tmod x 3 < 3:=⟨Int.tmod_nonneg 3 h,Int.tmod_lt_of_pos x (by omega)⟩
end Go.Ab

set_option linter.unusedVariables false
set_option linter.unusedSimpArgs false
namespace Go.Ab
open Go.RowKit
structure Gedge where
 e0:Int
 e1:Int
 deriving Inhabited,DecidableEq
def Gedge.cells (v:Gedge):List AV:=[.i .i64 v.e0, .i .i64 v.e1]
def Gedge.pr (v:Gedge):Int × Int:=(v.e0,v.e1)
theorem Gedge.inj:∀ x y:Gedge,x.pr=y.pr→x=y:=by
 rintro ⟨a,b⟩ ⟨c,d⟩ h
 simp only [Gedge.pr,Prod.mk.injEq] at h
 rw [h.1,h.2]
def OkE (n:Nat) (ts:List (List Int)):Prop :=
 n≤64∧ts.length≤128∧∀ t∈ts,∃ a b c,t=[a,b,c]∧(0≤a∧a < (n:Int))∧(0≤b∧b < (n:Int))∧(0≤c∧c < (n:Int))∧a≠b∧b≠c∧a≠c
theorem OkE.tris {n:Nat} {ts:List (List Int)} (h:OkE n ts):Xs n ts:=fun t ht=>by
 obtain ⟨a,b,c,rfl,h1,h2,h3,-⟩:=h.2.2 t ht
 refine ⟨rfl,fun x hx => ?_⟩
 simp only [List.mem_cons,List.not_mem_nil,or_false] at hx
 rcases hx with rfl | rfl | rfl<;>omega
theorem OkE.at {n:Nat} {ts:List (List Int)} {i k:Int} (h:OkE n ts) (h0:0≤i) (hi:i < (ts.length:Int)) (k0:0≤k) (k3:k < 3) :
  (ts.getD i.toNat default).length=3∧0≤Int.tmod (k + 1) 3∧Int.tmod (k + 1) 3 < 3 ∧
  (0≤(ts.getD i.toNat default).getD k.toNat default∧(ts.getD i.toNat default).getD k.toNat default < (n:Int)) ∧
  (0≤(ts.getD i.toNat default).getD (Int.tmod (k + 1) 3).toNat default∧(ts.getD i.toNat default).getD (Int.tmod (k + 1) 3).toNat default < (n:Int))∧(n:Int)≤64∧(ts.length:Int)≤128:=by
 have q1:=h.tris.at2 h0 hi k0 (.inl k3)
 have q2:=XaT (x:=k + 1) (by omega)
 have q3:=h.tris.at2 h0 hi q2.1 (.inl q2.2)
 have:=h.1;have:=h.2.1
 exact ⟨q1.1,q2.1,q2.2,q1.2,q3.2,by omega,by omega⟩
theorem ix2 {n a b:Int} (hn:n≤64) (a0:0≤a) (an:a < n) (b0:0≤b) (bn:b < n) :
  IntKind.wrap .i64 (IntKind.wrap .i64 (a * n) + b)=a * n + b∧0≤a * n + b∧a * n + b < n * n∧IntKind.wrap .i64 (n * n)=n * n∧n * n≤4096:=by
 have h1:0≤a * n:=Int.mul_nonneg a0 (by omega)
 have h2:a * n + n≤n * n:=by
  have:(a + 1) * n≤n * n:=Int.mul_le_mul_of_nonneg_right (by omega) (by omega)
  rw [Int.add_mul,Int.one_mul] at this;exact this
 have h3:n * n≤64 * 64:=Int.mul_le_mul hn hn (by omega) (by omega)
 have e1:IntKind.wrap .i64 (a * n)=a * n:=XO (by omega) (by omega)
 have e2:IntKind.wrap .i64 (n * n)=n * n:=XO (by omega) (by omega)
 refine ⟨by rw [e1];exact XO (by omega) (by omega),by omega,by omega,e2,by omega⟩
theorem ix2F {n a b:Int} (hn:n≤64) (a0:0≤a) (an:a < n) (b0:0≤b) (bn:b < n) :
  0≤IntKind.wrap .i64 (IntKind.wrap .i64 (a * n) + b)∧IntKind.wrap .i64 (IntKind.wrap .i64 (a * n) + b) < ((IntKind.wrap .i64 (n * n)).toNat:Int)∧(IntKind.wrap .i64 (IntKind.wrap .i64 (a * n) + b)).toNat < (IntKind.wrap .i64 (n * n)).toNat:=by
 obtain ⟨h1,h2,h3,h4,h5⟩:=ix2 hn a0 an b0 bn
 rw [h1,h4];omega
theorem ixN {n:Nat} (h:n≤64):0≤IntKind.wrap .i64 ((n:Int) * (n:Int))∧IntKind.wrap .i64 ((n:Int) * (n:Int))≤4096:=by
 have h1:0≤(n:Int) * (n:Int):=Int.mul_nonneg (by omega) (by omega)
 have h3:(n:Int) * (n:Int)≤64 * 64:=Int.mul_le_mul (by omega) (by omega) (by omega) (by omega)
 rw [XO (by omega) (by omega)];omega
theorem Xae {n a b c d:Int} (b0:0≤b) (bn:b < n) (d0:0≤d) (dn:d < n) (h:a * n + b=c * n + d):a=c∧b=d:=by
 have h1:(a * n + b) / n=a:=by rw [Int.add_comm,Int.add_mul_ediv_right _ _ (by omega),Int.ediv_eq_zero_of_lt b0 bn];omega
 have h2:(c * n + d) / n=c:=by rw [Int.add_comm,Int.add_mul_ediv_right _ _ (by omega),Int.ediv_eq_zero_of_lt d0 dn];omega
 rw [h] at h1
 have:a=c:=by rw [← h1,h2]
 subst this
 exact ⟨rfl,by omega⟩
def mkE (u v:Int):Gedge:=if u≤v then ⟨u,v⟩ else ⟨v,u⟩
def tE (t:List Int):List Gedge:=[mkE (t.getD 0 default) (t.getD 1 default),mkE (t.getD 1 default) (t.getD 2 default),mkE (t.getD 2 default) (t.getD 0 default)]
def tHas (t:List Int) (a b:Int):Bool:=(t.getD 0 default == a || (t.getD 1 default == a || t.getD 2 default == a)) && (t.getD 0 default == b || (t.getD 1 default == b || t.getD 2 default == b))
theorem XaG {u v a b:Int} (h:a < b):mkE u v=⟨a,b⟩↔(u=a∧v=b)∨(u=b∧v=a):=by
 unfold mkE
 split<;>simp only [Gedge.mk.injEq]<;>omega
theorem X7j {x y z:Int} (h1:x≠y) (h2:y≠z) (h3:x≠z) {a b:Int} (h:a < b):(⟨a,b⟩:Gedge)∈tE [x,y,z]↔tHas [x,y,z] a b=true:=by
 unfold tE tHas
 simp only [List.getD_cons_zero,List.getD_cons_succ,List.mem_cons,List.not_mem_nil,or_false,eq_comm (a:=(⟨a,b⟩:Gedge)),XaG h,Bool.and_eq_true,Bool.or_eq_true,beq_iff_eq]
 constructor
 ·rintro ((⟨rfl,rfl⟩ | ⟨rfl,rfl⟩) | (⟨rfl,rfl⟩ | ⟨rfl,rfl⟩) | (⟨rfl,rfl⟩ | ⟨rfl,rfl⟩))<;>simp
 ·rintro ⟨rfl | rfl | rfl,rfl | rfl | rfl⟩<;>first | omega | simp_all
theorem X9y {x y z:Int} (h1:x≠y) (h2:y≠z) (h3:x≠z):(tE [x,y,z]).Nodup:=by
 unfold tE mkE
 simp only [List.getD_cons_zero,List.getD_cons_succ,List.nodup_cons,List.mem_cons,List.not_mem_nil,or_false,not_or,not_false_iff,List.nodup_nil,and_true]
 refine ⟨⟨?_,?_⟩,?_⟩<;>(split<;>split<;>simp only [Gedge.mk.injEq]<;>omega)
def gl (l:List (Gedge × List Int)) (e:Gedge):List Int:=cond (mhas l e) ((l.getD (midx l e) default).2) []
theorem XN {x:Gedge × List Int} {l:List (Gedge × List Int)} {e:Gedge}:mhas (x :: l) e=(decide (x.1=e) || mhas l e):=rfl
theorem X5J {x:Gedge × List Int} {l:List (Gedge × List Int)} {e:Gedge}:midx (x :: l) e=cond (decide (x.1=e)) 0 (midx l e + 1):=by
 unfold midx;rw [List.findIdx_cons]
theorem X2h {x:Gedge × List Int} {l:List (Gedge × List Int)} {e:Gedge}:gl (x :: l) e=cond (decide (x.1=e)) x.2 (gl l e):=by
 unfold gl;rw [XN,X5J]
 cases decide (x.1=e)<;>simp
theorem X64 {x:Gedge × List Int} {l:List (Gedge × List Int)} {y:List Int}:mput (x :: l) 0 y=(x.1,y) :: l:=rfl
theorem X5q {x:Gedge × List Int} {l:List (Gedge × List Int)} {y:List Int} {j:Nat}:mput (x :: l) (j + 1) y=x :: mput l j y:=by simp [mput]
theorem X7X:∀ (l:List (Gedge × List Int)) (e:Gedge) (y:List Int) (e':Gedge),mhas l e=true→mhas (mput l (midx l e) y) e'=mhas l e'∧gl (mput l (midx l e) y) e'=if e'=e then y else gl l e'
 | [],e,y,e',h=>by simp [mhas] at h
 | x :: l,e,y,e',h=>by
  rw [XN] at h
  rw [X5J]
  cases hx:decide (x.1=e) with
  | true =>
   have hx':=of_decide_eq_true hx
   rw [cond_true,X64,XN,XN,X2h,X2h]
   refine ⟨rfl,?_⟩
   simp only
   by_cases h1:e'=e
   ·rw [if_pos h1,hx',decide_eq_true h1.symm];rfl
   ·rw [if_neg h1,hx',decide_eq_false fun h=>h1 h.symm];rfl
  | false =>
   rw [hx,Bool.false_or] at h
   obtain ⟨g1,g2⟩:=X7X l e y e' h
   rw [cond_false,X5q,XN,XN,X2h,X2h,g1,g2]
   refine ⟨rfl,?_⟩
   have hx':=of_decide_eq_false hx
   by_cases h1:e'=e
   ·rw [if_pos h1,if_pos h1,decide_eq_false fun h=>hx' (h.trans h1)];rfl
   ·rw [if_neg h1,if_neg h1]
theorem X7Y:∀ (l:List (Gedge × List Int)) (e:Gedge) (y:List Int) (e':Gedge),mhas l e=false→mhas (l ++ [(e,y)]) e'=(decide (e=e') || mhas l e')∧gl (l ++ [(e,y)]) e'=if e'=e then y else gl l e'
 | [],e,y,e',_=>by
  rw [List.nil_append,XN,X2h]
  refine ⟨rfl,?_⟩
  by_cases h1:e'=e
  ·rw [if_pos h1,decide_eq_true h1.symm];rfl
  ·rw [if_neg h1,decide_eq_false fun h=>h1 h.symm];rfl
 | x :: l,e,y,e',h=>by
  rw [XN,Bool.or_eq_false_iff] at h
  obtain ⟨g1,g2⟩:=X7Y l e y e' h.2
  have hx':=of_decide_eq_false h.1
  rw [List.cons_append,XN,X2h,g1,g2,XN,X2h]
  constructor
  ·cases decide (x.1=e')<;>cases decide (e=e')<;>rfl
  ·by_cases h1:e'=e
   ·rw [if_pos h1,if_pos h1,decide_eq_false fun h=>hx' (h.trans h1)];rfl
   ·rw [if_neg h1,if_neg h1]
def stE (s:List (Gedge × List Int) × List Gedge) (e:Gedge) (i:Int):List (Gedge × List Int) × List Gedge :=
 cond (mhas s.1 e) (cond (((s.1.getD (midx s.1 e) default).2.length:Int) == 0) (mput s.1 (midx s.1 e) ((s.1.getD (midx s.1 e) default).2 ++ [i]),s.2 ++ [e])
  (mput s.1 (midx s.1 e) ((s.1.getD (midx s.1 e) default).2 ++ [i]),s.2)) (s.1 ++ [(e,[i])],s.2 ++ [e])
structure EInv (s:List (Gedge × List Int) × List Gedge):Prop where
 has:∀ e,mhas s.1 e=true↔gl s.1 e≠[]
 mem:∀ e,e∈s.2↔gl s.1 e≠[]
 nd:s.2.Nodup
theorem EInv.nil:EInv ([],[]):=⟨fun e=>by simp [mhas,gl],fun e=>by simp [mhas,gl],List.nodup_nil⟩
theorem X7k {s:List (Gedge × List Int) × List Gedge} (h:EInv s) (e:Gedge) (i:Int):EInv (stE s e i)∧∀ e',gl (stE s e i).1 e'=if e'=e then gl s.1 e ++ [i] else gl s.1 e':=by
 unfold stE
 cases hh:mhas s.1 e with
 | true =>
  have hne:=(h.has e).1 hh
  have hgl:(s.1.getD (midx s.1 e) default).2=gl s.1 e:=by unfold gl;rw [hh];rfl
  have hz:(((s.1.getD (midx s.1 e) default).2.length:Int) == 0)=false:=by
   rw [hgl,beq_eq_false_iff_ne];intro hc;exact hne (List.length_eq_zero_iff.1 (by omega))
  rw [hz,cond_true,cond_false,hgl]
  have P:=fun e'=>X7X s.1 e (gl s.1 e ++ [i]) e' hh
  refine ⟨⟨fun e' => ?_,fun e' => ?_,h.nd⟩,fun e'=>(P e').2⟩
  ·rw [(P e').1,(P e').2,h.has]
   split
   ·rename_i h1;subst h1;simp [hne]
   ·rfl
  ·rw [(P e').2,h.mem]
   split
   ·rename_i h1;subst h1;simp [hne]
   ·rfl
 | false =>
  have hgl:gl s.1 e=[]:=by unfold gl;rw [hh];rfl
  rw [cond_false,hgl]
  have P:=fun e'=>X7Y s.1 e [i] e' hh
  refine ⟨⟨fun e' => ?_,fun e' => ?_,?_⟩,fun e'=>(P e').2⟩
  ·rw [(P e').1,(P e').2,Bool.or_eq_true,h.has,decide_eq_true_iff]
   split
   ·rename_i h1;subst h1;simp
   ·rename_i h1;simp only [eq_comm (a:=e),h1,false_or]
  ·rw [List.mem_append,(P e').2,h.mem,List.mem_singleton]
   split
   ·rename_i h1;subst h1;simp
   ·rename_i h1;simp only [h1,or_false]
  ·rw [List.nodup_append]
   refine ⟨h.nd,by simp,fun a ha b hb => ?_⟩
   simp only [List.mem_singleton] at hb
   subst hb
   intro hab;subst hab
   exact (h.mem a).1 ha hgl
def stT (s:List (Gedge × List Int) × List Gedge) (t:List Int) (i:Int):List (Gedge × List Int) × List Gedge :=
 stE (stE (stE s (mkE (t.getD 0 default) (t.getD 1 default)) i) (mkE (t.getD 1 default) (t.getD 2 default)) i) (mkE (t.getD 2 default) (t.getD 0 default)) i
theorem Xaf {s:List (Gedge × List Int) × List Gedge} (h:EInv s) {x y z:Int} (h1:x≠y) (h2:y≠z) (h3:x≠z) (i:Int) :
  EInv (stT s [x,y,z] i)∧∀ e,gl (stT s [x,y,z] i).1 e=gl s.1 e ++ (if e∈tE [x,y,z] then [i] else []):=by
 obtain ⟨a1,a2⟩:=X7k h (mkE x y) i
 obtain ⟨b1,b2⟩:=X7k a1 (mkE y z) i
 obtain ⟨c1,c2⟩:=X7k b1 (mkE z x) i
 refine ⟨c1,fun e => ?_⟩
 have hnd:=X9y h1 h2 h3
 unfold tE at hnd ⊢
 unfold stT
 simp only [List.getD_cons_zero,List.getD_cons_succ,List.nodup_cons,List.mem_cons,List.not_mem_nil,or_false,not_or,not_false_iff,List.nodup_nil,and_true] at hnd ⊢
 obtain ⟨⟨n1,n2⟩,n3⟩:=hnd
 rw [c2,b2,b2,a2,a2,a2]
 by_cases e1:e=mkE x y
 ·subst e1;simp [n1,n2]
 ·by_cases e2:e=mkE y z
  ·subst e2;simp [n3,Ne.symm n1,e1]
  ·by_cases e3:e=mkE z x
   ·subst e3;simp [Ne.symm n2,Ne.symm n3]
   ·simp [e1,e2,e3]
def idxE (ts:List (List Int)) (j:Nat) (e:Gedge):List Int:=((List.range j).filter fun i=>decide (e∈tE (ts.getD i default))).map fun (i:Nat)=>(i:Int)
theorem X95 (ts:List (List Int)) (j:Nat) (e:Gedge):idxE ts (j + 1) e=idxE ts j e ++ (if e∈tE (ts.getD j default) then [(j:Int)] else []):=by
 unfold idxE
 rw [List.range_succ,List.filter_append,List.map_append]
 congr 1
 by_cases h:e∈tE (ts.getD j default)
 ·rw [if_pos h,List.filter_cons_of_pos (by simpa using h)];rfl
 ·rw [if_neg h,List.filter_cons_of_neg (by simpa using h)];rfl
structure ETab (ts:List (List Int)) (j:Nat) (s:List (Gedge × List Int) × List Gedge):Prop where
 inv:EInv s
 val:∀ e,gl s.1 e=idxE ts j e
theorem ETab.loop {n:Nat} {ts:List (List Int)} (ok:OkE n ts) {lo:Nat→Int→List (Gedge × List Int)→List Gedge→List (Gedge × List Int) × List Gedge}
  (h:∀ k i b l,0≤i→lo (k + 1) i b l=cond (decide (i < (ts.length:Int))) (lo k (i + 1) (stT (b,l) (ts.getD i.toNat default) i).1 (stT (b,l) (ts.getD i.toNat default) i).2) (b,l)) :
  ∀ (k:Nat) (i:Nat) (s:List (Gedge × List Int) × List Gedge),i≤ts.length→ETab ts i s→((ts.length:Int) - i).toNat < k→ETab ts ts.length (lo k i s.1 s.2):=by
 intro k
 induction k with
 | zero=>intro i s _ _ hk;exact absurd hk (Nat.not_lt_zero _)
 | succ k ih =>
  intro i s hle hs hk
  rw [h _ _ _ _ (by omega)]
  by_cases hi:(i:Int) < (ts.length:Int)
  ·rw [decide_eq_true hi,cond_true]
   have hm:ts.getD i default∈ts:=by rw [List.getD_eq_getElem?_getD,List.getElem?_eq_getElem (by omega)];exact List.getElem_mem _
   obtain ⟨x,y,z,ht,-,-,-,n1,n2,n3⟩:=ok.2.2 _ hm
   rw [show ((i:Int)).toNat=i from by omega,ht]
   obtain ⟨g1,g2⟩:=Xaf hs.inv n1 n2 n3 (i:Int)
   have:=ih (i + 1) (stT s [x,y,z] i) (by omega) ⟨g1,fun e=>by rw [g2,hs.val,X95,ht]⟩ (by omega)
   exact this
  ·rw [decide_eq_false hi,cond_false]
   have:i=ts.length:=by omega
   rw [this] at hs;exact hs
theorem ETab.nil (ts:List (List Int)):ETab ts 0 ([],[]):=⟨EInv.nil,fun e=>by simp [gl,mhas,idxE]⟩
def edgL (n:Nat) (ts:List (List Int)):List Gedge :=
 (List.range n).flatMap fun (a:Nat)=>((List.range (n - (a + 1))).filter fun (j:Nat)=>ts.any fun t=>tHas t a ((a:Int) + 1 + j)).map fun (j:Nat)=>(⟨a,(a:Int) + 1 + j⟩:Gedge)
theorem X9z {n:Nat} {ts:List (List Int)} {e:Gedge}:e∈edgL n ts↔(0≤e.e0∧e.e0 < e.e1∧e.e1 < (n:Int))∧(ts.any fun t=>tHas t e.e0 e.e1)=true:=by
 unfold edgL
 simp only [List.mem_flatMap,List.mem_range,List.mem_map,List.mem_filter]
 constructor
 ·rintro ⟨a,ha,j,⟨hj,hh⟩,rfl⟩
  exact ⟨by simp only;omega,hh⟩
 ·obtain ⟨a,b⟩:=e
  rintro ⟨⟨h0,h1,h2⟩,hh⟩
  simp only at h0 h1 h2 hh
  have e1:((a.toNat:Nat):Int)=a:=by omega
  have e2:(((b - a - 1).toNat:Nat):Int)=b - a - 1:=by omega
  refine ⟨a.toNat,by omega,(b - a - 1).toNat,⟨by omega,?_⟩,?_⟩
  ·rw [e1,e2,show a + 1 + (b - a - 1)=b from by omega];exact hh
  ·rw [e1,e2,show a + 1 + (b - a - 1)=b from by omega]
theorem Xag {n:Nat} {ts:List (List Int)} (ok:OkE n ts) (e:Gedge):idxE ts ts.length e≠[]↔e∈edgL n ts:=by
 rw [X9z]
 unfold idxE
 rw [Ne,List.map_eq_nil_iff,← List.isEmpty_iff,Bool.not_eq_true,List.isEmpty_eq_false_iff_exists_mem]
 simp only [List.mem_filter,List.mem_range,decide_eq_true_eq,List.any_eq_true]
 obtain ⟨a,b⟩:=e
 constructor
 ·rintro ⟨i,hi,hh⟩
  have hm:ts.getD i default∈ts:=by rw [List.getD_eq_getElem?_getD,List.getElem?_eq_getElem hi];exact List.getElem_mem _
  obtain ⟨x,y,z,ht,r1,r2,r3,n1,n2,n3⟩:=ok.2.2 _ hm
  have hab:0≤a∧a < b∧b < (n:Int):=by
   rw [ht] at hh
   unfold tE mkE at hh
   simp only [List.getD_cons_zero,List.getD_cons_succ,List.mem_cons,List.not_mem_nil,or_false] at hh
   rcases hh with hh | hh | hh<;>(split at hh<;>simp only [Gedge.mk.injEq] at hh<;>omega)
  refine ⟨hab,_,hm,?_⟩
  rw [ht] at hh ⊢
  exact (X7j n1 n2 n3 hab.2.1).1 hh
 ·rintro ⟨hab,t,hm,hh⟩
  obtain ⟨i,hi,rfl⟩:=List.getElem_of_mem hm
  refine ⟨i,hi,?_⟩
  rw [List.getD_eq_getElem?_getD,List.getElem?_eq_getElem hi,Option.getD_some]
  obtain ⟨x,y,z,ht,r1,r2,r3,n1,n2,n3⟩:=ok.2.2 _ hm
  rw [ht] at hh ⊢
  exact (X7j n1 n2 n3 hab.2.1).2 hh
theorem ETab.at {n:Nat} {ts:List (List Int)} (ok:OkE n ts) {s:List (Gedge × List Int) × List Gedge} (h:ETab ts ts.length s) {e:Gedge} (he:e∈edgL n ts) :
  mhas s.1 e=true∧(s.1.getD (midx s.1 e) default).2=idxE ts ts.length e:=by
 have h1:=(Xag ok e).2 he
 have h2:mhas s.1 e=true:=(h.inv.has e).2 (by rw [h.val];exact h1)
 refine ⟨h2,?_⟩
 rw [← h.val];unfold gl;rw [h2];rfl
theorem Okh.at {n:Nat} {t:List Int} (h:t.length=4∧∀ x∈t,0≤x∧x < (n:Int)) :
  t.length=4∧(0≤t.getD 0 default∧t.getD 0 default < (n:Int))∧(0≤t.getD 1 default∧t.getD 1 default < (n:Int))∧(0≤t.getD 2 default∧t.getD 2 default < (n:Int))∧(0≤t.getD 3 default∧t.getD 3 default < (n:Int)):=by
 obtain ⟨h1,h2⟩:=h
 match t,h1 with
 | [a,b,c,d],_=>exact ⟨rfl,h2 a (by simp),h2 b (by simp),h2 c (by simp),h2 d (by simp)⟩
def e2 (e:Gedge):List Int:=[e.e0,e.e1]
theorem X9A {β:Type} (f:Gedge→β) (n:Nat) (ts:List (List Int)):(edgL n ts).map f=(List.range n).flatMap fun (a:Nat)=>((List.range (n - (a + 1))).filter fun (j:Nat)=>ts.any fun t=>tHas t a ((a:Int) + 1 + j)).map fun (j:Nat)=>f (⟨a,(a:Int) + 1 + j⟩:Gedge):=by
 unfold edgL
 rw [List.map_flatMap]
 simp only [List.map_map,Function.comp_def]
theorem X4A {n:Int} {r:List Bool} {u v mn mx a b:Int} (hn:n≤64) (hm:(⟨mn,mx⟩:Gedge)=mkE u v) (m1:0≤mn∧mn < n) (m2:0≤mx∧mx < n) (ha:0≤a) (hab:a < b) (hb:b < n)
  (hr:r.length=(IntKind.wrap .i64 (n * n)).toNat) :
  (r.set (IntKind.wrap .i64 (IntKind.wrap .i64 (mn * n) + mx)).toNat true).getD (IntKind.wrap .i64 (IntKind.wrap .i64 (a * n) + b)).toNat default
   = (decide ((⟨a,b⟩:Gedge)=mkE u v) || r.getD (IntKind.wrap .i64 (IntKind.wrap .i64 (a * n) + b)).toNat default):=by
 obtain ⟨p1,p2,p3,-,-⟩:=ix2 (n:=n) hn m1.1 m1.2 m2.1 m2.2
 obtain ⟨q1,q2,q3,q4,-⟩:=ix2 (n:=n) (a:=a) (b:=b) hn ha (by omega) (by omega) hb
 rw [p1,q1]
 rw [q4] at hr
 by_cases h:(⟨a,b⟩:Gedge)=mkE u v
 ·rw [decide_eq_true h,Bool.true_or]
  rw [← hm] at h
  simp only [Gedge.mk.injEq] at h
  obtain ⟨rfl,rfl⟩:=h
  rw [List.getD_eq_getElem?_getD,List.getElem?_set_self (by omega)];rfl
 ·rw [decide_eq_false h,Bool.false_or]
  have hne:(mn * n + mx).toNat≠(a * n + b).toNat:=by
   intro hc
   have hc2:mn * n + mx=a * n + b:=by omega
   obtain ⟨h1,h2⟩:=Xae m2.1 m2.2 (by omega) hb hc2
   apply h
   rw [← hm,h1,h2]
  rw [List.getD_eq_getElem?_getD,List.getElem?_set_ne hne,← List.getD_eq_getElem?_getD]
theorem X96 {n:Nat} {β:Type} {p:Int→Int→Bool} {g:Int→Int→β} {lo:Nat→Int→List β→List β} {li:Int→List β→List β}
  (h:∀ k a r,lo (k + 1) a r=cond (decide (a < (n:Int))) (lo k (a + 1) (li a r)) r)
  (hi:∀ (a:Nat) r,(a:Int) < n→li a r=r ++ ((List.range (n - (a + 1))).filter fun (j:Nat)=>p a ((a:Int) + 1 + j)).map fun (j:Nat)=>g a ((a:Int) + 1 + j)) :
  ∀ (k:Nat) (a:Nat),a≤n→((n:Int) - a).toNat < k →
   lo k a ((List.range a).flatMap fun (a:Nat)=>((List.range (n - (a + 1))).filter fun (j:Nat)=>p a ((a:Int) + 1 + j)).map fun (j:Nat)=>g a ((a:Int) + 1 + j))
    = (List.range n).flatMap fun (a:Nat)=>((List.range (n - (a + 1))).filter fun (j:Nat)=>p a ((a:Int) + 1 + j)).map fun (j:Nat)=>g a ((a:Int) + 1 + j):=by
 intro k
 induction k with
 | zero=>intro a _ hk;exact absurd hk (Nat.not_lt_zero _)
 | succ k ih =>
  intro a hle hk
  rw [h]
  by_cases hc:(a:Int) < n
  ·rw [decide_eq_true hc,cond_true,hi a _ hc]
   have:=ih (a + 1) (by omega) (by omega)
   rw [List.range_succ,List.flatMap_append,List.flatMap_singleton] at this
   exact this
  ·rw [decide_eq_false hc,cond_false]
   rw [show a=n from by omega]
end Go.Ab

set_option linter.unusedVariables false
set_option linter.unusedSimpArgs false
namespace Go.Ab
def mR:Bool→List Nat→List Bool
 | _,[] => []
 | b,n :: l=>List.replicate n b ++ mR (!b) l
def an:Nat→List AV→List AV
 | 0,l=>l
 | n + 1,l => .any :: an n l
theorem odt {p:Prop} [Decidable p] (h:decide p=true):p:=of_decide_eq_true h
theorem odf {p:Prop} [Decidable p] (h:decide p=false):¬p:=of_decide_eq_false h
end Go.Ab

set_option linter.unusedVariables false
set_option linter.unusedSimpArgs false
namespace Go.Ab
open Go.RowKit
structure Stp where
 a:List Ans
 C:List Prop
 p:Scr a C
def stA (S:List Stp) (i:Nat):List Ans:=match S[i]? with
 | some s=>s.a
 | none => []
end Go.Ab

set_option linter.unusedVariables false
set_option linter.unusedSimpArgs false
namespace Go.Ab
open Ieee
theorem X2U {M d:Nat} (h1:4503599627370496≤M) (h2:M < 9007199254740992):(M * 2 ^ d).log2=52 + d:=by
 have h0:M * 2 ^ d≠0:=Nat.mul_ne_zero (by omega) (Nat.pos_iff_ne_zero.1 (Nat.two_pow_pos d))
 rw [Nat.log2_eq_iff h0]
 constructor
 ·rw [Nat.pow_add];exact Nat.mul_le_mul_right _ (by omega)
 ·rw [show 52 + d + 1=53 + d from by omega,Nat.pow_add];exact Nat.mul_lt_mul_of_pos_right (by omega) (Nat.two_pow_pos d)
theorem X4r {M d E:Nat} (h1:4503599627370496≤M) (h2:M < 9007199254740992) (hE:E≤2045) {p:Int} (hp:p=-1074 + (E:Int) - (d:Int)) :
  double.nearest false (M * 2 ^ d) p=E * 4503599627370496 + M:=by
 have h0:M * 2 ^ d≠0:=Nat.mul_ne_zero (by omega) (Nat.pos_iff_ne_zero.1 (Nat.two_pow_pos d))
 unfold Format.nearest
 rw [if_neg h0,X2U h1 h2,show double.leastPlace=-1074 from rfl,show double.fractionBits=52 from rfl,show double.binade=4503599627370496 from rfl,show double.infRung=9218868437227405312 from rfl]
 have hlast:max (p + ((52 + d:Nat):Int) - ((52:Nat):Int)) (-1074)=p + (d:Int):=by omega
 simp only [hlast]
 rw [show (p - (p + (d:Int))).toNat=0 from by omega,show (p + (d:Int) - p).toNat=d from by omega,show (p + (d:Int) - -1074).toNat=E from by omega,Nat.shiftLeft_zero]
 have hcut:Toward.even.cut false (M * 2 ^ d) d=M:=by
  unfold Toward.cut
  simp only [X2U h1 h2]
  rw [show min d (52 + d + 2)=d from by omega,Nat.shiftLeft_eq,Nat.one_mul,Nat.mul_mod_left,Nat.mul_div_cancel _ (Nat.two_pow_pos d)]
  have:=Nat.two_pow_pos d
  have e1:decide (2 ^ d < 2 * 0)=false:=decide_eq_false (by omega)
  have e2:(2 ^ d == 2 * 0)=false:=by rw [beq_eq_false_iff_ne];omega
  rw [e1,e2];simp
 rw [hcut]
 unfold Format.word
 rw [if_neg (by simp)]
 have:E * 4503599627370496≤2045 * 4503599627370496:=Nat.mul_le_mul_right _ hE
 omega
def Nw (w:Nat):Prop:=4503599627370496≤w∧w < 9218868437227405312
def fld (w:Nat):Nat:=w / 4503599627370496
theorem X2K {w:Nat} (h:Nw w):double.read w = .number false (4503599627370496 + w % 4503599627370496) (-1074 + ((fld w - 1:Nat):Int)):=by
 obtain ⟨h1,h2⟩:=h
 unfold Format.read
 rw [show double.signWeight=9223372036854775808 from rfl,show double.binade=4503599627370496 from rfl,show double.infRung=9218868437227405312 from rfl,show double.leastPlace=-1074 from rfl]
 have e1:w % 9223372036854775808=w:=Nat.mod_eq_of_lt (by omega)
 have e2:w / 9223372036854775808=0:=Nat.div_eq_of_lt (by omega)
 simp only [e1,e2]
 rw [if_neg (by omega),if_pos (by omega)]
 rfl
theorem X1X {w:Nat} (h:Nw w) (h2:2≤fld w):fop .quo .f64 w 4611686018427387904=w - 4503599627370496:=by
 have hr:=X2K h
 have h2r:=X2K (w:=4611686018427387904) ⟨by decide,by decide⟩
 have hf:fld w≤2046:=by unfold fld;have:=h.2;omega
 show ((double.div w 4611686018427387904).getD (Xn .f64))=_
 unfold Format.div
 rw [hr,h2r]
 simp only [Datum.quotient]
 rw [show (4503599627370496 + 4611686018427387904 % 4503599627370496)=4503599627370496 from by decide]
 rw [if_neg (by decide)]
 have hm:w % 4503599627370496 < 4503599627370496:=Nat.mod_lt _ (by decide)
 have hl:(4503599627370496 + w % 4503599627370496).log2=52:=by
  have:=X2U (M:=4503599627370496 + w % 4503599627370496) (d:=0) (by omega) (by omega)
  simpa using this
 have hl2:Nat.log2 4503599627370496=52:=by decide +kernel
 rw [hl,hl2,show double.fractionBits + 2 + 52 - 52=54 from rfl]
 have hd:(4503599627370496 + w % 4503599627370496) <<< 54=((4503599627370496 + w % 4503599627370496) * 4) * 4503599627370496:=by
  rw [Nat.shiftLeft_eq,Nat.mul_assoc]
 rw [hd,Nat.mul_div_cancel _ (by decide),Nat.mul_mod_left]
 simp only [Option.map_some,Option.getD_some,Format.write]
 have e:2 * ((4503599627370496 + w % 4503599627370496) * 4) + ((0:Nat) != 0).toNat=(4503599627370496 + w % 4503599627370496) * 2 ^ 3:=by
  simp;omega
 rw [e,show (false ^^ false)=false from rfl]
 rw [X4r (E:=fld w - 2) (by omega) (by omega) (by omega) (by
  rw [show fld 4611686018427387904=1024 from by decide];omega)]
 have:=Nat.div_add_mod w 4503599627370496
 unfold fld at *
 omega
theorem X97 {X E:Nat} {p:Int} (h1:4503599627370496≤X) (h2:X < 9007199254740992) (hE:E≤2045) (hp:p=-1074 + (E:Int) - 52):double.write (.number false (X * 2 ^ 52) p)=E * 4503599627370496 + X :=
 X4r (M:=X) (d:=52) (E:=E) h1 h2 hE hp
theorem X9B (X:Nat) (p q:Int):Datum.product (.number false X p) (.number false (2 ^ 52) q)=some (.number false (X * 2 ^ 52) (p + q)):=by
 unfold Datum.product;rfl
theorem X9C:double.read 4611686018427387904 = .number false (2 ^ 52) (-51):=by decide +kernel
theorem Xah (x y:Nat):fop .mul .f64 x y=(((double.read x).product (double.read y)).map double.write).getD (Xn .f64):=rfl
theorem X2V {w:Nat} (h:Nw w) (h2:fld w≤2045):fop .mul .f64 w 4611686018427387904=w + 4503599627370496:=by
 have hf:1≤fld w:=by unfold fld;have:=h.1;omega
 have hm:w % 4503599627370496 < 4503599627370496:=Nat.mod_lt _ (by decide)
 rw [Xah,X2K h,X9C,X9B,Option.map_some,Option.getD_some,X97 (E:=fld w) (by omega) (by omega) (by omega) (by omega)]
 have:=Nat.div_add_mod w 4503599627370496
 unfold fld at *
 omega
theorem X5K (m n:Nat) (i j:Int):Datum.order (.number false m i) (.number false n j)=some (compare ((m <<< (i - min i j).toNat:Nat):Int) ((n <<< (j - min i j).toNat:Nat):Int)):=by
 unfold Datum.order signed;rfl
theorem X9D:double.read 4609434218613702656 = .number false 6755399441055744 (-52):=by decide +kernel
theorem X98:double.read 4604930618986332160 = .number false 6755399441055744 (-53):=by decide +kernel
theorem X99 {k:Nat} (h:1≤k):2≤2 ^ k:=by
 have:2 ^ 1≤2 ^ k:=Nat.pow_le_pow_right (by omega) h
 omega
theorem X1Y {w:Nat} (h:Nw w) (hg:fcmp .geq .f64 w 4609434218613702656=true):1023≤fld w:=by
 refine Nat.not_lt.1 fun hlt => ?_
 have hf:1≤fld w:=by unfold fld;have:=h.1;omega
 have hm:w % 4503599627370496 < 4503599627370496:=Nat.mod_lt _ (by decide)
 have ho:FloatKind.f64.format.order w 4609434218613702656=some .lt:=by
  show (double.read w).order (double.read 4609434218613702656)=_
  rw [X2K h,X9D,X5K]
  congr 1
  rw [Int.compare_eq_lt]
  have e1:min (-1074 + ((fld w - 1:Nat):Int)) (-52)=-1074 + ((fld w - 1:Nat):Int):=by omega
  rw [e1,show (-1074 + ((fld w - 1:Nat):Int) - (-1074 + ((fld w - 1:Nat):Int))).toNat=0 from by omega,Nat.shiftLeft_zero,Nat.shiftLeft_eq]
  have h2:=X99 (k:=(-52 - (-1074 + ((fld w - 1:Nat):Int))).toNat) (by omega)
  have h3:6755399441055744 * 2≤6755399441055744 * 2 ^ (-52 - (-1074 + ((fld w - 1:Nat):Int))).toNat:=Nat.mul_le_mul_left _ h2
  generalize 6755399441055744 * 2 ^ (-52 - (-1074 + ((fld w - 1:Nat):Int))).toNat=y at *
  omega
 have:fcmp .geq .f64 w 4609434218613702656=false:=by
  unfold fcmp
  simp only [ho]
  rfl
 rw [this] at hg;cases hg
theorem X2i {w:Nat} (h:Nw w) (hg:fcmp .lss .f64 w 4604930618986332160=true):fld w≤1022:=by
 refine Nat.not_lt.1 fun hlt => ?_
 have hm:w % 4503599627370496 < 4503599627370496:=Nat.mod_lt _ (by decide)
 have ho:FloatKind.f64.format.order w 4604930618986332160=some .gt:=by
  show (double.read w).order (double.read 4604930618986332160)=_
  rw [X2K h,X98,X5K]
  congr 1
  rw [Int.compare_eq_gt]
  have e1:min (-1074 + ((fld w - 1:Nat):Int)) (-53)=-53:=by omega
  rw [e1,show (-53 - (-53:Int)).toNat=0 from by omega,Nat.shiftLeft_zero,Nat.shiftLeft_eq]
  have h2:=X99 (k:=(-1074 + ((fld w - 1:Nat):Int) - -53).toNat) (by omega)
  have h3:(4503599627370496 + w % 4503599627370496) * 2≤(4503599627370496 + w % 4503599627370496) * 2 ^ (-1074 + ((fld w - 1:Nat):Int) - -53).toNat:=Nat.mul_le_mul_left _ h2
  generalize (4503599627370496 + w % 4503599627370496) * 2 ^ (-1074 + ((fld w - 1:Nat):Int) - -53).toNat=y at *
  omega
 have:fcmp .lss .f64 w 4604930618986332160=false:=by
  unfold fcmp
  simp only [ho]
  rfl
 rw [this] at hg;cases hg
theorem X1y {w:Nat} (h:Nw w) (h2:1023≤fld w):Nw (w - 4503599627370496)∧fld (w - 4503599627370496)=fld w - 1:=by
 obtain ⟨a,b⟩:=h
 unfold fld Nw at *
 omega
theorem X2u {w:Nat} (h:Nw w) (h2:fld w≤1022):Nw (w + 4503599627370496)∧fld (w + 4503599627370496)=fld w + 1:=by
 obtain ⟨a,b⟩:=h
 unfold fld Nw at *
 omega
theorem X8y:∀ n:Nat,n < 1100→fop .add .f64 (X4 .f64 (n:Int)) 4607182418800017408=X4 .f64 ((n:Int) + 1):=by
 have h:(List.range 1100).all (fun n=>fop .add .f64 (X4 .f64 (n:Int)) 4607182418800017408 == X4 .f64 ((n:Int) + 1))=true:=by decide +kernel
 intro n hn
 have:=(List.all_eq_true.1 h) n (List.mem_range.2 hn)
 exact eq_of_beq this
theorem X8z:∀ n:Nat,n < 2200→fop .sub .f64 (X4 .f64 (1100 - (n:Int))) 4607182418800017408=X4 .f64 (1099 - (n:Int)):=by
 have h:(List.range 2200).all (fun n=>fop .sub .f64 (X4 .f64 (1100 - (n:Int))) 4607182418800017408 == X4 .f64 (1099 - (n:Int)))=true:=by decide +kernel
 intro n hn
 have:=(List.all_eq_true.1 h) n (List.mem_range.2 hn)
 exact eq_of_beq this
end Go.Ab

set_option linter.unusedVariables false
set_option linter.unusedSimpArgs false
namespace Go.Ab
open Ieee
theorem X4s (m:Nat):m < 2 ^ (m.log2 + 1):=Nat.lt_log2_self
theorem X2z {m k:Nat} (h:m < 2 ^ (k + 1)) (h0:m≠0):m.log2≤k:=by
 have:=(Nat.log2_lt h0).2 h
 omega
end Go.Ab

set_option linter.unusedVariables false
set_option linter.unusedSimpArgs false
namespace Go.Ab
open Ieee
end Go.Ab

set_option linter.unusedVariables false
set_option linter.unusedSimpArgs false
namespace Go.Ab
open Ieee
def ex (r:Nat):Nat:=if r < 8388608 then 0 else r / 8388608 - 1
def Ok32 (x:Nat):Prop:=Wd .f32 x∧cn .f32 x=x
theorem Ok32.lt {x:Nat} (h:Ok32 x):x < 4294967296:=h.1
end Go.Ab

set_option linter.unusedVariables false
set_option linter.unusedSimpArgs false
namespace Go.Ab
open Ieee
theorem X7N {m:Nat} (h0:m≠0) (hl:m.log2≤52) {p:Int} (hp:-1022≤p + (m.log2:Int)) (hp2:p + (m.log2:Int)≤1023) :
  double.nearest false m p=(p + (m.log2:Int) + 1022).toNat * 4503599627370496 + m * 2 ^ (52 - m.log2):=by
 have b1:2 ^ 52≤m * 2 ^ (52 - m.log2):=by
  have:=Nat.mul_le_mul_right (2 ^ (52 - m.log2)) (Nat.log2_self_le h0)
  rwa [← Nat.pow_add,show m.log2 + (52 - m.log2)=52 from by omega] at this
 have b2:m * 2 ^ (52 - m.log2) < 2 ^ 53:=by
  have:=Nat.mul_lt_mul_of_pos_right (X4s m) (Nat.two_pow_pos (52 - m.log2))
  rwa [← Nat.pow_add,show m.log2 + 1 + (52 - m.log2)=53 from by omega] at this
 unfold Format.nearest
 rw [if_neg h0,show double.leastPlace=-1074 from rfl,show double.fractionBits=52 from rfl,show double.binade=4503599627370496 from rfl,show double.infRung=9218868437227405312 from rfl]
 have hlast:max (p + (m.log2:Int) - ((52:Nat):Int)) (-1074)=p + (m.log2:Int) - 52:=by omega
 simp only [hlast]
 rw [show (p - (p + (m.log2:Int) - 52)).toNat=52 - m.log2 from by omega,show (p + (m.log2:Int) - 52 - p).toNat=0 from by omega,show (p + (m.log2:Int) - 52 - -1074).toNat=(p + (m.log2:Int) + 1022).toNat from by omega,Nat.shiftLeft_eq]
 generalize m * 2 ^ (52 - m.log2)=M at *
 have hcut:Toward.even.cut false M 0=M:=by
  unfold Toward.cut
  simp [Nat.mod_one]
 rw [hcut]
 unfold Format.word
 rw [if_neg (by simp)]
 have hE:(p + (m.log2:Int) + 1022).toNat≤2045:=by omega
 have:(p + (m.log2:Int) + 1022).toNat * 4503599627370496≤2045 * 4503599627370496:=Nat.mul_le_mul_right _ hE
 have e:(2:Nat) ^ 53=9007199254740992:=by decide +kernel
 rw [e] at b2
 omega
theorem X4B {m:Nat} (h0:m≠0) (hl:m.log2≤52) {p:Int} (hp:-1022≤p + (m.log2:Int)) (hp2:p + (m.log2:Int)≤1023) :
  Nw (double.nearest false m p)∧(fld (double.nearest false m p):Int)=p + (m.log2:Int) + 1023:=by
 have b1:2 ^ 52≤m * 2 ^ (52 - m.log2):=by
  have:=Nat.mul_le_mul_right (2 ^ (52 - m.log2)) (Nat.log2_self_le h0)
  rwa [← Nat.pow_add,show m.log2 + (52 - m.log2)=52 from by omega] at this
 have b2:m * 2 ^ (52 - m.log2) < 2 ^ 53:=by
  have:=Nat.mul_lt_mul_of_pos_right (X4s m) (Nat.two_pow_pos (52 - m.log2))
  rwa [← Nat.pow_add,show m.log2 + 1 + (52 - m.log2)=53 from by omega] at this
 rw [X7N h0 hl hp hp2]
 generalize m * 2 ^ (52 - m.log2)=M at *
 have e:(2:Nat) ^ 53=9007199254740992:=by decide +kernel
 have e2:(2:Nat) ^ 52=4503599627370496:=by decide +kernel
 rw [e] at b2
 rw [e2] at b1
 clear e e2
 generalize hE:(p + (m.log2:Int) + 1022).toNat=E
 have:E≤2045:=by omega
 unfold Nw fld
 omega
theorem X4d {x:Nat} (h1:fcmp .gtr .f32 x 0=true) (h2:fcmp .eql .f32 (fop .sub .f32 x x) 0=true):Nw (fcv .f32 .f64 x)∧800≤fld (fcv .f32 .f64 x)∧fld (fcv .f32 .f64 x)≤1200:=by
 have r0:FloatKind.f32.format.read 0 = .number false 0 (-149):=by decide +kernel
 have h1':((FloatKind.f32.format.read x).order (FloatKind.f32.format.read 0) == some .gt)=true:=h1
 rw [beq_iff_eq,r0] at h1'
 cases hr:FloatKind.f32.format.read x with
 | nan s t=>rw [hr] at h1';cases h1'
 | infinity s =>
  exfalso
  have hs:fop .sub .f32 x x=Xn .f32:=by
   show (((FloatKind.f32.format.read x).sum (FloatKind.f32.format.read x).opposite).map FloatKind.f32.format.write).getD _=_
   rw [hr]
   cases s<;>rfl
  rw [hs] at h2
  revert h2
  decide +kernel
 | number s m e =>
  rw [hr] at h1'
  simp only [Datum.order,Option.some.injEq] at h1'
  rw [Int.compare_eq_gt] at h1'
  unfold signed at h1'
  rw [Nat.shiftLeft_eq,Nat.shiftLeft_eq,Nat.zero_mul] at h1'
  have hs:s=false:=by
   cases s with
   | false=>rfl
   | true =>
    exfalso
    simp only [if_true,Bool.false_eq_true,if_false] at h1'
    generalize m * 2 ^ (e - min e (-149)).toNat=z at h1'
    omega
  subst hs
  have m0:m≠0:=by intro h;subst h;simp at h1'
  obtain ⟨p1,p2,p3⟩:=XR (x:=x) hr
  have hf:fcv .f32 .f64 x=double.nearest false m e:=by
   rw [X2f]
   have hr':single.read x = .number false m e:=hr
   rw [hr']
   rfl
  have hl:m.log2≤23:=X2z p1 m0
  rw [hf]
  obtain ⟨q1,q2⟩:=X4B (p:=e) m0 (by omega) (by omega) (by omega)
  exact ⟨q1,by omega,by omega⟩
end Go.Ab

set_option linter.unusedVariables false
namespace Go.Ab
open Ieee
end Go.Ab

set_option linter.unusedVariables false
set_option linter.unusedSimpArgs false
namespace Go.Ab
open Ieee
theorem XaH:(2:Rat)≠0:=by decide
theorem Xd (e:Int):(0:Rat) < (2:Rat)^e:=Rat.zpow_pos (by decide)
theorem X9 (a b:Int):(2:Rat)^(a+b)=(2:Rat)^a * (2:Rat)^b:=Rat.zpow_add XaH a b
theorem X8A (n:Nat):(1:Rat)≤(2:Rat)^n:=by
 induction n with
 | zero=>simp
 | succ n ih=>rw [Rat.pow_succ];grind
theorem X2L {a b:Int} (h:a≤b):(2:Rat)^a≤(2:Rat)^b:=by
 have:b=a + ((b - a).toNat:Int):=by omega
 rw [this,X9,Rat.zpow_natCast]
 have h1:=X8A (b-a).toNat
 have h2:=Xd a
 generalize (2:Rat)^(b-a).toNat=x at *
 generalize (2:Rat)^a=y at *
 have:=Rat.mul_le_mul_of_nonneg_left h1 (Rat.le_of_lt h2)
 grind
theorem X6a {a b:Int} (h:(2:Rat)^a < (2:Rat)^b):a < b:=by
 refine Int.not_le.1 fun hn => ?_
 have:=X2L hn
 grind
theorem XB (n:Nat):(2:Rat)^(n:Int)=((2 ^ n:Nat):Rat):=by
 rw [Rat.zpow_natCast,Rat.natCast_pow];rfl
theorem X7Z (neg:Bool) (n drop:Nat):2 * (Toward.even.cut neg n drop * 2 ^ drop)≤2 * n + 2 ^ drop∧2 * n≤2 * (Toward.even.cut neg n drop * 2 ^ drop) + 2 ^ drop:=by
 unfold Toward.cut
 simp only [Nat.shiftLeft_eq,Nat.one_mul]
 rcases Nat.le_total drop (n.log2 + 2) with h | h
 ·rw [Nat.min_eq_left h]
  have hd:=Nat.div_add_mod n (2 ^ drop)
  have hp:=Nat.two_pow_pos drop
  have hm:=Nat.mod_lt n hp
  rw [Nat.add_mul]
  have hc:2 ^ drop * (n / 2 ^ drop)=n / 2 ^ drop * 2 ^ drop:=Nat.mul_comm _ _
  rw [hc] at hd
  generalize n / 2 ^ drop * 2 ^ drop=y at *
  generalize n % 2 ^ drop=r at *
  generalize n / 2 ^ drop=q at *
  generalize 2 ^ drop=g at *
  by_cases c1:g < 2 * r
  ·simp only [c1,decide_true,Bool.true_or,Bool.toNat_true];omega
  ·by_cases c2:g=2 * r
   ·cases hb:(decide (g < 2 * r) || (g == 2 * r && q % 2 == 1))<;>simp only [Bool.toNat_true,Bool.toNat_false]<;>omega
   ·have:(decide (g < 2 * r) || (g == 2 * r && q % 2 == 1))=false:=by simp [c1,c2]
    rw [this];simp only [Bool.toNat_false];omega
 ·rw [Nat.min_eq_right h]
  have hlt:n < 2 ^ (n.log2 + 1):=Nat.lt_log2_self
  have e2:2 ^ (n.log2 + 2)=2 * 2 ^ (n.log2 + 1):=by rw [Nat.pow_succ 2 (n.log2 + 1)];omega
  have hle:2 ^ (n.log2 + 2)≤2 ^ drop:=Nat.pow_le_pow_right (by omega) h
  have hz:n / 2 ^ (n.log2 + 2)=0:=Nat.div_eq_of_lt (by omega)
  have hm:n % 2 ^ (n.log2 + 2)=n:=Nat.mod_eq_of_lt (by omega)
  rw [hz,hm]
  have:(decide (2 ^ (n.log2 + 2) < 2 * n) || (2 ^ (n.log2 + 2) == 2 * n && 0 % 2 == 1))=false:=by
   simp;omega
  rw [this]
  simp only [Bool.toNat_false]
  omega
theorem X7l (neg:Bool) (n:Nat):Toward.even.cut neg n 0=n:=by
 unfold Toward.cut
 simp [Nat.mod_one]
theorem X5L (f:Format) (neg:Bool) (E K:Nat) (hb:1≤f.fractionBits) (h1:E=0∨f.binade≤K) (h2:K≤2 * f.binade) (hi:E * f.binade + K < f.infRung) :
  ∃ M x,f.read (f.word neg (E * f.binade + K)) = .number neg M (f.leastPlace + ((x:Nat):Int))∧(M:Rat) * (2:Rat) ^ (x:Int)=(K:Rat) * (2:Rat) ^ (E:Int)∧M < 2 * f.binade:=by
 have hp:0 < f.binade:=Nat.two_pow_pos _
 have hs:f.infRung < f.signWeight:=by
  have e:f.signWeight=2 ^ f.exponentBits * f.binade:=by unfold Format.signWeight Format.binade;rw [Nat.pow_add]
  rw [e];unfold Format.infRung
  exact Nat.mul_lt_mul_of_pos_right (by have:=Nat.two_pow_pos f.exponentBits;omega) hp
 have hneg:(f.word neg (E * f.binade + K) / f.signWeight % 2 == 1)=neg:=by
  unfold Format.word
  cases neg with
  | true=>rw [if_pos rfl,Nat.add_div_left _ (by omega),Nat.div_eq_of_lt (by omega)];rfl
  | false=>rw [if_neg (by simp),Nat.div_eq_of_lt (by omega)];rfl
 unfold Format.read
 simp only [X3U f neg (Nat.lt_trans hi hs),hneg]
 have stepx:∀ (A:Nat) ,(f.binade:Rat) * (2:Rat) ^ ((A + 1:Nat):Int)=((2 * f.binade:Nat):Rat) * (2:Rat) ^ (A:Int):=by
  intro A
  rw [show ((A + 1:Nat):Int)=(A:Int) + 1 from by omega,X9,Rat.natCast_mul,Rat.zpow_one]
  grind
 rcases Nat.eq_zero_or_pos E with h0 | h0
 ·subst h0
  by_cases hk:K < f.binade
  ·rw [if_pos (by omega)]
   exact ⟨K,0,by simp,by simp,by omega⟩
  ·rw [if_neg (by omega),if_pos (by omega)]
   by_cases hk2:K=2 * f.binade
   ·refine ⟨f.binade,1,?_,?_,by omega⟩
    ·subst hk2
     rw [show 0 * f.binade + 2 * f.binade=2 * f.binade from by omega,Nat.mul_mod_left,Nat.mul_div_cancel _ hp];rfl
    ·subst hk2;exact stepx 0
   ·refine ⟨K,0,?_,rfl,by omega⟩
    rw [show 0 * f.binade + K=f.binade + (K - f.binade) from by omega,Nat.add_mod_left,Nat.add_div_left _ hp,Nat.mod_eq_of_lt (by omega),Nat.div_eq_of_lt (by omega)]
    simp;omega
 ·have hk:f.binade≤K:=by omega
  have hE1:f.binade≤E * f.binade:=Nat.le_mul_of_pos_left _ h0
  rw [if_neg (by omega),if_pos hi]
  by_cases hk2:K=2 * f.binade
  ·refine ⟨f.binade,E + 1,?_,?_,by omega⟩
   ·subst hk2
    rw [← Nat.add_mul,Nat.mul_mod_left,Nat.mul_div_cancel _ hp];rfl
   ·subst hk2;exact stepx E
  ·refine ⟨K,E,?_,rfl,by omega⟩
   rw [show E * f.binade + K=(E + 1) * f.binade + (K - f.binade) from by rw [Nat.add_mul];omega]
   rw [Nat.mul_comm (E+1) f.binade,Nat.mul_add_mod,Nat.mod_eq_of_lt (by omega),Nat.mul_add_div hp,Nat.div_eq_of_lt (by omega)]
   congr 1<;>omega
def sg (s:Bool):Rat:=if s then -1 else 1
def vl:Datum→Option Rat
 | .number s m e=>some (sg s * ((m:Rat) * (2:Rat) ^ e))
 | _=>none
theorem X2W (f:Format) (neg:Bool) (m:Nat) (e:Int) (hb:1≤f.fractionBits) (hT:(max (e + m.log2 - f.fractionBits) f.leastPlace - f.leastPlace).toNat + 2 < 2 ^ f.exponentBits - 1) :
  ∃ q:Rat,vl (f.read (f.nearest neg m e))=some (sg neg * q)∧2 * q≤2 * ((m:Rat) * (2:Rat)^e) + (2:Rat) ^ (max (e + m.log2 - f.fractionBits) f.leastPlace)∧2 * ((m:Rat) * (2:Rat)^e)≤2 * q + (2:Rat) ^ (max (e + m.log2 - f.fractionBits) f.leastPlace)
   ∧ (max (e + m.log2 - f.fractionBits) f.leastPlace≤e→q=(m:Rat) * (2:Rat)^e):=by
 by_cases h0:m=0
 ·subst h0
  have hp:0 < f.binade:=Nat.two_pow_pos _
  refine ⟨0,?_,?_,?_,?_⟩
  ·unfold Format.nearest
   rw [if_pos rfl]
   obtain ⟨M,x,h1,h2,-⟩:=X5L f neg 0 0 hb (.inl rfl) (Nat.zero_le _) (by
    unfold Format.infRung;have:=Nat.mul_pos (show 0 < 2 ^ f.exponentBits - 1 by omega) hp;omega)
   rw [Nat.zero_mul] at h1
   rw [show (0:Nat) + 0=0 from rfl] at h1
   rw [h1]
   simp only [vl,X9]
   congr 1
   have:((M:Rat) * (2:Rat)^((x:Nat):Int))=0:=by rw [h2];simp
   grind
  ·generalize max (e + (Nat.log2 0:Nat) - f.fractionBits) f.leastPlace=w
   have:=Xd w
   simp;grind
  ·generalize max (e + (Nat.log2 0:Nat) - f.fractionBits) f.leastPlace=w
   have:=Xd w
   simp;grind
  ·simp
 generalize hlast:max (e + (m.log2:Int) - (f.fractionBits:Int)) f.leastPlace=last at *
 have hl1:f.leastPlace≤last:=by omega
 have hl2:e + m.log2 - f.fractionBits≤last:=by omega
 have hm1:2 ^ m.log2≤m:=Nat.log2_self_le h0
 have hm2:m < 2 ^ (m.log2 + 1):=Nat.lt_log2_self
 have hk:Toward.even.cut neg (m <<< (e - last).toNat) (last - e).toNat≤2 * f.binade∧(last=f.leastPlace∨f.binade≤Toward.even.cut neg (m <<< (e - last).toNat) (last - e).toNat)
   ∧ 2 * ((Toward.even.cut neg (m <<< (e - last).toNat) (last - e).toNat:Nat):Rat) * (2:Rat)^last≤2 * ((m:Rat) * (2:Rat)^e) + (2:Rat) ^ last∧2 * ((m:Rat) * (2:Rat)^e)≤2 * ((Toward.even.cut neg (m <<< (e - last).toNat) (last - e).toNat:Nat):Rat) * (2:Rat)^last + (2:Rat) ^ last
   ∧ (last≤e→((Toward.even.cut neg (m <<< (e - last).toNat) (last - e).toNat:Nat):Rat) * (2:Rat)^last=(m:Rat) * (2:Rat)^e):=by
  by_cases hle:last≤e
  ·obtain ⟨u,hu⟩:=Int.eq_ofNat_of_zero_le (show 0≤e - last by omega)
   rw [show (last - e).toNat=0 from by omega,X7l,show (e - last).toNat=u from by omega,Nat.shiftLeft_eq]
   have he:((m * 2 ^ u:Nat):Rat) * (2:Rat)^last=(m:Rat) * (2:Rat)^e:=by
    rw [show e=(u:Int) + last from by omega,X9,XB,Rat.natCast_mul,Rat.mul_assoc]
   refine ⟨?_,?_,?_,?_,fun _=>he⟩
   ·have h3:m * 2 ^ u < 2 ^ (m.log2 + 1 + u):=by rw [Nat.pow_add];exact Nat.mul_lt_mul_of_pos_right hm2 (Nat.two_pow_pos u)
    have h4:2 ^ (m.log2 + 1 + u)≤2 ^ (f.fractionBits + 1):=Nat.pow_le_pow_right (by omega) (by omega)
    have h5:2 ^ (f.fractionBits + 1)=2 * f.binade:=by unfold Format.binade;rw [Nat.pow_succ];omega
    omega
   ·by_cases hh:last=f.leastPlace
    ·exact .inl hh
    ·right
     have h3:2 ^ m.log2 * 2 ^ u≤m * 2 ^ u:=Nat.mul_le_mul_right _ hm1
     have h4:f.binade=2 ^ m.log2 * 2 ^ u:=by unfold Format.binade;rw [← Nat.pow_add];congr 1;omega
     omega
   ·rw [Rat.mul_assoc,he];have:=Xd last;grind
   ·rw [Rat.mul_assoc,he];have:=Xd last;grind
  ·obtain ⟨u,hu⟩:=Int.eq_ofNat_of_zero_le (show 0≤last - e by omega)
   rw [show (e - last).toNat=0 from by omega,Nat.shiftLeft_zero,show (last - e).toNat=u from by omega]
   obtain ⟨c1,c2⟩:=X7Z neg m u
   generalize hc:Toward.even.cut neg m u=c at *
   have hpu:=Nat.two_pow_pos u
   have el:(2:Rat)^last=((2 ^ u:Nat):Rat) * (2:Rat)^e:=by rw [show last=(u:Int) + e from by omega,X9,XB]
   have d1:((2 * (c * 2 ^ u):Nat):Rat)≤((2 * m + 2 ^ u:Nat):Rat):=Rat.natCast_le_natCast.2 c1
   have d2:((2 * m:Nat):Rat)≤((2 * (c * 2 ^ u) + 2 ^ u:Nat):Rat):=Rat.natCast_le_natCast.2 c2
   simp only [Rat.natCast_mul,Rat.natCast_add] at d1 d2
   have d1:=Rat.mul_le_mul_of_nonneg_right d1 (Rat.le_of_lt (Xd e))
   have d2:=Rat.mul_le_mul_of_nonneg_right d2 (Rat.le_of_lt (Xd e))
   refine ⟨?_,?_,?_,?_,fun h=>absurd h hle⟩
   ·have h3:m < 2 ^ (f.fractionBits + 1 + u):=Nat.lt_of_lt_of_le hm2 (Nat.pow_le_pow_right (by omega) (by omega))
    have h5:2 ^ (f.fractionBits + 1 + u)=2 * f.binade * 2 ^ u:=by unfold Format.binade;rw [Nat.pow_add,Nat.pow_succ,Nat.mul_comm 2 (2 ^ f.fractionBits)]
    refine Nat.not_lt.1 fun hlt => ?_
    have h6:(2 * f.binade + 1) * 2 ^ u≤c * 2 ^ u:=Nat.mul_le_mul_right _ hlt
    rw [Nat.add_mul] at h6
    omega
   ·by_cases hh:last=f.leastPlace
    ·exact .inl hh
    ·right
     have h4:f.binade * 2 ^ u=2 ^ m.log2:=by unfold Format.binade;rw [← Nat.pow_add];congr 1;omega
     refine Nat.not_lt.1 fun hlt => ?_
     have h6:(c + 1) * 2 ^ u≤f.binade * 2 ^ u:=Nat.mul_le_mul_right _ hlt
     rw [Nat.add_mul] at h6
     omega
   ·rw [el];grind
   ·rw [el];grind
 obtain ⟨k1,k2,k3,k4,k5⟩:=hk
 have hr:(last - f.leastPlace).toNat * f.binade + Toward.even.cut neg (m <<< (e - last).toNat) (last - e).toNat < f.infRung:=by
  unfold Format.infRung
  have hp:0 < f.binade:=Nat.two_pow_pos _
  have:((last - f.leastPlace).toNat + 2 + 1) * f.binade≤(2 ^ f.exponentBits - 1) * f.binade:=Nat.mul_le_mul_right _ hT
  rw [Nat.add_mul,Nat.add_mul] at this
  omega
 obtain ⟨M,x,h1,h2,-⟩:=X5L f neg _ _ hb (k2.imp (fun h=>by omega) id) k1 hr
 refine ⟨((Toward.even.cut neg (m <<< (e - last).toNat) (last - e).toNat:Nat):Rat) * (2:Rat)^last,?_,by rw [Rat.mul_assoc] at k3;exact k3,by rw [Rat.mul_assoc] at k4;exact k4,k5⟩
 unfold Format.nearest
 rw [if_neg h0]
 simp only [hlast]
 rw [Nat.min_eq_left (Nat.le_of_lt hr),h1]
 simp only [vl]
 congr 2
 have e1:(2:Rat)^last=(2:Rat)^f.leastPlace * (2:Rat)^(((last - f.leastPlace).toNat:Nat):Int):=by rw [← X9];congr 1;omega
 rw [X9,e1]
 grind
end Go.Ab

set_option linter.unusedVariables false
set_option linter.unusedSimpArgs false
namespace Go.Ab
open Ieee
def uK:FloatKind→Rat
 | .f32=>1 / 16777216
 | .f64=>1 / 9007199254740992
def tK:FloatKind→Rat
 | .f32=>(2:Rat) ^ (-150:Int)
 | .f64=>(2:Rat) ^ (-1075:Int)
def topE:FloatKind→Int
 | .f32=>127
 | .f64=>1023
def Vl (k:FloatKind) (w:Nat) (q:Rat):Prop:=vl (k.format.read w)=some q
def Nr (x y d:Rat):Prop:=y - d≤x∧x≤y + d
theorem X9a (s t:Bool):sg (s ^^ t)=sg s * sg t:=by cases s<;>cases t<;>decide +kernel
theorem X9S (s:Bool):sg s * sg s=1:=by cases s<;>decide +kernel
theorem X3W (k:FloatKind):0 < tK k:=by cases k<;>exact Xd _
theorem X3F (k:FloatKind):tK k≤1 / 1000000000000000000000000000000:=by cases k<;>decide +kernel
theorem X1z (m:Nat) (e:Int):(0:Rat)≤(m:Rat) * (2:Rat)^e:=Rat.mul_nonneg Rat.natCast_nonneg (Rat.le_of_lt (Xd e))
theorem X7m {m:Nat} {e K:Int} (h0:m≠0) (h:(m:Rat) * (2:Rat)^e < (2:Rat)^K):e + (m.log2:Int) < K:=by
 refine X6a (Rat.not_le.1 fun hc => ?_)
 have h1:((2 ^ m.log2:Nat):Rat)≤(m:Rat):=Rat.natCast_le_natCast.2 (Nat.log2_self_le h0)
 have h2:=Rat.mul_le_mul_of_nonneg_right h1 (Rat.le_of_lt (Xd e))
 rw [← XB,← X9,Int.add_comm] at h2
 grind
theorem X9E (k:FloatKind) (neg:Bool) (m:Nat) (e:Int) (h:(m:Rat) * (2:Rat)^e < (2:Rat)^(topE k)) :
  ∃ q,vl (k.format.read (k.format.nearest neg m e))=some (sg neg * q)∧Nr q ((m:Rat) * (2:Rat)^e) ((m:Rat) * (2:Rat)^e * uK k + tK k):=by
 have hu:∀ x:Rat,0≤x→0≤x * uK k:=fun x hx=>Rat.mul_nonneg hx (by cases k<;>decide +kernel)
 have hfb:1≤k.format.fractionBits:=by cases k<;>decide
 by_cases h0:m=0
 ·subst h0
  have hn:k.format.nearest neg 0 e=k.format.nearest neg 0 0:=by unfold Format.nearest;rw [if_pos rfl,if_pos rfl]
  obtain ⟨q,q1,q2,q3,-⟩:=X2W k.format neg 0 (k.format.leastPlace) hfb (by cases k<;>decide +kernel)
  have hn2:k.format.nearest neg 0 k.format.leastPlace=k.format.nearest neg 0 e:=by unfold Format.nearest;rw [if_pos rfl,if_pos rfl]
  rw [hn2] at q1
  refine ⟨q,q1,?_⟩
  have e1:(2:Rat) ^ (max (k.format.leastPlace + (Nat.log2 0:Nat) - k.format.fractionBits) k.format.leastPlace)=2 * tK k:=by cases k<;>decide +kernel
  rw [e1] at q2 q3
  have:=X3W k
  simp at q2 q3
  unfold Nr
  simp
  grind
 ·have hl:=X7m h0 h
  obtain ⟨q,q1,q2,q3,-⟩:=X2W k.format neg m e hfb (by
   cases k
   ·have e1:FloatKind.f32.format.leastPlace=-149:=by decide +kernel
    have e2:FloatKind.f32.format.fractionBits=23:=rfl
    have e3:2 ^ FloatKind.f32.format.exponentBits=256:=rfl
    rw [e1,e2,e3];unfold topE at hl;simp only at hl;omega
   ·have e1:FloatKind.f64.format.leastPlace=-1074:=by decide +kernel
    have e2:FloatKind.f64.format.fractionBits=52:=rfl
    have e3:2 ^ FloatKind.f64.format.exponentBits=2048:=rfl
    rw [e1,e2,e3];unfold topE at hl;simp only at hl;omega)
  refine ⟨q,q1,?_⟩
  have hb:(2:Rat) ^ (max (e + m.log2 - k.format.fractionBits) k.format.leastPlace)≤2 * ((m:Rat) * (2:Rat)^e * uK k + tK k):=by
   have ht:=X3W k
   rcases Int.le_total (e + m.log2 - k.format.fractionBits) k.format.leastPlace with hm | hm
   ·rw [Int.max_eq_right hm]
    have e1:(2:Rat) ^ k.format.leastPlace=2 * tK k:=by cases k<;>decide +kernel
    have:=hu _ (X1z m e)
    rw [e1];grind
   ·rw [Int.max_eq_left hm,show e + (m.log2:Int) - k.format.fractionBits=-(k.format.fractionBits:Int) + ((m.log2:Int) + e) from by omega,X9,X9,XB]
    have e1:(2:Rat) ^ (-(k.format.fractionBits:Int))=2 * uK k:=by cases k<;>decide +kernel
    rw [e1]
    have h1:((2 ^ m.log2:Nat):Rat)≤(m:Rat):=Rat.natCast_le_natCast.2 (Nat.log2_self_le h0)
    have h2:=Rat.mul_le_mul_of_nonneg_right h1 (Rat.le_of_lt (Xd e))
    have h3:=Rat.mul_le_mul_of_nonneg_right h2 (show 0≤uK k by cases k<;>decide +kernel)
    grind
  generalize (2:Rat) ^ (max (e + m.log2 - k.format.fractionBits) k.format.leastPlace)=z at *
  unfold Nr
  grind
theorem X1s (k:FloatKind) {d:Datum} {v B:Rat} (hd:vl d=some v) (h1:-B≤v) (h2:v≤B) (hB:B < (2:Rat)^(topE k)) :
  ∃ q,Vl k (k.format.write d) q∧Nr q v (B * uK k + tK k):=by
 cases d with
 | nan s t=>simp [vl] at hd
 | infinity s=>simp [vl] at hd
 | number s m e =>
  simp only [vl,Option.some.injEq] at hd
  have hn:=X1z m e
  have hle:(m:Rat) * (2:Rat)^e≤B:=by
   subst hd;cases s<;>simp only [sg,if_true,if_false,Bool.false_eq_true] at h1 h2<;>grind
  obtain ⟨q,q1,q2⟩:=X9E k s m e (by grind)
  refine ⟨_,q1,?_⟩
  have hu:(m:Rat) * (2:Rat)^e * uK k≤B * uK k:=Rat.mul_le_mul_of_nonneg_right hle (by cases k<;>decide +kernel)
  subst hd
  unfold Nr at *
  cases s<;>simp only [sg,if_true,if_false,Bool.false_eq_true]<;>grind
theorem X2E (s:Bool) (m u:Nat):((signed s m u:Int):Rat)=sg s * ((m:Rat) * (2:Rat)^(u:Int)):=by
 unfold signed sg
 rw [XB,← Rat.natCast_mul,Nat.shiftLeft_eq]
 cases s
 ·simp only [Bool.false_eq_true,if_false,Rat.one_mul,Rat.intCast_natCast]
 ·simp only [if_true];rw [Rat.intCast_neg,Rat.intCast_natCast];grind
theorem X2M {d e:Datum} {a b:Rat} (hd:vl d=some a) (he:vl e=some b):∃ r,d.sum e=some r∧vl r=some (a + b):=by
 cases d with
 | nan s t=>simp [vl] at hd
 | infinity s=>simp [vl] at hd
 | number s m i =>
  cases e with
  | nan s t=>simp [vl] at he
  | infinity s=>simp [vl] at he
  | number t n j =>
   simp only [vl,Option.some.injEq] at hd he
   refine ⟨_,rfl,?_⟩
   simp only [vl,Option.some.injEq]
   generalize hT:signed s m (i - min i j).toNat + signed t n (j - min i j).toNat=T
   have hv:(T:Rat) * (2:Rat)^(min i j)=a + b:=by
    rw [← hT,Rat.intCast_add,X2E,X2E,← hd,← he]
    have e1:(2:Rat)^i=(2:Rat)^(((i - min i j).toNat:Nat):Int) * (2:Rat)^(min i j):=by rw [← X9];congr 1;omega
    have e2:(2:Rat)^j=(2:Rat)^(((j - min i j).toNat:Nat):Int) * (2:Rat)^(min i j):=by rw [← X9];congr 1;omega
    rw [e1,e2];grind
   rw [← hv]
   by_cases h0:T=0
   ·subst h0;simp
   ·rw [if_neg h0]
    by_cases h1:T < 0
    ·simp only [h1,decide_true,sg,if_true]
     have:((T.natAbs:Nat):Rat)=-(T:Rat):=by
      have e:((T.natAbs:Nat):Int)=-T:=by omega
      rw [← Rat.intCast_neg,← e];rfl
     rw [this];grind
    ·simp only [h1,decide_false,sg,Bool.false_eq_true,if_false]
     have:((T.natAbs:Nat):Rat)=(T:Rat):=by
      have e:((T.natAbs:Nat):Int)=T:=by omega
      rw [← Rat.intCast_natCast,e]
     rw [this];grind
theorem X4e {d:Datum} {a:Rat} (hd:vl d=some a):vl d.opposite=some (-a):=by
 cases d with
 | nan s t=>simp [vl] at hd
 | infinity s=>simp [vl] at hd
 | number s m i =>
  simp only [vl,Option.some.injEq,Datum.opposite] at hd ⊢
  subst hd
  cases s<;>simp [sg]<;>grind
theorem X4C {d e:Datum} {a b:Rat} (hd:vl d=some a) (he:vl e=some b):∃ r,d.product e=some r∧vl r=some (a * b):=by
 cases d with
 | nan s t=>simp [vl] at hd
 | infinity s=>simp [vl] at hd
 | number s m i =>
  cases e with
  | nan s t=>simp [vl] at he
  | infinity s=>simp [vl] at he
  | number t n j =>
   simp only [vl,Option.some.injEq] at hd he
   refine ⟨_,rfl,?_⟩
   simp only [vl,Option.some.injEq]
   rw [← hd,← he,X9a,Rat.natCast_mul,X9]
   grind
theorem X5r (k:FloatKind) (x y:Nat):fop .add k x y=(((k.format.read x).sum (k.format.read y)).map k.format.write).getD (Xn k):=by cases k<;>rfl
theorem X4f (k:FloatKind) (x y:Nat):fop .sub k x y=(((k.format.read x).sum (k.format.read y).opposite).map k.format.write).getD (Xn k):=by cases k<;>rfl
theorem X4D (k:FloatKind) (x y:Nat):fop .mul k x y=(((k.format.read x).product (k.format.read y)).map k.format.write).getD (Xn k):=by cases k<;>rfl
theorem Xai (k:FloatKind) (x y:Nat):fop .quo k x y=(((k.format.read x).quotient (k.format.fractionBits + 2) (k.format.read y)).map k.format.write).getD (Xn k):=by cases k<;>rfl
theorem addV {k:FloatKind} {x y:Nat} {a b:Rat} (hx:Vl k x a) (hy:Vl k y b) {B:Rat} (h1:-B≤a + b) (h2:a + b≤B) (hB:B < (2:Rat)^(topE k)) :
  ∃ q,Vl k (fop .add k x y) q∧Nr q (a + b) (B * uK k + tK k):=by
 obtain ⟨r,r1,r2⟩:=X2M hx hy
 rw [X5r,r1]
 exact X1s k r2 h1 h2 hB
theorem subV {k:FloatKind} {x y:Nat} {a b:Rat} (hx:Vl k x a) (hy:Vl k y b) {B:Rat} (h1:-B≤a - b) (h2:a - b≤B) (hB:B < (2:Rat)^(topE k)) :
  ∃ q,Vl k (fop .sub k x y) q∧Nr q (a - b) (B * uK k + tK k):=by
 obtain ⟨r,r1,r2⟩:=X2M hx (X4e hy)
 rw [X4f,r1]
 rw [← Rat.sub_eq_add_neg] at r2
 exact X1s k r2 h1 h2 hB
theorem mulV {k:FloatKind} {x y:Nat} {a b:Rat} (hx:Vl k x a) (hy:Vl k y b) {B:Rat} (h1:-B≤a * b) (h2:a * b≤B) (hB:B < (2:Rat)^(topE k)) :
  ∃ q,Vl k (fop .mul k x y) q∧Nr q (a * b) (B * uK k + tK k):=by
 obtain ⟨r,r1,r2⟩:=X4C hx hy
 rw [X4D,r1]
 exact X1s k r2 h1 h2 hB
end Go.Ab

set_option linter.unusedVariables false
set_option linter.unusedSimpArgs false
namespace Go.Ab
open Ieee
theorem qa1 {X N I:Rat} (h:I * N=1):X * N * I=X:=by grind
theorem qa2 {M P N I:Rat} (h:I * N=1):(2 * (M * P) + N) * I=2 * (M * P * I) + 1:=by grind
theorem qa3 {M P I:Rat}:2 * (M * P) * I=2 * (M * P * I):=by grind
theorem qa4 {X N I:Rat} (h:I * N=1):(X * N + N) * I=X + 1:=by grind
theorem qa5 {A d z:Rat} (h:d * (2 * A)=1):2 * (A * z * d)=z:=by grind
theorem qa6 {A B d:Rat} (h:2 * A=B):2 * (A * d)=B * d:=by grind
theorem qa7 {A B C D E:Rat} (h:A≤B) (h1:2 * A=C) (h2:2 * B=D):C≤D:=by grind
theorem qa8 {X Y z B:Rat} (h:X * z≤(Y + 1) * z) (h1:Y * z=B):X * z≤B + z:=by grind
theorem qa9 {X Y z B:Rat} (h:Y * z≤(X + 1) * z) (h1:Y * z=B):B≤X * z + z:=by grind
theorem qa10 {X z y d:Rat} {b:Bool} (k1:X * z≤y + z) (k2:y≤X * z + z) (h:z≤d):Nr (sg b * (X * z)) (sg b * y) d:=by
 unfold Nr
 cases b<;>simp only [sg,if_true,if_false,Bool.false_eq_true]<;>grind
theorem X9F {D:Nat} {d e:Datum} {a b:Rat} (hd:vl d=some a) (he:vl e=some b) (hb:b≠0) :
  ∃ r v,d.quotient (D + 1) e=some r∧vl r=some v∧∃ w,w * b=a∧(∀ B,-B≤w→w≤B→Nr v w (B * (2:Rat) ^ (-(D:Int) - 1))):=by
 cases d with
 | nan s t=>simp [vl] at hd
 | infinity s=>simp [vl] at hd
 | number s m i =>
  cases e with
  | nan s t=>simp [vl] at he
  | infinity s=>simp [vl] at he
  | number t n j =>
   simp only [vl,Option.some.injEq] at hd he
   have hn:n≠0:=by
    intro h;subst h;apply hb;rw [← he];simp
   simp only [Datum.quotient,if_neg hn]
   generalize hmore:D + 1 + n.log2 - m.log2=more
   refine ⟨_,_,rfl,rfl,?_⟩
   have npos:0 < n:=by omega
   generalize hq:m <<< more / n=Q
   generalize hr:m <<< more % n=R
   have hdm:n * Q + R=m <<< more:=by rw [← hq,← hr];exact Nat.div_add_mod _ _
   have hR:R < n:=by rw [← hr];exact Nat.mod_lt _ npos
   rw [Nat.shiftLeft_eq] at hdm
   have nq:(0:Rat) < (n:Rat):=Rat.natCast_pos.2 npos
   refine ⟨sg (s ^^ t) * ((m:Rat) * (n:Rat)⁻¹ * (2:Rat)^(i - j)),?_,?_⟩
   ·rw [← hd,← he,X9a,show i=(i - j) + j from by omega,X9,show (i - j) + j - j=i - j from by omega]
    have h1:=Rat.inv_mul_cancel (n:Rat) (by grind)
    have h2:=X9S t
    grind
   ·intro B hB1 hB2
    by_cases hm:m=0
    ·subst hm
     have hz:n * Q + R=0:=by rw [hdm];simp
     have hR0:R=0:=by omega
     have hQ0:Q=0:=by
      rcases Nat.mul_eq_zero.1 (show n * Q=0 by omega) with h | h
      ·omega
      ·exact h
     subst hQ0 hR0
     have h0:(0:Rat)≤B:=by simp at hB1 hB2;grind
     have:=Rat.mul_nonneg h0 (Rat.le_of_lt (Xd (-(D:Int) - 1)))
     unfold Nr
     simp
     grind
    have hE:(2:Rat)^(i - j - (more:Int) - 1) * (2 * ((2 ^ more:Nat):Rat))=(2:Rat)^(i - j):=by
     rw [show i - j=(i - j - (more:Int) - 1) + 1 + (more:Int) from by omega,X9,X9,XB,Rat.zpow_one,show i - j - (more:Int) - 1 + 1 + more - more - 1=i - j - (more:Int) - 1 from by omega]
     grind
    generalize hz:(2:Rat)^(i - j - (more:Int) - 1)=z at *
    have zpos:0 < z:=by rw [← hz];exact Xd _
    generalize hst:(R != 0).toNat=st
    have hst1:(st=0∧R=0)∨(st=1∧1≤R):=by
     rw [← hst]
     by_cases h0:R=0
     ·left;subst h0;exact ⟨rfl,rfl⟩
     ·right;exact ⟨by simp [h0],by omega⟩
    have c1:(2 * Q + st) * n≤2 * (m * 2 ^ more) + n:=by
     rw [← hdm,Nat.add_mul,Nat.mul_add,Nat.mul_assoc,Nat.mul_comm Q n]
     rcases hst1 with ⟨h1,h2⟩ | ⟨h1,h2⟩<;>subst h1<;>omega
    have c2:2 * (m * 2 ^ more)≤(2 * Q + st) * n + n:=by
     rw [← hdm,Nat.add_mul,Nat.mul_add,Nat.mul_assoc,Nat.mul_comm Q n]
     rcases hst1 with ⟨h1,h2⟩ | ⟨h1,h2⟩<;>subst h1<;>omega
    have c3:2 ^ D * n≤m * 2 ^ more:=by
     have h1:2 ^ m.log2 * 2 ^ more≤m * 2 ^ more:=Nat.mul_le_mul_right _ (Nat.log2_self_le hm)
     have h2:n < 2 ^ (n.log2 + 1):=Nat.lt_log2_self
     have h3:2 ^ D * n≤2 ^ D * 2 ^ (n.log2 + 1):=Nat.mul_le_mul_left _ (by omega)
     rw [← Nat.pow_add] at h1 h3
     have h4:2 ^ (D + (n.log2 + 1))≤2 ^ (m.log2 + more):=Nat.pow_le_pow_right (by omega) (by omega)
     omega
    have d1:(((2 * Q + st) * n:Nat):Rat)≤((2 * (m * 2 ^ more) + n:Nat):Rat):=Rat.natCast_le_natCast.2 c1
    have d2:((2 * (m * 2 ^ more):Nat):Rat)≤(((2 * Q + st) * n + n:Nat):Rat):=Rat.natCast_le_natCast.2 c2
    have d3:((2 ^ D * n:Nat):Rat)≤((m * 2 ^ more:Nat):Rat):=Rat.natCast_le_natCast.2 c3
    simp only [Rat.natCast_mul (2 * Q + st),Rat.natCast_mul _ n,Rat.natCast_mul m,Rat.natCast_mul 2 (m * 2 ^ more),Rat.natCast_add _ n,Rat.natCast_ofNat] at d1 d2 d3
    have ninv:(n:Rat)⁻¹ * (n:Rat)=1:=Rat.inv_mul_cancel (n:Rat) (by grind)
    have ninv0:0≤(n:Rat)⁻¹:=Rat.le_of_lt (Rat.inv_pos.2 nq)
    generalize hX:((2 * Q + st:Nat):Rat)=X at *
    generalize hP:((2 ^ more:Nat):Rat)=P at *
    generalize hI:(n:Rat)⁻¹=I at *
    generalize hN:(n:Rat)=N at *
    generalize hM:(m:Rat)=M at *
    generalize hDD:((2 ^ D:Nat):Rat)=DD at *
    have e1:=Rat.mul_le_mul_of_nonneg_right d1 ninv0
    have e2:=Rat.mul_le_mul_of_nonneg_right d2 ninv0
    have e3:=Rat.mul_le_mul_of_nonneg_right d3 ninv0
    have t1:X * N * I=X:=qa1 ninv
    have t2:(2 * (M * P) + N) * I=2 * (M * P * I) + 1:=qa2 ninv
    have t3:2 * (M * P) * I=2 * (M * P * I):=qa3
    have t4:(X * N + N) * I=X + 1:=qa4 ninv
    have t5:DD * N * I=DD:=qa1 ninv
    have f1:X≤2 * (M * P * I) + 1:=by rw [← t1,← t2];exact e1
    have f2:2 * (M * P * I)≤X + 1:=by rw [← t3,← t4];exact e2
    have f3:DD≤M * P * I:=by rw [← t5];exact e3
    have g1:=Rat.mul_le_mul_of_nonneg_right f1 (Rat.le_of_lt zpos)
    have g2:=Rat.mul_le_mul_of_nonneg_right f2 (Rat.le_of_lt zpos)
    have g3:=Rat.mul_le_mul_of_nonneg_right f3 (Rat.le_of_lt zpos)
    have hw:2 * (M * P * I) * z=M * I * (2:Rat)^(i - j):=by rw [← hE];grind
    have hDz:(2:Rat) ^ (-(D:Int) - 1) * (2 * DD)=1:=by
     rw [← hDD,← XB,show (-(D:Int) - 1)=-((D:Int) + 1) from by omega,Rat.zpow_neg]
     have:(2:Rat) ^ ((D:Int) + 1)=2 * (2:Rat)^(D:Int):=by rw [X9,Rat.zpow_one];grind
     rw [this]
     exact Rat.inv_mul_cancel _ (by have:=Xd (D:Int);grind)
    have hdz:=Xd (-(D:Int) - 1)
    generalize (2:Rat) ^ (-(D:Int) - 1)=dz at *
    generalize (2:Rat)^(i - j)=y at *
    have hz1:z≤M * I * y * dz:=by
     have h3:=Rat.mul_le_mul_of_nonneg_right g3 (Rat.le_of_lt hdz)
     have h4:2 * (DD * z * dz)=z:=qa5 hDz
     have h5:2 * (M * P * I * z * dz)=M * I * y * dz:=qa6 (by rw [← hw];exact (Rat.mul_assoc ..).symm)
     exact qa7 (E:=0) h3 h4 h5
    have hMB:M * I * y≤B:=by
     cases hs:(s ^^ t)<;>simp only [hs,sg,if_true,if_false,Bool.false_eq_true] at hB1 hB2<;>grind
    have hz2:z≤B * dz:=by
     have:=Rat.mul_le_mul_of_nonneg_right hMB (Rat.le_of_lt hdz)
     exact Rat.le_trans hz1 this
    have k1:X * z≤M * I * y + z:=qa8 g1 hw
    have k2:M * I * y≤X * z + z:=qa9 g2 hw
    exact qa10 k1 k2 hz2
theorem quoV {k:FloatKind} {x y:Nat} {a b:Rat} (hx:Vl k x a) (hy:Vl k y b) (hb:b≠0) {B w:Rat} (hw:w * b=a) (h1:-B≤w) (h2:w≤B) (hB:2 * B < (2:Rat)^(topE k)) :
  ∃ q,Vl k (fop .quo k x y) q∧Nr q w (3 * B * uK k + tK k):=by
 obtain ⟨r,v,r1,r2,w',hw',r3⟩:=X9F (D:=k.format.fractionBits + 1) hx hy hb
 have hww:w'=w:=by
  have h:=Rat.mul_inv_cancel b hb
  have e1:w' * b * b⁻¹=w * b * b⁻¹:=by rw [hw',hw]
  rw [Rat.mul_assoc,Rat.mul_assoc,h,Rat.mul_one,Rat.mul_one] at e1
  exact e1
 subst hww
 have r3:=r3 B h1 h2
 have B0:0≤B:=by grind
 have he:(2:Rat) ^ (-((k.format.fractionBits + 1:Nat):Int) - 1)≤uK k:=by cases k<;>decide +kernel
 have hu:uK k≤1 / 4:=by cases k<;>decide +kernel
 have he2:=Rat.mul_le_mul_of_nonneg_left he B0
 have hu2:=Rat.mul_le_mul_of_nonneg_left hu B0
 generalize B * (2:Rat) ^ (-((k.format.fractionBits + 1:Nat):Int) - 1)=z at *
 unfold Nr at r3
 obtain ⟨q,q1,q2⟩:=X1s k (B:=2 * B) r2 (by grind) (by grind) hB
 rw [Xai,r1]
 refine ⟨q,q1,?_⟩
 unfold Nr at *
 grind
theorem X5M {a b e:Rat} (he:0 < e):a * e < b * e↔a < b:=Rat.mul_lt_mul_right he
theorem X2v {d e:Datum} {a b:Rat} (hd:vl d=some a) (he:vl e=some b):d.order e=some (if a < b then .lt else if a=b then .eq else .gt):=by
 cases d with
 | nan s t=>simp [vl] at hd
 | infinity s=>simp [vl] at hd
 | number s m i =>
  cases e with
  | nan s t=>simp [vl] at he
  | infinity s=>simp [vl] at he
  | number t n j =>
   simp only [vl,Option.some.injEq] at hd he
   simp only [Datum.order]
   have hz:=Xd (min i j)
   have ha:((signed s m (i - min i j).toNat:Int):Rat) * (2:Rat)^(min i j)=a:=by
    rw [X2E,← hd]
    have e1:(2:Rat)^i=(2:Rat)^(((i - min i j).toNat:Nat):Int) * (2:Rat)^(min i j):=by rw [← X9];congr 1;omega
    rw [e1];grind
   have hb:((signed t n (j - min i j).toNat:Int):Rat) * (2:Rat)^(min i j)=b:=by
    rw [X2E,← he]
    have e1:(2:Rat)^j=(2:Rat)^(((j - min i j).toNat:Nat):Int) * (2:Rat)^(min i j):=by rw [← X9];congr 1;omega
    rw [e1];grind
   generalize signed s m (i - min i j).toNat=A at *
   generalize signed t n (j - min i j).toNat=B at *
   generalize (2:Rat)^(min i j)=z at *
   congr 1
   rcases Int.lt_trichotomy A B with h | h | h
   ·have hc:compare A B = .lt:=Int.compare_eq_lt.2 h
    have:a < b:=by rw [← ha,← hb,X5M hz];exact Rat.intCast_lt_intCast.2 h
    rw [hc,if_pos this]
   ·subst h
    have hc:compare A A = .eq:=by simp
    have:a=b:=by rw [← ha,← hb]
    rw [hc,if_neg (by grind),if_pos this]
   ·have hc:compare A B = .gt:=Int.compare_eq_gt.2 h
    have:b < a:=by rw [← ha,← hb,X5M hz];exact Rat.intCast_lt_intCast.2 h
    rw [hc,if_neg (by grind),if_neg (by grind)]
theorem lssV {k:FloatKind} {x y:Nat} {a b:Rat} (hx:Vl k x a) (hy:Vl k y b):fcmp .lss k x y=decide (a < b):=by
 show ((k.format.read x).order (k.format.read y) == some .lt)=_
 rw [X2v hx hy]
 by_cases h:a < b
 ·simp [h]
 ·by_cases h2:a=b
  ·subst h2;simp
  ·simp [h,h2]
theorem gtrV {k:FloatKind} {x y:Nat} {a b:Rat} (hx:Vl k x a) (hy:Vl k y b):fcmp .gtr k x y=decide (b < a):=by
 show ((k.format.read x).order (k.format.read y) == some .gt)=_
 rw [X2v hx hy]
 by_cases h:a < b
 ·have:¬ b < a:=by grind
  simp [h,this]
 ·by_cases h2:a=b
  ·subst h2;simp
  ·have:b < a:=by grind
   simp [h,h2,this]
theorem eqlV {k:FloatKind} {x y:Nat} {a b:Rat} (hx:Vl k x a) (hy:Vl k y b):fcmp .eql k x y=decide (a=b):=by
 show ((k.format.read x).order (k.format.read y) == some .eq)=_
 rw [X2v hx hy]
 by_cases h:a < b
 ·have:¬ a=b:=by grind
  simp [h,this]
 ·by_cases h2:a=b
  ·subst h2;simp
  ·simp [h,h2]
theorem geqV {k:FloatKind} {x y:Nat} {a b:Rat} (hx:Vl k x a) (hy:Vl k y b):fcmp .geq k x y=decide (b≤a):=by
 show ((k.format.read x).order (k.format.read y) == some .gt || (k.format.read x).order (k.format.read y) == some .eq)=_
 rw [X2v hx hy]
 by_cases h:a < b
 ·have:¬ b≤a:=by grind
  simp [h,this]
 ·by_cases h2:a=b
  ·subst h2;simp
  ·have:b≤a:=by grind
   simp [h,h2,this]
theorem X9G {d:Datum} {v:Rat} {S:Int} (h:vl d=some v) (h1:-(2:Rat)^(S+1) < v) (h2:v < (2:Rat)^(S+1)):X1b d S:=by
 intro s m e hd
 subst hd
 simp only [vl,Option.some.injEq] at h
 by_cases h0:m=0
 ·exact .inl h0
 ·right
  have:=X7m (K:=S + 1) (e:=e) h0 (by
   subst h
   cases s<;>simp only [sg,if_true,if_false,Bool.false_eq_true] at h1 h2<;>grind)
  omega
theorem X5s {x:Nat} {v:Rat} (h:Vl .f64 x v) (h1:-1329227995784915872903807060280344576≤v) (h2:v≤1329227995784915872903807060280344576):XG .f64 .f32 x=true:=by
 have e:(1329227995784915872903807060280344576:Rat) < (2:Rat)^((120:Int) + 1):=by decide +kernel
 exact X7a (S:=120) (X9G h (by grind) (by grind)) (by omega)
end Go.Ab

set_option linter.unusedVariables false
set_option linter.unusedSimpArgs false
namespace Go.Ab
open Ieee
theorem X1K {w:Nat} (h:Nw w):Vl .f64 w (((4503599627370496 + w % 4503599627370496:Nat):Rat) * (2:Rat)^(-1074 + ((fld w - 1:Nat):Int))):=by
 show vl (double.read w)=_
 rw [X2K h]
 simp [vl,sg]
theorem X8B {w:Nat} (h:Nw w) {v:Rat} (hv:Vl .f64 w v) (E:Int) (hE:E≤(fld w:Int) - 1023):(2:Rat)^E≤v:=by
 have e:=X1K h
 unfold Vl at *
 rw [e,Option.some.injEq] at hv
 have hf:1≤fld w:=by unfold fld;have:=h.1;omega
 have h1:((2 ^ 52:Nat):Rat)≤((4503599627370496 + w % 4503599627370496:Nat):Rat):=Rat.natCast_le_natCast.2 (by simp only [Nat.reducePow];omega)
 have h2:=Rat.mul_le_mul_of_nonneg_right h1 (Rat.le_of_lt (Xd (-1074 + ((fld w - 1:Nat):Int))))
 rw [← XB,← X9] at h2
 have h3:=X2L (a:=E) (b:=((52:Nat):Int) + (-1074 + ((fld w - 1:Nat):Int))) (by omega)
 grind
theorem X9T {w:Nat} (h:Nw w) {v:Rat} (hv:Vl .f64 w v) (E:Int) (hE:(fld w:Int) - 1022≤E):v < (2:Rat)^E:=by
 have e:=X1K h
 unfold Vl at *
 rw [e,Option.some.injEq] at hv
 have hf:1≤fld w:=by unfold fld;have:=h.1;omega
 have h1:((4503599627370496 + w % 4503599627370496:Nat):Rat) < ((2 ^ 53:Nat):Rat):=Rat.natCast_lt_natCast.2 (by simp only [Nat.reducePow];have:=Nat.mod_lt w (show 0 < 4503599627370496 by omega);omega)
 have h2:=Rat.mul_lt_mul_of_pos_right h1 (Xd (-1074 + ((fld w - 1:Nat):Int)))
 rw [← XB,← X9] at h2
 have h3:=X2L (a:=((53:Nat):Int) + (-1074 + ((fld w - 1:Nat):Int))) (b:=E) (by omega)
 grind
theorem c075:Vl .f64 4604930618986332160 (3/4):=by unfold Vl;decide +kernel
theorem c150:Vl .f64 4609434218613702656 (3/2):=by unfold Vl;decide +kernel
theorem cOne:Vl .f64 4607182418800017408 1:=by unfold Vl;decide +kernel
theorem cTwo:Vl .f64 4611686018427387904 2:=by unfold Vl;decide +kernel
theorem cLn2:Vl .f64 4604418534313441775 (6243314768165359/9007199254740992):=by unfold Vl;decide +kernel
theorem X9H {w:Nat} (h:Nw w) (hg:fcmp .geq .f64 w 4609434218613702656=false):fld w≤1023:=by
 refine Nat.not_lt.1 fun hlt => ?_
 have h1:=X8B h (X1K h) 1 (by omega)
 rw [geqV (X1K h) c150] at hg
 have:=of_decide_eq_false hg
 rw [Rat.zpow_one] at h1
 grind
theorem X9I {w:Nat} (h:Nw w) (hg:fcmp .lss .f64 w 4604930618986332160=false):1022≤fld w:=by
 refine Nat.not_lt.1 fun hlt => ?_
 have h1:=X9T h (X1K h) (-1) (by omega)
 rw [lssV (X1K h) c075] at hg
 have:=of_decide_eq_false hg
 have e:(2:Rat)^(-1:Int)=1/2:=by decide +kernel
 rw [e] at h1
 grind
theorem X4E:∀ e:Int,-600≤e→e≤600→Vl .f64 (X4 .f64 e) (e:Rat):=by
 have h:(List.range 1201).all (fun n=>decide (vl (double.read (X4 .f64 ((n:Int) - 600)))=some (((n:Int) - 600:Int):Rat)))=true:=by decide +kernel
 intro e h1 h2
 have:=(List.all_eq_true.1 h) (e + 600).toNat (List.mem_range.2 (by omega))
 have q:=of_decide_eq_true this
 rw [show (((e + 600).toNat:Nat):Int) - 600=e from by omega] at q
 exact q
theorem X9b:∀ e:Int,1≤e→e≤25→∃ r,Vl .f64 (fop .quo .f64 4607182418800017408 (X4 .f64 e)) r∧0≤r∧r≤1:=by
 have h:(List.range 26).all (fun n=>n == 0 || match vl (double.read (fop .quo .f64 4607182418800017408 (X4 .f64 (n:Int)))) with | some r=>decide (0≤r) && decide (r≤1) | none=>false)=true:=by decide +kernel
 intro e h1 h2
 have:=(List.all_eq_true.1 h) e.toNat (List.mem_range.2 (by omega))
 rw [show ((e.toNat:Nat):Int)=e from by omega,show (e.toNat == 0)=false from by rw [beq_eq_false_iff_ne];omega,Bool.false_or] at this
 unfold Vl
 cases hq:vl (double.read (fop .quo .f64 4607182418800017408 (X4 .f64 e))) with
 | none=>rw [hq] at this;cases this
 | some r =>
  rw [hq] at this
  simp only [Bool.and_eq_true,decide_eq_true_eq] at this
  exact ⟨r,hq,this.1,this.2⟩
theorem u64:uK .f64=1 / 9007199254740992:=rfl
theorem t64:tK .f64≤1 / 1000000000000000000000000000000:=X3F _
theorem t64p:0 < tK .f64:=X3W _
theorem X1j {x:Rat} (h:x≤1000000000000):x < (2:Rat)^(topE .f64):=by
 have e:(1000000000000:Rat) < (2:Rat)^(topE .f64):=by decide +kernel
 grind
theorem mul_le_mul' {a b A B:Rat} (h1:-A≤a) (h2:a≤A) (h3:-B≤b) (h4:b≤B):-(A * B)≤a * b∧a * b≤A * B:=by
 have p1:=Rat.mul_nonneg (show 0≤A - a by grind) (show 0≤B + b by grind)
 have p2:=Rat.mul_nonneg (show 0≤A + a by grind) (show 0≤B - b by grind)
 have p3:=Rat.mul_nonneg (show 0≤A - a by grind) (show 0≤B - b by grind)
 have p4:=Rat.mul_nonneg (show 0≤A + a by grind) (show 0≤B + b by grind)
 constructor<;>grind
theorem X9J {u q:Nat} {a b:Rat} {k:Int} (hu:Vl .f64 u a) (a1:-(1/2)≤a) (a2:a≤1/2) (hq:Vl .f64 q b) (b1:-3≤b) (b2:b≤3) (k1:1≤k) (k2:k≤25) :
  ∃ r,Vl .f64 (fop .add .f64 (fop .quo .f64 4607182418800017408 (X4 .f64 k)) (fop .mul .f64 u q)) r∧-3≤r∧r≤3:=by
 obtain ⟨i,i1,i2,i3⟩:=X9b k k1 k2
 obtain ⟨m1,m2⟩:=mul_le_mul' a1 a2 b1 b2
 obtain ⟨p,p1,p2⟩:=mulV hu hq (B:=1/2*3) m1 m2 (X1j (by decide +kernel))
 have:=t64;have:=t64p
 unfold Nr at p2
 rw [u64] at p2
 obtain ⟨r,r1,r2⟩:=addV i1 p1 (B:=2.75) (by grind) (by grind) (X1j (by decide +kernel))
 unfold Nr at r2
 rw [u64] at r2
 exact ⟨r,r1,by grind,by grind⟩
theorem X9U {y:Nat} (h:Nw y) (h1:1022≤fld y) (h2:fld y≤1023):∃ a,Vl .f64 (fop .quo .f64 (fop .sub .f64 y 4607182418800017408) (fop .add .f64 y 4607182418800017408)) a∧-(7/10)≤a∧a≤7/10:=by
 have hv:=X1K h
 have l:=X8B h hv (-1) (by omega)
 have g:=X9T h hv 1 (by omega)
 have e:(2:Rat)^(-1:Int)=1/2:=by decide +kernel
 rw [e] at l
 rw [Rat.zpow_one] at g
 generalize (((4503599627370496 + y % 4503599627370496:Nat):Rat) * (2:Rat)^(-1074 + ((fld y - 1:Nat):Int)))=v at *
 have:=t64;have:=t64p
 obtain ⟨a,a1,a2⟩:=subV hv cOne (B:=1) (by grind) (by grind) (X1j (by decide +kernel))
 obtain ⟨b,b1,b2⟩:=addV hv cOne (B:=3) (by grind) (by grind) (X1j (by decide +kernel))
 unfold Nr at a2 b2
 rw [u64] at a2 b2
 have b0:b≠0:=by grind
 have hw:a / b * b=a:=Rat.div_mul_cancel b0
 have w1:a / b≤69/100:=by
  refine Rat.not_lt.1 fun hc => ?_
  have:=Rat.mul_lt_mul_of_pos_right hc (show 0 < b by grind)
  grind
 have w2:-(69/100)≤a / b:=by
  refine Rat.not_lt.1 fun hc => ?_
  have:=Rat.mul_lt_mul_of_pos_right hc (show 0 < b by grind)
  grind
 obtain ⟨q,q1,q2⟩:=quoV a1 b1 b0 hw w2 w1 (X1j (by decide +kernel))
 unfold Nr at q2
 rw [u64] at q2
 exact ⟨q,q1,by grind,by grind⟩
theorem XaU {s:Nat} {a:Rat} (h:Vl .f64 s a) (h1:-(7/10)≤a) (h2:a≤7/10):∃ r,Vl .f64 (fop .mul .f64 s s) r∧-(1/2)≤r∧r≤1/2:=by
 obtain ⟨m1,m2⟩:=mul_le_mul' h1 h2 h1 h2
 obtain ⟨p,p1,p2⟩:=mulV h h (B:=7/10*(7/10)) m1 m2 (X1j (by decide +kernel))
 have:=t64;have:=t64p
 unfold Nr at p2
 rw [u64] at p2
 exact ⟨p,p1,by grind,by grind⟩
theorem Xaj {s q:Nat} {a b:Rat} {e:Int} (hs:Vl .f64 s a) (a1:-(7/10)≤a) (a2:a≤7/10) (hq:Vl .f64 q b) (b1:-3≤b) (b2:b≤3) (e1:-230≤e) (e2:e≤230) :
  ∃ r,Vl .f64 (fop .add .f64 (fop .mul .f64 4611686018427387904 (fop .mul .f64 s q)) (fop .mul .f64 (X4 .f64 e) 4604418534313441775)) r∧-165≤r∧r≤165:=by
 have:=t64;have:=t64p
 obtain ⟨m1,m2⟩:=mul_le_mul' a1 a2 b1 b2
 obtain ⟨p,p1,p2⟩:=mulV hs hq (B:=7/10*3) m1 m2 (X1j (by decide +kernel))
 unfold Nr at p2
 rw [u64] at p2
 obtain ⟨m,m1,m2⟩:=mulV cTwo p1 (B:=4.3) (by grind) (by grind) (X1j (by decide +kernel))
 unfold Nr at m2
 rw [u64] at m2
 have he1:((-230:Int):Rat)≤(e:Rat):=Rat.intCast_le_intCast.2 e1
 have he2:(e:Rat)≤((230:Int):Rat):=Rat.intCast_le_intCast.2 e2
 have x1:((-230:Int):Rat)=-230:=rfl
 have x2:((230:Int):Rat)=230:=rfl
 rw [x1] at he1
 rw [x2] at he2
 obtain ⟨n,n1,n2⟩:=mulV (X4E e (by omega) (by omega)) cLn2 (B:=160) (by grind) (by grind) (X1j (by decide +kernel))
 unfold Nr at n2
 rw [u64] at n2
 obtain ⟨r,r1,r2⟩:=addV m1 n1 (B:=164.5) (by grind) (by grind) (X1j (by decide +kernel))
 unfold Nr at r2
 rw [u64] at r2
 exact ⟨r,r1,by grind,by grind⟩
theorem X7n {x:Nat} (h1:fcmp .neq .f64 (fcv .f32 .f64 x) (fcv .f32 .f64 x)=false) (h2:fcmp .lss .f64 (fcv .f32 .f64 x) 0=false) (h3:fcmp .eql .f64 (fcv .f32 .f64 x) 0=false) (h4:fcmp .gtr .f64 (fcv .f32 .f64 x) 9218868437227405311=false) :
  Nw (fcv .f32 .f64 x)∧800≤fld (fcv .f32 .f64 x)∧fld (fcv .f32 .f64 x)≤1200:=by
 have hf:=X2f x
 cases hr:single.read x with
 | nan s t =>
  exfalso
  rw [hr] at hf
  have:fcv .f32 .f64 x=Xn .f64:=hf
  rw [this] at h1
  revert h1;decide +kernel
 | infinity s =>
  exfalso
  rw [hr] at hf
  cases s with
  | false =>
   have:fcv .f32 .f64 x=9218868437227405312:=hf
   rw [this] at h4
   revert h4;decide +kernel
  | true =>
   have:fcv .f32 .f64 x=18442240474082181120:=hf
   rw [this] at h2
   revert h2;decide +kernel
 | number s m e =>
  rw [hr] at hf
  have hf:fcv .f32 .f64 x=double.nearest s m e:=hf
  obtain ⟨p1,p2,p3⟩:=XR (x:=x) hr
  have z64:Vl .f64 0 0:=by unfold Vl;decide +kernel
  by_cases m0:m=0
  ·exfalso
   subst m0
   have:fcv .f32 .f64 x=double.word s 0:=by rw [hf];unfold Format.nearest;rw [if_pos rfl]
   rw [this] at h3
   cases s<;>(revert h3;decide +kernel)
  have hl:m.log2≤23:=X2z p1 m0
  cases s with
  | false =>
   rw [hf]
   obtain ⟨q1,q2⟩:=X4B (p:=e) m0 (by omega) (by omega) (by omega)
   exact ⟨q1,by omega,by omega⟩
  | true =>
   exfalso
   have hn:double.nearest true m e=double.signWeight + double.nearest false m e:=by
    unfold Format.nearest
    rw [if_neg m0,if_neg m0]
    unfold Format.word
    simp only [if_true,Bool.false_eq_true,if_false]
    rfl
   obtain ⟨q1,q2⟩:=X4B (p:=e) m0 (by omega) (by omega) (by omega)
   have hr2:double.read (double.nearest true m e)=(double.read (double.nearest false m e)).opposite:=by
    rw [hn]
    generalize double.nearest false m e=w at *
    obtain ⟨a,b⟩:=q1
    have hs:double.signWeight=9223372036854775808:=by decide +kernel
    unfold Format.read
    rw [hs,show (9223372036854775808 + w) % 9223372036854775808=w from by omega,show (9223372036854775808 + w) / 9223372036854775808=1 from by omega,show w % 9223372036854775808=w from by omega,show w / 9223372036854775808=0 from by omega]
    simp only [Datum.opposite]
    split
    ·rfl
    ·split
     ·rfl
     ·split<;>rfl
   have hv:=X1K q1
   have hv2:Vl .f64 (fcv .f32 .f64 x) (-(((4503599627370496 + double.nearest false m e % 4503599627370496:Nat):Rat) * (2:Rat)^(-1074 + ((fld (double.nearest false m e) - 1:Nat):Int)))):=by
    rw [hf]
    show vl (double.read (double.nearest true m e))=_
    rw [hr2]
    exact X4e hv
   rw [lssV hv2 z64] at h2
   have h2:=of_decide_eq_false h2
   have:=X8B q1 hv ((fld (double.nearest false m e):Int) - 1023) (by omega)
   have:=Xd ((fld (double.nearest false m e):Int) - 1023)
   grind
theorem Xak {d:Datum} {s:Bool} {t:Nat} (hr:d = .nan s t):d.sum d.opposite=none:=by
 rw [hr];rfl
theorem X5N {x:Nat} (h:(FloatKind.f32.format.read x).sum (FloatKind.f32.format.read x).opposite=none):fop .sub .f32 x x=Xn .f32:=by
 rw [X4f,h];rfl
theorem X9c {x:Nat} (h3:fcmp .eql .f32 (fop .sub .f32 x x) 0=true) (hs:fop .sub .f32 x x=Xn .f32):False:=by
 rw [hs] at h3
 revert h3;decide +kernel
theorem X2j {x:Nat} (h1:fcmp .eql .f32 x 0=false) (h2:fcmp .lss .f32 x 0=false) (h3:fcmp .eql .f32 (fop .sub .f32 x x) 0=true):fcmp .gtr .f32 x 0=true:=by
 have r0:FloatKind.f32.format.read 0 = .number false 0 (-149):=by decide +kernel
 have h1:((FloatKind.f32.format.read x).order (FloatKind.f32.format.read 0) == some .eq)=false:=h1
 have h2:((FloatKind.f32.format.read x).order (FloatKind.f32.format.read 0) == some .lt)=false:=h2
 show ((FloatKind.f32.format.read x).order (FloatKind.f32.format.read 0) == some .gt)=true
 rw [r0] at h1 h2 ⊢
 cases hr:FloatKind.f32.format.read x with
 | nan s t =>
  exact (X9c h3 (X5N (Xak hr))).elim
 | infinity s =>
  rw [hr] at h2
  cases s with
  | true=>cases h2
  | false=>rfl
 | number s m e =>
  rw [hr] at h1 h2
  generalize hc:(Datum.number s m e).order (.number false 0 (-149))=c at *
  have:∃ o,c=some o:=⟨_,hc.symm⟩
  obtain ⟨o,rfl⟩:=this
  cases o
  ·cases h2
  ·cases h1
  ·rfl
end Go.Ab

set_option linter.unusedVariables false
set_option linter.unusedSimpArgs false
namespace Go.Ab
open Ieee
theorem XI {x:Nat} {a:Rat} (h:Vl .f32 x a):Vl .f64 (fcv .f32 .f64 x) a:=by
 have h':vl (single.read x)=some a:=h
 have hf:=X2f x
 cases hr:single.read x with
 | nan s t=>rw [hr] at h';simp [vl] at h'
 | infinity s=>rw [hr] at h';simp [vl] at h'
 | number s m e =>
  obtain ⟨p1,p2,p3⟩:=XR hr
  rw [hr] at hf h'
  have hf:fcv .f32 .f64 x=double.nearest s m e:=hf
  have e1:double.leastPlace=-1074:=by decide +kernel
  have e2:double.fractionBits=52:=rfl
  have e3:2 ^ double.exponentBits=2048:=rfl
  have hl:m.log2≤23:=by
   by_cases m0:m=0
   ·subst m0;simp
   ·exact X2z p1 m0
  obtain ⟨q,q1,-,-,q4⟩:=X2W double s m e (by decide) (by rw [e1,e2,e3];omega)
  have q4:=q4 (by rw [e1,e2];omega)
  unfold Vl
  show vl (double.read (fcv .f32 .f64 x))=some a
  rw [hf,q1,q4,← h']
  rfl
theorem XaI {x:Nat} {a:Rat} (h:Vl .f32 x a):-(2:Rat)^(128:Int) < a∧a < (2:Rat)^(128:Int):=by
 have h':vl (single.read x)=some a:=h
 cases hr:single.read x with
 | nan s t=>rw [hr] at h';simp [vl] at h'
 | infinity s=>rw [hr] at h';simp [vl] at h'
 | number s m e =>
  obtain ⟨p1,p2,p3⟩:=XR hr
  rw [hr] at h'
  simp only [vl,Option.some.injEq] at h'
  have h1:(m:Rat) < ((2 ^ 24:Nat):Rat):=Rat.natCast_lt_natCast.2 p1
  have h2:=Rat.mul_lt_mul_of_pos_right h1 (Xd e)
  rw [← XB,← X9] at h2
  have h3:=X2L (a:=((24:Nat):Int) + e) (b:=128) (by omega)
  have h4:=X1z m e
  subst h'
  cases s<;>simp only [sg,if_true,if_false,Bool.false_eq_true]<;>constructor<;>grind
theorem X8C {x:Nat} {v:Rat} (h:Vl .f64 x v):fcv .f64 .f32 x=single.write (double.read x):=by
 have h':vl (double.read x)=some v:=h
 unfold fcv
 rw [if_neg (by decide)]
 show (match double.read x with | .nan .. => Xn .f32 | y=>FloatKind.f32.encode y)=_
 cases hr:double.read x with
 | nan s t=>rw [hr] at h';simp [vl] at h'
 | infinity s=>rfl
 | number s m e=>rfl
theorem X3d {x:Nat} {v B:Rat} (h:Vl .f64 x v) (h1:-B≤v) (h2:v≤B) (hB:B < (2:Rat)^(topE .f32)):∃ q,Vl .f32 (fcv .f64 .f32 x) q∧Nr q v (B * uK .f32 + tK .f32):=by
 rw [X8C h]
 exact X1s .f32 h h1 h2 hB
theorem XaJ:Vl .f64 9218868437227405311 ((9007199254740991:Rat) * (2:Rat)^(971:Int)):=by unfold Vl;decide +kernel
theorem X4F {x:Nat} (h:fcmp .gtr .f64 (fcv .f32 .f64 x) 9218868437227405311=true):fcv .f32 .f64 x=9218868437227405312∧single.read x = .infinity false:=by
 have hf:=X2f x
 cases hr:single.read x with
 | nan s t =>
  exfalso
  rw [hr] at hf
  have:fcv .f32 .f64 x=Xn .f64:=hf
  rw [this] at h
  revert h;decide +kernel
 | infinity s =>
  rw [hr] at hf
  cases s with
  | false=>exact ⟨hf,rfl⟩
  | true =>
   exfalso
   have:fcv .f32 .f64 x=18442240474082181120:=hf
   rw [this] at h
   revert h;decide +kernel
 | number s m e =>
  exfalso
  have hv:Vl .f32 x (sg s * ((m:Rat) * (2:Rat) ^ e)):=by
   show vl (single.read x)=_
   rw [hr];rfl
  have h2:=XaI hv
  rw [gtrV (XI hv) XaJ] at h
  have h:=of_decide_eq_true h
  have:(2:Rat)^(128:Int)≤(9007199254740991:Rat) * (2:Rat)^(971:Int):=by decide +kernel
  grind
theorem Xal {d:Datum} (h:vl d=some 0):∃ s e,d = .number s 0 e:=by
 cases d with
 | nan s t=>simp [vl] at h
 | infinity s=>simp [vl] at h
 | number s m e =>
  simp only [vl,Option.some.injEq] at h
  have hz:=Xd e
  have:m=0:=by
   by_cases h0:m=0
   ·exact h0
   ·exfalso
    have:=Rat.mul_pos (Rat.natCast_pos.2 (show 0 < m by omega)) hz
    cases s<;>simp only [sg,if_true,if_false,Bool.false_eq_true] at h<;>grind
  subst this
  exact ⟨s,e,rfl⟩
theorem XaK (k:FloatKind) {d:Datum} (h:vl d=some 0):Vl k (k.format.write d) 0:=by
 obtain ⟨s,e,rfl⟩:=Xal h
 have:k.format.write (.number s 0 e)=k.format.word s 0:=by
  show k.format.nearest s 0 e=_
  unfold Format.nearest
  rw [if_pos rfl]
 rw [this]
 unfold Vl
 cases k<;>cases s<;>decide +kernel
theorem X5O {k:FloatKind} {x:Nat} {a:Rat} (hx:Vl k x a):Vl k (fop .sub k x x) 0:=by
 obtain ⟨r,r1,r2⟩:=X2M hx (X4e hx)
 rw [X4f,r1]
 exact XaK k (by rw [r2];congr 1;grind)
end Go.Ab

set_option linter.unusedVariables false
set_option linter.unusedSimpArgs false
namespace Go.Ab
open Ieee
def X1E (x:Nat):Prop:=(∃ r,Vl .f32 x r∧-60≤r∧r≤60)∨x=2139095040∨x=4286578688∨x=Xn .f32
theorem c256:Vl .f64 4643211215818981376 256:=by unfold Vl;decide +kernel
theorem div_le' {a b B:Rat} (hb:1≤b) (h1:-B≤a) (h2:a≤B):a / b * b=a∧-B≤a / b∧a / b≤B:=by
 have b0:b≠0:=by grind
 have hw:a / b * b=a:=Rat.div_mul_cancel b0
 have B0:0≤B:=by grind
 generalize a / b=w at *
 refine ⟨hw,?_,?_⟩
 ·refine Rat.not_lt.1 fun hc => ?_
  have h3:=Rat.mul_lt_mul_of_pos_right hc (show 0 < b by grind)
  have h4:=Rat.mul_le_mul_of_nonneg_left hb B0
  grind
 ·refine Rat.not_lt.1 fun hc => ?_
  have h3:=Rat.mul_lt_mul_of_pos_right hc (show 0 < b by grind)
  have h4:=Rat.mul_le_mul_of_nonneg_left hb B0
  grind
theorem XaV {y:Nat} {r:Rat} (h:Vl .f64 y r) (h1:-60≤r) (h2:r≤60):∃ a,Vl .f64 (fop .quo .f64 y 4643211215818981376) a∧-(47/200)≤a∧a≤47/200:=by
 have hw:(r / 256) * 256=r:=Rat.div_mul_cancel (by decide)
 obtain ⟨q,q1,q2⟩:=quoV h c256 (by decide) hw (B:=15/64) (by grind) (by grind) (X1j (by decide +kernel))
 have:=t64;have:=t64p
 unfold Nr at q2
 rw [u64] at q2
 exact ⟨q,q1,by grind,by grind⟩
theorem X9K {t p:Nat} {a b:Rat} {k:Int} (ht:Vl .f64 t a) (a1:-(47/200)≤a) (a2:a≤47/200) (hp:Vl .f64 p b) (b1:-(33/25)≤b) (b2:b≤33/25) (k1:1≤k) (k2:k≤12) :
  ∃ r,Vl .f64 (fop .add .f64 4607182418800017408 (fop .quo .f64 (fop .mul .f64 t p) (X4 .f64 k))) r∧-(33/25)≤r∧r≤33/25:=by
 have:=t64;have:=t64p
 obtain ⟨m1,m2⟩:=mul_le_mul' a1 a2 b1 b2
 obtain ⟨c,c1,c2⟩:=mulV ht hp (B:=47/200*(33/25)) m1 m2 (X1j (by decide +kernel))
 unfold Nr at c2
 rw [u64] at c2
 have hk:(1:Rat)≤(k:Rat):=by
  have:=Rat.intCast_le_intCast.2 k1
  simpa using this
 obtain ⟨d1,d2,d3⟩:=div_le' hk (B:=311/1000) (show -(311/1000)≤c by grind) (by grind)
 obtain ⟨q,q1,q2⟩:=quoV c1 (X4E k (by omega) (by omega)) (by grind) d1 d2 d3 (X1j (by decide +kernel))
 unfold Nr at q2
 rw [u64] at q2
 obtain ⟨r,r1,r2⟩:=addV cOne q1 (B:=1.315) (by grind) (by grind) (X1j (by decide +kernel))
 unfold Nr at r2
 rw [u64] at r2
 exact ⟨r,r1,by grind,by grind⟩
def expB:Nat→Rat
 | 0=>33/25
 | n + 1=>match n with
  | 0=>7/4
  | 1=>31/10
  | 2=>97/10
  | 3=>95
  | 4=>9100
  | 5=>83000000
  | 6=>7000000000000000
  | _=>50000000000000000000000000000000
theorem Xam:∀ n,n < 8→0≤expB n∧expB n * expB n + (expB n * expB n * uK .f64 + 1)≤expB (n + 1) + 1∧expB n * expB n * uK .f64 + expB n * expB n + 1 / 1000000000000000000000000000000≤expB (n + 1):=by
 have h:(List.range 8).all (fun n=>decide (0≤expB n∧expB n * expB n + (expB n * expB n * uK .f64 + 1)≤expB (n + 1) + 1∧expB n * expB n * uK .f64 + expB n * expB n + 1 / 1000000000000000000000000000000≤expB (n + 1)))=true:=by decide +kernel
 intro n hn
 exact of_decide_eq_true ((List.all_eq_true.1 h) n (List.mem_range.2 hn))
theorem X80:∀ n,n < 9→expB n≤50000000000000000000000000000000∧expB n * expB n < (2:Rat)^(topE .f64):=by
 have h:(List.range 9).all (fun n=>decide (expB n≤50000000000000000000000000000000∧expB n * expB n < (2:Rat)^(topE .f64)))=true:=by decide +kernel
 intro n hn
 exact of_decide_eq_true ((List.all_eq_true.1 h) n (List.mem_range.2 hn))
theorem XaL {p n:Nat} {b:Rat} (hn:n < 8) (hp:Vl .f64 p b) (b1:-expB n≤b) (b2:b≤expB n):∃ r,Vl .f64 (fop .mul .f64 p p) r∧-expB (n + 1)≤r∧r≤expB (n + 1):=by
 obtain ⟨m1,m2⟩:=mul_le_mul' b1 b2 b1 b2
 obtain ⟨c,c1,c2⟩:=mulV hp hp (B:=expB n * expB n) m1 m2 (X80 n (by omega)).2
 obtain ⟨e1,-,e3⟩:=Xam n hn
 have:=t64;have:=t64p
 unfold Nr at c2
 exact ⟨c,c1,by grind,by grind⟩
theorem c200:Vl .f64 4641240890982006784 200:=by unfold Vl;decide +kernel
theorem XaW:Vl .f64 13864612927836782592 (-200):=by unfold Vl;decide +kernel
theorem X9V:Vl .f32 1077936128 3:=by unfold Vl;decide +kernel
theorem X3G {x:Rat} (h:x≤1000000000000):x < (2:Rat)^(topE .f32):=by
 have e:(1000000000000:Rat) < (2:Rat)^(topE .f32):=by decide +kernel
 grind
theorem u32:uK .f32=1 / 16777216:=rfl
theorem t32:tK .f32≤1 / 1000000000000000000000000000000:=X3F _
theorem t32p:0 < tK .f32:=X3W _
theorem X8D {x:Nat} {r:Rat} (h:Vl .f32 x r) (h1:-166≤r) (h2:r≤166):∃ q,Vl .f32 (fop .quo .f32 x 1077936128) q∧-60≤q∧q≤60:=by
 have hw:(r / 3) * 3=r:=Rat.div_mul_cancel (by decide)
 obtain ⟨q,q1,q2⟩:=quoV h X9V (by decide) hw (B:=166/3) (by grind) (by grind) (X3G (by decide +kernel))
 have:=t32;have:=t32p
 unfold Nr at q2
 rw [u32] at q2
 exact ⟨q,q1,by grind,by grind⟩
theorem X2X {x:Nat} {v:Rat} (h:Vl .f64 x v) (h1:-165≤v) (h2:v≤165):∃ q,Vl .f32 (fcv .f64 .f32 x) q∧-166≤q∧q≤166:=by
 obtain ⟨q,q1,q2⟩:=X3d h (B:=165) (by grind) (by grind) (X3G (by decide +kernel))
 have:=t32;have:=t32p
 unfold Nr at q2
 rw [u32] at q2
 exact ⟨q,q1,by grind,by grind⟩
def X3p:List Nat:=(List.range 13).map (fun n=>X4 .f64 ((n:Nat):Int))
def eIx (w:Nat):Nat:=match X3p.findIdx? (· == w) with | some i=>i | none=>0
theorem eTab:∀ j:Nat,j < 13→fcmp .geq .f64 (X4 .f64 (j:Int)) 4607182418800017408=decide ((j:Int) ≥ 1)∧(0 < j→fop .sub .f64 (X4 .f64 (j:Int)) 4607182418800017408=X4 .f64 ((j - 1:Nat):Int))∧eIx (X4 .f64 (j:Int))=j:=by
 have h:(List.range 13).all (fun j=>(fcmp .geq .f64 (X4 .f64 (j:Int)) 4607182418800017408 == decide ((j:Int) ≥ 1)) && (j == 0 || fop .sub .f64 (X4 .f64 (j:Int)) 4607182418800017408 == X4 .f64 ((j - 1:Nat):Int)) && eIx (X4 .f64 (j:Int)) == j)=true:=by decide +kernel
 intro j hj
 have q:=(List.all_eq_true.1 h) j (List.mem_range.2 hj)
 rw [Bool.and_eq_true,Bool.and_eq_true,Bool.or_eq_true,beq_iff_eq,beq_iff_eq,beq_iff_eq,beq_iff_eq] at q
 exact ⟨q.1.1,fun h0=>q.1.2.resolve_left (by omega),q.2⟩
theorem X4t (w:Nat) (h:w∈X3p) (g:fcmp .geq .f64 w 4607182418800017408=true):fop .sub .f64 w 4607182418800017408∈X3p∧eIx (fop .sub .f64 w 4607182418800017408) < eIx w:=by
 obtain ⟨j,hj,rfl⟩:=List.mem_map.1 h
 have hj:=List.mem_range.1 hj
 obtain ⟨a,b,c⟩:=eTab j hj
 rw [a] at g
 have g:=of_decide_eq_true g
 rw [b (by omega),c,(eTab (j - 1) (by omega)).2.2]
 exact ⟨List.mem_map.2 ⟨j - 1,List.mem_range.2 (by omega),rfl⟩,by omega⟩
theorem X9L (op:BinOp) (x y:Nat):fop op .f32 x y < 4294967296:=by
 have e:(2:Nat) ^ FloatKind.f32.format.width=4294967296:=by decide +kernel
 unfold fop
 cases h:floatBits op .f32 x y with
 | none=>rw [← e];exact X6h .f32
 | some r=>rw [← e];exact (X29 h).2
end Go.Ab

set_option linter.unusedVariables false
set_option linter.unusedSimpArgs false
namespace Go.Ab
open Ieee
theorem X8E (c:Nat) (h:c≠0):∀ u,Nat.log2 (c * 2 ^ u)=Nat.log2 c + u:=by
 intro u
 induction u with
 | zero=>simp
 | succ u ih =>
  have e:c * 2 ^ (u + 1)=2 * (c * 2 ^ u):=by rw [Nat.pow_succ];grind
  have h2:c * 2 ^ u≠0:=Nat.mul_ne_zero h (Nat.ne_of_gt (Nat.two_pow_pos u))
  rw [e,Nat.log2_two_mul h2,ih];omega
theorem Xan (neg:Bool) (c u:Nat):Toward.even.cut neg (c * 2 ^ u) u=c:=by
 obtain ⟨c1,c2⟩:=X7Z neg (c * 2 ^ u) u
 have hp:=Nat.two_pow_pos u
 generalize Toward.even.cut neg (c * 2 ^ u) u=x at *
 rcases Nat.lt_trichotomy x c with h | h | h
 ·have h6:(x + 1) * 2 ^ u≤c * 2 ^ u:=Nat.mul_le_mul_right _ h
  rw [Nat.add_mul] at h6;omega
 ·exact h
 ·have h6:(c + 1) * 2 ^ u≤x * 2 ^ u:=Nat.mul_le_mul_right _ h
  rw [Nat.add_mul] at h6;omega
def Rp (k:FloatKind) (v:Rat):Prop:=∃ (n:Int) (s:Nat),v * (2:Rat)^(s:Int)=(n:Rat)∧n.natAbs < 2 * k.format.binade∧s≤140
theorem X8F (k:FloatKind) (neg:Bool) (m:Nat) (e:Int) {n s:Nat} (hs:s≤140) (hn:n < 2 * k.format.binade) (hv:(m:Rat) * (2:Rat)^e * (2:Rat)^(s:Int)=(n:Rat)) :
  vl (k.format.read (k.format.nearest neg m e))=some (sg neg * ((m:Rat) * (2:Rat)^e)):=by
 have hfb:1≤k.format.fractionBits:=by cases k<;>decide
 have hnr:(n:Rat) < (2:Rat) ^ ((k.format.fractionBits + 1:Nat):Int):=by
  have e1:2 * k.format.binade=2 ^ (k.format.fractionBits + 1):=by unfold Format.binade;rw [Nat.pow_succ];omega
  rw [XB];rw [e1] at hn;exact Rat.natCast_lt_natCast.2 hn
 by_cases h0:m=0
 ·subst h0
  have hn2:k.format.nearest neg 0 e=k.format.nearest neg 0 0:=by unfold Format.nearest;rw [if_pos rfl,if_pos rfl]
  rw [hn2]
  have:vl (k.format.read (k.format.nearest neg 0 0))=some (sg neg * 0):=by cases k<;>cases neg<;>decide +kernel
  rw [this];simp
 ·have hlt:(m:Rat) * (2:Rat)^e < (2:Rat)^((k.format.fractionBits:Int) + 1 - (s:Int)):=by
   have h1:(2:Rat)^((k.format.fractionBits:Int) + 1 - (s:Int)) * (2:Rat)^(s:Int)=(2:Rat) ^ ((k.format.fractionBits + 1:Nat):Int):=by
    rw [← X9];congr 1;omega
   rw [← hv,← h1] at hnr
   exact (Rat.mul_lt_mul_right (Xd _)).1 hnr
  have hl:=X7m h0 hlt
  have hT:(max (e + m.log2 - k.format.fractionBits) k.format.leastPlace - k.format.leastPlace).toNat + 2 < 2 ^ k.format.exponentBits - 1:=by
   cases k
   ·have e1:FloatKind.f32.format.leastPlace=-149:=by decide +kernel
    have e2:FloatKind.f32.format.fractionBits=23:=rfl
    have e3:2 ^ FloatKind.f32.format.exponentBits=256:=rfl
    rw [e1,e2,e3];rw [e2] at hl;omega
   ·have e1:FloatKind.f64.format.leastPlace=-1074:=by decide +kernel
    have e2:FloatKind.f64.format.fractionBits=52:=rfl
    have e3:2 ^ FloatKind.f64.format.exponentBits=2048:=rfl
    rw [e1,e2,e3];rw [e2] at hl;omega
  have hle:k.format.leastPlace≤-(s:Int):=by
   cases k
   ·have e1:FloatKind.f32.format.leastPlace=-149:=by decide +kernel
    rw [e1];omega
   ·have e1:FloatKind.f64.format.leastPlace=-1074:=by decide +kernel
    rw [e1];omega
  by_cases hlast:max (e + m.log2 - k.format.fractionBits) k.format.leastPlace≤e
  ·obtain ⟨q,q1,-,-,q4⟩:=X2W k.format neg m e hfb hT
   rw [q1,q4 hlast]
  ·generalize hg:max (e + (m.log2:Int) - (k.format.fractionBits:Int)) k.format.leastPlace=last at *
   obtain ⟨u,hu⟩:=Int.eq_ofNat_of_zero_le (show 0≤last - e by omega)
   obtain ⟨w,hw⟩:=Int.eq_ofNat_of_zero_le (show 0≤-(s:Int) - last by omega)
   have hm:m=n * 2 ^ w * 2 ^ u:=by
    have e1:(m:Rat) * (2:Rat)^e=(n:Rat) * (2:Rat)^(-(s:Int)):=by
     rw [← hv,Rat.mul_assoc,← X9];simp [Rat.mul_assoc];grind
    rw [show -(s:Int)=(w:Int) + (u:Int) + e from by omega,X9,X9,XB,XB] at e1
    have e2:(m:Rat) * (2:Rat)^e=((n * 2 ^ w * 2 ^ u:Nat):Rat) * (2:Rat)^e:=by
     rw [e1,Rat.natCast_mul,Rat.natCast_mul];grind
    have hp:=Xd e
    have e3:=congrArg (· * ((2:Rat)^e)⁻¹) e2
    simp only [Rat.mul_assoc,Rat.mul_inv_cancel _ (show (2:Rat)^e≠0 by grind),Rat.mul_one] at e3
    exact Rat.natCast_inj.1 e3
   generalize n * 2 ^ w=c at *
   have hc:c≠0:=by intro h;subst h;simp at hm;exact h0 hm
   subst hm
   have hlog:=X8E c hc u
   have hsame:k.format.nearest neg (c * 2 ^ u) e=k.format.nearest neg c last:=by
    unfold Format.nearest
    rw [if_neg h0,if_neg hc]
    rw [hlog] at hg ⊢
    have e1:max (last + (c.log2:Int) - k.format.fractionBits) k.format.leastPlace=last:=by omega
    have e2:max (e + ((c.log2 + u:Nat):Int) - k.format.fractionBits) k.format.leastPlace=last:=hg
    simp only [e1,e2]
    rw [show (e - last).toNat=0 from by omega,show (last - last).toNat=0 from by omega,show (last - e).toNat=u from by omega,Nat.shiftLeft_zero,Nat.shiftLeft_zero,Xan,X7l]
   rw [hsame]
   have e1:max (last + (c.log2:Int) - k.format.fractionBits) k.format.leastPlace=last:=by rw [hlog] at hg;omega
   obtain ⟨q,q1,-,-,q4⟩:=X2W k.format neg c last hfb (by rw [e1];exact hT)
   rw [q1,q4 (by rw [e1];exact Int.le_refl _)]
   rw [show last=(u:Int) + e from by omega,X9,XB,Rat.natCast_mul]
   congr 2;grind
theorem X9M (k:FloatKind) {d:Datum} {v:Rat} (hd:vl d=some v) (hr:Rp k v):Vl k (k.format.write d) v:=by
 cases d with
 | nan s t=>simp [vl] at hd
 | infinity s=>simp [vl] at hd
 | number s m e =>
  simp only [vl,Option.some.injEq] at hd
  obtain ⟨n,t,h1,h2,h3⟩:=hr
  have hn:(m:Rat) * (2:Rat)^e * (2:Rat)^(t:Int)=(n.natAbs:Rat):=by
   have h0:(0:Rat)≤(m:Rat) * (2:Rat)^e * (2:Rat)^(t:Int):=Rat.mul_nonneg (X1z m e) (Rat.le_of_lt (Xd _))
   rw [← hd] at h1
   generalize (m:Rat) * (2:Rat)^e=x at *
   generalize (2:Rat)^(t:Int)=y at *
   have hna:(n.natAbs:Rat)=if 0≤n then (n:Rat) else -(n:Rat):=by
    split
    ·rw [← Rat.intCast_natCast];congr 1;omega
    ·rw [← Rat.intCast_neg,← Rat.intCast_natCast];congr 1;omega
   have hneg:¬ 0≤n→(n:Rat) < 0:=fun h=>by
    have:((n:Int):Rat) < ((0:Int):Rat):=Rat.intCast_lt_intCast.2 (by omega)
    simpa using this
   have hpos:0≤n→(0:Rat)≤(n:Rat):=fun h=>by
    have:((0:Int):Rat)≤((n:Int):Rat):=Rat.intCast_le_intCast.2 h
    simpa using this
   rw [hna]
   cases s<;>simp only [sg,if_true,if_false,Bool.false_eq_true] at h1<;>split<;>rename_i hh
   ·have:=hpos hh;grind
   ·have:=hneg hh;grind
   ·have:=hpos hh;grind
   ·have:=hneg hh;grind
  have:=X8F k s m e h3 h2 hn
  rw [hd] at this
  exact this
end Go.Ab

set_option linter.unusedVariables false
set_option linter.unusedSimpArgs false
namespace Go.Ab
open Ieee
def rq (n:Int):Rat:=(n:Rat) / 1073741824
theorem Xe (a b:Int):rq (a + b)=rq a + rq b:=by unfold rq;rw [Rat.intCast_add];grind
theorem X1g (a b:Int):rq (a - b)=rq a - rq b:=by unfold rq;rw [Rat.intCast_sub];grind
theorem X3X (a:Int):rq (-a)=-rq a:=by unfold rq;rw [Rat.intCast_neg];grind
theorem Xr {a b:Int} (h:a≤b):rq a≤rq b:=by
 have h1:(a:Rat)≤(b:Rat):=Rat.intCast_le_intCast.2 h
 unfold rq;grind
theorem X2F {a:Int} (h:0≤a):0≤rq a:=by
 have:=Xr h
 have e:rq 0=0:=by unfold rq;decide +kernel
 rw [e] at this;exact this
theorem rq_1:rq 1=1 / 1073741824:=by unfold rq;decide +kernel
def fl (x d:Int):Int:=x / d
def ce (x d:Int):Int:=-((-x) / d)
theorem X9W {x d:Int} (hd:0 < d):fl x d * d≤x:=Int.ediv_mul_le x (by omega)
theorem X53 {x d:Int} (hd:0 < d):x≤ce x d * d:=by
 have:=Int.ediv_mul_le (-x) (b:=d) (by omega)
 unfold ce;rw [Int.neg_mul];omega
theorem X9X (a b:Int):rq (fl (a * b) 1073741824)≤rq a * rq b:=by
 have h:((fl (a * b) 1073741824 * 1073741824:Int):Rat)≤((a * b:Int):Rat):=Rat.intCast_le_intCast.2 (X9W (by decide))
 rw [Rat.intCast_mul,Rat.intCast_mul] at h
 have e:((1073741824:Int):Rat)=1073741824:=by decide +kernel
 rw [e] at h
 unfold rq;grind
theorem X54 (a b:Int):rq a * rq b≤rq (ce (a * b) 1073741824):=by
 have h:((a * b:Int):Rat)≤((ce (a * b) 1073741824 * 1073741824:Int):Rat):=Rat.intCast_le_intCast.2 (X53 (by decide))
 rw [Rat.intCast_mul,Rat.intCast_mul] at h
 have e:((1073741824:Int):Rat)=1073741824:=by decide +kernel
 rw [e] at h
 unfold rq;grind
theorem X3Y (a:Int) {d:Int} (hd:0 < d):rq a / (d:Rat)≤rq (ce a d):=by
 have h:((a:Int):Rat)≤((ce a d * d:Int):Rat):=Rat.intCast_le_intCast.2 (X53 hd)
 rw [Rat.intCast_mul] at h
 have hp:(0:Rat) < (d:Rat):=by have:=Rat.intCast_lt_intCast.2 hd;simpa using this
 have hi:(d:Rat) * (d:Rat)⁻¹=1:=Rat.mul_inv_cancel _ (by grind)
 have h2:=Rat.mul_le_mul_of_nonneg_right h (Rat.le_of_lt (Rat.inv_pos.2 hp))
 rw [Rat.mul_assoc,hi,Rat.mul_one] at h2
 unfold rq
 rw [Rat.div_def] at *
 rw [Rat.div_def,Rat.div_def]
 have e:(a:Rat) * (1073741824:Rat)⁻¹ * (d:Rat)⁻¹=(a:Rat) * (d:Rat)⁻¹ * (1073741824:Rat)⁻¹:=by grind
 rw [e]
 exact Rat.mul_le_mul_of_nonneg_right h2 (by decide +kernel)
theorem XaM (a:Int) {d:Int} (hd:0 < d):rq (fl a d)≤rq a / (d:Rat):=by
 have h:=X3Y (-a) hd
 unfold ce at h
 rw [Int.neg_neg,X3X,X3X] at h
 unfold fl
 have e:-rq a / (d:Rat)=-(rq a / (d:Rat)):=by rw [Rat.div_def,Rat.div_def,Rat.neg_mul]
 rw [e] at h
 grind
theorem X7o {a b y:Rat} (h:a≤b) (hy:0≤y):a * y≤b * y:=Rat.mul_le_mul_of_nonneg_right h hy
theorem X9d {a b y:Rat} (h:a≤b) (hy:y≤0):b * y≤a * y:=by
 have:=X7o (y:=-y) h (by grind)
 grind
theorem X3Z {a b x y:Rat} (h1:a≤x) (h2:x≤b):(a * y≤x * y∧x * y≤b * y)∨(b * y≤x * y∧x * y≤a * y):=by
 rcases Rat.le_total (a:=0) (b:=y) with hy | hy
 ·exact .inl ⟨X7o h1 hy,X7o h2 hy⟩
 ·exact .inr ⟨X9d h2 hy,X9d h1 hy⟩
theorem X81 {a b c d x y m M:Rat} (h1:a≤x) (h2:x≤b) (h3:c≤y) (h4:y≤d)
  (m1:m≤a * c) (m2:m≤a * d) (m3:m≤b * c) (m4:m≤b * d) (M1:a * c≤M) (M2:a * d≤M) (M3:b * c≤M) (M4:b * d≤M):m≤x * y∧x * y≤M:=by
 have ha:=X3Z (y:=a) h3 h4
 have hb:=X3Z (y:=b) h3 h4
 have hx:=X3Z (y:=y) h1 h2
 have c1:c * a=a * c:=Rat.mul_comm _ _
 have c2:d * a=a * d:=Rat.mul_comm _ _
 have c3:c * b=b * c:=Rat.mul_comm _ _
 have c4:d * b=b * d:=Rat.mul_comm _ _
 have c5:y * a=a * y:=Rat.mul_comm _ _
 have c6:y * b=b * y:=Rat.mul_comm _ _
 rw [c1,c2,c5] at ha
 rw [c3,c4,c6] at hb
 grind
structure Bd where
 lo:Int
 hi:Int
 e:Int
inductive FE where
 | var (i:Nat)
 | lit (w:Nat) (n:Int)
 | add (a b:FE)
 | sub (a b:FE)
 | mul (a b:FE)
 | div (a:FE) (w k:Nat)
def FE.ev (ρ:Nat→Nat):FE→Nat
 | .var i=>ρ i
 | .lit w _=>w
 | .add a b=>fop .add .f32 (a.ev ρ) (b.ev ρ)
 | .sub a b=>fop .sub .f32 (a.ev ρ) (b.ev ρ)
 | .mul a b=>fop .mul .f32 (a.ev ρ) (b.ev ρ)
 | .div a w _=>fop .quo .f32 (a.ev ρ) w
def FE.xv (η:Nat→Rat):FE→Rat
 | .var i=>η i
 | .lit _ n=>rq n
 | .add a b=>a.xv η + b.xv η
 | .sub a b=>a.xv η - b.xv η
 | .mul a b=>a.xv η * b.xv η
 | .div a _ k=>a.xv η / (k:Rat)
def mx (b:Bd):Int:=max (-b.lo) b.hi
def top:Int:=1073741824 * 1000000
def rnd (M:Int):Int:=ce M 16777216 + 1
def X6b (x y:Bd):Option Bd :=
 let r:Bd:=⟨x.lo + y.lo,x.hi + y.hi,0⟩;let M:=mx r + x.e + y.e
 if M≤top then some ⟨r.lo,r.hi,x.e + y.e + rnd M⟩ else none
def X6c (x y:Bd):Option Bd :=
 let r:Bd:=⟨x.lo - y.hi,x.hi - y.lo,0⟩;let M:=mx r + x.e + y.e
 if M≤top then some ⟨r.lo,r.hi,x.e + y.e + rnd M⟩ else none
def min4 (a b c d:Int):Int:=min (min a b) (min c d)
def max4 (a b c d:Int):Int:=max (max a b) (max c d)
def X8G (x y:Bd):Option Bd :=
 let p:=fl (min4 (x.lo * y.lo) (x.lo * y.hi) (x.hi * y.lo) (x.hi * y.hi)) 1073741824
 let q:=ce (max4 (x.lo * y.lo) (x.lo * y.hi) (x.hi * y.lo) (x.hi * y.hi)) 1073741824
 let er:=ce (mx x * y.e) 1073741824 + ce (mx y * x.e) 1073741824 + ce (x.e * y.e) 1073741824
 let M:=mx ⟨p,q,0⟩ + er
 if M≤top then some ⟨p,q,er + rnd M⟩ else none
def X6d (x:Bd) (k:Nat):Option Bd :=
 let M:=mx x + x.e
 if M≤top∧1≤k then some ⟨fl x.lo k,ce x.hi k,ce x.e k + 3 * rnd (ce M k)⟩ else none
def FE.an (β:Nat→Bd):FE→Option Bd
 | .var i=>some ⟨(β i).lo,(β i).hi,0⟩
 | .lit w n=>if vl (single.read w)=some (rq n) then some ⟨n,n,0⟩ else none
 | .add a b=>match a.an β,b.an β with | some x,some y=>X6b x y | _,_=>none
 | .sub a b=>match a.an β,b.an β with | some x,some y=>X6c x y | _,_=>none
 | .mul a b=>match a.an β,b.an β with | some x,some y=>X8G x y | _,_=>none
 | .div a w k=>match a.an β with | some x=>if vl (single.read w)=some (k:Rat) then X6d x k else none | _=>none
def Ok (w:Nat) (v:Rat) (b:Bd):Prop:=0≤b.e∧rq b.lo≤v∧v≤rq b.hi∧∃ q,Vl .f32 w q∧Nr q v (rq b.e)
theorem X2o {b:Bd} {v:Rat} (h1:rq b.lo≤v) (h2:v≤rq b.hi):-rq (mx b)≤v∧v≤rq (mx b):=by
 have a1:=Xr (show -b.lo≤mx b by unfold mx;omega)
 have a2:=Xr (show b.hi≤mx b by unfold mx;omega)
 rw [X3X] at a1
 grind
theorem X4g {M:Int} (h:0≤rq M):0≤M:=by
 refine Int.not_lt.1 fun hM => ?_
 have h2:=Xr (show M≤-1 by omega)
 have e:rq (-1) < 0:=by unfold rq;decide +kernel
 grind
theorem X2w {M:Int} (h:M≤top):rq M≤1000000:=by
 have:=Xr h
 have e:rq top=1000000:=by unfold rq top;decide +kernel
 rw [e] at this;exact this
theorem X40 (M:Int):rq M * uK .f32 + tK .f32≤rq (rnd M):=by
 have h:=X3Y M (d:=16777216) (by decide)
 have t:=t32
 unfold rnd
 rw [Xe,rq_1,u32]
 have e:((16777216:Int):Rat)=16777216:=by decide +kernel
 rw [e] at h
 grind
theorem X55 {M:Int} (h:0≤M):0≤rnd M:=by
 have:=X53 (x:=M) (d:=16777216) (by decide)
 unfold rnd;omega
theorem XaX {w1 w2:Nat} {v1 v2:Rat} {x y z:Bd} (h1:Ok w1 v1 x) (h2:Ok w2 v2 y) (h:X6b x y=some z):Ok (fop .add .f32 w1 w2) (v1 + v2) z:=by
 obtain ⟨e1,a1,a2,q1,V1,N1⟩:=h1
 obtain ⟨e2,b1,b2,q2,V2,N2⟩:=h2
 unfold X6b at h
 simp only at h
 split at h
 ·rename_i hM
  cases h
  have m:=X2o (b:=⟨x.lo + y.lo,x.hi + y.hi,0⟩) (v:=v1 + v2) (by rw [Xe];grind) (by rw [Xe];grind)
  generalize hm:mx ⟨x.lo + y.lo,x.hi + y.hi,0⟩=M at *
  have hM2:rq (M + x.e + y.e)=rq M + rq x.e + rq y.e:=by rw [Xe,Xe]
  have ht:=X2w hM
  have n1:=X2F e1
  have n2:=X2F e2
  unfold Nr at N1 N2
  obtain ⟨q,V,N⟩:=addV V1 V2 (B:=rq (M + x.e + y.e)) (by rw [hM2];grind) (by rw [hM2];grind) (X3G (by grind))
  have r:=X40 (M + x.e + y.e)
  have hMn:0≤M + x.e + y.e:=by have:=X4g (M:=M) (by grind);omega
  have hr:=X55 hMn
  refine ⟨by simp only;omega,by simp only;rw [Xe];grind,by simp only;rw [Xe];grind,q,V,?_⟩
  unfold Nr at N ⊢
  simp only
  rw [Xe,Xe]
  grind
 ·cases h
theorem XaY {w1 w2:Nat} {v1 v2:Rat} {x y z:Bd} (h1:Ok w1 v1 x) (h2:Ok w2 v2 y) (h:X6c x y=some z):Ok (fop .sub .f32 w1 w2) (v1 - v2) z:=by
 obtain ⟨e1,a1,a2,q1,V1,N1⟩:=h1
 obtain ⟨e2,b1,b2,q2,V2,N2⟩:=h2
 unfold X6c at h
 simp only at h
 split at h
 ·rename_i hM
  cases h
  have m:=X2o (b:=⟨x.lo - y.hi,x.hi - y.lo,0⟩) (v:=v1 - v2) (by rw [X1g];grind) (by rw [X1g];grind)
  generalize hm:mx ⟨x.lo - y.hi,x.hi - y.lo,0⟩=M at *
  have hM2:rq (M + x.e + y.e)=rq M + rq x.e + rq y.e:=by rw [Xe,Xe]
  have ht:=X2w hM
  have n1:=X2F e1
  have n2:=X2F e2
  unfold Nr at N1 N2
  obtain ⟨q,V,N⟩:=subV V1 V2 (B:=rq (M + x.e + y.e)) (by rw [hM2];grind) (by rw [hM2];grind) (X3G (by grind))
  have r:=X40 (M + x.e + y.e)
  have hMn:0≤M + x.e + y.e:=by have:=X4g (M:=M) (by grind);omega
  have hr:=X55 hMn
  refine ⟨by simp only;omega,by simp only;rw [X1g];grind,by simp only;rw [X1g];grind,q,V,?_⟩
  unfold Nr at N ⊢
  simp only
  rw [Xe,Xe]
  grind
 ·cases h
theorem X8H {x:Int} (h:0≤x):0≤ce x 1073741824:=by
 have:=X53 (x:=x) (d:=1073741824) (by decide);omega
theorem XaZ {w1 w2:Nat} {v1 v2:Rat} {x y z:Bd} (h1:Ok w1 v1 x) (h2:Ok w2 v2 y) (h:X8G x y=some z):Ok (fop .mul .f32 w1 w2) (v1 * v2) z:=by
 obtain ⟨e1,a1,a2,q1,V1,N1⟩:=h1
 obtain ⟨e2,b1,b2,q2,V2,N2⟩:=h2
 unfold X8G at h
 simp only at h
 generalize hp:fl (min4 (x.lo * y.lo) (x.lo * y.hi) (x.hi * y.lo) (x.hi * y.hi)) 1073741824=p at *
 generalize hq:ce (max4 (x.lo * y.lo) (x.lo * y.hi) (x.hi * y.lo) (x.hi * y.hi)) 1073741824=r at *
 have lo4:∀ a b:Int,min4 (x.lo * y.lo) (x.lo * y.hi) (x.hi * y.lo) (x.hi * y.hi)≤a * b→rq p≤rq a * rq b:=by
  intro a b hab
  have h1:p≤fl (a * b) 1073741824:=by rw [← hp];unfold fl;exact Int.ediv_le_ediv (by decide) hab
  have h2:=Xr h1
  have h3:=X9X a b
  grind
 have hi4:∀ a b:Int,a * b≤max4 (x.lo * y.lo) (x.lo * y.hi) (x.hi * y.lo) (x.hi * y.hi)→rq a * rq b≤rq r:=by
  intro a b hab
  have h1:ce (a * b) 1073741824≤r:=by
   rw [← hq];unfold ce
   have:=Int.ediv_le_ediv (c:=1073741824) (by decide) (Int.neg_le_neg hab)
   omega
  have h2:=Xr h1
  have h3:=X54 a b
  grind
 have hpr:=X81 a1 a2 b1 b2 (lo4 _ _ (by unfold min4;omega)) (lo4 _ _ (by unfold min4;omega)) (lo4 _ _ (by unfold min4;omega)) (lo4 _ _ (by unfold min4;omega))
  (hi4 _ _ (by unfold max4;omega)) (hi4 _ _ (by unfold max4;omega)) (hi4 _ _ (by unfold max4;omega)) (hi4 _ _ (by unfold max4;omega))
 have mX:=X2o a1 a2
 have mY:=X2o b1 b2
 have n1:=X2F e1
 have n2:=X2F e2
 have k1:=X54 (mx x) y.e
 have k2:=X54 (mx y) x.e
 have k3:=X54 x.e y.e
 have mXn:=X4g (M:=mx x) (by grind)
 have mYn:=X4g (M:=mx y) (by grind)
 have c1:=X8H (Int.mul_nonneg mXn e2)
 have c2:=X8H (Int.mul_nonneg mYn e1)
 have c3:=X8H (Int.mul_nonneg e1 e2)
 generalize ce (mx x * y.e) 1073741824=E1 at *
 generalize ce (mx y * x.e) 1073741824=E2 at *
 generalize ce (x.e * y.e) 1073741824=E3 at *
 unfold Nr at N1 N2
 have d1:=mul_le_mul' (a:=v1) (b:=q2 - v2) (A:=rq (mx x)) (B:=rq y.e) mX.1 mX.2 (by grind) (by grind)
 have d2:=mul_le_mul' (a:=v2) (b:=q1 - v1) (A:=rq (mx y)) (B:=rq x.e) mY.1 mY.2 (by grind) (by grind)
 have d3:=mul_le_mul' (a:=q1 - v1) (b:=q2 - v2) (A:=rq x.e) (B:=rq y.e) (by grind) (by grind) (by grind) (by grind)
 have hid:q1 * q2=v1 * v2 + v1 * (q2 - v2) + v2 * (q1 - v1) + (q1 - v1) * (q2 - v2):=by grind
 split at h
 ·rename_i hM
  cases h
  have m:=X2o (b:=⟨p,r,0⟩) (v:=v1 * v2) hpr.1 hpr.2
  generalize hm:mx ⟨p,r,0⟩=M at *
  have hM2:rq (M + (E1 + E2 + E3))=rq M + (rq E1 + rq E2 + rq E3):=by rw [Xe,Xe,Xe]
  have ht:=X2w hM
  generalize v1 * (q2 - v2)=D1 at *
  generalize v2 * (q1 - v1)=D2 at *
  generalize (q1 - v1) * (q2 - v2)=D3 at *
  generalize v1 * v2=V at *
  obtain ⟨q,W,N⟩:=mulV V1 V2 (B:=rq (M + (E1 + E2 + E3))) (by rw [hM2,hid];grind) (by rw [hM2,hid];grind) (X3G (by grind))
  have rr:=X40 (M + (E1 + E2 + E3))
  have hMn:0≤M + (E1 + E2 + E3):=by have:=X4g (M:=M) (by grind);omega
  have hr:=X55 hMn
  refine ⟨by simp only;omega,hpr.1,hpr.2,q,W,?_⟩
  unfold Nr at N ⊢
  rw [hid] at N
  simp only
  rw [Xe,Xe,Xe]
  grind
 ·cases h
theorem X2k {a b c:Rat} (hc:0 < c) (h:a≤b):a / c≤b / c:=by
 rw [Rat.div_def,Rat.div_def]
 exact Rat.mul_le_mul_of_nonneg_right h (Rat.le_of_lt (Rat.inv_pos.2 hc))
theorem X9Y {w1 w2 k:Nat} {v1:Rat} {x z:Bd} (h1:Ok w1 v1 x) (hw:Vl .f32 w2 (k:Rat)) (h:X6d x k=some z):Ok (fop .quo .f32 w1 w2) (v1 / (k:Rat)) z:=by
 obtain ⟨e1,a1,a2,q1,V1,N1⟩:=h1
 unfold X6d at h
 simp only at h
 split at h
 ·rename_i hM
  obtain ⟨hM,hk⟩:=hM
  cases h
  have kp:(1:Rat)≤(k:Rat):=by have:=Rat.natCast_le_natCast.2 hk;simpa using this
  have kp0:(0:Rat) < (k:Rat):=by grind
  have ek:((k:Int):Rat)=(k:Rat):=Rat.intCast_natCast k
  have mX:=X2o a1 a2
  have n1:=X2F e1
  unfold Nr at N1
  have ht:=X2w hM
  have hM2:rq (mx x + x.e)=rq (mx x) + rq x.e:=Xe _ _
  have hMn:0≤mx x + x.e:=by have:=X4g (M:=mx x) (by grind);omega
  have g0:=div_le' (a:=q1) (b:=(k:Rat)) (B:=rq (mx x + x.e)) kp (by rw [hM2];grind) (by rw [hM2];grind)
  have gM:=div_le' (a:=rq (mx x + x.e)) (b:=(k:Rat)) (B:=rq (mx x + x.e)) kp (by rw [hM2];grind) (by grind)
  have cM:=X3Y (mx x + x.e) (d:=(k:Int)) (by omega)
  have u1:=X2k (a:=q1) (b:=rq (mx x + x.e)) kp0 (by rw [hM2];grind)
  have u2:=X2k (a:=-rq (mx x + x.e)) (b:=q1) kp0 (by rw [hM2];grind)
  have u3:-rq (mx x + x.e) / (k:Rat)=-(rq (mx x + x.e) / (k:Rat)):=by rw [Rat.div_def,Rat.div_def,Rat.neg_mul]
  rw [u3] at u2
  rw [ek] at cM
  have hck:ce (mx x + x.e) (k:Int)≤mx x + x.e:=by
   unfold ce
   have hkk:(1:Int)≤(k:Int):=by omega
   have h1:-(mx x + x.e)≤-(mx x + x.e) / (k:Int):=by
    rw [Int.le_ediv_iff_mul_le (by omega)]
    have:=Int.mul_le_mul_of_nonneg_left hkk hMn
    have e1:-(mx x + x.e) * (k:Int)=-((mx x + x.e) * (k:Int)):=Int.neg_mul _ _
    omega
   omega
  have hc0:0≤ce (mx x + x.e) (k:Int):=by
   unfold ce
   have:-(mx x + x.e) / (k:Int)≤0:=by
    have:=Int.ediv_le_ediv (a:=-(mx x + x.e)) (b:=0) (c:=(k:Int)) (by omega) (by omega)
    rw [Int.zero_ediv] at this;exact this
   omega
  have htc:=Xr hck
  obtain ⟨q,W,N⟩:=quoV V1 hw (by grind) (w:=q1 / (k:Rat)) (B:=rq (ce (mx x + x.e) (k:Int))) g0.1 (by grind) (by grind) (X3G (by grind))
  have rr:=X40 (ce (mx x + x.e) (k:Int))
  have hr:=X55 hc0
  have f1:=XaM x.lo (d:=(k:Int)) (by omega)
  have f2:=X3Y x.hi (d:=(k:Int)) (by omega)
  have f3:=X3Y x.e (d:=(k:Int)) (by omega)
  have hce:0≤ce x.e (k:Int):=by
   unfold ce
   have:-x.e / (k:Int)≤0:=by
    have:=Int.ediv_le_ediv (a:=-x.e) (b:=0) (c:=(k:Int)) (by omega) (by omega)
    rw [Int.zero_ediv] at this;exact this
   omega
  rw [ek] at f1 f2 f3
  have o1:=X2k kp0 a1
  have o2:=X2k kp0 a2
  have o3:=X2k kp0 N1.1
  have o4:=X2k kp0 N1.2
  have s1:(v1 - rq x.e) / (k:Rat)=v1 / (k:Rat) - rq x.e / (k:Rat):=by rw [Rat.div_def,Rat.div_def,Rat.div_def];grind
  have s2:(v1 + rq x.e) / (k:Rat)=v1 / (k:Rat) + rq x.e / (k:Rat):=by rw [Rat.div_def,Rat.div_def,Rat.div_def];grind
  rw [s1] at o3
  rw [s2] at o4
  have t0:=t32p
  refine ⟨by simp only;omega,by simp only;grind,by simp only;grind,q,W,?_⟩
  unfold Nr at N ⊢
  simp only
  have e3:rq (ce x.e (k:Int) + 3 * rnd (ce (mx x + x.e) (k:Int)))=rq (ce x.e (k:Int)) + 3 * rq (rnd (ce (mx x + x.e) (k:Int))):=by
   rw [Xe,show 3 * rnd (ce (mx x + x.e) (k:Int))=rnd (ce (mx x + x.e) (k:Int)) + rnd (ce (mx x + x.e) (k:Int)) + rnd (ce (mx x + x.e) (k:Int)) from by omega,Xe,Xe];grind
  rw [e3]
  have e4:3 * rq (ce (mx x + x.e) (k:Int)) * uK .f32=3 * (rq (ce (mx x + x.e) (k:Int)) * uK .f32):=Rat.mul_assoc _ _ _
  rw [e4] at N
  generalize rq (rnd (ce (mx x + x.e) (k:Int)))=R at *
  generalize rq (ce (mx x + x.e) (k:Int)) * uK .f32=U at *
  grind
 ·cases h
theorem anOk {ρ:Nat→Nat} {η:Nat→Rat} {β:Nat→Bd} (h:∀ i,Vl .f32 (ρ i) (η i)∧rq (β i).lo≤η i∧η i≤rq (β i).hi):∀ {e:FE} {b:Bd},e.an β=some b→Ok (e.ev ρ) (e.xv η) b:=by
 intro e
 induction e with
 | var i =>
  intro b hb
  cases hb
  have z:rq 0=0:=by unfold rq;decide +kernel
  exact ⟨Int.le_refl 0,(h i).2.1,(h i).2.2,_,(h i).1,by unfold Nr FE.xv;rw [z];grind⟩
 | lit w n =>
  intro b hb
  unfold FE.an at hb
  split at hb
  ·rename_i hv
   cases hb
   have z:rq 0=0:=by unfold rq;decide +kernel
   exact ⟨Int.le_refl 0,Rat.le_refl,Rat.le_refl,_,hv,by unfold Nr FE.xv;rw [z];grind⟩
  ·cases hb
 | add x y hx hy =>
  intro b hb
  unfold FE.an at hb
  split at hb
  ·rename_i p q e1 e2;exact XaX (hx e1) (hy e2) hb
  ·cases hb
 | sub x y hx hy =>
  intro b hb
  unfold FE.an at hb
  split at hb
  ·rename_i p q e1 e2;exact XaY (hx e1) (hy e2) hb
  ·cases hb
 | mul x y hx hy =>
  intro b hb
  unfold FE.an at hb
  split at hb
  ·rename_i p q e1 e2;exact XaZ (hx e1) (hy e2) hb
  ·cases hb
 | div x w k hx =>
  intro b hb
  unfold FE.an at hb
  split at hb
  ·rename_i p e1
   split at hb
   ·rename_i hv;exact X9Y (hx e1) hv hb
   ·cases hb
  ·cases hb
end Go.Ab

set_option linter.unusedVariables false
set_option linter.unusedSimpArgs false
namespace Go.Ab
open Ieee
theorem X7O (n:Nat):∀ (todo root:Nat),n < (root + 2 ^ todo) * (root + 2 ^ todo)→n < (Datum.rootFrom n todo root + 1) * (Datum.rootFrom n todo root + 1):=by
 intro todo
 induction todo with
 | zero=>intro root h;exact h
 | succ t ih =>
  intro root h
  unfold Datum.rootFrom
  simp only [Nat.shiftLeft_eq,Nat.one_mul]
  split
  ·exact ih _ (by rw [Nat.add_assoc,← Nat.two_mul,← Nat.pow_succ'];exact h)
  ·rename_i hl;exact ih _ (by omega)
theorem X19 {a b:Rat} (h0:0≤a) (h:a≤b):a * a≤b * b:=by
 have h1:=Rat.mul_le_mul_of_nonneg_left h h0
 have h2:=Rat.mul_le_mul_of_nonneg_right h (show 0≤b by grind)
 grind
theorem X41 {a b:Nat} (h:a≤b):((a:Nat):Rat)≤(b:Rat):=Rat.natCast_le_natCast.2 h
theorem X9N {d:Datum} {v:Rat} (hd:vl d=some v) (h0:0≤v):∃ e r,Datum.root 54 d=some e∧vl e=some r∧0≤r∧(r - r / 9007199254740992) * (r - r / 9007199254740992)≤v∧v≤(r + r / 9007199254740992) * (r + r / 9007199254740992):=by
 cases d with
 | nan s t=>simp [vl] at hd
 | infinity s=>simp [vl] at hd
 | number s m i =>
  simp only [vl,Option.some.injEq] at hd
  unfold Datum.root
  by_cases hm:m=0
  ·subst hm
   have hv:v=0:=by rw [← hd];simp
   subst hv
   refine ⟨.number s 0 i,0,by simp only [if_true],by simp [vl],by decide +kernel,by decide +kernel,by decide +kernel⟩
  ·have hs:s=false:=by
    cases s with
    | false=>rfl
    | true =>
     exfalso
     have:=Rat.mul_pos (Rat.natCast_pos.2 (show 0 < m by omega)) (Xd i)
     simp only [sg,if_true] at hd;grind
   subst hs
   simp only [if_neg hm,Bool.false_eq_true,if_false]
   generalize hM:2 * 54 - m.log2 + ((i - ((2 * 54 - m.log2:Nat):Int)) % 2).toNat=M
   have hev:∃ j:Int,i - (M:Int)=2 * j:=⟨(i - (M:Int)) / 2,by omega⟩
   obtain ⟨j,hj⟩:=hev
   rw [show (i - (M:Int)) / 2=j from by omega]
   have hn:m <<< M=m * 2 ^ M:=Nat.shiftLeft_eq _ _
   have hlow:2 ^ 108≤m <<< M:=by
    rw [hn]
    have h1:2 ^ m.log2≤m:=Nat.log2_self_le hm
    have h2:2 ^ m.log2 * 2 ^ M≤m * 2 ^ M:=Nat.mul_le_mul_right _ h1
    rw [← Nat.pow_add] at h2
    have h3:2 ^ 108≤2 ^ (m.log2 + M):=Nat.pow_le_pow_right (by omega) (by omega)
    omega
   have hval:((m <<< M:Nat):Rat) * ((2:Rat)^j * (2:Rat)^j)=v:=by
    rw [hn,Rat.natCast_mul,← XB,← X9,Rat.mul_assoc,← X9,show (M:Int) + (j + j)=i from by omega,← hd]
    simp [sg]
   generalize m <<< M=n at *
   have hn0:n≠0:=by omega
   generalize hW:Datum.rootFrom n (n.log2 / 2 + 1) 0=W
   have w1:W * W≤n:=by rw [← hW];exact X4o n _ 0 (Nat.zero_le _)
   have w2:n < (W + 1) * (W + 1):=by
    rw [← hW]
    refine X7O n _ 0 ?_
    rw [Nat.zero_add,← Nat.pow_add]
    refine Nat.lt_of_lt_of_le Nat.lt_log2_self (Nat.pow_le_pow_right (by omega) (by omega))
   have w3:2 ^ 54≤W + 1:=by
    refine Nat.not_lt.1 fun hl => ?_
    have:=Nat.mul_le_mul (show W + 1≤2 ^ 54 by omega) (show W + 1≤2 ^ 54 by omega)
    rw [← Nat.pow_add] at this
    omega
   have hz:=Xd j
   have hj1:(2:Rat)^(j - 1) * 2=(2:Rat)^j:=by
    have:=X9 (j - 1) 1
    rw [show j - 1 + 1=j from by omega,Rat.zpow_one] at this
    exact this.symm
   have q1:((W * W:Nat):Rat)≤(n:Rat):=X41 w1
   have q2:((n + 1:Nat):Rat)≤(((W + 1) * (W + 1):Nat):Rat):=X41 w2
   have q3:((2 ^ 54:Nat):Rat)≤((W + 1:Nat):Rat):=X41 w3
   have e54:((2 ^ 54:Nat):Rat)=18014398509481984:=by decide +kernel
   rw [e54] at q3
   simp only [Rat.natCast_mul,Rat.natCast_add] at q1 q2 q3
   have e1:((1:Nat):Rat)=1:=rfl
   rw [e1] at q2 q3
   have zz:0≤(2:Rat)^j * (2:Rat)^j:=Rat.mul_nonneg (Rat.le_of_lt hz) (Rat.le_of_lt hz)
   by_cases hb:W * W=n
   ·have hbb:(W * W != n)=false:=by simp [hb]
    rw [hbb]
    refine ⟨_,(W:Rat) * (2:Rat)^j,rfl,?_,?_,?_,?_⟩
    ·simp only [vl,Bool.toNat_false,Nat.add_zero,sg,if_false,Bool.false_eq_true,Rat.natCast_mul]
     congr 1
     rw [← hj1]
     have e2:((2:Nat):Rat)=2:=rfl
     rw [e2];grind
    ·exact Rat.mul_nonneg Rat.natCast_nonneg (Rat.le_of_lt hz)
    all_goals
     have hv:v=((W:Rat) * (2:Rat)^j) * ((W:Rat) * (2:Rat)^j):=by rw [← hval,← hb,Rat.natCast_mul];grind
     have hp:0≤(W:Rat) * (2:Rat)^j:=Rat.mul_nonneg Rat.natCast_nonneg (Rat.le_of_lt hz)
     generalize (W:Rat) * (2:Rat)^j=r at *
     rw [hv]
     exact X19 (by grind) (by grind)
   ·have hbb:(W * W != n)=true:=by simp [hb]
    rw [hbb]
    refine ⟨_,((W:Rat) + 1 / 2) * (2:Rat)^j,rfl,?_,?_,?_,?_⟩
    ·simp only [vl,Bool.toNat_true,sg,if_false,Bool.false_eq_true,Rat.natCast_mul,Rat.natCast_add]
     congr 1
     rw [← hj1]
     have e2:((2:Nat):Rat)=2:=rfl
     rw [e2,e1];grind
    ·have:(0:Rat)≤(W:Rat):=Rat.natCast_nonneg
     exact Rat.mul_nonneg (by grind) (Rat.le_of_lt hz)
    ·have h1:=Rat.mul_le_mul_of_nonneg_right q1 zz
     rw [hval] at h1
     refine Rat.le_trans ?_ h1
     have h2:(W:Rat) * (W:Rat) * ((2:Rat)^j * (2:Rat)^j)=((W:Rat) * (2:Rat)^j) * ((W:Rat) * (2:Rat)^j):=by grind
     rw [h2]
     have h3:=Rat.mul_le_mul_of_nonneg_right q3 (Rat.le_of_lt hz)
     have h4:((W:Rat) + 1) * (2:Rat)^j=(W:Rat) * (2:Rat)^j + (2:Rat)^j:=by grind
     have h5:((W:Rat) + 1 / 2) * (2:Rat)^j=(W:Rat) * (2:Rat)^j + (2:Rat)^j / 2:=by grind
     have h6:(0:Rat)≤(W:Rat) * (2:Rat)^j:=Rat.mul_nonneg Rat.natCast_nonneg (Rat.le_of_lt hz)
     rw [h5];rw [h4] at h3
     generalize (W:Rat) * (2:Rat)^j=X at *
     generalize (2:Rat)^j=z at *
     exact X19 (by grind) (by grind)
    ·have h1:=Rat.mul_le_mul_of_nonneg_right (show (n:Rat)≤((W:Rat) + 1) * ((W:Rat) + 1) by grind) zz
     rw [hval] at h1
     refine Rat.le_trans h1 ?_
     have h2:((W:Rat) + 1) * ((W:Rat) + 1) * ((2:Rat)^j * (2:Rat)^j)=(((W:Rat) + 1) * (2:Rat)^j) * (((W:Rat) + 1) * (2:Rat)^j):=by grind
     rw [h2]
     have h3:=Rat.mul_le_mul_of_nonneg_right q3 (Rat.le_of_lt hz)
     have h4:((W:Rat) + 1) * (2:Rat)^j=(W:Rat) * (2:Rat)^j + (2:Rat)^j:=by grind
     have h5:((W:Rat) + 1 / 2) * (2:Rat)^j=(W:Rat) * (2:Rat)^j + (2:Rat)^j / 2:=by grind
     have h6:(0:Rat)≤(W:Rat) * (2:Rat)^j:=Rat.mul_nonneg Rat.natCast_nonneg (Rat.le_of_lt hz)
     rw [h5,h4];rw [h4] at h3
     generalize (W:Rat) * (2:Rat)^j=X at *
     generalize (2:Rat)^j=z at *
     exact X19 (by grind) (by grind)
def tR:Rat:=1 / 1393796574908163946345982392040522594123776
theorem X9e:0 < tR:=by decide +kernel
theorem Xb0:tK .f32≤tR / 8:=by decide +kernel
theorem tK64:tK .f64≤tR / 8:=by decide +kernel
theorem Xb1 {w:Nat} {a:Rat} (h:Vl .f32 w a) (h0:0≤a) (h1:a≤1000000000000):∃ Q,Vl .f32 (fcv .f64 .f32 (X2l (fcv .f32 .f64 w))) Q∧-tR≤Q∧(tR≤Q→(Q - tR) * (Q - tR)≤a + a / 4000000)∧a - a / 4000000≤(Q + tR) * (Q + tR):=by
 obtain ⟨e,r,r1,r2,r3,r4,r5⟩:=X9N (XI h) h0
 have hrb:r≤2000000:=by
  refine Rat.not_lt.1 fun hl => ?_
  have:=X19 (a:=1000001) (b:=r - r / 9007199254740992) (by decide +kernel) (by grind)
  have e1:(1000001:Rat) * 1000001=1000002000001:=by decide +kernel
  grind
 have t1:=Xb0
 have t2:=tK64
 have t3:=X9e
 have t4:tR≤1:=by decide +kernel
 have u64:uK .f64=1 / 9007199254740992:=rfl
 have u32':uK .f32=1 / 16777216:=rfl
 have top1:(4000000:Rat) < (2:Rat)^(topE .f64):=by decide +kernel
 have top2:(4000000:Rat) < (2:Rat)^(topE .f32):=by decide +kernel
 obtain ⟨q,V,N⟩:=X1s .f64 (B:=r) r2 (by grind) (by grind) (by grind)
 have hq:X2l (fcv .f32 .f64 w)=FloatKind.f64.format.write e:=by
  have r1:Datum.root 54 (double.read (fcv .f32 .f64 w))=some e:=r1
  rw [X7b,r1];rfl
 rw [hq]
 unfold Nr at N
 rw [u64] at N
 obtain ⟨Q,W,M⟩:=X3d V (B:=r + r / 9007199254740992 + tR / 8) (by grind) (by grind) (by grind)
 unfold Nr at M
 rw [u32'] at M
 refine ⟨Q,W,by grind,?_,?_⟩
 ·intro hQ
  have g1:=X19 (a:=Q - tR) (b:=r + r / 16000000) (by grind) (by grind)
  refine Rat.le_trans g1 ?_
  have P:0≤r * r:=Rat.mul_nonneg r3 r3
  have e1:(r + r / 16000000) * (r + r / 16000000)=r * r * ((1 + 1 / 16000000) * (1 + 1 / 16000000)):=by grind
  have e2:(r - r / 9007199254740992) * (r - r / 9007199254740992)=r * r * ((1 - 1 / 9007199254740992) * (1 - 1 / 9007199254740992)):=by grind
  rw [e1];rw [e2] at r4
  have c:=Rat.mul_le_mul_of_nonneg_left (show (1 + 1 / 16000000) * (1 + 1 / 16000000)≤((1 - 1 / 9007199254740992) * (1 - 1 / 9007199254740992)) * (1 + 1 / (4000000:Rat)) by decide +kernel) P
  have c2:=Rat.mul_le_mul_of_nonneg_right r4 (show (0:Rat)≤1 + 1 / 4000000 by decide +kernel)
  refine Rat.le_trans c ?_
  rw [← Rat.mul_assoc]
  refine Rat.le_trans c2 ?_
  grind
 ·have g1:=X19 (a:=r - r / 16000000) (b:=Q + tR) (by grind) (by grind)
  refine Rat.le_trans ?_ g1
  have P:0≤r * r:=Rat.mul_nonneg r3 r3
  have e1:(r - r / 16000000) * (r - r / 16000000)=r * r * ((1 - 1 / 16000000) * (1 - 1 / 16000000)):=by grind
  have e2:(r + r / 9007199254740992) * (r + r / 9007199254740992)=r * r * ((1 + 1 / 9007199254740992) * (1 + 1 / 9007199254740992)):=by grind
  rw [e1];rw [e2] at r5
  have c:=Rat.mul_le_mul_of_nonneg_left (show ((1 + 1 / 9007199254740992) * (1 + 1 / 9007199254740992)) * (1 - 1 / (4000000:Rat))≤(1 - 1 / 16000000) * (1 - 1 / 16000000) by decide +kernel) P
  have c2:=Rat.mul_le_mul_of_nonneg_right r5 (show (0:Rat)≤1 - 1 / 4000000 by decide +kernel)
  refine Rat.le_trans ?_ c
  rw [← Rat.mul_assoc (r * r)]
  refine Rat.le_trans ?_ c2
  grind
end Go.Ab

set_option linter.unusedVariables false
set_option linter.unusedSimpArgs false
namespace Go.Ab
open Ieee
theorem X9f (f:Format) (neg:Bool) {r:Nat} (h:r≤f.infRung):(f.word neg r / f.signWeight % 2 == 1)=neg:=by
 have hs:f.infRung < f.signWeight:=f.infRung_lt
 unfold Format.word
 cases neg with
 | true=>rw [if_pos rfl,Nat.add_div_left _ (by omega),Nat.div_eq_of_lt (by omega)];rfl
 | false=>rw [if_neg (by simp),Nat.div_eq_of_lt (by omega)];rfl
theorem X9g {f:Format} {w:Nat} {s:Bool} {m:Nat} {e:Int} (h:f.read w = .number s m e):s=(w / f.signWeight % 2 == 1):=by
 unfold Format.read at h
 simp only at h
 split at h
 ·cases h;rfl
 ·split at h
  ·cases h;rfl
  ·split at h<;>cases h
theorem X7p (f:Format) (neg:Bool) (m:Nat) (e:Int):∃ r,r≤f.infRung∧f.nearest neg m e=f.word neg r:=by
 unfold Format.nearest
 split
 ·exact ⟨0,Nat.zero_le _,rfl⟩
 ·exact ⟨_,Nat.min_le_right _ _,rfl⟩
theorem X9h {f:Format} {neg:Bool} {m:Nat} {e:Int} {q:Rat} (h:vl (f.read (f.nearest neg m e))=some q):0≤sg neg * q:=by
 obtain ⟨r,hr,hw⟩:=X7p f neg m e
 rw [hw] at h
 cases hd:f.read (f.word neg r) with
 | nan s t=>rw [hd] at h;simp [vl] at h
 | infinity s=>rw [hd] at h;simp [vl] at h
 | number s M E =>
  have hs:=X9g hd
  rw [X9f f neg hr] at hs
  subst hs
  rw [hd] at h
  simp only [vl,Option.some.injEq] at h
  rw [← h,← Rat.mul_assoc,X9S,Rat.one_mul]
  exact X1z M E
theorem X7q {k:FloatKind} {d:Datum} {v q:Rat} (hd:vl d=some v) (h0:0≤v) (hq:Vl k (k.format.write d) q):0≤q:=by
 cases d with
 | nan s t=>simp [vl] at hd
 | infinity s=>simp [vl] at hd
 | number s m e =>
  have h:=X9h (f:=k.format) (neg:=s) (m:=m) (e:=e) hq
  cases s with
  | false=>simpa [sg] using h
  | true =>
   by_cases hm:m=0
   ·subst hm
    have e1:k.format.write (.number true 0 e)=k.format.word true 0:=by
     show k.format.nearest true 0 e=_
     unfold Format.nearest
     rw [if_pos rfl]
    rw [e1] at hq
    have:Vl k (k.format.word true 0) 0:=by unfold Vl;cases k<;>decide +kernel
    unfold Vl at hq this
    rw [this] at hq
    cases hq
    decide
   ·exfalso
    have:=Rat.mul_pos (Rat.natCast_pos.2 (show 0 < m by omega)) (Xd e)
    simp only [vl,Option.some.injEq,sg,if_true] at hd
    grind
theorem X10 {k:FloatKind} {w:Nat} {a b:Rat} (h:Vl k w a) (h':Vl k w b):a=b:=by
 unfold Vl at h h';rw [h] at h';cases h';rfl
theorem X9Z {k:FloatKind} {x y:Nat} {a b q:Rat} (hx:Vl k x a) (hy:Vl k y b) (h:0≤a + b) (hq:Vl k (fop .add k x y) q):0≤q:=by
 obtain ⟨r,r1,r2⟩:=X2M hx hy
 rw [X5r,r1] at hq
 exact X7q r2 h hq
theorem X8I {k:FloatKind} {x y:Nat} {a b q:Rat} (hx:Vl k x a) (hy:Vl k y b) (h:0≤a * b) (hq:Vl k (fop .mul k x y) q):0≤q:=by
 obtain ⟨r,r1,r2⟩:=X4C hx hy
 rw [X4D,r1] at hq
 exact X7q r2 h hq
theorem X56 (a:Rat):0≤a * a:=by
 rcases Rat.le_total (a:=0) (b:=a) with h | h
 ·exact Rat.mul_nonneg h h
 ·have:=Rat.mul_nonneg (show 0≤-a by grind) (show 0≤-a by grind);grind
def sqs (x y z:Nat):Nat:=fop .add .f32 (fop .add .f32 (fop .mul .f32 x x) (fop .mul .f32 y y)) (fop .mul .f32 z z)
theorem X9i {x y z:Nat} {a b c D:Rat} (hx:Vl .f32 x a) (hy:Vl .f32 y b) (hz:Vl .f32 z c) (hD:D≤1 / 1000) (a1:-D≤a) (a2:a≤D) (b1:-D≤b) (b2:b≤D) (c1:-D≤c) (c2:c≤D) :
  ∃ q,Vl .f32 (sqs x y z) q∧0≤q∧q≤3 * (D * D) + 1 / 1000000000000:=by
 have D0:0≤D:=by grind
 have sqb:∀ t:Rat,-D≤t→t≤D→t * t≤D * D:=by
  intro t h1 h2
  rcases Rat.le_total (a:=0) (b:=t) with h | h
  ·exact X19 h h2
  ·have:=X19 (show 0≤-t by grind) (show -t≤D by grind);grind
 have hDD:D * D≤1 / 1000000:=by
  have:=X19 D0 hD
  have e:(1 / 1000:Rat) * (1 / 1000)=1 / 1000000:=by decide +kernel
  grind
 have sa:=sqb a a1 a2
 have sb:=sqb b b1 b2
 have sc:=sqb c c1 c2
 have na:=X56 a
 have nb:=X56 b
 have nc:=X56 c
 have tp:(1:Rat) < (2:Rat)^(topE .f32):=by decide +kernel
 have u:uK .f32=1 / 16777216:=rfl
 have t:=X3F .f32
 have tpos:=X3W .f32
 obtain ⟨qa,Va,Na⟩:=mulV hx hx (B:=D * D) (by grind) sa (by grind)
 obtain ⟨qb,Vb,Nb⟩:=mulV hy hy (B:=D * D) (by grind) sb (by grind)
 obtain ⟨qc,Vc,Nc⟩:=mulV hz hz (B:=D * D) (by grind) sc (by grind)
 have pa:=X8I hx hx na Va
 have pb:=X8I hy hy nb Vb
 have pc:=X8I hz hz nc Vc
 unfold Nr at Na Nb Nc
 rw [u] at Na Nb Nc
 obtain ⟨qd,Vd,Nd⟩:=addV Va Vb (B:=1 / 300000) (by grind) (by grind) (by grind)
 have pd:=X9Z Va Vb (by grind) Vd
 unfold Nr at Nd
 rw [u] at Nd
 obtain ⟨qe,Ve,Ne⟩:=addV Vd Vc (B:=1 / 300000) (by grind) (by grind) (by grind)
 have pe:=X9Z Vd Vc (by grind) Ve
 unfold Nr at Ne
 rw [u] at Ne
 exact ⟨qe,Ve,pe,by grind⟩
theorem Xb2 {k:FloatKind} {x y:Nat} {a b:Rat} (hx:Vl k x a) (hy:Vl k y b):∃ c,Vl k (fmax k x y) c∧(c=a∨c=b)∧a≤c∧b≤c:=by
 have ho:k.format.order x y=some (if a < b then .lt else if a=b then .eq else .gt):=X2v hx hy
 unfold fmax
 rw [ho]
 by_cases h:a < b
 ·simp only [h,if_true];exact ⟨b,hy, .inr rfl,by grind,by grind⟩
 ·by_cases h2:a=b
  ·subst h2
   simp only [h,if_false,if_true]
   split
   ·exact ⟨a,hy, .inl rfl,by grind,by grind⟩
   ·exact ⟨a,hx, .inl rfl,by grind,by grind⟩
  ·simp only [h,h2,if_false]
   exact ⟨a,hx, .inl rfl,by grind,by grind⟩
end Go.Ab

set_option linter.unusedVariables false
set_option linter.unusedSimpArgs false
namespace Go.Ab
open Ieee
structure Iv where
 lo:Int
 hi:Int
def In (w:Nat) (I:Iv):Prop:=∃ q,Vl .f64 w q∧rq I.lo≤q∧q≤rq I.hi
def In32 (w:Nat) (I:Iv):Prop:=∃ q,Vl .f32 w q∧rq I.lo≤q∧q≤rq I.hi
def okI (a b:Int):Option Iv:=if -top≤a∧b≤top then some ⟨a - 1,b + 1⟩ else none
def iadd (I J:Iv):Option Iv:=okI (I.lo + J.lo) (I.hi + J.hi)
def isub (I J:Iv):Option Iv:=okI (I.lo - J.hi) (I.hi - J.lo)
def imul (I J:Iv):Option Iv:=okI (fl (min4 (I.lo * J.lo) (I.lo * J.hi) (I.hi * J.lo) (I.hi * J.hi)) 1073741824) (ce (max4 (I.lo * J.lo) (I.lo * J.hi) (I.hi * J.lo) (I.hi * J.hi)) 1073741824)
def iquo (I J:Iv):Option Iv:=if 0 < J.lo∧J.lo≤J.hi then okI (min (fl (I.lo * 1073741824) J.lo) (fl (I.lo * 1073741824) J.hi)) (max (ce (I.hi * 1073741824) J.lo) (ce (I.hi * 1073741824) J.hi)) else none
theorem XaN:rq top=1000000:=by unfold rq top;decide +kernel
theorem X4h {w:Nat} {v:Rat} {a b:Int} {I:Iv} (h:okI a b=some I) (h1:rq a≤v) (h2:v≤rq b) (H:-1000000≤v→v≤1000000→∃ q,Vl .f64 w q∧Nr q v (3 * 1000000 * uK .f64 + tK .f64)):In w I:=by
 unfold okI at h
 split at h
 ·rename_i hb
  cases h
  have g1:=Xr hb.1
  have g2:=Xr hb.2
  rw [X3X] at g1
  rw [XaN] at g1 g2
  obtain ⟨q,V,N⟩:=H (by grind) (by grind)
  have u:uK .f64=1 / 9007199254740992:=rfl
  have t:=X3F .f64
  unfold Nr at N
  rw [u] at N
  have e:=rq_1
  refine ⟨q,V,?_,?_⟩
  ·show rq (a - 1)≤q
   rw [X1g,e];grind
  ·show q≤rq (b + 1)
   rw [Xe,e];grind
 ·cases h
theorem t6:(2000000:Rat) < (2:Rat)^(topE .f64):=by decide +kernel
theorem wk {q v B C:Rat} (h:Nr q v (B * uK .f64 + tK .f64)) (hB:B≤C):Nr q v (C * uK .f64 + tK .f64):=by
 have u:uK .f64=1 / 9007199254740992:=rfl
 rw [u] at h ⊢
 unfold Nr at *
 grind
theorem X6e {x y:Nat} {I J K:Iv} (h1:In x I) (h2:In y J) (h:iadd I J=some K):In (fop .add .f64 x y) K:=by
 obtain ⟨a,Va,a1,a2⟩:=h1
 obtain ⟨b,Vb,b1,b2⟩:=h2
 refine X4h (v:=a + b) h (by rw [Xe];grind) (by rw [Xe];grind) fun c1 c2 => ?_
 obtain ⟨q,V,N⟩:=addV Va Vb (B:=1000000) c1 c2 (by have:=t6;grind)
 exact ⟨q,V,wk N (by decide +kernel)⟩
theorem Xb3 {x y:Nat} {I J K:Iv} (h1:In x I) (h2:In y J) (h:isub I J=some K):In (fop .sub .f64 x y) K:=by
 obtain ⟨a,Va,a1,a2⟩:=h1
 obtain ⟨b,Vb,b1,b2⟩:=h2
 refine X4h (v:=a - b) h (by rw [X1g];grind) (by rw [X1g];grind) fun c1 c2 => ?_
 obtain ⟨q,V,N⟩:=subV Va Vb (B:=1000000) c1 c2 (by have:=t6;grind)
 exact ⟨q,V,wk N (by decide +kernel)⟩
theorem Xao (a b c d:Int):min4 a b c d≤a∧min4 a b c d≤b∧min4 a b c d≤c∧min4 a b c d≤d:=by unfold min4;omega
theorem Xap (a b c d:Int):a≤max4 a b c d∧b≤max4 a b c d∧c≤max4 a b c d∧d≤max4 a b c d:=by unfold max4;omega
theorem X57 {x a b:Int} (h:x≤a * b):rq (fl x 1073741824)≤rq a * rq b:=by
 have h0:fl x 1073741824≤fl (a * b) 1073741824:=Int.ediv_le_ediv (by decide) h
 exact Rat.le_trans (Xr h0) (X9X a b)
theorem X58 {x a b:Int} (h:a * b≤x):rq a * rq b≤rq (ce x 1073741824):=by
 have h0:ce (a * b) 1073741824≤ce x 1073741824:=by
  unfold ce
  have:=Int.ediv_le_ediv (a:=-x) (b:=-(a * b)) (c:=1073741824) (by decide) (by omega)
  omega
 exact Rat.le_trans (X54 a b) (Xr h0)
theorem X3H {x y:Nat} {I J K:Iv} (h1:In x I) (h2:In y J) (h:imul I J=some K):In (fop .mul .f64 x y) K:=by
 obtain ⟨a,Va,a1,a2⟩:=h1
 obtain ⟨b,Vb,b1,b2⟩:=h2
 have m:=Xao (I.lo * J.lo) (I.lo * J.hi) (I.hi * J.lo) (I.hi * J.hi)
 have n:=Xap (I.lo * J.lo) (I.lo * J.hi) (I.hi * J.lo) (I.hi * J.hi)
 have p:=X81 a1 a2 b1 b2 (X57 m.1) (X57 m.2.1) (X57 m.2.2.1) (X57 m.2.2.2) (X58 n.1) (X58 n.2.1) (X58 n.2.2.1) (X58 n.2.2.2)
 refine X4h (v:=a * b) h p.1 p.2 fun c1 c2 => ?_
 obtain ⟨q,V,N⟩:=mulV Va Vb (B:=1000000) c1 c2 (by have:=t6;grind)
 exact ⟨q,V,wk N (by decide +kernel)⟩
theorem X9j {a d:Int} (hd:0 < d):rq (fl (a * 1073741824) d) * rq d≤rq a:=by
 have h:=X9W (x:=a * 1073741824) hd
 have h2:((fl (a * 1073741824) d * d:Int):Rat)≤((a * 1073741824:Int):Rat):=Rat.intCast_le_intCast.2 h
 rw [Rat.intCast_mul,Rat.intCast_mul] at h2
 have e:((1073741824:Int):Rat)=1073741824:=by decide +kernel
 rw [e] at h2
 unfold rq
 generalize ((fl (a * 1073741824) d:Int):Rat)=F at *
 generalize ((d:Int):Rat)=D at *
 generalize ((a:Int):Rat)=A at *
 have:F / 1073741824 * (D / 1073741824)=F * D / 1073741824 / 1073741824:=by grind
 rw [this]
 grind
theorem X9k {a d:Int} (hd:0 < d):rq a≤rq (ce (a * 1073741824) d) * rq d:=by
 have h:=X53 (x:=a * 1073741824) hd
 have h2:((a * 1073741824:Int):Rat)≤((ce (a * 1073741824) d * d:Int):Rat):=Rat.intCast_le_intCast.2 h
 rw [Rat.intCast_mul,Rat.intCast_mul] at h2
 have e:((1073741824:Int):Rat)=1073741824:=by decide +kernel
 rw [e] at h2
 unfold rq
 generalize ((ce (a * 1073741824) d:Int):Rat)=F at *
 generalize ((d:Int):Rat)=D at *
 generalize ((a:Int):Rat)=A at *
 have:F / 1073741824 * (D / 1073741824)=F * D / 1073741824 / 1073741824:=by grind
 rw [this]
 grind
theorem X42 {a:Int} (h:0 < a):0 < rq a:=by
 have:=Xr (show 1≤a by omega)
 rw [rq_1] at this
 have e:(0:Rat) < 1 / 1073741824:=by decide +kernel
 grind
theorem X6f {x y:Nat} {I J K:Iv} (h1:In x I) (h2:In y J) (h:iquo I J=some K):In (fop .quo .f64 x y) K:=by
 obtain ⟨a,Va,a1,a2⟩:=h1
 obtain ⟨b,Vb,b1,b2⟩:=h2
 unfold iquo at h
 split at h
 ·rename_i hp
  have p1:=X42 hp.1
  have hd:0 < J.hi:=by omega
  have bp:0 < b:=by grind
  have mulc:∀ {u v:Rat},u * b≤v * b→u≤v:=fun {u v} huv=>by
   refine Rat.not_lt.1 fun hl => ?_
   have:=Rat.mul_lt_mul_of_pos_right hl bp
   grind
  have hw:a / b * b=a:=by rw [Rat.div_def,Rat.mul_assoc,Rat.inv_mul_cancel b (by grind),Rat.mul_one]
  have lo:rq (min (fl (I.lo * 1073741824) J.lo) (fl (I.lo * 1073741824) J.hi))≤a / b:=by
   refine mulc ?_
   rw [hw]
   generalize hL:min (fl (I.lo * 1073741824) J.lo) (fl (I.lo * 1073741824) J.hi)=L
   have l1:=Rat.mul_le_mul_of_nonneg_right (Xr (show L≤fl (I.lo * 1073741824) J.lo by omega)) (Rat.le_of_lt p1)
   have l2:=Rat.mul_le_mul_of_nonneg_right (Xr (show L≤fl (I.lo * 1073741824) J.hi by omega)) (Rat.le_of_lt (X42 hd))
   have f1:=X9j (a:=I.lo) hp.1
   have f2:=X9j (a:=I.lo) hd
   have lb:=X3Z (y:=rq L) b1 b2
   have c1:rq J.lo * rq L=rq L * rq J.lo:=Rat.mul_comm _ _
   have c2:rq J.hi * rq L=rq L * rq J.hi:=Rat.mul_comm _ _
   have c3:b * rq L=rq L * b:=Rat.mul_comm _ _
   rw [c1,c2,c3] at lb
   grind
  have hi:a / b≤rq (max (ce (I.hi * 1073741824) J.lo) (ce (I.hi * 1073741824) J.hi)):=by
   refine mulc ?_
   rw [hw]
   generalize hL:max (ce (I.hi * 1073741824) J.lo) (ce (I.hi * 1073741824) J.hi)=L
   have l1:=Rat.mul_le_mul_of_nonneg_right (Xr (show ce (I.hi * 1073741824) J.lo≤L by omega)) (Rat.le_of_lt p1)
   have l2:=Rat.mul_le_mul_of_nonneg_right (Xr (show ce (I.hi * 1073741824) J.hi≤L by omega)) (Rat.le_of_lt (X42 hd))
   have f1:=X9k (a:=I.hi) hp.1
   have f2:=X9k (a:=I.hi) hd
   have lb:=X3Z (y:=rq L) b1 b2
   have c1:rq J.lo * rq L=rq L * rq J.lo:=Rat.mul_comm _ _
   have c2:rq J.hi * rq L=rq L * rq J.hi:=Rat.mul_comm _ _
   have c3:b * rq L=rq L * b:=Rat.mul_comm _ _
   rw [c1,c2,c3] at lb
   grind
  refine X4h (v:=a / b) h lo hi fun c1 c2 => ?_
  obtain ⟨q,V,N⟩:=quoV Va Vb (by grind) (B:=1000000) hw c1 c2 (by have:=t6;grind)
  exact ⟨q,V,N⟩
 ·cases h
def inar (I:Iv):Option Iv:=let M:=max (-I.lo) I.hi;if M≤top∧0≤M then some ⟨I.lo - rnd M,I.hi + rnd M⟩ else none
theorem Xa0 {x:Nat} {I K:Iv} (h1:In x I) (h:inar I=some K):In32 (fcv .f64 .f32 x) K:=by
 obtain ⟨a,Va,a1,a2⟩:=h1
 unfold inar at h
 simp only at h
 split at h
 ·rename_i hM
  cases h
  have m1:=Xr (show -I.lo≤max (-I.lo) I.hi by omega)
  have m2:=Xr (show I.hi≤max (-I.lo) I.hi by omega)
  rw [X3X] at m1
  have ht:=X2w hM.1
  have rr:=X40 (max (-I.lo) I.hi)
  generalize max (-I.lo) I.hi=M at *
  obtain ⟨q,V,N⟩:=X3d Va (B:=rq M) (by grind) (by grind) (X3G (by grind))
  unfold Nr at N
  refine ⟨q,V,?_,?_⟩
  ·show rq (I.lo - rnd M)≤q
   rw [X1g];grind
  ·show q≤rq (I.hi + rnd M)
   rw [Xe];grind
 ·cases h
def X7r (I:Iv):Option Iv:=match X6d ⟨I.lo,I.hi,0⟩ 3 with
 | some b=>some ⟨b.lo - b.e,b.hi + b.e⟩
 | none=>none
theorem rq_0:rq 0=0:=by unfold rq;decide +kernel
theorem Xaq {x:Nat} {I K:Iv} (h1:In32 x I) (h:X7r I=some K):In32 (fop .quo .f32 x 1077936128) K:=by
 obtain ⟨a,Va,a1,a2⟩:=h1
 unfold X7r at h
 split at h
 ·rename_i b hb
  cases h
  have hok:Ok x a ⟨I.lo,I.hi,0⟩:=⟨Int.le_refl 0,a1,a2,a,Va,by unfold Nr;rw [rq_0];grind⟩
  obtain ⟨_,b1,b2,q,V,N⟩:=X9Y hok (w2:=1077936128) (by have:=X9V;simpa using this) hb
  unfold Nr at N
  refine ⟨q,V,?_,?_⟩
  ·show rq (b.lo - b.e)≤q
   rw [X1g];grind
  ·show q≤rq (b.hi + b.e)
   rw [Xe];grind
 ·cases h
theorem XaO {x:Nat} {I:Iv} (h:In32 x I):In (fcv .f32 .f64 x) I:=by
 obtain ⟨a,Va,a1,a2⟩:=h
 exact ⟨a,XI Va,a1,a2⟩
end Go.Ab

set_option linter.unusedVariables false
set_option linter.unusedSimpArgs false
namespace Go.Ab
open Ieee
def Gr (s:Nat) (q:Rat):Prop:=∃ n:Int,q * (2:Rat)^(s:Int)=(n:Rat)
theorem Gr.mono {s t:Nat} {q:Rat} (h:Gr s q) (hst:s≤t):Gr t q:=by
 obtain ⟨n,hn⟩:=h
 refine ⟨n * ((2 ^ (t - s):Nat):Int),?_⟩
 rw [show (t:Int)=(s:Int) + ((t - s:Nat):Int) from by omega,X9,XB (t - s),← Rat.mul_assoc,hn,Rat.intCast_mul,Rat.intCast_natCast]
theorem Gr.add {s:Nat} {a b:Rat} (h:Gr s a) (k:Gr s b):Gr s (a + b):=by
 obtain ⟨n,hn⟩:=h
 obtain ⟨m,hm⟩:=k
 exact ⟨n + m,by rw [Rat.intCast_add,← hn,← hm];grind⟩
theorem Gr.sub {s:Nat} {a b:Rat} (h:Gr s a) (k:Gr s b):Gr s (a - b):=by
 obtain ⟨n,hn⟩:=h
 obtain ⟨m,hm⟩:=k
 exact ⟨n - m,by rw [Rat.intCast_sub,← hn,← hm];grind⟩
theorem Gr.mul {s t:Nat} {a b:Rat} (h:Gr s a) (k:Gr t b):Gr (s + t) (a * b):=by
 obtain ⟨n,hn⟩:=h
 obtain ⟨m,hm⟩:=k
 refine ⟨n * m,?_⟩
 rw [Rat.intCast_mul,← hn,← hm,show ((s + t:Nat):Int)=(s:Int) + (t:Int) from rfl,X9]
 grind
theorem X5t (s:Nat):Gr s 0:=⟨0,by simp⟩
theorem X82 {w s:Nat} {q:Rat} (h:Vl .f32 w q) (hb:(2:Rat)^(23 - (s:Int))≤q∨q≤-(2:Rat)^(23 - (s:Int))):Gr s q:=by
 have h':vl (single.read w)=some q:=h
 cases hr:single.read w with
 | nan a b=>rw [hr] at h';simp [vl] at h'
 | infinity a=>rw [hr] at h';simp [vl] at h'
 | number sn m e =>
  obtain ⟨p1,p2,p3⟩:=XR hr
  rw [hr] at h'
  simp only [vl,Option.some.injEq] at h'
  have hm:(m:Rat) < ((2 ^ 24:Nat):Rat):=Rat.natCast_lt_natCast.2 p1
  have h2:=Rat.mul_lt_mul_of_pos_right hm (Xd e)
  rw [← XB,← X9] at h2
  have hmn:=X1z m e
  have hlt:(2:Rat)^(23 - (s:Int)) < (2:Rat)^(((24:Nat):Int) + e):=by
   subst h'
   have hz:=Xd (23 - (s:Int))
   cases sn<;>simp only [sg,if_true,if_false,Bool.false_eq_true] at hb<;>rcases hb with hb | hb<;>grind
  have he:=X6a hlt
  obtain ⟨d,hd⟩:=Int.eq_ofNat_of_zero_le (show 0≤e + (s:Int) by omega)
  have hp:(m:Rat) * (2:Rat)^e * (2:Rat)^(s:Int)=((m * 2 ^ d:Nat):Rat):=by
   rw [Rat.mul_assoc,← X9,hd,Rat.natCast_mul,← XB]
  cases sn with
  | false=>exact ⟨((m * 2 ^ d:Nat):Int),by rw [← h',Rat.intCast_natCast,← hp];simp [sg]⟩
  | true=>exact ⟨-((m * 2 ^ d:Nat):Int),by rw [← h',Rat.intCast_neg,Rat.intCast_natCast,← hp];simp [sg];grind⟩
theorem XaP {w:Nat} {q:Rat} (h:Vl .f32 w q):Gr 149 q:=by
 have h':vl (single.read w)=some q:=h
 cases hr:single.read w with
 | nan a b=>rw [hr] at h';simp [vl] at h'
 | infinity a=>rw [hr] at h';simp [vl] at h'
 | number sn m e =>
  obtain ⟨p1,p2,p3⟩:=XR hr
  rw [hr] at h'
  simp only [vl,Option.some.injEq] at h'
  obtain ⟨d,hd⟩:=Int.eq_ofNat_of_zero_le (show 0≤e + ((149:Nat):Int) by omega)
  have hp:(m:Rat) * (2:Rat)^e * (2:Rat)^((149:Nat):Int)=((m * 2 ^ d:Nat):Rat):=by
   rw [Rat.mul_assoc,← X9,hd,Rat.natCast_mul,← XB]
  cases sn with
  | false=>exact ⟨((m * 2 ^ d:Nat):Int),by rw [← h',Rat.intCast_natCast,← hp];simp [sg]⟩
  | true=>exact ⟨-((m * 2 ^ d:Nat):Int),by rw [← h',Rat.intCast_neg,Rat.intCast_natCast,← hp];simp [sg];grind⟩
theorem X7s {s:Nat} {q:Rat} (h:Gr s q) (h0:q≠0):(2:Rat)^(-(s:Int))≤q∨q≤-(2:Rat)^(-(s:Int)):=by
 obtain ⟨n,hn⟩:=h
 have hz:=Xd (s:Int)
 have h1:(2:Rat)^(-(s:Int)) * (2:Rat)^(s:Int)=1:=by rw [← X9,show -(s:Int) + (s:Int)=0 from by omega];decide +kernel
 have hzi:=Xd (-(s:Int))
 have hn0:n≠0:=by
  intro h;subst h
  have:q * (2:Rat)^(s:Int)=0:=hn
  rcases Rat.mul_eq_zero.1 this with h | h
  ·exact h0 h
  ·grind
 rcases Int.lt_or_lt_of_ne hn0 with h | h
 ·right
  have:(n:Rat)≤((-1:Int):Rat):=Rat.intCast_le_intCast.2 (by omega)
  have e:((-1:Int):Rat)=-1:=by decide +kernel
  rw [e,← hn] at this
  refine Rat.not_lt.1 fun hl => ?_
  have:=Rat.mul_lt_mul_of_pos_right hl hz
  grind
 ·left
  have:((1:Int):Rat)≤(n:Rat):=Rat.intCast_le_intCast.2 (by omega)
  have e:((1:Int):Rat)=1:=by decide +kernel
  rw [e,← hn] at this
  refine Rat.not_lt.1 fun hl => ?_
  have:=Rat.mul_lt_mul_of_pos_right hl hz
  grind
theorem X4G {d:Datum} {r q:Rat} {s:Nat} (hd:vl d=some r) (hs:s≤120) (hr:Gr s r) (h1:-1000000000000≤r) (h2:r≤1000000000000) (hq:Vl .f32 (single.write d) q):Gr s q:=by
 obtain ⟨n,hn⟩:=hr
 by_cases hl:n.natAbs < 16777216
 ·have hx:Vl .f32 (single.write d) r:=X9M .f32 hd ⟨n,s,hn,by have:2 * FloatKind.f32.format.binade=16777216:=(by decide +kernel);rw [this];exact hl,by omega⟩
  rw [X10 hq hx];exact ⟨n,hn⟩
 ·refine X82 hq ?_
  have hz:=Xd (s:Int)
  have u:uK .f32=1 / 16777216:=rfl
  have ht:tK .f32=(2:Rat)^(-150:Int):=rfl
  have e23:(2:Rat)^(23 - (s:Int)) * (2:Rat)^(s:Int)=8388608:=by
   rw [← X9,show 23 - (s:Int) + (s:Int)=23 from by omega];decide +kernel
  have t0:(2:Rat)^(-150:Int) * (2:Rat)^(s:Int)≤1:=by
   rw [← X9]
   have:=X2L (a:=(-150:Int) + (s:Int)) (b:=0) (by omega)
   have e:(2:Rat)^(0:Int)=1:=by decide +kernel
   rw [e] at this;exact this
  have tp:(1000000000000:Rat) < (2:Rat)^(topE .f32):=by decide +kernel
  rcases Rat.le_total (a:=0) (b:=r) with h0 | h0
  ·left
   obtain ⟨q',V,N⟩:=X1s .f32 (B:=r) hd (by grind) (by grind) (by grind)
   have:=X10 hq V
   subst this
   unfold Nr at N
   rw [u,ht] at N
   have hn1:(0:Int)≤n:=by
    refine Int.not_lt.1 fun hneg => ?_
    have a1:(n:Rat) < ((0:Int):Rat):=Rat.intCast_lt_intCast.2 hneg
    have e0:((0:Int):Rat)=0:=rfl
    have:=Rat.mul_nonneg h0 (Rat.le_of_lt hz)
    rw [e0] at a1;grind
   have hn2:((16777216:Int):Rat)≤(n:Rat):=Rat.intCast_le_intCast.2 (by omega)
   have e:((16777216:Int):Rat)=16777216:=by decide +kernel
   rw [e,← hn] at hn2
   refine Rat.not_lt.1 fun hl => ?_
   have l1:=Rat.mul_lt_mul_of_pos_right hl hz
   have l2:=Rat.mul_le_mul_of_nonneg_right N.1 (Rat.le_of_lt hz)
   generalize (2:Rat)^(s:Int)=z at *
   generalize (2:Rat)^(-150:Int)=y at *
   have e3:(r - (r * (1 / 16777216) + y)) * z=r * z - (r * z * (1 / 16777216) + y * z):=by grind
   rw [e3] at l2
   grind
  ·right
   obtain ⟨q',V,N⟩:=X1s .f32 (B:=-r) hd (by grind) (by grind) (by grind)
   have:=X10 hq V
   subst this
   unfold Nr at N
   rw [u,ht] at N
   have hn1:n≤(0:Int):=by
    refine Int.not_lt.1 fun hneg => ?_
    have a1:((0:Int):Rat) < (n:Rat):=Rat.intCast_lt_intCast.2 hneg
    have e0:((0:Int):Rat)=0:=rfl
    have:=Rat.mul_nonneg (show 0≤-r by grind) (Rat.le_of_lt hz)
    rw [e0] at a1;grind
   have hn2:(n:Rat)≤((-16777216:Int):Rat):=Rat.intCast_le_intCast.2 (by omega)
   have e:((-16777216:Int):Rat)=-16777216:=by decide +kernel
   rw [e,← hn] at hn2
   refine Rat.not_lt.1 fun hl => ?_
   have l1:=Rat.mul_lt_mul_of_pos_right hl hz
   have l2:=Rat.mul_le_mul_of_nonneg_right N.2 (Rat.le_of_lt hz)
   generalize (2:Rat)^(s:Int)=z at *
   generalize (2:Rat)^(-150:Int)=y at *
   have e3:(r + (-r * (1 / 16777216) + y)) * z=r * z + (-(r * z) * (1 / 16777216) + y * z):=by grind
   rw [e3] at l2
   grind
def FE.sm (β:Nat→Bd) (e:FE):Bool:=match e.an β with | some p=>decide (mx p + p.e≤top) | none=>false
def FE.gr (β:Nat→Bd):FE→Option Nat
 | .var _=>some 24
 | .lit _ n=>if n=0 then some 0 else none
 | .add a b=>match a.gr β,b.gr β with | some x,some y=>some (max x y) | _,_=>none
 | .sub a b=>match a.gr β,b.gr β with | some x,some y=>some (max x y) | _,_=>none
 | .mul a b=>match a.gr β,b.gr β with | some x,some y=>cond (a.sm β && b.sm β) (some (x + y)) none | _,_=>none
 | .div a _ k=>match a.gr β with | some x=>cond (a.sm β && Nat.beq k 6) (some (x + 27)) none | none=>none
theorem Ok.bd {w:Nat} {v:Rat} {b:Bd} {q:Rat} (h:Ok w v b) (hq:Vl .f32 w q) (hM:mx b + b.e≤top):-1000000≤q∧q≤1000000:=by
 obtain ⟨e1,a1,a2,q1,V1,N1⟩:=h
 have:=X10 hq V1
 subst this
 have m:=X2o a1 a2
 have t:=X2w hM
 rw [Xe] at t
 unfold Nr at N1
 grind
theorem X7t {e:FE} {ρ:Nat→Nat} {η:Nat→Rat} {β:Nat→Bd} (h:∀ i,Vl .f32 (ρ i) (η i)∧rq (β i).lo≤η i∧η i≤rq (β i).hi) (hs:e.sm β=true) {q:Rat} (hq:Vl .f32 (e.ev ρ) q):-1000000≤q∧q≤1000000:=by
 unfold FE.sm at hs
 split at hs
 ·rename_i p hp
  exact (anOk h hp).bd hq (of_decide_eq_true hs)
 ·cases hs
theorem XaQ {x:Nat} {a q:Rat} {s:Nat} {w:Nat} (hx:Vl .f32 x a) (hw:Vl .f32 w 6) (ha:Gr s a) (hs:s≤120) (h1:-1000000≤a) (h2:a≤1000000) (hq:Vl .f32 (fop .quo .f32 x w) q):Gr (s + 27) q:=by
 have tp:(4000000:Rat) < (2:Rat)^(topE .f32):=by decide +kernel
 have u:uK .f32=1 / 16777216:=rfl
 have ht:tK .f32=(2:Rat)^(-150:Int):=rfl
 by_cases h0:a=0
 ·subst h0
  obtain ⟨q',V,N⟩:=quoV hx hw (by decide +kernel) (B:=0) (w:=0) (by decide +kernel) (by decide +kernel) (by decide +kernel) (by decide +kernel)
  have:=X10 hq V
  subst this
  unfold Nr at N
  rw [ht] at N
  obtain ⟨n,hn⟩:=XaP hq
  have hz:=Xd ((149:Nat):Int)
  have e:(2:Rat)^(-150:Int) * (2:Rat)^((149:Nat):Int)=1 / 2:=by decide +kernel
  have m1:=Rat.mul_le_mul_of_nonneg_right N.1 (Rat.le_of_lt hz)
  have m2:=Rat.mul_le_mul_of_nonneg_right N.2 (Rat.le_of_lt hz)
  have hn0:n=0:=by
   have a1:((-1:Int):Rat) < (n:Rat):=by
    have e1:((-1:Int):Rat)=-1:=by decide +kernel
    rw [e1,← hn];grind
   have a2:(n:Rat) < ((1:Int):Rat):=by
    have e1:((1:Int):Rat)=1:=by decide +kernel
    rw [e1,← hn];grind
   have:=Rat.intCast_lt_intCast.1 a1
   have:=Rat.intCast_lt_intCast.1 a2
   omega
  subst hn0
  have hq0:q=0:=by
   have e0:((0:Int):Rat)=0:=rfl
   rw [e0] at hn
   rcases Rat.mul_eq_zero.1 hn with h | h
   ·exact h
   ·grind
  rw [hq0];exact X5t _
 ·refine X82 hq ?_
  have e23:(2:Rat)^(23 - ((s + 27:Nat):Int))=(2:Rat)^(-(s:Int)) / 16:=by
   rw [show 23 - ((s + 27:Nat):Int)=-(s:Int) + (-4) from by omega,X9]
   have:(2:Rat)^(-4:Int)=1 / 16:=by decide +kernel
   rw [this];grind
  have t0:(2:Rat)^(-150:Int)≤(2:Rat)^(-(s:Int)) / 1024:=by
   have:=X2L (a:=(-150:Int)) (b:=-(s:Int) + (-10)) (by omega)
   rw [X9] at this
   have e:(2:Rat)^(-10:Int)=1 / 1024:=by decide +kernel
   rw [e] at this;grind
  have hz:=Xd (-(s:Int))
  rw [e23]
  rcases X7s ha h0 with h | h
  ·left
   obtain ⟨q',V,N⟩:=quoV hx hw (by decide +kernel) (B:=a / 6) (w:=a / 6) (by grind) (by grind) (by grind) (by grind)
   have:=X10 hq V
   subst this
   unfold Nr at N
   rw [ht,u] at N
   grind
  ·right
   obtain ⟨q',V,N⟩:=quoV hx hw (by decide +kernel) (B:=-(a / 6)) (w:=a / 6) (by grind) (by grind) (by grind) (by grind)
   have:=X10 hq V
   subst this
   unfold Nr at N
   rw [ht,u] at N
   grind
theorem grOk {ρ:Nat→Nat} {η:Nat→Rat} {β:Nat→Bd} (h:∀ i,Vl .f32 (ρ i) (η i)∧rq (β i).lo≤η i∧η i≤rq (β i).hi) (hg:∀ i,Gr 24 (η i)):∀ {e:FE} {b:Bd} {s:Nat},e.an β=some b→e.gr β=some s→s≤120→∀ {q:Rat},Vl .f32 (e.ev ρ) q→Gr s q:=by
 intro e
 induction e with
 | var i =>
  intro b s _ hs _ q hq
  cases hs
  rw [X10 hq (h i).1];exact hg i
 | lit w n =>
  intro b s hb hs _ q hq
  unfold FE.gr at hs
  split at hs
  ·rename_i h0
   cases hs
   subst h0
   unfold FE.an at hb
   split at hb
   ·rename_i hv
    have:Vl .f32 w (rq 0):=hv
    rw [X10 hq this,rq_0];exact X5t 0
   ·cases hb
  ·cases hs
 | add x y hx hy =>
  intro b s hb hs hs2 q hq
  unfold FE.an at hb
  unfold FE.gr at hs
  split at hb
  ·rename_i p r e1 e2
   split at hs
   ·rename_i t u g1 g2
    cases hs
    obtain ⟨qx,Vx,Nx⟩:=(anOk h e1).2.2.2
    obtain ⟨qy,Vy,Ny⟩:=(anOk h e2).2.2.2
    have Gx:=hx e1 g1 (by omega) Vx
    have Gy:=hy e2 g2 (by omega) Vy
    obtain ⟨z,z1,z2⟩:=X2M Vx Vy
    have hq:Vl .f32 (fop .add .f32 (x.ev ρ) (y.ev ρ)) q:=hq
    rw [X5r,z1] at hq
    have bb:-1000000000000≤qx + qy∧qx + qy≤1000000000000:=by
     unfold X6b at hb
     simp only at hb
     split at hb
     ·rename_i hM
      have t1:=X2w hM
      rw [Xe,Xe] at t1
      have ox:=anOk h e1
      have oy:=anOk h e2
      have m:=X2o (b:=⟨p.lo + r.lo,p.hi + r.hi,0⟩) (v:=x.xv η + y.xv η) (by rw [Xe];have:=ox.2.1;have:=oy.2.1;grind) (by rw [Xe];have:=ox.2.2.1;have:=oy.2.2.1;grind)
      unfold Nr at Nx Ny
      grind
     ·cases hb
    exact X4G z2 (by omega) ((Gx.mono (by omega)).add (Gy.mono (by omega))) bb.1 bb.2 hq
   ·cases hs
  ·cases hb
 | sub x y hx hy =>
  intro b s hb hs hs2 q hq
  unfold FE.an at hb
  unfold FE.gr at hs
  split at hb
  ·rename_i p r e1 e2
   split at hs
   ·rename_i t u g1 g2
    cases hs
    obtain ⟨qx,Vx,Nx⟩:=(anOk h e1).2.2.2
    obtain ⟨qy,Vy,Ny⟩:=(anOk h e2).2.2.2
    have Gx:=hx e1 g1 (by omega) Vx
    have Gy:=hy e2 g2 (by omega) Vy
    obtain ⟨z,z1,z2⟩:=X2M Vx (X4e Vy)
    rw [← Rat.sub_eq_add_neg] at z2
    have hq:Vl .f32 (fop .sub .f32 (x.ev ρ) (y.ev ρ)) q:=hq
    rw [X4f,z1] at hq
    have bb:-1000000000000≤qx - qy∧qx - qy≤1000000000000:=by
     unfold X6c at hb
     simp only at hb
     split at hb
     ·rename_i hM
      have t1:=X2w hM
      rw [Xe,Xe] at t1
      have ox:=anOk h e1
      have oy:=anOk h e2
      have m:=X2o (b:=⟨p.lo - r.hi,p.hi - r.lo,0⟩) (v:=x.xv η - y.xv η) (by rw [X1g];have:=ox.2.1;have:=oy.2.2.1;grind) (by rw [X1g];have:=ox.2.2.1;have:=oy.2.1;grind)
      unfold Nr at Nx Ny
      grind
     ·cases hb
    exact X4G z2 (by omega) ((Gx.mono (by omega)).sub (Gy.mono (by omega))) bb.1 bb.2 hq
   ·cases hs
  ·cases hb
 | mul x y hx hy =>
  intro b s hb hs hs2 q hq
  unfold FE.an at hb
  unfold FE.gr at hs
  split at hb
  ·rename_i p r e1 e2
   split at hs
   ·rename_i t u g1 g2
    cases hsm:(x.sm β && y.sm β) with
    | false=>rw [hsm] at hs;cases hs
    | true =>
     rw [hsm,cond_true] at hs
     cases hs
     rw [Bool.and_eq_true] at hsm
     obtain ⟨qx,Vx,Nx⟩:=(anOk h e1).2.2.2
     obtain ⟨qy,Vy,Ny⟩:=(anOk h e2).2.2.2
     have Gx:=hx e1 g1 (by omega) Vx
     have Gy:=hy e2 g2 (by omega) Vy
     obtain ⟨z,z1,z2⟩:=X4C Vx Vy
     have hq:Vl .f32 (fop .mul .f32 (x.ev ρ) (y.ev ρ)) q:=hq
     rw [X4D,z1] at hq
     have bx:=X7t h hsm.1 Vx
     have bY:=X7t h hsm.2 Vy
     have bb:=mul_le_mul' (A:=1000000) (B:=1000000) bx.1 bx.2 bY.1 bY.2
     have e:(1000000:Rat) * 1000000=1000000000000:=by decide +kernel
     rw [e] at bb
     exact X4G z2 (by omega) (Gx.mul Gy) bb.1 bb.2 hq
   ·cases hs
  ·cases hb
 | div x w k hx =>
  intro b s hb hs hs2 q hq
  unfold FE.an at hb
  unfold FE.gr at hs
  split at hb
  ·rename_i p e1
   split at hs
   ·rename_i t g1
    cases hsm:(x.sm β && Nat.beq k 6) with
    | false=>rw [hsm] at hs;cases hs
    | true =>
     rw [hsm,cond_true] at hs
     cases hs
     rw [Bool.and_eq_true] at hsm
     have hk:=Nat.eq_of_beq_eq_true hsm.2
     subst hk
     split at hb
     ·rename_i hw
      obtain ⟨qx,Vx,Nx⟩:=(anOk h e1).2.2.2
      have Gx:=hx e1 g1 (by omega) Vx
      have bx:=X7t h hsm.1 Vx
      exact XaQ Vx (w:=w) (by have e:((6:Nat):Rat)=6:=rfl;rw [← e];exact hw) Gx (by omega) bx.1 bx.2 hq
     ·cases hb
   ·cases hs
  ·cases hb
end Go.Ab

set_option linter.unusedVariables false
set_option linter.unusedSimpArgs false
namespace Go.Ab
def mden (η:Nat→Rat):List Nat→Rat
 | []=>1
 | i :: l=>η i * mden η l
abbrev Py:=List (List Nat × Rat)
def pden (η:Nat→Rat):Py→Rat
 | []=>0
 | (m,c) :: p=>c * mden η m + pden η p
def mlt:List Nat→List Nat→Bool
 | [],[]=>false
 | [],_=>true
 | _,[]=>false
 | a :: l,b :: r=>Nat.blt a b || (Nat.beq a b && mlt l r)
def meq:List Nat→List Nat→Bool
 | [],[]=>true
 | a :: l,b :: r=>Nat.beq a b && meq l r
 | _,_=>false
theorem X9l:∀ {a b:List Nat},meq a b=true→a=b
 | [],[],_=>rfl
 | a :: l,b :: r,h=>by
  rw [meq,Bool.and_eq_true] at h
  rw [Nat.eq_of_beq_eq_true h.1,X9l h.2]
 | [],_ :: _,h=>by cases h
 | _ :: _,[],h=>by cases h
def mins (i:Nat):List Nat→List Nat
 | [] => [i]
 | j :: l=>cond (Nat.ble i j) (i :: j :: l) (j :: mins i l)
theorem X7u (η:Nat→Rat) (i:Nat):∀ l,mden η (mins i l)=η i * mden η l
 | []=>rfl
 | j :: l=>by
  rw [mins]
  cases Nat.ble i j with
  | true=>rfl
  | false =>
   rw [cond_false]
   show η j * mden η (mins i l)=η i * (η j * mden η l)
   rw [X7u η i l];grind
def mmul:List Nat→List Nat→List Nat
 | [],r=>r
 | i :: l,r=>mins i (mmul l r)
theorem X7v (η:Nat→Rat):∀ l r,mden η (mmul l r)=mden η l * mden η r
 | [],r=>by show mden η r=1 * mden η r;grind
 | i :: l,r=>by
  rw [mmul,X7u,X7v η l r]
  show _=η i * mden η l * mden η r
  grind
def padd:Nat→Py→Py→Py
 | 0,p,q=>p ++ q
 | _ + 1,[],q=>q
 | _ + 1,p,[]=>p
 | n + 1,(m,c) :: p,(m',c') :: q =>
  cond (meq m m') (cond ((c + c').num == 0) (padd n p q) ((m,c + c') :: padd n p q))
   (cond (mlt m m') ((m,c) :: padd n p ((m',c') :: q)) ((m',c') :: padd n ((m,c) :: p) q))
theorem X7w (η:Nat→Rat):∀ p q,pden η (p ++ q)=pden η p + pden η q
 | [],q=>by show pden η q=0 + pden η q;grind
 | (m,c) :: p,q=>by
  show c * mden η m + pden η (p ++ q)=c * mden η m + pden η p + pden η q
  rw [X7w η p q];grind
theorem X1P (η:Nat→Rat):∀ n p q,pden η (padd n p q)=pden η p + pden η q:=by
 intro n
 induction n with
 | zero=>intro p q;exact X7w η p q
 | succ n ih =>
  intro p q
  match p,q with
  | [],q=>show pden η q=0 + pden η q;grind
  | (m,c) :: p,[]=>show pden η ((m,c) :: p)=_ + 0;grind
  | (m,c) :: p,(m',c') :: q =>
   show pden η (cond (meq m m') (cond ((c + c').num == 0) (padd n p q) ((m,c + c') :: padd n p q))
    (cond (mlt m m') ((m,c) :: padd n p ((m',c') :: q)) ((m',c') :: padd n ((m,c) :: p) q)))=(c * mden η m + pden η p) + (c' * mden η m' + pden η q)
   cases hm:meq m m' with
   | true =>
    have e:=X9l hm
    subst e
    rw [cond_true]
    cases hc:((c + c').num == 0) with
    | true =>
     have hz:c + c'=0:=Rat.num_eq_zero.1 (eq_of_beq hc)
     rw [cond_true,ih]
     have:c * mden η m + c' * mden η m=0:=by rw [← Rat.add_mul,hz];grind
     grind
    | false =>
     rw [cond_false]
     show (c + c') * mden η m + pden η (padd n p q)=_
     rw [ih,Rat.add_mul];grind
   | false =>
    rw [cond_false]
    cases mlt m m' with
    | true =>
     rw [cond_true]
     show c * mden η m + pden η (padd n p ((m',c') :: q))=_
     rw [ih]
     show c * mden η m + (pden η p + (c' * mden η m' + pden η q))=_
     grind
    | false =>
     rw [cond_false]
     show c' * mden η m' + pden η (padd n ((m,c) :: p) q)=_
     rw [ih]
     show c' * mden η m' + ((c * mden η m + pden η p) + pden η q)=_
     grind
def psc (k:Rat):Py→Py
 | [] => []
 | (m,c) :: p=>(m,k * c) :: psc k p
theorem X2N (η:Nat→Rat) (k:Rat):∀ p,pden η (psc k p)=k * pden η p
 | []=>by show (0:Rat)=k * 0;grind
 | (m,c) :: p=>by
  show k * c * mden η m + pden η (psc k p)=k * (c * mden η m + pden η p)
  rw [X2N η k p];grind
def pmm (m:List Nat) (k:Rat):Py→Py
 | [] => []
 | (m',c) :: p=>(mmul m m',k * c) :: pmm m k p
theorem X83 (η:Nat→Rat) (m:List Nat) (k:Rat):∀ p,pden η (pmm m k p)=k * mden η m * pden η p
 | []=>by show (0:Rat)=k * mden η m * 0;grind
 | (m',c) :: p=>by
  show k * c * mden η (mmul m m') + pden η (pmm m k p)=k * mden η m * (c * mden η m' + pden η p)
  rw [X83 η m k p,X7v];grind
def X6g (p:Py):Py:=p.foldr (fun x q=>padd (q.length + 1) [x] q) []
theorem X5P (η:Nat→Rat):∀ p,pden η (X6g p)=pden η p
 | []=>rfl
 | (m,c) :: p=>by
  show pden η (padd _ [(m,c)] (X6g p))=_
  rw [X1P,X5P η p]
  show c * mden η m + 0 + pden η p=c * mden η m + pden η p
  grind
def pmul:Py→Py→Py
 | [],_ => []
 | (m,c) :: p,q=>let a:=X6g (pmm m c q);let b:=pmul p q;padd (a.length + b.length) a b
theorem X7x (η:Nat→Rat):∀ p q,pden η (pmul p q)=pden η p * pden η q
 | [],q=>by show (0:Rat)=0 * pden η q;grind
 | (m,c) :: p,q=>by
  show pden η (padd _ (X6g (pmm m c q)) (pmul p q))=(c * mden η m + pden η p) * pden η q
  rw [X1P,X5P,X83,X7x η p q];grind
def FE.py:FE→Py
 | .var i => [([i],1)]
 | .lit _ n=>cond (n == 0) [] [([],rq n)]
 | .add a b=>padd (a.py.length + b.py.length) a.py b.py
 | .sub a b=>let q:=psc (-1) b.py;padd (a.py.length + q.length) a.py q
 | .mul a b=>pmul a.py b.py
 | .div a _ k=>psc (1 / (k:Rat)) a.py
theorem X1L (η:Nat→Rat):∀ e:FE,pden η e.py=e.xv η
 | .var i=>by show 1 * (η i * 1) + 0=η i;grind
 | .lit _ n=>by
  show pden η (cond (n == 0) [] [([],rq n)])=rq n
  cases hn:(n == 0) with
  | true =>
   have z:rq 0=0:=by unfold rq;decide +kernel
   rw [eq_of_beq hn,z];rfl
  | false=>show rq n * 1 + 0=rq n;grind
 | .add a b=>by
  show pden η (padd _ a.py b.py)=a.xv η + b.xv η
  rw [X1P,X1L η a,X1L η b]
 | .sub a b=>by
  show pden η (padd _ a.py (psc (-1) b.py))=a.xv η - b.xv η
  rw [X1P,X2N,X1L η a,X1L η b];grind
 | .mul a b=>by
  show pden η (pmul a.py b.py)=a.xv η * b.xv η
  rw [X7x,X1L η a,X1L η b]
 | .div a _ k=>by
  show pden η (psc (1 / (k:Rat)) a.py)=a.xv η / (k:Rat)
  rw [X2N,X1L η a,Rat.div_def,Rat.div_def];grind
end Go.Ab

set_option linter.unusedVariables false
set_option linter.unusedSimpArgs false
namespace Go.Ab
theorem X9m {α β:Type} [Inhabited α] {f:β→α→β} {a:List α} {lo:Nat→β→Int→β}
  (h:∀ k s i,lo (k + 1) s i=cond (decide (i < (a.length:Int))) (lo k (f s (a.getD i.toNat default)) (i + 1)) s) :
  ∀ (k:Nat) (s:β) (i:Int),0≤i→((a.length:Int) - i).toNat < k→lo k s i=(a.drop i.toNat).foldl f s:=by
 intro k
 induction k with
 | zero=>intro s i _ hk;exact absurd hk (Nat.not_lt_zero _)
 | succ k ih =>
  intro s i h0 hk
  rw [h]
  by_cases hi:i < (a.length:Int)
  ·have hn:i.toNat < a.length:=by omega
   rw [decide_eq_true hi,cond_true,ih _ _ (by omega) (by omega),List.drop_eq_getElem_cons hn,List.foldl_cons,show (i + 1).toNat=i.toNat + 1 from by omega,
    List.getD_eq_getElem?_getD,List.getElem?_eq_getElem hn];rfl
  ·rw [decide_eq_false hi,cond_false,List.drop_eq_nil_of_le (by omega)];rfl
theorem X5Q {α β:Type} [Inhabited α] {f:β→α→β} {a:List α} {lo:Nat→β→Int→β}
  (h:∀ k s i,lo (k + 1) s i=cond (decide (i < (a.length:Int))) (lo k (f s (a.getD i.toNat default)) (i + 1)) s) (s:β) :
  lo (((a.length:Int) - 0).toNat + 1) s 0=a.foldl f s:=X9m h _ s 0 (Int.le_refl 0) (Nat.lt_succ_self _)
def OkB (l:List Int):Prop:=∀ x∈l,0≤x∧x < 256
theorem X59 {l:List Int} (h:∀ a∈l,(Lit.int .u8 a).wf=true):OkB l:=by
 intro x hx
 have q:=h x hx
 unfold Lit.wf at q
 simp only [Bool.and_eq_true,decide_eq_true_eq] at q
 have h1:IntKind.u8.min=0:=by decide
 have h2:IntKind.u8.max=255:=by decide
 omega
end Go.Ab

set_option linter.unusedVariables false
set_option linter.unusedSimpArgs false
namespace Go.Ab
theorem X9O {n:Nat} (h:n < 18446744073709551616):IntKind.wrap .u64 (n:Int)=(n:Int):=by
 unfold IntKind.wrap
 simp only [IntKind.bits,IntKind.signed]
 simp
 omega
theorem XaR (a:Int):0≤bitsOf .and .u64 a 255∧bitsOf .and .u64 a 255≤255:=by
 unfold bitsOf
 simp only
 have h:(BitVec.ofInt (IntKind.bits .u64) a &&& BitVec.ofInt (IntKind.bits .u64) 255).toNat≤255:=by
  rw [BitVec.toNat_and]
  refine Nat.le_trans Nat.and_le_right ?_
  decide
 generalize (BitVec.ofInt (IntKind.bits .u64) a &&& BitVec.ofInt (IntKind.bits .u64) 255).toNat=n at *
 rw [X9O (by omega)]
 omega
end Go.Ab
