/- Bounds on the sizes of floats. -/
import Derived.Test.YtoibkmljibnjnaaA21
set_option linter.unusedVariables false
set_option linter.unusedSimpArgs false
namespace Go.Ab
open Go.RowKit Ieee
def X1g (d:Datum) (S:Int):Prop:=∀ s m e,d = .number s m e→m=0∨e + (m.log2:Int)≤S
theorem XaF (neg:Bool) (n drop:Nat):Toward.even.cut neg n drop≤n / 2 ^ drop + 1:=by
 have hb:∀ b:Bool,b.toNat≤1:=by intro b;cases b<;>decide
 unfold Toward.cut
 simp only [Nat.shiftLeft_eq,Nat.one_mul]
 rcases Nat.le_total drop (n.log2 + 2) with h | h
 ·rw [Nat.min_eq_left h]
  exact Nat.add_le_add_left (hb _) _
 ·rw [Nat.min_eq_right h]
  have:n / 2 ^ (n.log2 + 2)=0:=Nat.div_eq_of_lt (Nat.lt_trans Nat.lt_log2_self (Nat.pow_lt_pow_right (by omega) (by omega)))
  rw [this]
  exact Nat.add_le_add (Nat.zero_le _) (hb _)
theorem X5G (f:Format) (neg:Bool) (m:Nat) (e S:Int) (h0:m≠0) (hS:e + (m.log2:Int)≤S) (hl:f.leastPlace≤S - f.fractionBits) :
  ∃ r,r≤(S - f.fractionBits - f.leastPlace).toNat * 2 ^ f.fractionBits + 2 ^ (f.fractionBits + 1) + 1∧r≤f.infRung∧f.nearest neg m e=f.word neg r:=by
 unfold Format.nearest
 rw [if_neg h0]
 refine ⟨_,?_,Nat.min_le_right _ _,rfl⟩
 refine Nat.le_trans (Nat.min_le_left _ _) ?_
 generalize hlast:max (e + (m.log2:Int) - (f.fractionBits:Int)) f.leastPlace=last
 have h1:last≤S - f.fractionBits:=by omega
 have h2:e + (m.log2:Int) - f.fractionBits≤last:=by omega
 have hkept:Toward.even.cut neg (m <<< (e - last).toNat) (last - e).toNat≤2 ^ (f.fractionBits + 1) + 1:=by
  refine Nat.le_trans (XaF _ _ _) (Nat.add_le_add_right ?_ 1)
  have hm:m < 2 ^ (m.log2 + 1):=Nat.lt_log2_self
  refine Nat.le_of_lt (Nat.div_lt_of_lt_mul ?_)
  rw [Nat.shiftLeft_eq,← Nat.pow_add]
  refine Nat.lt_of_lt_of_le (Nat.mul_lt_mul_of_pos_right hm (Nat.two_pow_pos _)) ?_
  rw [← Nat.pow_add]
  exact Nat.pow_le_pow_right (by omega) (by omega)
 have hb:f.binade=2 ^ f.fractionBits:=rfl
 rw [hb,Nat.add_assoc]
 refine Nat.add_le_add (Nat.mul_le_mul_right _ ?_) hkept
 omega
theorem X3U (f:Format) (neg:Bool) {r:Nat} (hr:r < f.signWeight):(f.word neg r) % f.signWeight=r:=by
 unfold Format.word
 split
 ·rw [Nat.add_mod_left];exact Nat.mod_eq_of_lt hr
 ·exact Nat.mod_eq_of_lt hr
theorem X76 {S:Int} (neg:Bool) (m:Nat) (e:Int) (h:m=0∨e + (m.log2:Int)≤S) (hl:-1022≤S):X1g (double.read (double.nearest neg m e)) (S + 1):=by
 have hp:double.leastPlace=-1074:=by decide +kernel
 have hb:double.binade=4503599627370496:=by decide +kernel
 have hw:double.infRung < double.signWeight:=by decide +kernel
 have key:∃ r:Nat,(r:Int)≤(S + 1022) * 4503599627370496 + 9007199254740993∧r≤double.infRung∧double.nearest neg m e=double.word neg r:=by
  by_cases h0:m=0
  ·refine ⟨0,?_,Nat.zero_le _,by unfold Format.nearest;rw [if_pos h0]⟩
   have:0≤(S + 1022) * 4503599627370496:=Int.mul_nonneg (by omega) (by omega)
   omega
  ·have hfb:double.fractionBits=52:=rfl
   obtain ⟨r,h1,h2,h3⟩:=X5G double neg m e S h0 (h.resolve_left h0) (by rw [hp,hfb];omega)
   refine ⟨r,?_,h2,h3⟩
   rw [hp,hfb] at h1
   have e1:(S - 52 - -1074).toNat=(S + 1022).toNat:=by congr 1;omega
   rw [show ((52:Nat):Int)=52 from rfl,e1] at h1
   have e2:((S + 1022).toNat:Int)=S + 1022:=Int.toNat_of_nonneg (by omega)
   have e3:((r:Nat):Int)≤(((S + 1022).toNat * 2 ^ 52 + 2 ^ (52 + 1) + 1:Nat):Int):=Int.ofNat_le.2 h1
   rw [Int.natCast_add,Int.natCast_add,Int.natCast_mul,e2] at e3
   have e4:((2 ^ 52:Nat):Int)=4503599627370496:=by decide +kernel
   have e5:((2 ^ (52 + 1):Nat):Int)=9007199254740992:=by decide +kernel
   rw [e4,e5] at e3
   omega
 obtain ⟨r,h1,h2,h3⟩:=key
 intro s m' e' hd
 rw [h3] at hd
 unfold Format.read at hd
 simp only [X3U double neg (Nat.lt_of_le_of_lt h2 hw),hb,hp] at hd
 split at hd
 ·rename_i hlt
  cases hd
  by_cases hr:r=0
  ·exact .inl hr
  ·right
   have:r.log2 < 52:=(Nat.log2_lt hr).2 hlt
   omega
 ·split at hd
  ·rename_i hge hlt
   cases hd
   right
   have hm:4503599627370496 + r % 4503599627370496 < 2 ^ 53:=by
    have:r % 4503599627370496 < 4503599627370496:=Nat.mod_lt _ (by omega)
    simp only [Nat.reducePow];omega
   have hlog:(4503599627370496 + r % 4503599627370496).log2 < 53:=(Nat.log2_lt (by omega)).2 hm
   have hq:r / 4503599627370496 * 4503599627370496≤r:=Nat.div_mul_le_self _ _
   have hq1:1≤r / 4503599627370496:=by omega
   have:((r / 4503599627370496:Nat):Int)≤S + 1024:=by omega
   omega
  ·split at hd<;>cases hd
theorem X9A {x:Nat} {S:Int} (h:X1g (FloatKind.f64.decode x) S) (hS:S≤120):X1Q .f64 .f32 x=true:=by
 unfold X1Q
 simp only [Bool.or_eq_true]
 right
 split
 ·rename_i neg m e hx
  have hm:=h neg m e hx
  have hp:single.leastPlace=-149:=by decide +kernel
  have hb:single.binade=8388608:=by decide +kernel
  have hi:single.infRung=255 * 8388608:=by decide +kernel
  have hw:single.infRung < single.signWeight:=by decide +kernel
  have key:∃ r:Nat,r < single.infRung∧single.nearest neg m e=single.word neg r:=by
   by_cases h0:m=0
   ·exact ⟨0,by decide +kernel,by unfold Format.nearest;rw [if_pos h0]⟩
   ·have hfb:single.fractionBits=23:=rfl
    obtain ⟨r,h1,h2,h3⟩:=X5G single neg m e 120 h0 (by have:=hm.resolve_left h0;omega) (by rw [hp,hfb];omega)
    refine ⟨r,?_,h3⟩
    rw [hp,hfb] at h1
    rw [hi]
    have e1:((120:Int) - ((23:Nat):Int) - -149).toNat=246:=by decide
    rw [e1] at h1
    simp only [Nat.reducePow,Nat.reduceMul,Nat.reduceAdd] at h1
    omega
  obtain ⟨r,h1,h2⟩:=key
  have:(FloatKind.f32.decode (FloatKind.f32.encode (Datum.number neg m e))).isInfinity=false:=by
   show (single.read (single.nearest neg m e)).isInfinity=false
   rw [h2]
   unfold Format.read
   simp only [X3U single neg (Nat.lt_trans h1 hw)]
   split
   ·rfl
   ·rfl
  rw [this];rfl
 ·rfl
theorem X4k (n:Nat):∀ (todo root:Nat),root * root≤n→Datum.rootFrom n todo root * Datum.rootFrom n todo root≤n:=by
 intro todo
 induction todo with
 | zero=>intro root h;exact h
 | succ t ih =>
  intro root h
  unfold Datum.rootFrom
  simp only
  split
  ·rename_i hl;exact ih _ hl
  ·exact ih _ h
theorem X5H {d:Datum} {S:Int} (h:d.isNaN=true):X1g d S:=by
 intro s m e he;subst he;cases h
theorem X5I {d:Datum} {S:Int} (h:d.isInfinity=true):X1g d S:=by
 intro s m e he;subst he;cases h
theorem X1g.mono {d:Datum} {S T:Int} (h:X1g d S) (hS:S≤T):X1g d T:=fun s m e he=>(h s m e he).imp id fun h=>Int.le_trans h hS
theorem X97 {m W b M:Nat} {i S:Int} (hm:i + (m.log2:Int)≤S) (hw:W * W≤m <<< M) (hb1:b≤1):2 * W + b=0∨(i - M) / 2 - 1 + ((2 * W + b).log2:Int)≤(S + 1) / 2:=by
 by_cases hz:2 * W + b=0
 ·exact .inl hz
 ·right
  have hlt:W < 2 ^ ((m.log2 + 1 + M) / 2 + 1):=by
   rcases Nat.lt_or_ge W (2 ^ ((m.log2 + 1 + M) / 2 + 1)) with h | hge
   ·exact h
   ·exfalso
    have h1:2 ^ ((m.log2 + 1 + M) / 2 + 1) * 2 ^ ((m.log2 + 1 + M) / 2 + 1)≤W * W:=Nat.mul_le_mul hge hge
    rw [← Nat.pow_add] at h1
    have h2:m <<< M < 2 ^ (m.log2 + 1 + M):=by
     rw [Nat.shiftLeft_eq,Nat.pow_add]
     exact Nat.mul_lt_mul_of_pos_right Nat.lt_log2_self (Nat.two_pow_pos _)
    have h3:2 ^ (m.log2 + 1 + M)≤2 ^ ((m.log2 + 1 + M) / 2 + 1 + ((m.log2 + 1 + M) / 2 + 1)):=Nat.pow_le_pow_right (by omega) (by omega)
    exact absurd (Nat.lt_of_lt_of_le (Nat.lt_of_le_of_lt hw h2) (Nat.le_trans h3 h1)) (Nat.lt_irrefl _)
  have hmag:2 * W + b < 2 ^ ((m.log2 + 1 + M) / 2 + 2):=by
   have:2 ^ ((m.log2 + 1 + M) / 2 + 2)=2 * 2 ^ ((m.log2 + 1 + M) / 2 + 1):=by rw [Nat.pow_succ 2 ((m.log2 + 1 + M) / 2 + 1),Nat.mul_comm]
   omega
  have hlog:=(Nat.log2_lt hz).2 hmag
  omega
theorem X8v {d:Datum} {S:Int} (h:X1g d S):Datum.root 54 d=none∨(∃ s,Datum.root 54 d=some (.infinity s))∨∃ s m i,Datum.root 54 d=some (.number s m i)∧(m=0∨i + (m.log2:Int)≤(S + 1) / 2):=by
 cases d with
 | nan s t=>exact .inl rfl
 | infinity s =>
  cases s with
  | true=>exact .inl rfl
  | false=>exact .inr (.inl ⟨false,rfl⟩)
 | number s m i =>
  unfold Datum.root
  by_cases h0:m=0
  ·simp only [if_pos h0]
   exact .inr (.inr ⟨s,m,i,rfl, .inl h0⟩)
  ·simp only [if_neg h0]
   cases s with
   | true=>exact .inl rfl
   | false =>
    simp only [Bool.false_eq_true,if_false]
    refine .inr (.inr ⟨_,_,_,rfl,X97 ((h false m i rfl).resolve_left h0) (X4k _ _ 0 (Nat.zero_le _)) ?_⟩)
    have hq:∀ q:Bool,q.toNat≤1:=by intro q;cases q<;>decide
    exact hq _
theorem XaG (S:Int):X1g (double.read (XI .f64)) S:=X5H (by decide +kernel)
theorem XaH (s:Bool) (S:Int):X1g (double.read (double.write (.infinity s))) S:=by
 cases s<;>exact X5I (by decide +kernel)
theorem X77 (x:Nat):X1y x=((Datum.root 54 (double.read x)).map double.write).getD (XI .f64):=rfl
theorem Xa9 {x:Nat} {S:Int} (h:X1g (double.read x) S) (hS:-1022≤(S + 1) / 2):X1g (double.read (X1y x)) ((S + 1) / 2 + 1):=by
 rw [X77]
 rcases X8v h with e | ⟨s,e⟩ | ⟨s,m,i,e,hm⟩
 ·rw [e,Option.map_none,Option.getD_none];exact XaG _
 ·rw [e,Option.map_some,Option.getD_some];exact XaH _ _
 ·rw [e,Option.map_some,Option.getD_some];exact X76 s m i hm hS
theorem X3V {x:Nat} {neg:Bool} {m:Nat} {e:Int} (hx:single.read x = .number neg m e):m < 2 ^ 24∧-149≤e∧e≤104:=by
 unfold Format.read at hx
 have hp:single.leastPlace=-149:=by decide +kernel
 have hbin:single.binade=8388608:=by decide +kernel
 have hinf:single.infRung=255 * 8388608:=by decide +kernel
 rw [hp,hbin,hinf] at hx
 simp only at hx
 split at hx
 ·cases hx;simp only [Nat.reducePow];omega
 ·split at hx
  ·rename_i h1 h2
   cases hx
   have:x % single.signWeight % 8388608 < 8388608:=Nat.mod_lt _ (by omega)
   have:x % single.signWeight / 8388608 < 255:=Nat.div_lt_of_lt_mul (by omega)
   simp only [Nat.reducePow];omega
  ·split at hx<;>cases hx
theorem X98 {x:Nat}:X1g (single.read x) 127:=by
 intro s m e hx
 obtain ⟨h1,h2,h3⟩:=X3V hx
 by_cases h0:m=0
 ·exact .inl h0
 ·right
  have h4:m.log2 < 24:=(Nat.log2_lt h0).2 h1
  clear h1 hx
  omega
theorem X78 (x:Nat):fcv .f32 .f64 x=match single.read x with
  | .nan .. => XI .f64
  | y=>double.write y:=rfl
theorem X9B (x:Nat):X1g (double.read (fcv .f32 .f64 x)) 128:=by
 rw [X78]
 have h:=@X98 x
 generalize single.read x=d at h
 cases d with
 | nan s t=>exact X5H (show (double.read (XI .f64)).isNaN=true by decide +kernel)
 | infinity s=>cases s<;>exact X5I (by decide +kernel)
 | number neg m e=>exact X76 (S:=127) neg m e (h neg m e rfl) (by decide)
theorem X4l (x:Nat):X1Q .f64 .f32 (X1y (fcv .f32 .f64 x))=true :=
 X9A (S:=65) (Xa9 (X9B x) (by decide)) (by decide)
end Go.Ab

set_option linter.unusedVariables false
set_option linter.unusedSimpArgs false
namespace Go.Ab
theorem X7Q {α:Type} [Inhabited α] {p:α→Bool} {a:List α} {A B:Type} {x:A} {y:B} {lo:Nat→Int→A ⊕ B}
  (h:∀ k i,lo (k + 1) i=cond (decide (i < (a.length:Int))) (cond (p (a.getD i.toNat default)) (lo k (i + 1)) (.inl x)) (.inr y)) :
  ∀ (k:Nat) (i:Int),0≤i→((a.length:Int) - i).toNat < k→lo k i=cond ((a.drop i.toNat).all p) (.inr y) (.inl x):=by
 intro k
 induction k with
 | zero=>intro i h0 hk;exact absurd hk (Nat.not_lt_zero _)
 | succ k ih =>
  intro i h0 hk
  rw [h]
  by_cases hi:i < (a.length:Int)
  ·have hn:i.toNat < a.length:=by omega
   rw [decide_eq_true hi,cond_true,List.drop_eq_getElem_cons hn,List.all_cons,List.getD_eq_getElem?_getD,List.getElem?_eq_getElem hn,Option.getD_some]
   cases p a[i.toNat] with
   | false=>rfl
   | true =>
    rw [cond_true,Bool.true_and,ih (i + 1) (by omega) (by omega),show (i + 1).toNat=i.toNat + 1 from by omega]
  ·rw [decide_eq_false hi,cond_false,List.drop_eq_nil_of_le (by omega)];rfl
theorem X4v {α:Type} [Inhabited α] {p:α→Bool} {a:List α} {A B:Type} {x:A} {y:B} {lo:Nat→Int→A ⊕ B}
  (h:∀ k i,lo (k + 1) i=cond (decide (i < (a.length:Int))) (cond (p (a.getD i.toNat default)) (lo k (i + 1)) (.inl x)) (.inr y)) :
  lo (((a.length:Int) - 0).toNat + 1) 0=cond (a.all p) (.inr y) (.inl x):=by
 rw [X7Q h _ _ (Int.le_refl 0) (Nat.lt_succ_self _)];simp
def XP (n:Nat) (ts:List (List Int)):Prop:=∀ t∈ts,t.length=3∧∀ x∈t,0≤x∧x < (n:Int)
theorem XP.at {n:Nat} {ts:List (List Int)} {i:Int} (h:XP n ts) (h0:0≤i) (hi:i < (ts.length:Int)) :
  (ts.getD i.toNat default).length=3∧(0≤(ts.getD i.toNat default).getD 0 default∧(ts.getD i.toNat default).getD 0 default < (n:Int)) ∧
  (0≤(ts.getD i.toNat default).getD 1 default∧(ts.getD i.toNat default).getD 1 default < (n:Int))∧(0≤(ts.getD i.toNat default).getD 2 default∧(ts.getD i.toNat default).getD 2 default < (n:Int)):=by
 have hn:i.toNat < ts.length:=by omega
 have hm:(ts.getD i.toNat default)∈ts:=by rw [List.getD_eq_getElem?_getD,List.getElem?_eq_getElem hn];exact List.getElem_mem hn
 obtain ⟨h1,h2⟩:=h _ hm
 generalize ts.getD i.toNat default=t at *
 match t,h1 with
 | [a,b,c],_=>exact ⟨rfl,h2 a (by simp),h2 b (by simp),h2 c (by simp)⟩
theorem X79 {β:Type} {f:Int→β} {n:Int} {lo:Nat→Int→List β→List β}
  (h:∀ k i r,lo (k + 1) i r=cond (decide (i < n)) (lo k (i + 1) (r ++ [f i])) r) :
  ∀ (k:Nat) (i:Int) (r:List β),(n - i).toNat < k→lo k i r=r ++ (List.range (n - i).toNat).map fun (j:Nat)=>f (i + (j:Int)):=by
 intro k
 induction k with
 | zero=>intro i r hk;exact absurd hk (Nat.not_lt_zero _)
 | succ k ih =>
  intro i r hk
  rw [h]
  by_cases hi:i < n
  ·rw [decide_eq_true hi,cond_true,ih (i + 1) _ (by omega)]
   rw [show (n - i).toNat=(n - (i + 1)).toNat + 1 from by omega,List.range_succ_eq_map,List.map_cons,List.map_map,List.append_assoc]
   congr 1
   simp only [List.singleton_append,Int.natCast_zero,Int.add_zero,List.cons.injEq,true_and]
   refine List.map_congr_left fun j _ => ?_
   simp only [Function.comp_apply]
   congr 1
   omega
  ·rw [decide_eq_false hi,cond_false,show (n - i).toNat=0 from by omega];simp
end Go.Ab

set_option linter.unusedVariables false
set_option linter.unusedSimpArgs false
namespace Go.Ab
open Go.RowKit
def Xv (n:Nat):Row→Bool
 | .vec .. | .nest .. | .mapN .. => true
 | .box _ cs=>cs.all (X1k n)
 | _=>false
def XQ (ks:List Nat):Row→Row
 | .box t cs => .box t (cs.map (renC ks))
 | .vec t es l _ => .vec t es l false
 | .nest t ll _ => .nest t ll false
 | r=>r
theorem X99 {H:Array Obj} {μ μ':Nat→Option FP} {heap:Array Obj} {ks:List Nat} (hs:∀ (i k:Nat),ks[i]? = some k→μ' i=μ k) {p:Option FP} {row:Row} (ho:Xv ks.length (XQ ks row)=true)
  (h:X4 H μ heap p row):X4 H μ' heap p (XQ ks row):=by
 cases row with
 | box t cs =>
  cases p with
  | none=>exact h.elim
  | some p =>
   obtain ⟨ez,e1,e2,arr,e3,e4,e5⟩:=h
   simp only [XQ,Xv,List.all_eq_true,List.mem_map,forall_exists_index,and_imp,forall_apply_eq_imp_iff₂] at ho
   refine ⟨ez,by simpa [XQ] using e1,e2,arr,e3,by simpa [XQ] using e4,fun j c e => ?_⟩
   rw [List.getElem?_map,Option.map_eq_some_iff] at e
   obtain ⟨c0,e0,rfl⟩:=e
   exact X2I hs (ho c0 (List.mem_of_getElem? e0)) (e5 j c0 e0)
 | vec t es l full =>
  cases p with
  | none=>exact h.elim
  | some p =>
   rcases h with ⟨h1,h2,_⟩ | ⟨ez,e1,e2,e3,e4,_,e6⟩
   ·exact .inl ⟨h1,h2,rfl⟩
   ·exact .inr ⟨ez,e1,e2,e3,e4,(fun h=>by cases h),e6⟩
 | nest t ll full =>
  cases p with
  | none=>exact h.elim
  | some p =>
   rcases h with h | ⟨ez,e1,e2,e3,_,e6⟩
   ·exact .inl h
   ·exact .inr ⟨ez,e1,e2,e3,(fun h=>by cases h),e6⟩
 | mapN=>cases p<;>exact h
 | mapS=>simp [XQ,Xv] at ho
 | nestD=>simp [XQ,Xv] at ho
 | vecU=>simp [XQ,Xv] at ho
 | dead=>simp [XQ,Xv] at ho
 | lits t cs=>simp [XQ,Xv] at ho
def X8:Nat→Nat→List Nat
 | _,0 => []
 | k,n + 1=>k :: X8 (k + 1) n
theorem X2r:∀ (n k i:Nat),i < n→(X8 k n)[i]? = some (k + i)
 | 0,k,i,h=>by omega
 | n + 1,k,0,h=>by simp [X8]
 | n + 1,k,i + 1,h=>by
  rw [X8,List.getElem?_cons_succ,X2r n (k + 1) i (by omega)];congr 1;omega
theorem X1D:∀ (n k:Nat),(X8 k n).length=n
 | 0,_=>rfl
 | n + 1,k=>by simp [X8,X1D n]
end Go.Ab

set_option linter.unusedVariables false
set_option linter.unusedSimpArgs false
namespace Go.Ab
open Go.RowKit
def dark (F:List Nat) (H:Array Obj):Array Obj:=H.mapIdx fun b o=>if F.contains b then .cells #[] 0 (0,0) else o
theorem X1O (F:List Nat) (H:Array Obj):(dark F H).size=H.size:=by simp [dark]
theorem X3z {F:List Nat} {H:Array Obj} {b:Nat} (h:b ∉ F):(dark F H)[b]? = H[b]? := by
 unfold dark
 rw [Array.getElem?_mapIdx]
 cases H[b]? with
 | none=>rfl
 | some o=>simp [h]
theorem Xaa {F:List Nat} {H:Array Obj} {b:Nat} (h:b∈F) (o:Nat):X5 (dark F H) b o=none:=by
 unfold X5 dark
 rw [Array.getElem?_mapIdx]
 cases H[b]? with
 | none=>rfl
 | some o=>simp [h]
def vwC (ks:List Nat) (D:List Row):AV→Option AV
 | .own r=>match idx ks r with
  | some i=>some (.own i)
  | none=>res D 8 (.own r)
 | .ptr r j off=>match idx ks r with
  | some i=>some (.ptr i j off)
  | none=>res D 8 (.ptr r j off)
 | v=>res D 8 v
def vw (ks:List Nat) (D:List Row):AV→Option AV
 | .agg cs=>(resL (vwC ks D) cs).map .agg
 | .fn g cap=>(resL (vwC ks D) cap).map (.fn g)
 | v=>vwC ks D v
def X2Z (ks:List Nat) (D:List Row):Row→Option Row
 | .vec t es l _=>some (.vec t es l false)
 | .nest t ll _=>some (.nest t ll false)
 | .box t cs=>(resL (vwC ks D) cs).map (.box t)
 | _=>none
def X3W (ks:List Nat) (D:List Row):List Row→Option (List Row)
 | []=>some []
 | r :: rs=>match X2Z ks D r,X3W ks D rs with
  | some r',some rs'=>some (r' :: rs')
  | _,_=>none
theorem X4Y {ks:List Nat} {D:List Row}:∀ {l l':List Row},X3W ks D l=some l'→l'.length=l.length∧∀ (j:Nat) (r':Row),l'[j]? = some r'→∃ r,l[j]? = some r∧X2Z ks D r=some r'
 | [],l',h=>by simp [X3W] at h;subst h;simp
 | r :: rs,l',h=>by
  simp only [X3W] at h
  split at h
  ·rename_i a b h1 h2
   simp only [Option.some.injEq] at h;subst h
   obtain ⟨g1,g2⟩:=X4Y h2
   refine ⟨by simp [g1],fun j r' e => ?_⟩
   cases j with
   | zero=>simp at e;subst e;exact ⟨r,rfl,h1⟩
   | succ j=>simp at e;simpa using g2 j r' e
  ·cases h
def X30 (ks:List Nat) (m i:Nat):Nat:=match ks[i]? with
 | some k=>k
 | none=>m + (i - ks.length)
def bkC (ks:List Nat) (m:Nat):AV→AV
 | .own i => .own (X30 ks m i)
 | .mp i => .mp (X30 ks m i)
 | v=>v
def bkA (ks:List Nat) (m:Nat):AV→AV
 | .agg cs => .agg (cs.map (bkC ks m))
 | v=>bkC ks m v
def bk (ks:List Nat) (m:Nat):AV→AV
 | .tup vs => .tup (vs.map (bkA ks m))
 | v=>bkA ks m v
def X3A (ks:List Nat) (m:Nat):Row→Row
 | .box t cs => .box t (cs.map (bkC ks m))
 | r=>r
def X1t (ks:List Nat) (m:Nat) (new:List Row):Nat→List Row→List Row
 | _,[]=>(new.drop ks.length).map (X3A ks m)
 | i,r :: rs=>(match idx ks i with
  | some j=>match new[j]? with
   | some q=>X3A ks m q
   | none=>r
  | none=>r) :: X1t ks m new (i + 1) rs
theorem X3a (ks:List Nat) (m:Nat) (new:List Row):∀ (rs:List Row) (i j:Nat) (row:Row),(X1t ks m new i rs)[j]? = some row →
  (j < rs.length∧((∃ q x,idx ks (i + j)=some q∧new[q]? = some x∧row=X3A ks m x)∨((idx ks (i + j)=none∨∃ q,idx ks (i + j)=some q∧new[q]? = none)∧rs[j]? = some row))) ∨
  (rs.length≤j∧∃ x,new[ks.length + (j - rs.length)]? = some x∧row=X3A ks m x)
 | [],i,j,row,h=>by
  simp only [X1t,List.getElem?_map,List.getElem?_drop,Option.map_eq_some_iff] at h
  obtain ⟨x,h1,h2⟩:=h
  exact .inr ⟨Nat.zero_le _,x,by simpa using h1,h2.symm⟩
 | r :: rs,i,0,row,h=>by
  simp only [X1t,List.getElem?_cons_zero,Option.some.injEq] at h
  left;refine ⟨by simp,?_⟩
  simp only [Nat.add_zero]
  split at h
  ·rename_i q hi
   split at h
   ·rename_i x hq
    exact .inl ⟨q,x,hi,hq,h.symm⟩
   ·rename_i hq
    exact .inr ⟨.inr ⟨q,hi,hq⟩,by simp [h]⟩
  ·rename_i hi
   exact .inr ⟨.inl hi,by simp [h]⟩
 | r :: rs,i,j + 1,row,h=>by
  simp only [X1t,List.getElem?_cons_succ] at h
  have:=X3a ks m new rs (i + 1) j row h
  rw [show i + 1 + j=i + (j + 1) from by omega] at this
  simp only [List.length_cons,List.getElem?_cons_succ]
  rcases this with ⟨h1,h2⟩ | ⟨h1,x,h2,h3⟩
  ·exact .inl ⟨by omega,h2⟩
  ·exact .inr ⟨by omega,x,by rw [← h2];congr 1;omega,h3⟩
theorem X3h (ks:List Nat) (m:Nat) (new:List Row):∀ (rs:List Row) (i:Nat),(X1t ks m new i rs).length=rs.length + (new.length - ks.length)
 | [],i=>by simp [X1t]
 | r :: rs,i=>by simp [X1t,X3h ks m new rs];omega
theorem X5l {H H':Array Obj} {μ M:Nat→Option FP} {ks:List Nat} {m n:Nat} (hs:∀ i p,i < n→μ i=some p→M (X30 ks m i)=some p) {c:AV} {v:Value} (ho:X1k n c=true) (h:Rep H μ c v):Rep H' M (bkC ks m c) v:=by
 cases h<;>simp [X1k] at ho<;>simp only [bkC]
 ·exact .b _
 ·exact .i _ _
 ·exact .f _ _ _ ‹_› ‹_›
 ·exact .nils
 ·rename_i r p hp;exact .own _ p (hs r p ho hp)
 ·rename_i r p hz hp;exact .mp _ p (hs r p ho hp) hz
theorem X7X {H H':Array Obj} {μ M:Nat→Option FP} {ks:List Nat} {m n:Nat} (hs:∀ i p,i < n→μ i=some p→M (X30 ks m i)=some p) {c:AV} {v:Value} (ho:X1l n c=true) (h:Rep H μ c v):Rep H' M (bkA ks m c) v:=by
 cases c with
 | agg cs =>
  cases h with | agg _ vs hz hh =>
  simp only [X1l,List.all_eq_true] at ho
  refine .agg _ vs (by simp [hz]) fun j c e => ?_
  simp only [List.getElem?_map,Option.map_eq_some_iff] at e
  obtain ⟨c0,e0,rfl⟩:=e
  exact X5l hs (ho c0 (List.mem_of_getElem? e0)) (hh j c0 e0)
 | _=>simp only [X1l] at ho;exact X5l hs ho h
theorem XaI {H H':Array Obj} {μ M:Nat→Option FP} {ks:List Nat} {m n:Nat} (hs:∀ i p,i < n→μ i=some p→M (X30 ks m i)=some p) {c:AV} {v:Value} (ho:X1a n c=true) (h:Rep H μ c v):Rep H' M (bk ks m c) v:=by
 cases c with
 | tup cs =>
  cases h with | tup _ vs hz hh =>
  simp only [X1a,List.all_eq_true] at ho
  refine .tup _ vs (by simp [hz]) fun j c e => ?_
  simp only [List.getElem?_map,Option.map_eq_some_iff] at e
  obtain ⟨c0,e0,rfl⟩:=e
  exact X7X hs (ho c0 (List.mem_of_getElem? e0)) (hh j c0 e0)
 | _=>simp only [X1a] at ho;exact X7X hs ho h
theorem X7a {H H':Array Obj} {heap:Array Obj} {μ M:Nat→Option FP} {ks:List Nat} {m n:Nat} (hs:∀ i p,i < n→μ i=some p→M (X30 ks m i)=some p) {p:Option FP} {row:Row} (ho:Xv n row=true)
  (h:X4 H μ heap p row):X4 H' M heap p (X3A ks m row):=by
 cases row with
 | box t cs =>
  cases p with
  | none=>exact h.elim
  | some p =>
   obtain ⟨ez,e1,e2,arr,e3,e4,e5⟩:=h
   simp only [Xv,List.all_eq_true] at ho
   refine ⟨ez,by simpa using e1,e2,arr,e3,by simpa using e4,fun j c e => ?_⟩
   rw [List.getElem?_map,Option.map_eq_some_iff] at e
   obtain ⟨c0,e0,rfl⟩:=e
   exact X5l hs (ho c0 (List.mem_of_getElem? e0)) (e5 j c0 e0)
 | vec t es l full=>cases p<;>exact h
 | nest t ll full=>cases p<;>exact h
 | mapN=>cases p<;>exact h
 | mapS=>simp [Xv] at ho
 | nestD=>simp [Xv] at ho
 | vecU=>simp [Xv] at ho
 | dead=>simp [Xv] at ho
 | lits t cs=>simp [Xv] at ho
theorem X7.frame {P:Program} {g:FuncId} {rows rows':List Row} {args:List AV} {r:AV} (h:X7 P g rows args r rows') (ks:List Nat) {R:List Row} {args':List AV}
  (hR:(X10 R ks).bind (X3W ks (Xh ks 0 R))=some rows) (hA:resL (vw ks (Xh ks 0 R)) args'=some args) (hnd:XU ks=true)
  (hlen:Nat.ble ks.length rows'.length=true) (hok:rows'.all (Xv rows'.length)=true) (hr:X1a rows'.length r=true) :
  X7 P g R args' (bk ks R.length r) (X1t ks R.length rows' 0 R):=by
 rw [Nat.ble_eq] at hlen
 obtain ⟨RK,hpick,hview⟩:=Option.bind_eq_some_iff.1 hR
 obtain ⟨hpl,hpg⟩:=X1n hpick
 obtain ⟨hvl,hvg⟩:=X4Y hview
 have hnd':=XM hnd
 have hkl:∀ i k,ks[i]? = some k→k < R.length:=fun i k e=>by
  have hi:i < RK.length:=by
   rw [hpl]
   rcases Nat.lt_or_ge i ks.length with h | h
   ·exact h
   ·rw [List.getElem?_eq_none h] at e;cases e
  have:=hpg i k e
  rcases Nat.lt_or_ge k R.length with h | h
  ·exact h
  ·rw [List.getElem?_eq_none h,List.getElem?_eq_getElem hi] at this;cases this
 have hidx:∀ k,idx ks k=none→k ∉ ks:=by
  intro k
  clear hpick hpl hpg hnd hnd' hkl hR hA hlen hview hvl hvg
  induction ks with
  | nil=>simp
  | cons a as ih =>
   intro hn
   simp only [idx] at hn
   split at hn
   ·cases hn
   ·rename_i hne
    simp only [beq_eq_false_iff_ne] at hne
    simp only [Option.map_eq_none_iff] at hn
    simp only [List.mem_cons,not_or]
    exact ⟨fun e=>hne e.symm,ih hn⟩
 refine ⟨h.1,fun W0 M W vs hm hp => ?_⟩
 let F:List Nat:=ks.flatMap fun k=>match M k with
  | some p=>p.blks
  | none => []
 have hF:∀ b,b∈F↔∃ k∈ks,∃ p,M k=some p∧b∈p.blks:=by
  intro b
  show b∈List.flatMap _ _↔_
  rw [List.mem_flatMap]
  constructor
  ·rintro ⟨k,hk,hb⟩
   split at hb
   ·rename_i p hMp;exact ⟨k,hk,p,hMp,hb⟩
   ·cases hb
  ·rintro ⟨k,hk,p,hMp,hb⟩
   exact ⟨k,hk,by rw [hMp];exact hb⟩
 let w0:Old0:={ toWorld:={ W with heap:=dark F W.heap },opn:=(· ∈ F),dark:=fun b hb o=>Xaa hb o,pin:=fun _=>none,np:=0,pinLt:=fun _ _ e=>by cases e }
 have hh0:w0.heap=dark F W.heap:=rfl
 have hFm:∀ b,b∈F→W0.mine b∧b < W.heap.size:=fun b hb=>by
  obtain ⟨k,_,p,hMp,hbp⟩:=(hF b).1 hb
  exact hm.own k p b hMp hbp
 have hFo:∀ q p b,q ∉ ks→M q=some p→b∈p.blks→b ∉ F:=fun q p b hq hMq hb hbF=>by
  obtain ⟨k,hk,p',hMk,hb'⟩:=(hF b).1 hbF
  have:=hm.sep q k p p' b hMq hMk hb hb'
  subst this;exact hq hk
 let μ:Nat→Option FP:=fun i=>(ks[i]?).bind M
 have hμ:∀ i k,ks[i]? = some k→μ i=M k:=fun i k e=>by show (ks[i]?).bind M=M k;rw [e];rfl
 have hμ0:∀ i p,μ i=some p→∃ k,ks[i]? = some k∧M k=some p:=by
  intro i p e
  cases hk:ks[i]? with
  | none=>have e2:(ks[i]?).bind M=some p:=e;rw [hk] at e2;cases e2
  | some k=>exact ⟨k,rfl,by rw [← hμ i k hk];exact e⟩
 have hmd:MemW W0 M (Xh ks 0 R) { W with heap:=dark F W.heap }:=by
  refine ⟨hm.bel.step rfl rfl rfl (by simp [X1O]) (Nat.le_refl _) (fun k hk ho=>X3z fun hkF => ?_),fun q row e => ?_,hm.sep,hm.nodup,fun q p b e hb => ?_⟩
  ·rcases (hFm k hkF).1 with h | h
   ·exact ho h
   ·omega
  ·rcases X6F _ _ _ _ _ e with rfl | ⟨h1,h2⟩
   ·cases M q<;>exact trivial
   ·rw [Nat.zero_add] at h1
    exact (hm.row q row h2).heap fun p hp' b hb=>X3z (hFo q p b (hidx q h1) hp' hb)
  ·simpa [X1O] using hm.own q p b e hb
 have vC:∀ c c' v,vwC ks (Xh ks 0 R) c=some c'→Rep W0.heap M c v→Rep w0.heap μ c' v:=by
  have dflt:∀ c c' v,res (Xh ks 0 R) 8 c=some c'→Rep W0.heap M c v→Rep w0.heap μ c' v:=fun c c' v e hrep =>
   (X5w hmd 8 c c' v e hrep).mono fun q p e=>by cases e
  intro c c' v e hrep
  cases c with
  | own q =>
   simp only [vwC] at e
   split at e
   ·rename_i i hi
    simp only [Option.some.injEq] at e;subst e
    cases hrep with
    | own _ p hp'=>exact .own i p (by rw [hμ i q (XD hi)];exact hp')
   ·exact dflt _ _ _ e hrep
  | ptr q j off =>
   simp only [vwC] at e
   split at e
   ·rename_i i hi
    simp only [Option.some.injEq] at e;subst e
    cases hrep with
    | ptr _ _ _ p hp'=>exact .ptr i j off p (by rw [hμ i q (XD hi)];exact hp')
   ·exact dflt _ _ _ e hrep
  | _=>refine dflt _ _ _ ?_ hrep;exact e
 have vL:∀ (cs cs':List AV) (us:Array Value),resL (vwC ks (Xh ks 0 R)) cs=some cs'→us.size=cs.length→(∀ (j:Nat) (c:AV),cs[j]? = some c→Rep W0.heap M c (us.getD j undef)) →
   us.size=cs'.length∧∀ (j:Nat) (c:AV),cs'[j]? = some c→Rep w0.heap μ c (us.getD j undef):=by
  intro cs cs' us hl hs hh
  obtain ⟨h1,h2⟩:=X1F hl
  exact ⟨by omega,fun j c e=>let ⟨u,eu,fu⟩:=h2 j c e;vC u c _ fu (hh j u eu)⟩
 have vA:∀ c c' v,vw ks (Xh ks 0 R) c=some c'→Rep W0.heap M c v→Rep w0.heap μ c' v:=by
  intro c c' v e hrep
  cases c with
  | agg cs =>
   simp only [vw,Option.map_eq_some_iff] at e
   obtain ⟨cs',hl,rfl⟩:=e
   cases hrep with
   | agg _ us hz hh =>
    obtain ⟨g1,g2⟩:=vL cs cs' us hl hz hh
    exact .agg cs' us g1 g2
  | fn f cap =>
   simp only [vw,Option.map_eq_some_iff] at e
   obtain ⟨cs',hl,rfl⟩:=e
   cases hrep with
   | fn _ _ us hz hh =>
    obtain ⟨g1,g2⟩:=vL cap cs' us hl hz hh
    exact .fn f cs' us g1 g2
  | _=>refine vC _ _ _ ?_ hrep;exact e
 have pw:PW w0.heap μ args vs:=by
  obtain ⟨h1,h2⟩:=X1F hA
  exact ⟨by rw [hp.1,h1],fun j c e=>let ⟨u,eu,fu⟩:=h2 j c e;vA u c _ fu (hp.2 j u eu)⟩
 have hil:∀ i,i < rows.length→∃ k,ks[i]? = some k:=fun i hi=>⟨_,List.getElem?_eq_getElem (by omega)⟩
 have mem:Mem w0 μ rows W:=by
  refine ⟨⟨⟨rfl,rfl,rfl,by rw [hh0,X1O];exact Nat.le_refl _,fun k _ ho=>(X3z ho).symm,Nat.le_refl _⟩,fun i row e => ?_,fun i j p p' b e e' hb hb' => ?_,fun i p e => ?_,fun i p b e hb => ?_⟩,fun i hi => ?_,fun i e => ?_,fun i p e=>by cases e⟩
  ·obtain ⟨row0,e0,hv⟩:=hvg i row e
   have hi:i < ks.length:=by
    rw [← hpl]
    rcases Nat.lt_or_ge i RK.length with h | h
    ·exact h
    ·rw [List.getElem?_eq_none h] at e0;cases e0
   rw [hμ i _ (List.getElem?_eq_getElem hi)]
   rw [hpg i _ (List.getElem?_eq_getElem hi)] at e0
   have hrow:=hm.row _ row0 e0
   cases row0 with
   | vec t es l full =>
    simp only [X2Z,Option.some.injEq] at hv;subst hv
    cases hM:M ks[i] with
    | none=>rw [hM] at hrow;exact hrow.elim
    | some p =>
     rw [hM] at hrow
     rcases hrow with ⟨h1,h2,_⟩ | ⟨f0,f1,f2,f3,f4,_,f6⟩
     ·exact .inl ⟨h1,h2,rfl⟩
     ·exact .inr ⟨f0,f1,f2,f3,f4,(fun h=>by cases h),f6⟩
   | nest t ll full =>
    simp only [X2Z,Option.some.injEq] at hv;subst hv
    cases hM:M ks[i] with
    | none=>rw [hM] at hrow;exact hrow.elim
    | some p =>
     rw [hM] at hrow
     rcases hrow with h | ⟨f0,f1,f2,f3,_,f6⟩
     ·exact .inl h
     ·exact .inr ⟨f0,f1,f2,f3,(fun h=>by cases h),f6⟩
   | box t cs =>
    simp only [X2Z,Option.map_eq_some_iff] at hv
    obtain ⟨cs',hl,rfl⟩:=hv
    cases hM:M ks[i] with
    | none=>rw [hM] at hrow;exact hrow.elim
    | some p =>
     rw [hM] at hrow
     obtain ⟨f0,f1,f2,arr,f3,f4,f5⟩:=hrow
     obtain ⟨g1,g2⟩:=X1F hl
     exact ⟨f0,by rw [f1,g1],f2,arr,f3,by rw [g1];exact f4,fun j c e=>let ⟨u,eu,fu⟩:=g2 j c e;vC u c _ fu (f5 j u eu)⟩
   | _=>simp [X2Z] at hv
  ·obtain ⟨k,g1,g2⟩:=hμ0 i p e
   obtain ⟨k',g3,g4⟩:=hμ0 j p' e'
   have:=hm.sep k k' p p' b g2 g4 hb hb'
   subst this
   have hil:i < ks.length:=by
    rcases Nat.lt_or_ge i ks.length with h | h
    ·exact h
    ·rw [List.getElem?_eq_none h] at g1;cases g1
   have hjl:j < ks.length:=by
    rcases Nat.lt_or_ge j ks.length with h | h
    ·exact h
    ·rw [List.getElem?_eq_none h] at g3;cases g3
   rw [List.getElem?_eq_getElem hil] at g1
   rw [List.getElem?_eq_getElem hjl] at g3
   exact X2Y hnd' hil hjl ((Option.some.inj g1).trans (Option.some.inj g3).symm)
  ·obtain ⟨k,g1,g2⟩:=hμ0 i p e
   exact hm.nodup k p g2
  ·obtain ⟨k,g1,g2⟩:=hμ0 i p e
   exact ⟨.inl ((hF b).2 ⟨k,List.mem_of_getElem? g1,p,g2,hb⟩),(hm.own k p b g2 hb).2⟩
  ·show (ks[i]?).bind M=none
   rw [List.getElem?_eq_none (by omega)];rfl
  ·obtain ⟨row0,e0,hv⟩:=hvg i _ e
   cases row0<;>simp [X2Z] at hv
 refine (h.2 w0 μ W vs mem pw).mono fun e w' ⟨v,μ',he,hsub,hm',hrep⟩ => ?_
 let M':Nat→Option FP:=fun q=>if q < R.length then M q else μ' (ks.length + (q - R.length))
 have hMo:∀ q,q < R.length→M' q=M q:=fun q hq=>if_pos hq
 have hMn:∀ q,R.length≤q→M' q=μ' (ks.length + (q - R.length)):=fun q hq=>if_neg (by omega)
 have hMsub:Sub M M':=fun q p e=>by
  have hq:q < R.length:=by
   rcases Nat.lt_or_ge q R.length with h | h
   ·exact h
   ·rw [hm.out q h] at e;cases e
  rw [hMo q hq];exact e
 have hsome:∀ i k,ks[i]? = some k→∃ p,M k=some p∧μ' i=some p:=fun i k e=>by
  have hi:i < rows.length:=by
   rw [hvl,hpl]
   rcases Nat.lt_or_ge i ks.length with h | h
   ·exact h
   ·rw [List.getElem?_eq_none h] at e;cases e
  have hrow:=mem.row i _ (List.getElem?_eq_getElem hi)
  cases hM:M k with
  | none =>
   rw [hμ i k e,hM] at hrow
   have hd:=mem.dead i
   cases hx:rows[i]<;>rw [hx] at hrow<;>try exact hrow.elim
   obtain ⟨row0,e0,hv⟩:=hvg i _ (by rw [List.getElem?_eq_getElem hi,hx])
   cases row0<;>simp [X2Z] at hv
  | some p=>exact ⟨p,rfl,hsub i p (by rw [hμ i k e];exact hM)⟩
 have hback:∀ i p,i < rows'.length→μ' i=some p→M' (X30 ks R.length i)=some p:=fun i p hi e=>by
  unfold X30
  cases hk:ks[i]? with
  | some k =>
   obtain ⟨p2,g1,g2⟩:=hsome i k hk
   rw [hMo k (hkl i k hk),g1,← g2];exact e
  | none =>
   rw [List.getElem?_eq_none_iff] at hk
   show M' (R.length + (i - ks.length))=some p
   rw [hMn (R.length + (i - ks.length)) (by omega),← e];congr 1;omega
 have hnewF:∀ q p b,R.length≤q→M' q=some p→b∈p.blks→W.heap.size≤b∧b < w'.heap.size:=fun q p b hq e hb=>by
  rw [hMn q hq] at e
  obtain ⟨g1,g2⟩:=hm'.own _ p b e hb
  refine ⟨?_,g2⟩
  rcases g1 with g1 | g1
  ·exfalso
   obtain ⟨k,hk,p2,hMk,hb2⟩:=(hF b).1 g1
   obtain ⟨i,hi,rfl⟩:=List.getElem_of_mem hk
   obtain ⟨p3,f1,f2⟩:=hsome i _ (List.getElem?_eq_getElem hi)
   rw [hMk] at f1;cases f1
   have:=hm'.sep _ _ p p2 b e f2 hb hb2
   omega
  ·rw [hh0,X1O] at g1;exact g1
 have hsz:W.heap.size≤w'.heap.size:=by have:=hm'.bel.size;rw [hh0,X1O] at this;exact this
 have hblk:∀ b,b < W.heap.size→b ∉ F→w'.heap[b]? = W.heap[b]? := fun b hb hn=>by
  rw [hm'.bel.block b (by rw [hh0,X1O];exact hb) hn,hh0,X3z hn]
 refine ⟨v,M',he,hMsub,⟨⟨hm.bel.step hm'.bel.os hm'.bel.tape hm'.bel.output hsz hm'.bel.drawn fun k hk ho=>hblk k (Nat.lt_of_lt_of_le hk hm.bel.size) fun hkF => ?_,fun q row e => ?_,fun q q' p p' b e e' hb hb' => ?_,fun q p e => ?_,fun q p b e hb => ?_⟩,fun q hq => ?_,fun q e => ?_,hm.pin.trans hMsub⟩,XaI hback hr hrep⟩
 ·rcases (hFm k hkF).1 with h | h
  ·exact ho h
  ·omega
 ·rw [List.all_eq_true] at hok
  rcases X3a _ _ _ _ _ _ _ e with ⟨h1,⟨j,x,h2,h3,rfl⟩ | ⟨h2,h3⟩⟩ | ⟨h1,x,h2,rfl⟩
  ·rw [Nat.zero_add] at h2
   have hkj:=XD h2
   obtain ⟨p,g1,g2⟩:=hsome j q hkj
   rw [hMo q h1,g1,← g2]
   exact X7a hback (hok x (List.mem_of_getElem? h3)) (hm'.row j x h3)
  ·have hqk:q ∉ ks:=by
    rcases h2 with h2 | ⟨j,h2,h4⟩
    ·rw [Nat.zero_add] at h2;exact hidx q h2
    ·rw [Nat.zero_add] at h2
     have hkj:=XD h2
     have:j < ks.length:=by
      rcases Nat.lt_or_ge j ks.length with h | h
      ·exact h
      ·rw [List.getElem?_eq_none h] at hkj;cases hkj
     rw [List.getElem?_eq_none_iff] at h4
     omega
   rw [hMo q h1]
   exact ((hm.row q row h3).mono hMsub).heap fun p hp' b hb=>hblk b (hm.own q p b hp' hb).2 (hFo q p b hqk hp' hb)
  ·rw [hMn q h1]
   exact X7a hback (hok x (List.mem_of_getElem? h2)) (hm'.row _ x h2)
 ·rcases Nat.lt_or_ge q R.length with hq | hq<;>rcases Nat.lt_or_ge q' R.length with hq' | hq'
  ·rw [hMo q hq] at e;rw [hMo q' hq'] at e'
   exact hm.sep q q' p p' b e e' hb hb'
  ·rw [hMo q hq] at e
   have h1:=(hm.own q p b e hb).2
   have h2:=hnewF q' p' b hq' e' hb'
   omega
  ·rw [hMo q' hq'] at e'
   have h1:=(hm.own q' p' b e' hb').2
   have h2:=hnewF q p b hq e hb
   omega
  ·rw [hMn q hq] at e;rw [hMn q' hq'] at e'
   have:=hm'.sep _ _ p p' b e e' hb hb'
   omega
 ·rcases Nat.lt_or_ge q R.length with hq | hq
  ·rw [hMo q hq] at e;exact hm.nodup q p e
  ·rw [hMn q hq] at e;exact hm'.nodup _ p e
 ·rcases Nat.lt_or_ge q R.length with hq | hq
  ·rw [hMo q hq] at e
   have:=hm.own q p b e hb
   exact ⟨this.1,by omega⟩
  ·have:=hnewF q p b hq e hb
   have:=hm.bel.size
   exact ⟨.inr (by omega),by omega⟩
 ·rw [X3h] at hq
  rw [hMn q (by omega)]
  exact hm'.out _ (by omega)
 ·rw [List.all_eq_true] at hok
  rcases X3a _ _ _ _ _ _ _ e with ⟨h1,⟨j,x,h2,h3,h4⟩ | ⟨h2,h3⟩⟩ | ⟨h1,x,h2,h4⟩
  ·have:=hok x (List.mem_of_getElem? h3)
   cases x<;>simp [X3A] at h4
   simp [Xv] at this
  ·rw [hMo q h1];exact hm.dead q h3
  ·have:=hok x (List.mem_of_getElem? h2)
   cases x<;>simp [X3A] at h4
   simp [Xv] at this
end Go.Ab

set_option linter.unusedVariables false
set_option linter.unusedSimpArgs false
namespace Go.Ab
open Go.RowKit
end Go.Ab

set_option linter.unusedVariables false
set_option linter.unusedSimpArgs false
namespace Go.Ab
open Go.RowKit
inductive NPos where
 | tm (t:Nat)
 | tmc (t j:Nat)
 | row (r j:Nat)
 | dn (r:Nat)
def X3i:Row→Bool
 | .vec _ _ [] false=>true
 | .nest _ [] false=>true
 | _=>false
def nil1 (st:St) (p:NPos) (row:Row):Option St :=
 match X3i row,p with
 | true, .tm t=>match st.tm[t]? with
  | some .nils=>some ⟨st.tm.set t (.own st.rows.length),st.rows ++ [row]⟩
  | _=>none
 | true, .tmc t j=>match st.tm[t]? with
  | some (.agg cs)=>match cs[j]? with
   | some .nils=>some ⟨st.tm.set t (.agg (cs.set j (.own st.rows.length))),st.rows ++ [row]⟩
   | _=>none
  | _=>none
 | true, .row r j=>match st.rows[r]? with
  | some (.box ty cs)=>match cs[j]? with
   | some .nils=>some ⟨st.tm,(st.rows ++ [row]).set r (.box ty (cs.set j (.own st.rows.length)))⟩
   | _=>none
  | _=>none
 | _,_=>none
def nilX (st:St) (p:NPos) (row:Row):Option St:=match p with
 | .dn r=>match st.rows[r]? with
  | some (.nest t ll _)=>some ⟨st.tm,st.rows.set r (.nestD t ll 0)⟩
  | _=>none
 | p=>nil1 st p row
def X1x:List (NPos × Row)→St→Option St
 | [],st=>some st
 | (p,row) :: ps,st=>match nilX st p row with
  | some st'=>X1x ps st'
  | none=>none
theorem X8w {w0:Old0} {st st':St} {a:Act} {w:World} {p:NPos} {row:Row} (h:nil1 st p row=some st') (hr:Rel w0 st a w):Rel w0 st' a w:=by
 obtain ⟨μ,hr⟩:=hr
 let fp:FP:=⟨0,0,0,0,[],true⟩
 have hnone:=hr.mem.out st.rows.length (Nat.le_refl _)
 have hsub:Sub μ (setμ μ st.rows.length fp):=X6k hnone
 have hval:fp.val = .slice none 0 0:=rfl
 have hown:∀ v,Rep w0.heap μ .nils v→Rep w0.heap (setμ μ st.rows.length fp) (.own st.rows.length) v:=fun v hv=>by
  cases hv;exact .own st.rows.length fp (by simp [setμ])
 unfold nil1 at h
 cases hn:X3i row with
 | false=>rw [hn] at h;cases h
 | true =>
  rw [hn] at h
  have hrow:∀ H heap,X4 H (setμ μ st.rows.length fp) heap (some fp) row:=by
   intro H heap
   cases row with
   | vec t es l full=>cases l<;>cases full<;>simp [X3i] at hn;exact .inl ⟨rfl,rfl,rfl⟩
   | nest t l full=>cases l<;>cases full<;>simp [X3i] at hn;exact .inl ⟨rfl,rfl,rfl⟩
   | _=>simp [X3i] at hn
  have hdead:X1i row=false:=by cases row<;>simp [X3i] at hn<;>rfl
  have hgrow:Grow w0.heap μ (setμ μ st.rows.length fp) st.rows.length [row] w.heap.size w.heap:=by
   have one:∀ r q,st.rows.length≤r→r < st.rows.length + [row].length→setμ μ st.rows.length fp r=some q→q=fp:=fun r q h1 h2 e=>by
    have:r=st.rows.length:=by simp at h2;omega
    subst this;simp [setμ] at e;exact e.symm
   refine ⟨fun i e => ?_,fun r h => ?_,fun i row' e => ?_,fun r r' p p' b h1 h2 h3 h4 => ?_,fun r q h1 h2 e => ?_,fun r q b h1 h2 e hm => ?_⟩
   ·cases i with
    | zero=>simp at e;subst e;simp [X1i] at hdead
    | succ i=>simp at e
   ·unfold setμ;rw [if_neg (by simp at h;omega)]
   ·cases i with
    | zero=>simp at e;subst e;simpa [setμ] using hrow w0.heap w.heap
    | succ i=>simp at e
   ·simp at h2 h4;omega
   ·rw [one r q h1 h2 e];exact List.nodup_nil
   ·rw [one r q h1 h2 e] at hm;cases hm
  have hm1:=hr.mem.grow (Bw.refl _ w) hgrow (Nat.le_refl _) (fun r h1 _=>hr.mem.out r h1)
  rw [X1J] at hm1
  have htm:∀ t v,st.tm[t]? = some v→Rep w0.heap (setμ μ st.rows.length fp) v (a.tmps.getD t undef):=fun t v e=>(hr.tmps t v e).mono hsub
  have hset:∀ (t:Nat) (v:AV),Rep w0.heap (setμ μ st.rows.length fp) v (a.tmps.getD t undef)→Rel w0 ⟨st.tm.set t v,st.rows ++ [row]⟩ a w:=fun t v hv =>
   ⟨_,hr.defers,by simpa using hr.size,fun s u e=>by
    simp only at e
    by_cases hts:t=s
    ·subst hts
     rw [List.getElem?_set_self'] at e
     cases hx:st.tm[t]? with
     | none=>rw [hx] at e;simp at e
     | some y=>rw [hx] at e;simp at e;subst e;exact hv
    ·rw [List.getElem?_set_ne hts] at e;exact htm s u e,hm1⟩
  cases p with
  | tm t =>
   simp only at h
   split at h
   ·rename_i ht
    simp only [Option.some.injEq] at h;subst h
    exact hset t _ (hown _ (hr.tmps t _ ht))
   ·cases h
  | tmc t j =>
   simp only at h
   split at h
   ·rename_i cs ht
    split at h
    ·rename_i hj
     simp only [Option.some.injEq] at h;subst h
     refine hset t _ ?_
     have hrep:=hr.tmps t _ ht
     generalize a.tmps.getD t undef=x at hrep
     cases hrep with
     | agg _ vs hz hh =>
      refine .agg _ vs (by simpa using hz) fun i c e => ?_
      by_cases hji:j=i
      ·subst hji
       rw [List.getElem?_set_self'] at e
       rw [hj] at e
       simp at e;subst e
       exact hown _ (hh j _ hj)
      ·rw [List.getElem?_set_ne hji] at e;exact (hh i c e).mono hsub
    ·cases h
   ·cases h
  | row r j =>
   simp only at h
   split at h
   ·rename_i ty cs hrr
    split at h
    ·rename_i hj
     simp only [Option.some.injEq] at h;subst h
     refine ⟨_,hr.defers,hr.size,htm,hm1.repl ?_ rfl⟩
     have hrlt:r < st.rows.length:=by
      rcases Nat.lt_or_ge r st.rows.length with h | h
      ·exact h
      ·rw [List.getElem?_eq_none h] at hrr;cases hrr
     have hok:=hm1.row r (.box ty cs) (by rw [List.getElem?_append_left hrlt];exact hrr)
     have hok0:=hr.mem.row r _ hrr
     have hμr:setμ μ st.rows.length fp r=μ r:=by unfold setμ;rw [if_neg (by omega)]
     rw [hμr] at hok ⊢
     cases hq:μ r with
     | none=>rw [hq] at hok;exact hok.elim
     | some q =>
      rw [hq] at hok hok0
      obtain ⟨e0,e1,e2,arr,e3,e4,e5⟩:=hok
      obtain ⟨f0,f1,f2,arr',f3,f4,f5⟩:=hok0
      have harr:arr'=arr:=by rw [e3] at f3;cases f3;rfl
      subst harr
      refine ⟨e0,by simpa using e1,e2,arr',e3,by simpa using e4,fun i c e => ?_⟩
      by_cases hji:j=i
      ·subst hji
       rw [List.getElem?_set_self'] at e
       rw [hj] at e
       simp at e;subst e
       exact hown _ (f5 j _ hj)
      ·rw [List.getElem?_set_ne hji] at e;exact e5 i c e
    ·cases h
   ·cases h
  | dn r=>cases h
theorem X8x {w0:Old0} {st st':St} {a:Act} {w:World} {p:NPos} {row:Row} (h:nilX st p row=some st') (hr:Rel w0 st a w):Rel w0 st' a w:=by
 unfold nilX at h
 split at h
 ·rename_i r
  split at h
  ·rename_i t ll full hrr
   simp only [Option.some.injEq] at h;subst h
   obtain ⟨μ,hr⟩:=hr
   refine ⟨μ,hr.defers,hr.size,hr.tmps,hr.mem.repl ?_ rfl⟩
   have hok:=hr.mem.row r _ hrr
   cases hq:μ r with
   | none=>rw [hq] at hok;exact hok.elim
   | some q =>
    rw [hq] at hok
    rcases hok with h | ⟨hz,h1,h2,h3,h4,h5,arr,h6,h7,h8⟩
    ·exact .inl h
    ·exact .inr ⟨hz,h1,h2,h3,h5,arr,h6,h7,fun i l _ hi=>h8 i l hi⟩
  ·cases h
 ·exact X8w h hr
theorem X18 {w0:Old0} {a:Act} {w:World}:∀ {ps:List (NPos × Row)} {st st':St},X1x ps st=some st'→Rel w0 st a w→Rel w0 st' a w
 | [],st,st',h,hr=>by simp [X1x] at h;subst h;exact hr
 | (p,row) :: ps,st,st',h,hr=>by
  simp only [X1x] at h
  split at h
  ·rename_i st1 h1
   exact X18 h (X8x h1 hr)
  ·cases h
def rnF (ks:List Nat):AV→AV
 | .own r=>match idx ks r with
  | some i => .own i
  | none => .any
 | .ptr r j o=>match idx ks r with
  | some i => .ptr i j o
  | none => .any
 | .inn r j=>match idx ks r with
  | some i => .inn i j
  | none => .any
 | .ipt r j k=>match idx ks r with
  | some i => .ipt i j k
  | none => .any
 | .mp r=>match idx ks r with
  | some i => .mp i
  | none => .any
 | .bx r n=>match idx ks r with
  | some i => .bx i n
  | none => .any
 | .agg _ | .tup _ | .fn _ _ => .any
 | v=>v
def rnC (ks:List Nat):AV→AV
 | .agg cs => .agg (cs.map (rnF ks))
 | v=>rnF ks v
def rn (ks:List Nat):AV→AV
 | .tup vs => .tup (vs.map (rnC ks))
 | .fn g cap => .fn g (cap.map (rnF ks))
 | v=>rnC ks v
def X1h (ks:List Nat):Row→Row
 | .box t cs => .box t (cs.map (rn ks))
 | .lits t cs => .lits t (cs.map (rn ks))
 | .vec t es l _ => .vec t es l false
 | .nest t ll _ => .nest t ll false
 | .mapN t kv h => .mapN t kv h
 | .mapS t k kv pend => .mapS t k kv pend
 | .nestD t ll d => .nestD t ll d
 | .vecU l => .vecU l
 | .dead => .dead
section
variable {H:Array Obj} {μ μ':Nat→Option FP} {ks:List Nat}
theorem X5m (hs:∀ (i k:Nat),ks[i]? = some k→μ' i=μ k) {c:AV} {v:Value} (h:Rep H μ c v):Rep H μ' (rnF ks c) v:=by
 cases h with
 | any v=>exact .any v
 | b x=>exact .b x
 | i k n=>exact .i k n
 | f k x bits h e=>exact .f k x bits h e
 | nils=>exact .nils
 | slE a c=>exact .slE a c
 | sl l es bl off c val h h1 h2 hc=>exact .sl l es bl off c val h h1 h2 hc
 | ref cs off bl base val h h2=>exact .ref cs off bl base val h h2
 | own r p h =>
  simp only [rnF]
  split
  ·rename_i i hi;exact .own i p (by rw [hs i r (XD hi)];exact h)
  ·exact .any _
 | ptr r idx off p h =>
  simp only [rnF]
  split
  ·rename_i i hi;exact .ptr i idx off p (by rw [hs i r (XD hi)];exact h)
  ·exact .any _
 | inn r j p ib h hb =>
  simp only [rnF]
  split
  ·rename_i i hi;exact .inn i j p ib (by rw [hs i r (XD hi)];exact h) hb
  ·exact .any _
 | ipt r j k p b n c h hb =>
  simp only [rnF]
  split
  ·rename_i i hi;exact .ipt i j k p b n c (by rw [hs i r (XD hi)];exact h) hb
  ·exact .any _
 | mp r p h hz =>
  simp only [rnF]
  split
  ·rename_i i hi;exact .mp i p (by rw [hs i r (XD hi)];exact h) hz
  ·exact .any _
 | bx r n c p h hz =>
  simp only [rnF]
  split
  ·rename_i i hi;exact .bx i n c p (by rw [hs i r (XD hi)];exact h) hz
  ·exact .any _
 | agg=>exact .any _
 | tup=>exact .any _
 | fn=>exact .any _
theorem X7Y (hs:∀ (i k:Nat),ks[i]? = some k→μ' i=μ k) {c:AV} {v:Value} (h:Rep H μ c v):Rep H μ' (rnC ks c) v:=by
 cases c with
 | agg cs =>
  cases h with | agg _ vs hz hh =>
  refine .agg _ vs (by simpa using hz) fun j c e => ?_
  rw [List.getElem?_map,Option.map_eq_some_iff] at e
  obtain ⟨c0,e0,rfl⟩:=e
  exact X5m hs (hh j c0 e0)
 | _=>exact X5m hs h
theorem X4Z (hs:∀ (i k:Nat),ks[i]? = some k→μ' i=μ k) {c:AV} {v:Value} (h:Rep H μ c v):Rep H μ' (rn ks c) v:=by
 cases c with
 | tup cs =>
  cases h with | tup _ vs hz hh =>
  refine .tup _ vs (by simpa using hz) fun j c e => ?_
  rw [List.getElem?_map,Option.map_eq_some_iff] at e
  obtain ⟨c0,e0,rfl⟩:=e
  exact X7Y hs (hh j c0 e0)
 | fn g cap =>
  cases h with | fn _ _ vs hz hh =>
  refine .fn g _ vs (by simpa using hz) fun j c e => ?_
  rw [List.getElem?_map,Option.map_eq_some_iff] at e
  obtain ⟨c0,e0,rfl⟩:=e
  exact X5m hs (hh j c0 e0)
 | _=>exact X7Y hs h
theorem X7b (hs:∀ (i k:Nat),ks[i]? = some k→μ' i=μ k) {heap:Array Obj} {p:Option FP} {row:Row} (h:X4 H μ heap p row):X4 H μ' heap p (X1h ks row):=by
 cases row with
 | box t cs =>
  cases p with
  | none=>exact h.elim
  | some p =>
   obtain ⟨ez,e1,e2,arr,e3,e4,e5⟩:=h
   refine ⟨ez,by simpa [X1h] using e1,e2,arr,e3,by simpa [X1h] using e4,fun j c e => ?_⟩
   rw [List.getElem?_map,Option.map_eq_some_iff] at e
   obtain ⟨c0,e0,rfl⟩:=e
   exact X4Z hs (e5 j c0 e0)
 | lits t cs =>
  cases p with
  | none=>exact h.elim
  | some p =>
   obtain ⟨ez,e1,e2,e2',e2'',arr,e3,e4,e5⟩:=h
   refine ⟨ez,e1,e2,by simpa [X1h] using e2',by simpa [X1h] using e2'',arr,e3,by simpa [X1h] using e4,fun j c e => ?_⟩
   rw [List.getElem?_map,Option.map_eq_some_iff] at e
   obtain ⟨c0,e0,rfl⟩:=e
   exact X4Z hs (e5 j c0 e0)
 | vec t es l full =>
  cases p with
  | none=>exact h.elim
  | some p =>
   rcases h with ⟨h1,h2,_⟩ | ⟨ez,e1,e2,e3,e4,_,e6⟩
   ·exact .inl ⟨h1,h2,rfl⟩
   ·exact .inr ⟨ez,e1,e2,e3,e4,(fun h=>by cases h),e6⟩
 | nest t ll full =>
  cases p with
  | none=>exact h.elim
  | some p =>
   rcases h with h | ⟨ez,e1,e2,e3,_,e6⟩
   ·exact .inl h
   ·exact .inr ⟨ez,e1,e2,e3,(fun h=>by cases h),e6⟩
 | mapN=>cases p<;>exact h
 | mapS=>cases p<;>exact h
 | nestD=>cases p<;>exact h
 | vecU=>cases p<;>exact h
 | dead=>cases p<;>exact trivial
end
def X5n (np:Nat) (mask:List Bool) (ks:List Nat) (st:St):Option St :=
 match XU (X8 0 np ++ ks),X10 st.rows (X8 0 np ++ ks) with
 | true,some rs=>some ⟨(X13 mask st.tm).map (rn (X8 0 np ++ ks)),rs.map (X1h (X8 0 np ++ ks))⟩
 | _,_=>none
theorem Rel.forgetK {w0:Old0} {st st':St} {a:Act} {w:World} {np:Nat} {mask:List Bool} {ks:List Nat} (hn:w0.np≤np) (he:X5n np mask ks st=some st') (h:Rel w0 st a w):Rel w0 st' a w:=by
 obtain ⟨μ,h⟩:=h
 unfold Ab.X5n at he
 generalize hks:X8 0 np ++ ks=qs at he
 split at he
 ·rename_i rs hnd hpick
  simp only [Option.some.injEq] at he;subst he
  obtain ⟨hpl,hpg⟩:=X1n hpick
  have hnd:=XM hnd
  let μ':Nat→Option FP:=fun i=>(qs[i]?).bind μ
  have hs:∀ i k,qs[i]? = some k→μ' i=μ k:=fun i k e=>by show (qs[i]?).bind μ=μ k;rw [e];rfl
  have hμ0:∀ i p,μ' i=some p→∃ k,qs[i]? = some k∧μ k=some p:=by
   intro i p e
   cases hk:qs[i]? with
   | none =>
    have e2:(qs[i]?).bind μ=some p:=e
    rw [hk] at e2;cases e2
   | some k=>exact ⟨k,rfl,by rw [← hs i k hk];exact e⟩
  have hlt:∀ i k,qs[i]? = some k→i < qs.length:=fun i k e=>by
   rcases Nat.lt_or_ge i qs.length with h | h
   ·exact h
   ·rw [List.getElem?_eq_none h] at e;cases e
  have hrow:∀ i row,(rs.map (X1h qs))[i]? = some row→∃ k row0,qs[i]? = some k∧st.rows[k]? = some row0∧row=X1h qs row0:=fun i row e=>by
   rw [List.getElem?_map,Option.map_eq_some_iff] at e
   obtain ⟨row0,e0,rfl⟩:=e
   have hil:i < qs.length:=by
    rw [← hpl]
    rcases Nat.lt_or_ge i rs.length with h | h
    ·exact h
    ·rw [List.getElem?_eq_none h] at e0;cases e0
   exact ⟨qs[i],row0,List.getElem?_eq_getElem hil,by rw [← hpg i _ (List.getElem?_eq_getElem hil)];exact e0,rfl⟩
  refine ⟨μ',h.defers,by simp [X1V,h.size],fun t v e => ?_,⟨⟨h.mem.bel,fun i row e => ?_,fun i j p p' b e e' hb hb' => ?_,fun i p e => ?_,fun i p b e hb => ?_⟩,fun i hi => ?_,fun i e => ?_,fun r p e => ?_⟩⟩
  ·simp only [List.getElem?_map,Option.map_eq_some_iff] at e
   obtain ⟨v0,e0,rfl⟩:=e
   rcases X2U _ _ _ _ e0 with rfl | e1
   ·exact .any _
   ·exact X4Z hs (h.tmps t v0 e1)
  ·obtain ⟨k,row0,e1,e2,rfl⟩:=hrow i row e
   rw [hs i k e1]
   exact X7b hs (h.mem.row k row0 e2)
  ·obtain ⟨k,g1,g2⟩:=hμ0 i p e
   obtain ⟨k',g3,g4⟩:=hμ0 j p' e'
   have:=h.mem.sep k k' p p' b g2 g4 hb hb'
   subst this
   have hil:=hlt i k g1
   have hjl:=hlt j k g3
   rw [List.getElem?_eq_getElem hil] at g1
   rw [List.getElem?_eq_getElem hjl] at g3
   exact X2Y hnd hil hjl ((Option.some.inj g1).trans (Option.some.inj g3).symm)
  ·obtain ⟨k,g1,g2⟩:=hμ0 i p e
   exact h.mem.nodup k p g2
  ·obtain ⟨k,g1,g2⟩:=hμ0 i p e
   exact h.mem.own k p b g2 hb
  ·show (qs[i]?).bind μ=none
   simp only [List.length_map,hpl] at hi
   rw [List.getElem?_eq_none hi];rfl
  ·obtain ⟨k,row0,e1,e2,e3⟩:=hrow i _ e
   rw [hs i k e1]
   refine h.mem.dead k ?_
   cases row0<;>simp [X1h] at e3
   exact e2
  ·have hrn:=w0.pinLt r p e
   have:qs[r]? = some r:=by
    rw [← hks,List.getElem?_append_left (by rw [X1D];omega),X2r _ _ _ (by omega),Nat.zero_add]
   rw [hs r r this]
   exact h.mem.pin r p e
 ·cases he
theorem Lp.nil {P:Program} {N:Nat} {body:Code} {st st2 st':St} {e:Ex} {ps:List (NPos × Row)} (h:X1x ps st=some st2) (k:Lp P N body st2 e st'):Lp P N body st e st':=by
 obtain ⟨m,k⟩:=k
 exact ⟨m,fun w0 hp a w Q hr hQ=>k w0 hp a w Q (X18 h hr) hQ⟩
theorem Lp.pick {P:Program} {N:Nat} {body:Code} {st st2 st':St} {e:Ex} {mask:List Bool} {ks:List Nat} (h:X5n N mask ks st=some st2) (k:Lp P N body st2 e st'):Lp P N body st e st':=by
 obtain ⟨m,k⟩:=k
 exact ⟨m,fun w0 hp a w Q hr hQ=>k w0 hp a w Q (hr.forgetK hp h) hQ⟩
def X23 (P:Program) (E:Env) (body:Code) (st:St) (ans:List Ans) (ps:List (NPos × Row)) (mask:List Bool) (ks:List Nat):Option (Ex × St × List Prop) :=
 match evc P E body st ans with
 | some (e,st',[],C)=>match X1x ps st' with
  | some st''=>match X5n E.np mask ks st'' with
   | some st3=>some (e,st3,C)
   | none=>none
  | none=>none
 | _=>none
theorem X50 {P:Program} {E:Env} (hE:EOk P E) (hm:P.follows .mixedOrders=true) {body:Code} {st st2 st3 st':St} {ans:List Ans} {ps:List (NPos × Row)} {mask:List Bool} {ks:List Nat} {e:Ex} {C:List Prop}
  (h:X23 P E body st ans ps mask ks=some (.norm,st2,C)) (hC:All C) (hs:st2=st3) (k:Lp P E.np body st3 e st'):Lp P E.np body st e st':=by
 unfold X23 at h
 split at h
 ·rename_i e1 st1 C1 hev
  split at h
  ·rename_i st4 h4
   split at h
   ·rename_i st5 h5
    simp only [Option.some.injEq,Prod.mk.injEq] at h
    obtain ⟨rfl,rfl,rfl⟩:=h
    subst hs
    obtain ⟨m,k⟩:=k
    refine ⟨m + 1,fun w0 hp a w Q hr hQ => ?_⟩
    rw [rounds_succ]
    exact X2W hE hm body hev hC w0 hp a w _ hr fun a' w' hr'=>k w0 hp a' w' Q ((X18 h4 hr').forgetK hp h5) hQ
   ·cases h
  ·cases h
 ·cases h
theorem X9a {P:Program} {E:Env} (hE:EOk P E) (hm:P.follows .mixedOrders=true) {body:Code} {st st2 st3:St} {ans:List Ans} {ps:List (NPos × Row)} {mask:List Bool} {ks:List Nat} {e:Ex} {C:List Prop}
  (h:X23 P E body st ans ps mask ks=some (e,st2,C)) (hC:All C) (he:e ≠ .norm) (hs:st2=st3):Lp P E.np body st e st3:=by
 unfold X23 at h
 split at h
 ·rename_i e1 st1 C1 hev
  split at h
  ·rename_i st4 h4
   split at h
   ·rename_i st5 h5
    simp only [Option.some.injEq,Prod.mk.injEq] at h
    obtain ⟨rfl,rfl,rfl⟩:=h
    subst hs
    refine ⟨1,fun w0 hp a w Q hr hQ => ?_⟩
    rw [rounds_succ]
    refine X2W hE hm body hev hC w0 hp a w _ hr fun a' w' hr' => ?_
    have:=hQ a' w' ((X18 h4 hr').forgetK hp h5)
    cases e1 with
    | norm=>exact absurd rfl he
    | exit id=>exact this
    | ret=>exact this
   ·cases h
  ·cases h
 ·cases h
end Go.Ab

set_option linter.unusedVariables false
set_option linter.unusedSimpArgs false
namespace Go.Ab
open Go.RowKit
def X6b (P:Program) (E:Env) (fn:Func) (c:Code) (rows:List Row) (args:List AV) (ans:List Ans) (ps:List (NPos × Row)):Option (AV × List Row × List Prop) :=
 match Nat.beq rows.length E.np with
 | false=>none
 | true=>match evc P E c ⟨args ++ List.replicate (fn.ntmps - args.length) .any,rows⟩ ans with
  | some (.exit _,_,_,_)=>none
  | some (_,st0,ans',C)=>match X1x ps st0 with
   | none=>none
   | some st=>match X49 E.T st fn.results.toList,ans' with
   | some r,[.keep ks]=>match X10 st.rows (X8 0 rows.length ++ ks) with
    | some rs=>match XU (X8 0 rows.length ++ ks) && (rs.map (XQ (X8 0 rows.length ++ ks))).all (Xv (X8 0 rows.length ++ ks).length) && X1a (X8 0 rows.length ++ ks).length (ren (X8 0 rows.length ++ ks) r) with
     | true=>some (ren (X8 0 rows.length ++ ks) r,rs.map (XQ (X8 0 rows.length ++ ks)),C)
     | false=>none
    | none=>none
   | _,_=>none
  | none=>none
theorem X3J {P:Program} {E:Env} (hE:EOk P E) (hm:P.follows .mixedOrders=true) {f:FuncId} {fn:Func} {c:Code} {rows rows':List Row} {args:List AV} {ans:List Ans} {ps:List (NPos × Row)} {r:AV} {C:List Prop}
  (hf : P.funcs[f]? = some fn) (hb : fn.body = some c) (hn : (fn.name == "runtime.NumGoroutine") = false) (h : X6b P E fn c rows args ans ps = some (r, rows', C)) (hC : All C) : X7 P f rows args r rows' := by
 refine ⟨⟨fn,hf,by rw [hb];rfl,hn⟩,fun w0 μ0 w vs hmem hp => ?_⟩
 unfold X6b at h
 split at h
 ·cases h
 rename_i hnp
 rw [Nat.beq_eq] at hnp
 have hlt:∀ q p,μ0 q=some p→q < rows.length:=fun q p e=>by
  rcases Nat.lt_or_ge q rows.length with h | h
  ·exact h
  ·rw [hmem.out q h] at e;cases e
 let w1:Old0:={ w0 with pin:=μ0,np:=rows.length,pinLt:=hlt }
 have fin:∀ (e:Ex) (st0 st:St) (ans':List Ans) (C':List Prop),(∀ id,e ≠ .exit id)→evc P E c ⟨args ++ List.replicate (fn.ntmps - args.length) .any,rows⟩ ans=some (e,st0,ans',C')→X1x ps st0=some st →
   (match X49 E.T st fn.results.toList,ans' with
   | some r,[.keep ks]=>match X10 st.rows (X8 0 rows.length ++ ks) with
    | some rs=>match XU (X8 0 rows.length ++ ks) && (rs.map (XQ (X8 0 rows.length ++ ks))).all (Xv (X8 0 rows.length ++ ks).length) && X1a (X8 0 rows.length ++ ks).length (ren (X8 0 rows.length ++ ks) r) with
     | true=>some (ren (X8 0 rows.length ++ ks) r,rs.map (XQ (X8 0 rows.length ++ ks)),C')
     | false=>none
    | none=>none
   | _,_=>none)=some (r,rows',C)→Calls P f vs w fun e w' => ∃ v μ',e = .returned v∧Sub μ0 μ'∧Mem w0 μ' rows' w'∧Rep w0.heap μ' r v:=by
  intro e st0 st ans' C' hex hev hps h
  split at h
  ·rename_i r0 ks1 hres
   generalize hks:X8 0 rows.length ++ ks1=ks at h
   split at h
   ·rename_i rs hpick
    split at h
    ·rename_i hok
     simp only [Bool.and_eq_true] at hok
     simp only [Option.some.injEq,Prod.mk.injEq] at h
     obtain ⟨rfl,rfl,rfl⟩:=h
     obtain ⟨hpl,hpg⟩:=X1n hpick
     have hnd:=XM hok.1.1
     have hokr:=hok.1.2
     rw [List.all_eq_true] at hokr
     have hEv:=X2W hE hm c hev hC
     have hkn:∀ i,i < rows.length→ks[i]? = some i:=fun i hi=>by
      rw [← hks,List.getElem?_append_left (by rw [X1D];exact hi),X2r _ _ _ hi,Nat.zero_add]
     refine calls_of_wp hf hb (hEv w1 (Nat.le_of_eq hnp) _ w _ ⟨μ0,rfl,?_,?_,⟨⟨⟨hmem.bel.os,hmem.bel.tape,hmem.bel.output,hmem.bel.size,hmem.bel.block,hmem.bel.drawn⟩,hmem.row,hmem.sep,hmem.nodup,hmem.own⟩,hmem.out,hmem.dead,Sub.refl _⟩⟩ fun a' w' hr' => ?_)
     ·simp [hp.1]
     ·intro t v e
      simp only at e ⊢
      rw [Array.getD_eq_getD_getElem?]
      by_cases ht:t < args.length
      ·rw [List.getElem?_append_left ht] at e
       rw [Array.getElem?_append_left (by rw [hp.1];exact ht),← Array.getD_eq_getD_getElem?]
       exact hp.2 t v e
      ·rw [List.getElem?_append_right (by omega),List.getElem?_replicate] at e
       split at e
       ·cases e;exact .any _
       ·cases e
     ·obtain ⟨μ,hr'⟩:=X18 hps hr'
      obtain ⟨x,hx1,hx2⟩:=X4j hE.T hr' hres
      let μ':Nat→Option FP:=fun i=>(ks[i]?).bind μ
      have hμ:∀ i k,ks[i]? = some k→μ' i=μ k:=fun i k e=>by show (ks[i]?).bind μ=μ k;rw [e];rfl
      have hμ0:∀ i p,μ' i=some p→∃ k,ks[i]? = some k∧μ k=some p:=by
       intro i p e
       cases hk:ks[i]? with
       | none =>
        have e2:(ks[i]?).bind μ=some p:=e
        rw [hk] at e2;cases e2
       | some k=>exact ⟨k,rfl,by rw [← hμ i k hk];exact e⟩
      have hsub:Sub μ0 μ':=fun q p e=>by
       have hq:q < rows.length:=w1.pinLt q p e
       rw [hμ q q (hkn q hq)]
       exact hr'.mem.pin q p e
      have hbel:=hr'.mem.bel
      have hpost:a'.defers=[]∧∃ v,(results fn a'.tmps).run P w' = .ok v w'∧∃ v' μ',Ending.returned v = .returned v'∧Sub μ0 μ'∧Mem w0 μ' (rs.map (XQ ks)) w'∧Rep w0.heap μ' (ren ks r0) v':=by
       refine ⟨hr'.defers,x,hx1,x,μ',rfl,hsub,⟨⟨⟨hbel.os,hbel.tape,hbel.output,hbel.size,hbel.block,hbel.drawn⟩,fun i row hi => ?_,fun i j p p' b h5 h6 h7 h8 => ?_,fun i p h3 => ?_,fun i p b h3 h4 => ?_⟩,fun i hi => ?_,fun i hi => ?_,hmem.pin.trans hsub⟩,Xa6 hμ hok.2 hx2⟩
       ·rw [List.getElem?_map,Option.map_eq_some_iff] at hi
        obtain ⟨row0,hi0,rfl⟩:=hi
        have hil:i < ks.length:=by
         rw [← hpl]
         rcases Nat.lt_or_ge i rs.length with h | h
         ·exact h
         ·rw [List.getElem?_eq_none h] at hi0;cases hi0
        have hi1:=hi0
        rw [hpg i _ (List.getElem?_eq_getElem hil)] at hi1
        rw [hμ i _ (List.getElem?_eq_getElem hil)]
        exact X99 hμ (hokr _ (List.mem_map.2 ⟨row0,List.mem_of_getElem? hi0,rfl⟩)) (hr'.mem.row _ _ hi1)
       ·obtain ⟨k,g1,g2⟩:=hμ0 i p h5
        obtain ⟨k',g3,g4⟩:=hμ0 j p' h6
        have:=hr'.mem.sep k k' p p' b g2 g4 h7 h8
        subst this
        have hil:i < ks.length:=by
         rcases Nat.lt_or_ge i ks.length with h | h
         ·exact h
         ·rw [List.getElem?_eq_none h] at g1;cases g1
        have hjl:j < ks.length:=by
         rcases Nat.lt_or_ge j ks.length with h | h
         ·exact h
         ·rw [List.getElem?_eq_none h] at g3;cases g3
        rw [List.getElem?_eq_getElem hil] at g1
        rw [List.getElem?_eq_getElem hjl] at g3
        exact X2Y hnd hil hjl ((Option.some.inj g1).trans (Option.some.inj g3).symm)
       ·obtain ⟨k,g1,g2⟩:=hμ0 i p h3
        exact hr'.mem.nodup k p g2
       ·obtain ⟨k,g1,g2⟩:=hμ0 i p h3
        exact hr'.mem.own k p b g2 h4
       ·show (ks[i]?).bind μ=none
        rw [List.length_map,hpl] at hi
        rw [List.getElem?_eq_none hi];rfl
       ·rw [List.getElem?_map,Option.map_eq_some_iff] at hi
        obtain ⟨row0,hi0,h0⟩:=hi
        have:=hokr _ (List.mem_map.2 ⟨row0,List.mem_of_getElem? hi0,rfl⟩)
        rw [h0] at this
        simp [Xv] at this
      cases e with
      | norm=>exact hpost
      | ret=>exact hpost
      | exit id=>exact absurd rfl (hex id)
    ·cases h
   ·cases h
  ·cases h
 split at h
 ·cases h
 ·rename_i e st0 ans' C' hne hev
  split at h
  ·cases h
  ·rename_i st hps
   exact fin e st0 st ans' C' (fun id he=>hne id he) hev hps h
 ·cases h
theorem X7.fn {P:Program} {g:FuncId} {args:List AV} {r:AV} {new:List Row} (h:X7 P g [] args r new) (hok:X1T new=true):Fn P g args r new:=by
 refine ⟨h.1,fun w vs hp => ?_⟩
 have hmem:Mem (Old0.of w) (fun _=>none) [] w :=
  ⟨⟨⟨rfl,rfl,rfl,Nat.le_refl _,fun _ _ _=>rfl,Nat.le_refl _⟩,(fun i row e=>by simp at e),(fun _ _ _ _ _ e=>by cases e),(fun _ _ e=>by cases e),(fun _ _ _ e=>by cases e)⟩,fun _ _=>rfl,(fun i e=>by simp at e),(fun _ _ e=>by cases e)⟩
 refine (h.2 (Old0.of w) _ w vs hmem hp).mono fun e w' ⟨v,μ',he,_,hm,hr⟩=>⟨v,μ',he,hm.bel.of,⟨fun i e => ?_,fun q hq => ?_,fun i row e => ?_,fun q q' p p' b _ _ _ _ e e' hb hb'=>hm.sep q q' p p' b e e' hb hb',fun q p _ _ e=>hm.nodup q p e,fun q p b _ _ e hb => ?_⟩,hr⟩
 ·simp only [X1T,List.all_eq_true] at hok
  exact absurd (hok _ (List.mem_of_getElem? e)) (by simp)
 ·exact hm.out q (by omega)
 ·rw [Nat.zero_add];exact hm.row i row e
 ·obtain ⟨g5,g6⟩:=hm.own q p b e hb
  exact ⟨g5.elim (fun h=>h.elim) fun h=>h,g6⟩
def subA:Option Nat→AV→AV
 | some n, .ref cs off => .ref ((cs.drop off).take n) 0
 | _,v=>v
def subL:List (Option Nat)→List AV→List AV
 | n :: ns,v :: vs=>subA n v :: subL ns vs
 | _,vs=>vs
theorem X9C {H:Array Obj} {μ:Nat→Option FP} {n:Option Nat} {v:AV} {x:Value} (h:Rep H μ v x):Rep H μ (subA n v) x:=by
 cases n with
 | none=>cases v<;>exact h
 | some n =>
  cases h with
  | ref cs off bl base val h1 h2 =>
   have:=Rep.ref (μ:=μ) ((cs.drop off).take n) 0 bl (base + off) (fun j=>val (off + j)) (fun j c e=>by
    rw [getElem?_part] at e
    split at e
    ·rw [Nat.add_assoc];exact h1 _ _ e
    ·cases e) (fun j c e=>by
    rw [getElem?_part] at e
    split at e
    ·exact h2 _ _ e
    ·cases e)
   exact this
  | _=>first | exact .any _ | exact .b _ | exact .i _ _ | exact .f _ _ _ ‹_› ‹_› | exact .agg _ _ ‹_› ‹_› | exact .tup _ _ ‹_› ‹_› | exact .nils | exact .slE _ _ | exact .sl _ _ _ _ _ _ ‹_› ‹_› ‹_› ‹_› | exact .own _ _ ‹_› | exact .inn _ _ _ _ ‹_› ‹_› | exact .ipt _ _ _ _ _ _ _ ‹_› ‹_› | exact .ptr _ _ _ _ ‹_› | exact .mp _ _ ‹_› ‹_› | exact .bx _ _ _ _ ‹_› ‹_› | exact .fn _ _ _ ‹_› ‹_›
theorem X7c:∀ {ns:List (Option Nat)} {vs:List AV},(subL ns vs).length=vs.length∧∀ (j:Nat) (c:AV),(subL ns vs)[j]? = some c→∃ n u,vs[j]? = some u∧c=subA n u
 | [],vs=>⟨by cases vs<;>rfl,fun j c e=>⟨none,c,by cases vs<;>exact e,by cases c<;>rfl⟩⟩
 | n :: ns,[]=>⟨rfl,fun j c e=>by simp [subL] at e⟩
 | n :: ns,v :: vs=>by
  obtain ⟨h1,h2⟩:=X7c (ns:=ns) (vs:=vs)
  refine ⟨by simp [subL,h1],fun j c e => ?_⟩
  cases j with
  | zero=>simp [subL] at e;exact ⟨n,v,rfl,e.symm⟩
  | succ j=>simp [subL] at e;simpa using h2 j c e
theorem X7Z {H:Array Obj} {μ:Nat→Option FP} {ns:List (Option Nat)} {args:List AV} {vs:Array Value} (h:PW H μ args vs):PW H μ (subL ns args) vs:=by
 obtain ⟨h1,h2⟩:=X7c (ns:=ns) (vs:=args)
 refine ⟨by rw [h.1,h1],fun j c e => ?_⟩
 obtain ⟨n,u,e1,rfl⟩:=h2 j c e
 exact X9C (h.2 j u e1)
theorem Fn.sub {P:Program} {g:FuncId} {args:List AV} {r:AV} {new:List Row} (ns:List (Option Nat)) (h:Fn P g (subL ns args) r new):Fn P g args r new :=
 ⟨h.1,fun w vs hp=>h.2 w vs (X7Z hp)⟩
theorem X7.sub {P:Program} {g:FuncId} {args:List AV} {r:AV} {R R':List Row} (ns:List (Option Nat)) (h:X7 P g R (subL ns args) r R'):X7 P g R args r R' :=
 ⟨h.1,fun w0 μ w vs hm hp=>h.2 w0 μ w vs hm (X7Z hp)⟩
theorem X5o {α β:Type} {l:List α} {f:α→β}:((l.map f).length:Int)=(l.length:Int):=by simp
theorem nest_getD {α:Type} [Inhabited α] {c:α→List AV} {l:List (List α)} {j:Nat}:((l.map fun l=>l.map c).getD j [])=(l.getD j default).map c:=by
 rw [List.getD_eq_getElem?_getD,List.getD_eq_getElem?_getD,List.getElem?_map]
 cases l[j]? <;> rfl
theorem X2z {α:Type} [Inhabited α] {c:α→List AV} {l:List (List α)} {j k:Nat} (h:k < (l.getD j default).length):((l.map fun l=>l.map c).getD j [])[k]? = some (c ((l.getD j default).getD k default)):=by
 rw [nest_getD];exact X4b h
theorem X2A {α:Type} [Inhabited α] {c:α→List AV} {l:List (List α)} {j:Nat} {i:Int} (h0:0≤i) (h:i < (l.getD j default).length):0≤i∧i.toNat < ((l.map fun l=>l.map c).getD j []).length:=by
 rw [nest_getD];exact X75 h0 h
end Go.Ab

set_option linter.unusedVariables false
set_option linter.unusedSimpArgs false
namespace Go.Ab
open Go.RowKit
theorem XP.at2 {n:Nat} {ts:List (List Int)} {i k:Int} (h:XP n ts) (h0:0≤i) (hi:i < (ts.length:Int)) (k0:0≤k) (hk:k < 3∨k < ((ts.getD i.toNat default).length:Int)) :
  (ts.getD i.toNat default).length=3∧0≤(ts.getD i.toNat default).getD k.toNat default∧(ts.getD i.toNat default).getD k.toNat default < (n:Int):=by
 have hn:i.toNat < ts.length:=by omega
 have hm:(ts.getD i.toNat default)∈ts:=by rw [List.getD_eq_getElem?_getD,List.getElem?_eq_getElem hn];exact List.getElem_mem hn
 obtain ⟨h1,h2⟩:=h _ hm
 generalize ts.getD i.toNat default=t at *
 have hk':k.toNat < t.length:=by omega
 refine ⟨h1,?_⟩
 rw [List.getD_eq_getElem?_getD,List.getElem?_eq_getElem hk']
 exact h2 _ (List.getElem_mem hk')
theorem Okt.at {n:Nat} {t:List Int} (h:t.length=3∧∀ x∈t,0≤x∧x < (n:Int)) :
  t.length=3∧(0≤t.getD 0 default∧t.getD 0 default < (n:Int))∧(0≤t.getD 1 default∧t.getD 1 default < (n:Int))∧(0≤t.getD 2 default∧t.getD 2 default < (n:Int)):=by
 obtain ⟨h1,h2⟩:=h
 match t,h1 with
 | [a,b,c],_=>exact ⟨rfl,h2 a (by simp),h2 b (by simp),h2 c (by simp)⟩
theorem XP.get {n:Nat} {ts:List (List Int)} {i:Int} (h:XP n ts) (h0:0≤i) (hi:i < (ts.length:Int)) :
  (ts.getD i.toNat default).length=3∧∀ x∈(ts.getD i.toNat default),0≤x∧x < (n:Int):=by
 have hn:i.toNat < ts.length:=by omega
 exact h _ (by rw [List.getD_eq_getElem?_getD,List.getElem?_eq_getElem hn];exact List.getElem_mem hn)
end Go.Ab

set_option linter.unusedVariables false
set_option linter.unusedSimpArgs false
namespace Go.Ab
def OkIx {α:Type} (n:Nat) (f:α→Int) (l:List α):Prop:=∀ x∈l,0≤f x∧f x < (n:Int)
theorem OkIx.at {α:Type} [Inhabited α] {n:Nat} {f:α→Int} {l:List α} (h:OkIx n f l) {i:Int} (h0:0≤i) (hi:i < (l.length:Int)):0≤f (l.getD i.toNat default)∧f (l.getD i.toNat default) < (n:Int):=by
 have hn:i.toNat < l.length:=by omega
 rw [List.getD_eq_getElem?_getD,List.getElem?_eq_getElem hn]
 exact h _ (List.getElem_mem hn)
theorem X8y {α:Type} [Inhabited α] (l:List α):((List.range l.length).map fun (j:Nat)=>l.getD j default)=l:=by
 apply List.ext_getElem
 ·simp
 ·intro i h1 h2
  simp only [List.getElem_map,List.getElem_range]
  rw [List.getD_eq_getElem?_getD,List.getElem?_eq_getElem h2];rfl
theorem X4m {α:Type} [Inhabited α] (l:List α):((List.range l.length).map fun (j:Nat)=>l[j]?.getD default)=l:=by
 have:=X8y l
 simpa [List.getD_eq_getElem?_getD] using this
end Go.Ab

namespace Go.Ab
def Scr (_:List Ans) (C:List Prop):Prop:=All C
section
variable {P:Program} {a:List Ans} {C:List Prop}
theorem sN:Scr [] []:=trivial
theorem sK (ks:List Nat) (s:Scr a C):Scr (.keep ks :: a) C:=s
theorem sA (x:Ans) (s:Scr a C):Scr (x :: a) C:=s
theorem sC {p:Prop} (h:p) (s:Scr a C):Scr a (p :: C):=⟨h,s⟩
theorem sB {x b:Bool} (h:x=b) (s:Scr a C):Scr (.bo b :: a) ((x=b) :: C):=⟨h,s⟩
theorem sB' {x b:Bool} (h:x=b) (s:Scr a C):Scr (.bo (!b) :: a) (((!x)=!b) :: C):=⟨congrArg not h,s⟩
theorem sM {x n:Int} (h:x=n) (s:Scr a C):Scr (.num n :: a) ((x=n) :: C):=⟨h,s⟩
theorem sW (k:IntKind) (e:Int) (s:Scr a C):Scr (.num (k.wrap e) :: a) ((k.wrap e=k.wrap e) :: C):=⟨rfl,s⟩
theorem sI (e:Int) (h1:-9223372036854775808≤e) (h2:e≤9223372036854775807) (s:Scr a C):Scr (.num e :: a) ((IntKind.i64.wrap e=e) :: C):=⟨Xt h1 h2,s⟩
theorem sQ (e:Int) (s:Scr a C):Scr (.num e :: a) ((e=e) :: C):=⟨rfl,s⟩
theorem sE {l:List (List AV)} {k:Nat} {cs:List AV} (h:l[k]? = some cs) (s:Scr a C):Scr (.el cs :: a) ((l[k]? = some cs) :: C):=⟨h,s⟩
theorem sG {α:Type} [Inhabited α] (c:α→List AV) (l:List α) (i:Int) (h0:0≤i) (h:i < l.length) (s:Scr a C):Scr (.el (c (l.getD i.toNat default)) :: a) ((0≤i∧(l.map c)[i.toNat]? = some (c (l.getD i.toNat default))) :: C):=⟨XaD h0 h,s⟩
theorem sV {α:Type} [Inhabited α] (c:α→List AV) (l:List α) (k:Nat) (h:k < l.length) (s:Scr a C):Scr (.el (c (l.getD k default)) :: a) (((l.map c)[k]? = some (c (l.getD k default))) :: C):=⟨X4b h,s⟩
theorem sX {α:Type} (c:α→List AV) (l:List α) (i:Int) (h0:0≤i) (h:i < l.length) (s:Scr a C):Scr a ((0≤i∧i.toNat < (l.map c).length) :: C):=⟨X75 h0 h,s⟩
theorem sZ {α:Type} (c:α→List AV) (l:List α) (s:Scr a C):Scr (.num (l.length:Int) :: a) ((((l.map c).length:Int)=(l.length:Int)) :: C):=⟨XaE,s⟩
theorem sF {g:FuncId} {args:List AV} {r:AV} {rows:List Row} (h:Fn P g args r rows) (s:Scr a C):Scr (.call r rows :: a) (Fn P g args r rows :: C):=⟨h,s⟩
theorem sS {g:FuncId} {R R':List Row} {args:List AV} {r:AV} (h:X7 P g R args r R') (s:Scr a C):Scr (.calls r R' :: a) (X7 P g R args r R' :: C):=⟨h,s⟩
theorem sL (mask:List Bool) (n:Nat) {N:Nat} {body:Code} {st st':St} {e:Ex} (h:Lp P N body st e st') (s:Scr a C):Scr (.loop mask n e st' :: a) (Lp P N body st e st' :: C):=⟨h,s⟩
end
theorem X3B {α:Type} {c:α→List AV} {l:List α} {k:Nat} (h:k < l.length):k < (l.map c).length:=by simpa using h
theorem X51 {α:Type} {c:α→List AV} {l:List (List α)} {k:Nat} (h:k < l.length):k < (l.map fun l=>l.map c).length:=by simpa using h
theorem X52 {α:Type} {c:α→List AV} {l:List (List α)} {i:Int} (h0:0≤i) (h:i.toNat < l.length):0≤i∧i.toNat < (l.map fun l=>l.map c).length:=⟨h0,by simpa using h⟩
theorem X9 {P:Program} {N:Nat} {body:Code} {st:St} {α:Type} (f:α→Ex × St) {x y:α} (h:Lp P N body st (f x).1 (f x).2) (e:x=y):Lp P N body st (f y).1 (f y).2:=e ▸ h
theorem XaU {P:Program} {E:Env} (hE:EOk P E) (hm:P.follows .mixedOrders=true) {f:FuncId} {fn:Func} {c:Code} (rows:List Row) {rows':List Row} {args:List AV} {ans:List Ans} (ps:List (NPos × Row)) (r:AV) (R:List Row) {C:List Prop}
  (hf : P.funcs[f]? = some fn) (s : Scr ans C) (hb : fn.body = some c) (hn : (fn.name == "runtime.NumGoroutine") = false) (h : X6b P E fn c rows args ans ps = some (r, R, C)) {r' : AV} (hr : r = r') (hR : R = rows') : X7 P f rows args r' rows' := by
 subst hr;subst hR;exact X3J hE hm hf hb hn h s
theorem fnS {P:Program} {E:Env} (hE:EOk P E) (hm:P.follows .mixedOrders=true) {f:FuncId} {fn:Func} {c:Code} {rows':List Row} {args:List AV} {ans:List Ans} (ps:List (NPos × Row)) (r:AV) (R:List Row) {C:List Prop}
  (hf : P.funcs[f]? = some fn) (s : Scr ans C) (hb : fn.body = some c) (hn : (fn.name == "runtime.NumGoroutine") = false) (h : X6b P E fn c [] args ans ps = some (r, R, C)) (hok : X1T R = true) {r' : AV} (hr : r = r') (hR : R = rows') : Fn P f args r' rows' := by
 subst hr;subst hR;exact X7.fn (X3J hE hm hf hb hn h s) hok
theorem X14 {P:Program} {E:Env} (hE:EOk P E) (hm:P.follows .mixedOrders=true) {body:Code} {st st3 st':St} {ans:List Ans} (ps:List (NPos × Row)) (mask:List Bool) (ks:List Nat) {e:Ex} {C:List Prop} (st2:St)
  (s:Scr ans C) (h:X23 P E body st ans ps mask ks=some (.norm,st2,C)) (hs:st2=st3) (k:Lp P E.np body st3 e st'):Lp P E.np body st e st':=X50 hE hm h s hs k
theorem XG {P:Program} {E:Env} (hE:EOk P E) (hm:P.follows .mixedOrders=true) {body:Code} {st st3 st':St} {ans:List Ans} (ps:List (NPos × Row)) (mask:List Bool) (ks:List Nat) {e:Ex} {C:List Prop}
  (k:Lp P E.np body st3 e st') (s:Scr ans C) (h:X23 P E body st ans ps mask ks=some (.norm,st3,C)):Lp P E.np body st e st':=X50 hE hm h s rfl k
theorem outR {P:Program} {E:Env} (hE:EOk P E) (hm:P.follows .mixedOrders=true) {body:Code} {st st3:St} {ans:List Ans} (ps:List (NPos × Row)) (mask:List Bool) (ks:List Nat) {e:Ex} {C:List Prop}
  (s:Scr ans C) (h:X23 P E body st ans ps mask ks=some (e,st3,C)) (he:e ≠ .norm):Lp P E.np body st e st3:=X9a hE hm h s he rfl
end Go.Ab

set_option linter.unusedVariables false
set_option linter.unusedSimpArgs false
namespace Go.Ab
theorem X9b {β:Type} {f:Int→Bool} {g:Int→β} {n:Int} {lo:Nat→Int→List β→List β}
  (h:∀ k i r,lo (k + 1) i r=cond (decide (i < n)) (cond (f i) (lo k (i + 1) r) (lo k (i + 1) (r ++ [g i]))) r) :
  ∀ (k:Nat) (i:Int) (r:List β),(n - i).toNat < k→lo k i r=r ++ (((List.range (n - i).toNat).filter fun (j:Nat) => !(f (i + j))).map fun (j:Nat)=>g (i + j)):=by
 intro k
 induction k with
 | zero=>intro i r hk;exact absurd hk (Nat.not_lt_zero _)
 | succ k ih =>
  intro i r hk
  rw [h]
  by_cases hi:i < n
  ·rw [decide_eq_true hi,cond_true]
   have e:(n - i).toNat=(n - (i + 1)).toNat + 1:=by omega
   rw [ih (i + 1) r (by omega),ih (i + 1) (r ++ [g i]) (by omega),e,List.range_succ_eq_map]
   have key:∀ l:List Nat,((l.map Nat.succ).filter fun (j:Nat) => !(f (i + j))).map (fun (j:Nat)=>g (i + j))=(l.filter fun (j:Nat) => !(f (i + 1 + j))).map (fun (j:Nat)=>g (i + 1 + j)):=by
    intro l
    induction l with
    | nil=>rfl
    | cons a l ih =>
     have ea:i + ((Nat.succ a:Nat):Int)=i + 1 + (a:Int):=by push_cast;omega
     simp only [List.map_cons,List.filter_cons,ea]
     split
     ·simp only [List.map_cons,ih,ea]
     ·exact ih
   simp only [List.filter_cons,Int.natCast_zero,Int.add_zero]
   cases hf:f i
   ·simp [key]
   ·simp [key]
  ·rw [decide_eq_false hi,cond_false]
   have:(n - i).toNat=0:=by omega
   rw [this];simp
end Go.Ab

set_option linter.unusedVariables false
set_option linter.unusedSimpArgs false
namespace Go.Ab
def mapC {α β:Type} (ck:α→Int × Int) (cv:β→List AV) (l:List (α × List β)):List ((Int × Int) × List (List AV)):=l.map fun x=>(ck x.1,x.2.map cv)
def mhas {α β:Type} [DecidableEq α] (l:List (α × β)) (k:α):Bool:=l.any fun x=>decide (x.1=k)
def midx {α β:Type} [DecidableEq α] (l:List (α × β)) (k:α):Nat:=l.findIdx fun x=>decide (x.1=k)
def mput {α β:Type} [Inhabited α] (l:List (α × List β)) (j:Nat) (y:List β):List (α × List β):=l.set j ((l.getD j default).1,y)
section
variable {α β:Type} {ck:α→Int × Int} {cv:β→List AV} {l:List (α × List β)} {k:α}
theorem X3j [DecidableEq α] (h:mhas l k=true):midx l k < l.length:=by
 unfold mhas at h;unfold midx
 rw [List.findIdx_lt_length]
 simpa using h
theorem X9D [DecidableEq α] (h:mhas l k=true):l[midx l k]?.map (·.1)=some k:=by
 have hl:=X3j h
 rw [List.getElem?_eq_getElem hl]
 have hl2:l.findIdx (fun x=>decide (x.1=k)) < l.length:=hl
 have:=List.findIdx_getElem (xs:=l) (p:=fun x=>decide (x.1=k)) (w:=hl2)
 simpa [midx] using this
theorem X4c [DecidableEq α] (h:mhas l k=true):((mapC ck cv l).map (·.1))[midx l k]? = some (ck k):=by
 have:=X9D h
 unfold mapC
 rw [List.map_map,List.getElem?_map]
 cases hx:l[midx l k]? with
 | none=>rw [hx] at this;cases this
 | some x=>rw [hx] at this;simp at this;simp [this]
theorem X5p [DecidableEq α] (hi:∀ x y,ck x=ck y→x=y) (h:mhas l k=false):ck k ∉ (mapC ck cv l).map (·.1):=by
 intro hm
 unfold mapC at hm
 rw [List.map_map] at hm
 obtain ⟨x,hx,he⟩:=List.mem_map.1 hm
 have:=hi _ _ he
 unfold mhas at h
 rw [List.any_eq_false] at h
 exact h x hx (by simpa using this)
@[simp] theorem XaT:(mapC ck cv l).length=l.length:=by simp [mapC]
theorem X7d [Inhabited α] (j:Nat):((mapC ck cv l).getD j default).2=((l.getD j default).2).map cv:=by
 unfold mapC
 rw [List.getD_eq_getElem?_getD,List.getD_eq_getElem?_getD,List.getElem?_map]
 cases l[j]? <;> rfl
@[simp] theorem Xb5 [Inhabited α] (j:Nat):(((mapC ck cv l)[j]?.getD default).2).length=((l[j]?.getD default).2).length:=by
 rw [← List.getD_eq_getElem?_getD,← List.getD_eq_getElem?_getD,X7d,List.length_map]
theorem X3X [Inhabited α] (j:Nat):((mapC ck cv l).map (·.2)).getD j []=((l.getD j default).2).map cv:=by
 unfold mapC
 rw [List.getD_eq_getElem?_getD,List.getD_eq_getElem?_getD,List.map_map,List.getElem?_map]
 cases l[j]? <;> rfl
theorem X80 [Inhabited α] [Inhabited β] {j i:Nat} (h:i < ((l.getD j default).2).length):(((mapC ck cv l).map (·.2)).getD j [])[i]? = some (cv (((l.getD j default).2).getD i default)):=by
 rw [X3X];exact X4b h
theorem X81 [Inhabited α] {j:Nat} {i:Int} (h0:0≤i) (h:i < ((l.getD j default).2).length):0≤i∧i.toNat < (((mapC ck cv l).map (·.2)).getD j []).length:=by
 rw [X3X];exact X75 h0 h
theorem X7e [Inhabited α] {j:Nat}:(((((mapC ck cv l).map (·.2)).getD j []).length:Nat):Int)=(((l.getD j default).2).length:Int):=by
 rw [X3X];simp
theorem X7f [Inhabited α] {j:Nat} {y:List β} (hj:j < l.length) :
  ((mapC ck cv l).set j (((mapC ck cv l).getD j default).1,[])).set j ((((mapC ck cv l).set j (((mapC ck cv l).getD j default).1,[])).getD j default).1,((mapC ck cv l).getD j default).2 ++ y.map cv)=mapC ck cv (mput l j ((l.getD j default).2 ++ y)):=by
 rw [X7d,← List.map_append]
 generalize (l.getD j default).2 ++ y=z
 have hk:((mapC ck cv l).getD j default).1=ck (l.getD j default).1:=by
  unfold mapC
  rw [List.getD_eq_getElem?_getD,List.getD_eq_getElem?_getD,List.getElem?_map,List.getElem?_eq_getElem hj];rfl
 have hg:((mapC ck cv l).set j (((mapC ck cv l).getD j default).1,[])).getD j default=(ck (l.getD j default).1,[]):=by
  rw [List.getD_eq_getElem?_getD,List.getElem?_set_self (by simpa using hj),hk];rfl
 rw [hg,List.set_set]
 unfold mapC mput
 rw [List.map_set]
theorem X9E {y:List β} :
  ((mapC ck cv l) ++ [(ck k,[])]).set (mapC ck cv l).length ((((mapC ck cv l) ++ [(ck k,[])]).getD (mapC ck cv l).length default).1,y.map cv)=mapC ck cv (l ++ [(k,y)]):=by
 have hg:((mapC ck cv l) ++ [(ck k,[])]).getD (mapC ck cv l).length default=(ck k,[]):=by
  rw [List.getD_eq_getElem?_getD,List.getElem?_append_right (Nat.le_refl _)];simp
 rw [hg,List.set_append_right _ _ (Nat.le_refl _)]
 simp [mapC]
theorem X9F [Inhabited α] {j:Nat} {y:List β} {x:α × List β} (h:x∈mput l j y):x∈l∨x.2=y:=by
 rcases List.mem_or_eq_of_mem_set h with h | h
 ·exact .inl h
 ·exact .inr (by rw [h])
theorem X7g [Inhabited α] {N:Int} (h0:0≤N) (h:∀ y∈l,(y.2.length:Int)≤N) (j:Nat):(((l.getD j default).2).length:Int)≤N:=by
 rw [List.getD_eq_getElem?_getD]
 cases hx:l[j]? with
 | none=>exact h0
 | some x=>exact h x (List.mem_of_getElem? hx)
theorem X3C [Inhabited α] {N M:Int} {j:Nat} {x:β} (h:∀ y∈l,(y.2.length:Int)≤N) (h0:0≤N) (hM:N + 1≤M):∀ y∈mput l j ((l.getD j default).2 ++ [x]),(y.2.length:Int)≤M:=by
 intro y hy
 rcases X9F hy with hy | hy
 ·have:=h y hy;omega
 ·have:=X7g h0 h j
  rw [hy,List.length_append,List.length_singleton];omega
theorem X7h {N M:Int} {x:β} (h:∀ y∈l,(y.2.length:Int)≤N) (hM:N≤M) (h1:1≤M):∀ y∈l ++ [(k,[x])],(y.2.length:Int)≤M:=by
 intro y hy
 rcases List.mem_append.1 hy with hy | hy
 ·have:=h y hy;omega
 ·simp only [List.mem_singleton] at hy;subst hy;exact h1
end
theorem X8z {x:Int} (h:0≤x):0≤Int.tmod x 3∧Int.tmod x 3 < 3:=⟨Int.tmod_nonneg 3 h,Int.tmod_lt_of_pos x (by omega)⟩
end Go.Ab

set_option linter.unusedVariables false
set_option linter.unusedSimpArgs false
namespace Go.Ab
open Go.RowKit
structure Gedge where
 e0:Int
 e1:Int
 deriving Inhabited,DecidableEq
def Gedge.cells (v:Gedge):List AV:=[.i .i64 v.e0, .i .i64 v.e1]
def Gedge.pr (v:Gedge):Int × Int:=(v.e0,v.e1)
theorem Gedge.inj:∀ x y:Gedge,x.pr=y.pr→x=y:=by
 rintro ⟨a,b⟩ ⟨c,d⟩ h
 simp only [Gedge.pr,Prod.mk.injEq] at h
 rw [h.1,h.2]
def cmpP (a b:Int × Int):Int:=if a.1 < b.1 then -1 else if a.1 > b.1 then 1 else if a.2 < b.2 then -1 else if a.2 > b.2 then 1 else 0
def leP (a b:Int × Int):Bool:=!(decide (cmpP b a < 0))
def X2s {α:Type} (ck:α→Int × Int) (l:List α):List α:=l.mergeSort fun x y=>leP (ck x) (ck y)
theorem X2B (a b:Int × Int):leP a b=true↔a.1 < b.1∨(a.1=b.1∧a.2≤b.2):=by
 unfold leP cmpP
 simp only [Bool.not_eq_true',decide_eq_false_iff_not]
 split
 ·constructor<;>intro<;>omega
 ·split
  ·constructor<;>intro<;>omega
  ·split
   ·constructor<;>intro<;>omega
   ·split<;>constructor<;>intro<;>omega
@[simp] theorem X7i {α:Type} (ck:α→Int × Int) (l:List α):(X2s ck l).length=l.length:=by simp [X2s]
def OkE (n:Nat) (ts:List (List Int)):Prop :=
 n≤64∧ts.length≤128∧∀ t∈ts,∃ a b c,t=[a,b,c]∧(0≤a∧a < (n:Int))∧(0≤b∧b < (n:Int))∧(0≤c∧c < (n:Int))∧a≠b∧b≠c∧a≠c
theorem OkE.tris {n:Nat} {ts:List (List Int)} (h:OkE n ts):XP n ts:=fun t ht=>by
 obtain ⟨a,b,c,rfl,h1,h2,h3,-⟩:=h.2.2 t ht
 refine ⟨rfl,fun x hx => ?_⟩
 simp only [List.mem_cons,List.not_mem_nil,or_false] at hx
 rcases hx with rfl | rfl | rfl<;>omega
theorem OkE.at {n:Nat} {ts:List (List Int)} {i k:Int} (h:OkE n ts) (h0:0≤i) (hi:i < (ts.length:Int)) (k0:0≤k) (k3:k < 3) :
  (ts.getD i.toNat default).length=3∧0≤Int.tmod (k + 1) 3∧Int.tmod (k + 1) 3 < 3 ∧
  (0≤(ts.getD i.toNat default).getD k.toNat default∧(ts.getD i.toNat default).getD k.toNat default < (n:Int)) ∧
  (0≤(ts.getD i.toNat default).getD (Int.tmod (k + 1) 3).toNat default∧(ts.getD i.toNat default).getD (Int.tmod (k + 1) 3).toNat default < (n:Int))∧(n:Int)≤64∧(ts.length:Int)≤128:=by
 have q1:=h.tris.at2 h0 hi k0 (.inl k3)
 have q2:=X8z (x:=k + 1) (by omega)
 have q3:=h.tris.at2 h0 hi q2.1 (.inl q2.2)
 have:=h.1;have:=h.2.1
 exact ⟨q1.1,q2.1,q2.2,q1.2,q3.2,by omega,by omega⟩
theorem tri3 {n:Nat} {ts:List (List Int)} (h:OkE n ts) {i:Int} (h0:0≤i) (hi:decide (i < (ts.length:Int))=true):(ts.getD i.toNat default).length=3∧∀ x∈ts.getD i.toNat default,0≤x∧x < (n:Int):=XP.get h.tris h0 (of_decide_eq_true hi)
theorem X9T {n:Nat} {ts:List (List Int)} (h:OkE n ts) {i:Int} (h0:0≤i) (hi:decide (i < (ts.length:Int))=true):(ts.getD i.toNat default).length≤1073741824:=by have:=(tri3 h h0 hi).1;omega
theorem ix2 {n a b:Int} (hn:n≤64) (a0:0≤a) (an:a < n) (b0:0≤b) (bn:b < n) :
  IntKind.wrap .i64 (IntKind.wrap .i64 (a * n) + b)=a * n + b∧0≤a * n + b∧a * n + b < n * n∧IntKind.wrap .i64 (n * n)=n * n∧n * n≤4096:=by
 have h1:0≤a * n:=Int.mul_nonneg a0 (by omega)
 have h2:a * n + n≤n * n:=by
  have:(a + 1) * n≤n * n:=Int.mul_le_mul_of_nonneg_right (by omega) (by omega)
  rw [Int.add_mul,Int.one_mul] at this;exact this
 have h3:n * n≤64 * 64:=Int.mul_le_mul hn hn (by omega) (by omega)
 have e1:IntKind.wrap .i64 (a * n)=a * n:=Xt (by omega) (by omega)
 have e2:IntKind.wrap .i64 (n * n)=n * n:=Xt (by omega) (by omega)
 refine ⟨by rw [e1];exact Xt (by omega) (by omega),by omega,by omega,e2,by omega⟩
theorem ix2F {n a b:Int} (hn:n≤64) (a0:0≤a) (an:a < n) (b0:0≤b) (bn:b < n) :
  0≤IntKind.wrap .i64 (IntKind.wrap .i64 (a * n) + b)∧IntKind.wrap .i64 (IntKind.wrap .i64 (a * n) + b) < ((IntKind.wrap .i64 (n * n)).toNat:Int)∧(IntKind.wrap .i64 (IntKind.wrap .i64 (a * n) + b)).toNat < (IntKind.wrap .i64 (n * n)).toNat:=by
 obtain ⟨h1,h2,h3,h4,h5⟩:=ix2 hn a0 an b0 bn
 rw [h1,h4];omega
theorem ixN {n:Nat} (h:n≤64):0≤IntKind.wrap .i64 ((n:Int) * (n:Int))∧IntKind.wrap .i64 ((n:Int) * (n:Int))≤4096:=by
 have h1:0≤(n:Int) * (n:Int):=Int.mul_nonneg (by omega) (by omega)
 have h3:(n:Int) * (n:Int)≤64 * 64:=Int.mul_le_mul (by omega) (by omega) (by omega) (by omega)
 rw [Xt (by omega) (by omega)];omega
theorem Xab {n a b c d:Int} (b0:0≤b) (bn:b < n) (d0:0≤d) (dn:d < n) (h:a * n + b=c * n + d):a=c∧b=d:=by
 have h1:(a * n + b) / n=a:=by rw [Int.add_comm,Int.add_mul_ediv_right _ _ (by omega),Int.ediv_eq_zero_of_lt b0 bn];omega
 have h2:(c * n + d) / n=c:=by rw [Int.add_comm,Int.add_mul_ediv_right _ _ (by omega),Int.ediv_eq_zero_of_lt d0 dn];omega
 rw [h] at h1
 have:a=c:=by rw [← h1,h2]
 subst this
 exact ⟨rfl,by omega⟩
def mkE (u v:Int):Gedge:=if u≤v then ⟨u,v⟩ else ⟨v,u⟩
def tE (t:List Int):List Gedge:=[mkE (t.getD 0 default) (t.getD 1 default),mkE (t.getD 1 default) (t.getD 2 default),mkE (t.getD 2 default) (t.getD 0 default)]
def tHas (t:List Int) (a b:Int):Bool:=(t.getD 0 default == a || (t.getD 1 default == a || t.getD 2 default == a)) && (t.getD 0 default == b || (t.getD 1 default == b || t.getD 2 default == b))
theorem XaJ {u v a b:Int} (h:a < b):mkE u v=⟨a,b⟩↔(u=a∧v=b)∨(u=b∧v=a):=by
 unfold mkE
 split<;>simp only [Gedge.mk.injEq]<;>omega
theorem X53 {x y z:Int} (h1:x≠y) (h2:y≠z) (h3:x≠z) {a b:Int} (h:a < b):(⟨a,b⟩:Gedge)∈tE [x,y,z]↔tHas [x,y,z] a b=true:=by
 unfold tE tHas
 simp only [List.getD_cons_zero,List.getD_cons_succ,List.mem_cons,List.not_mem_nil,or_false,eq_comm (a:=(⟨a,b⟩:Gedge)),XaJ h,Bool.and_eq_true,Bool.or_eq_true,beq_iff_eq]
 constructor
 ·rintro ((⟨rfl,rfl⟩ | ⟨rfl,rfl⟩) | (⟨rfl,rfl⟩ | ⟨rfl,rfl⟩) | (⟨rfl,rfl⟩ | ⟨rfl,rfl⟩))<;>simp
 ·rintro ⟨rfl | rfl | rfl,rfl | rfl | rfl⟩<;>first | omega | simp_all
theorem X9G {x y z:Int} (h1:x≠y) (h2:y≠z) (h3:x≠z):(tE [x,y,z]).Nodup:=by
 unfold tE mkE
 simp only [List.getD_cons_zero,List.getD_cons_succ,List.nodup_cons,List.mem_cons,List.not_mem_nil,or_false,not_or,not_false_iff,List.nodup_nil,and_true]
 refine ⟨⟨?_,?_⟩,?_⟩<;>(split<;>split<;>simp only [Gedge.mk.injEq]<;>omega)
def gl (l:List (Gedge × List Int)) (e:Gedge):List Int:=cond (mhas l e) ((l.getD (midx l e) default).2) []
theorem XN {x:Gedge × List Int} {l:List (Gedge × List Int)} {e:Gedge}:mhas (x :: l) e=(decide (x.1=e) || mhas l e):=rfl
theorem X5J {x:Gedge × List Int} {l:List (Gedge × List Int)} {e:Gedge}:midx (x :: l) e=cond (decide (x.1=e)) 0 (midx l e + 1):=by
 unfold midx;rw [List.findIdx_cons]
theorem X24 {x:Gedge × List Int} {l:List (Gedge × List Int)} {e:Gedge}:gl (x :: l) e=cond (decide (x.1=e)) x.2 (gl l e):=by
 unfold gl;rw [XN,X5J]
 cases decide (x.1=e)<;>simp
theorem X64 {x:Gedge × List Int} {l:List (Gedge × List Int)} {y:List Int}:mput (x :: l) 0 y=(x.1,y) :: l:=rfl
theorem X5q {x:Gedge × List Int} {l:List (Gedge × List Int)} {y:List Int} {j:Nat}:mput (x :: l) (j + 1) y=x :: mput l j y:=by simp [mput]
theorem X82:∀ (l:List (Gedge × List Int)) (e:Gedge) (y:List Int) (e':Gedge),mhas l e=true→mhas (mput l (midx l e) y) e'=mhas l e'∧gl (mput l (midx l e) y) e'=if e'=e then y else gl l e'
 | [],e,y,e',h=>by simp [mhas] at h
 | x :: l,e,y,e',h=>by
  rw [XN] at h
  rw [X5J]
  cases hx:decide (x.1=e) with
  | true =>
   have hx':=of_decide_eq_true hx
   rw [cond_true,X64,XN,XN,X24,X24]
   refine ⟨rfl,?_⟩
   simp only
   by_cases h1:e'=e
   ·rw [if_pos h1,hx',decide_eq_true h1.symm];rfl
   ·rw [if_neg h1,hx',decide_eq_false fun h=>h1 h.symm];rfl
  | false =>
   rw [hx,Bool.false_or] at h
   obtain ⟨g1,g2⟩:=X82 l e y e' h
   rw [cond_false,X5q,XN,XN,X24,X24,g1,g2]
   refine ⟨rfl,?_⟩
   have hx':=of_decide_eq_false hx
   by_cases h1:e'=e
   ·rw [if_pos h1,if_pos h1,decide_eq_false fun h=>hx' (h.trans h1)];rfl
   ·rw [if_neg h1,if_neg h1]
theorem X83:∀ (l:List (Gedge × List Int)) (e:Gedge) (y:List Int) (e':Gedge),mhas l e=false→mhas (l ++ [(e,y)]) e'=(decide (e=e') || mhas l e')∧gl (l ++ [(e,y)]) e'=if e'=e then y else gl l e'
 | [],e,y,e',_=>by
  rw [List.nil_append,XN,X24]
  refine ⟨rfl,?_⟩
  by_cases h1:e'=e
  ·rw [if_pos h1,decide_eq_true h1.symm];rfl
  ·rw [if_neg h1,decide_eq_false fun h=>h1 h.symm];rfl
 | x :: l,e,y,e',h=>by
  rw [XN,Bool.or_eq_false_iff] at h
  obtain ⟨g1,g2⟩:=X83 l e y e' h.2
  have hx':=of_decide_eq_false h.1
  rw [List.cons_append,XN,X24,g1,g2,XN,X24]
  constructor
  ·cases decide (x.1=e')<;>cases decide (e=e')<;>rfl
  ·by_cases h1:e'=e
   ·rw [if_pos h1,if_pos h1,decide_eq_false fun h=>hx' (h.trans h1)];rfl
   ·rw [if_neg h1,if_neg h1]
def stE (s:List (Gedge × List Int) × List Gedge) (e:Gedge) (i:Int):List (Gedge × List Int) × List Gedge :=
 cond (mhas s.1 e) (cond (((s.1.getD (midx s.1 e) default).2.length:Int) == 0) (mput s.1 (midx s.1 e) ((s.1.getD (midx s.1 e) default).2 ++ [i]),s.2 ++ [e])
  (mput s.1 (midx s.1 e) ((s.1.getD (midx s.1 e) default).2 ++ [i]),s.2)) (s.1 ++ [(e,[i])],s.2 ++ [e])
structure EInv (s:List (Gedge × List Int) × List Gedge):Prop where
 has:∀ e,mhas s.1 e=true↔gl s.1 e≠[]
 mem:∀ e,e∈s.2↔gl s.1 e≠[]
 nd:s.2.Nodup
theorem EInv.nil:EInv ([],[]):=⟨fun e=>by simp [mhas,gl],fun e=>by simp [mhas,gl],List.nodup_nil⟩
theorem X7j {s:List (Gedge × List Int) × List Gedge} (h:EInv s) (e:Gedge) (i:Int):EInv (stE s e i)∧∀ e',gl (stE s e i).1 e'=if e'=e then gl s.1 e ++ [i] else gl s.1 e':=by
 unfold stE
 cases hh:mhas s.1 e with
 | true =>
  have hne:=(h.has e).1 hh
  have hgl:(s.1.getD (midx s.1 e) default).2=gl s.1 e:=by unfold gl;rw [hh];rfl
  have hz:(((s.1.getD (midx s.1 e) default).2.length:Int) == 0)=false:=by
   rw [hgl,beq_eq_false_iff_ne];intro hc;exact hne (List.length_eq_zero_iff.1 (by omega))
  rw [hz,cond_true,cond_false,hgl]
  have P:=fun e'=>X82 s.1 e (gl s.1 e ++ [i]) e' hh
  refine ⟨⟨fun e' => ?_,fun e' => ?_,h.nd⟩,fun e'=>(P e').2⟩
  ·rw [(P e').1,(P e').2,h.has]
   split
   ·rename_i h1;subst h1;simp [hne]
   ·rfl
  ·rw [(P e').2,h.mem]
   split
   ·rename_i h1;subst h1;simp [hne]
   ·rfl
 | false =>
  have hgl:gl s.1 e=[]:=by unfold gl;rw [hh];rfl
  rw [cond_false,hgl]
  have P:=fun e'=>X83 s.1 e [i] e' hh
  refine ⟨⟨fun e' => ?_,fun e' => ?_,?_⟩,fun e'=>(P e').2⟩
  ·rw [(P e').1,(P e').2,Bool.or_eq_true,h.has,decide_eq_true_iff]
   split
   ·rename_i h1;subst h1;simp
   ·rename_i h1;simp only [eq_comm (a:=e),h1,false_or]
  ·rw [List.mem_append,(P e').2,h.mem,List.mem_singleton]
   split
   ·rename_i h1;subst h1;simp
   ·rename_i h1;simp only [h1,or_false]
  ·rw [List.nodup_append]
   refine ⟨h.nd,by simp,fun a ha b hb => ?_⟩
   simp only [List.mem_singleton] at hb
   subst hb
   intro hab;subst hab
   exact (h.mem a).1 ha hgl
def stT (s:List (Gedge × List Int) × List Gedge) (t:List Int) (i:Int):List (Gedge × List Int) × List Gedge :=
 stE (stE (stE s (mkE (t.getD 0 default) (t.getD 1 default)) i) (mkE (t.getD 1 default) (t.getD 2 default)) i) (mkE (t.getD 2 default) (t.getD 0 default)) i
theorem Xac {s:List (Gedge × List Int) × List Gedge} (h:EInv s) {x y z:Int} (h1:x≠y) (h2:y≠z) (h3:x≠z) (i:Int) :
  EInv (stT s [x,y,z] i)∧∀ e,gl (stT s [x,y,z] i).1 e=gl s.1 e ++ (if e∈tE [x,y,z] then [i] else []):=by
 obtain ⟨a1,a2⟩:=X7j h (mkE x y) i
 obtain ⟨b1,b2⟩:=X7j a1 (mkE y z) i
 obtain ⟨c1,c2⟩:=X7j b1 (mkE z x) i
 refine ⟨c1,fun e => ?_⟩
 have hnd:=X9G h1 h2 h3
 unfold tE at hnd ⊢
 unfold stT
 simp only [List.getD_cons_zero,List.getD_cons_succ,List.nodup_cons,List.mem_cons,List.not_mem_nil,or_false,not_or,not_false_iff,List.nodup_nil,and_true] at hnd ⊢
 obtain ⟨⟨n1,n2⟩,n3⟩:=hnd
 rw [c2,b2,b2,a2,a2,a2]
 by_cases e1:e=mkE x y
 ·subst e1;simp [n1,n2]
 ·by_cases e2:e=mkE y z
  ·subst e2;simp [n3,Ne.symm n1,e1]
  ·by_cases e3:e=mkE z x
   ·subst e3;simp [Ne.symm n2,Ne.symm n3]
   ·simp [e1,e2,e3]
def idxE (ts:List (List Int)) (j:Nat) (e:Gedge):List Int:=((List.range j).filter fun i=>decide (e∈tE (ts.getD i default))).map fun (i:Nat)=>(i:Int)
theorem X9c (ts:List (List Int)) (j:Nat) (e:Gedge):idxE ts (j + 1) e=idxE ts j e ++ (if e∈tE (ts.getD j default) then [(j:Int)] else []):=by
 unfold idxE
 rw [List.range_succ,List.filter_append,List.map_append]
 congr 1
 by_cases h:e∈tE (ts.getD j default)
 ·rw [if_pos h,List.filter_cons_of_pos (by simpa using h)];rfl
 ·rw [if_neg h,List.filter_cons_of_neg (by simpa using h)];rfl
structure ETab (ts:List (List Int)) (j:Nat) (s:List (Gedge × List Int) × List Gedge):Prop where
 inv:EInv s
 val:∀ e,gl s.1 e=idxE ts j e
theorem ETab.loop {n:Nat} {ts:List (List Int)} (ok:OkE n ts) {lo:Nat→Int→List (Gedge × List Int)→List Gedge→List (Gedge × List Int) × List Gedge}
  (h:∀ k i b l,0≤i→lo (k + 1) i b l=cond (decide (i < (ts.length:Int))) (lo k (i + 1) (stT (b,l) (ts.getD i.toNat default) i).1 (stT (b,l) (ts.getD i.toNat default) i).2) (b,l)) :
  ∀ (k:Nat) (i:Nat) (s:List (Gedge × List Int) × List Gedge),i≤ts.length→ETab ts i s→((ts.length:Int) - i).toNat < k→ETab ts ts.length (lo k i s.1 s.2):=by
 intro k
 induction k with
 | zero=>intro i s _ _ hk;exact absurd hk (Nat.not_lt_zero _)
 | succ k ih =>
  intro i s hle hs hk
  rw [h _ _ _ _ (by omega)]
  by_cases hi:(i:Int) < (ts.length:Int)
  ·rw [decide_eq_true hi,cond_true]
   have hm:ts.getD i default∈ts:=by rw [List.getD_eq_getElem?_getD,List.getElem?_eq_getElem (by omega)];exact List.getElem_mem _
   obtain ⟨x,y,z,ht,-,-,-,n1,n2,n3⟩:=ok.2.2 _ hm
   rw [show ((i:Int)).toNat=i from by omega,ht]
   obtain ⟨g1,g2⟩:=Xac hs.inv n1 n2 n3 (i:Int)
   have:=ih (i + 1) (stT s [x,y,z] i) (by omega) ⟨g1,fun e=>by rw [g2,hs.val,X9c,ht]⟩ (by omega)
   exact this
  ·rw [decide_eq_false hi,cond_false]
   have:i=ts.length:=by omega
   rw [this] at hs;exact hs
theorem ETab.nil (ts:List (List Int)):ETab ts 0 ([],[]):=⟨EInv.nil,fun e=>by simp [gl,mhas,idxE]⟩
def edgL (n:Nat) (ts:List (List Int)):List Gedge :=
 (List.range n).flatMap fun (a:Nat)=>((List.range (n - (a + 1))).filter fun (j:Nat)=>ts.any fun t=>tHas t a ((a:Int) + 1 + j)).map fun (j:Nat)=>(⟨a,(a:Int) + 1 + j⟩:Gedge)
theorem X4w {n:Nat} {ts:List (List Int)} {e:Gedge}:e∈edgL n ts↔(0≤e.e0∧e.e0 < e.e1∧e.e1 < (n:Int))∧(ts.any fun t=>tHas t e.e0 e.e1)=true:=by
 unfold edgL
 simp only [List.mem_flatMap,List.mem_range,List.mem_map,List.mem_filter]
 constructor
 ·rintro ⟨a,ha,j,⟨hj,hh⟩,rfl⟩
  exact ⟨by simp only;omega,hh⟩
 ·obtain ⟨a,b⟩:=e
  rintro ⟨⟨h0,h1,h2⟩,hh⟩
  simp only at h0 h1 h2 hh
  have e1:((a.toNat:Nat):Int)=a:=by omega
  have e2:(((b - a - 1).toNat:Nat):Int)=b - a - 1:=by omega
  refine ⟨a.toNat,by omega,(b - a - 1).toNat,⟨by omega,?_⟩,?_⟩
  ·rw [e1,e2,show a + 1 + (b - a - 1)=b from by omega];exact hh
  ·rw [e1,e2,show a + 1 + (b - a - 1)=b from by omega]
theorem X7R (n:Nat) (ts:List (List Int)):(edgL n ts).Pairwise fun x y=>leP x.pr y.pr=true:=by
 unfold edgL
 rw [List.pairwise_flatMap]
 refine ⟨fun a _ => ?_,?_⟩
 ·rw [List.pairwise_map]
  refine List.Pairwise.filter _ (List.pairwise_lt_range.imp fun h => ?_)
  rw [X2B];exact .inr ⟨rfl,by simp only [Gedge.pr];have h:_ < _:=h;omega⟩
 ·refine List.pairwise_lt_range.imp fun h x hx y hy => ?_
  simp only [List.mem_map,List.mem_filter] at hx hy
  obtain ⟨j,-,rfl⟩:=hx
  obtain ⟨i,-,rfl⟩:=hy
  rw [X2B];simp only [Gedge.pr];omega
theorem X8A (n:Nat) (ts:List (List Int)):(edgL n ts).Nodup:=by
 unfold edgL List.Nodup
 rw [List.pairwise_flatMap]
 refine ⟨fun a _ => ?_,?_⟩
 ·rw [List.pairwise_map]
  refine List.Pairwise.filter _ (List.pairwise_lt_range.imp fun h hc => ?_)
  simp only [Gedge.mk.injEq] at hc;omega
 ·refine List.pairwise_lt_range.imp fun h x hx y hy hc => ?_
  simp only [List.mem_map,List.mem_filter] at hx hy
  obtain ⟨j,-,rfl⟩:=hx
  obtain ⟨i,-,rfl⟩:=hy
  simp only [Gedge.mk.injEq] at hc;omega
theorem X3D {n:Nat} {ts:List (List Int)} (ok:OkE n ts):(edgL n ts).length≤4096:=by
 have h:∀ (l:List Nat),(l.flatMap fun (a:Nat)=>((List.range (n - (a + 1))).filter fun (j:Nat)=>ts.any fun t=>tHas t a ((a:Int) + 1 + j)).map fun (j:Nat)=>(⟨a,(a:Int) + 1 + j⟩:Gedge)).length≤l.length * n:=by
  intro l
  induction l with
  | nil=>simp
  | cons a l ih =>
   rw [List.flatMap_cons,List.length_append,List.length_map,List.length_cons,Nat.add_mul,Nat.one_mul]
   have h1:=List.length_filter_le (fun (j:Nat)=>ts.any fun t=>tHas t a ((a:Int) + 1 + j)) (List.range (n - (a + 1)))
   rw [List.length_range] at h1
   omega
 have h2:=h (List.range n)
 rw [List.length_range] at h2
 have h3:n * n≤64 * 64:=Nat.mul_le_mul ok.1 ok.1
 unfold edgL
 omega
theorem X84 {n:Nat} {ts:List (List Int)} (ok:OkE n ts) (e:Gedge):idxE ts ts.length e≠[]↔e∈edgL n ts:=by
 rw [X4w]
 unfold idxE
 rw [Ne,List.map_eq_nil_iff,← List.isEmpty_iff,Bool.not_eq_true,List.isEmpty_eq_false_iff_exists_mem]
 simp only [List.mem_filter,List.mem_range,decide_eq_true_eq,List.any_eq_true]
 obtain ⟨a,b⟩:=e
 constructor
 ·rintro ⟨i,hi,hh⟩
  have hm:ts.getD i default∈ts:=by rw [List.getD_eq_getElem?_getD,List.getElem?_eq_getElem hi];exact List.getElem_mem _
  obtain ⟨x,y,z,ht,r1,r2,r3,n1,n2,n3⟩:=ok.2.2 _ hm
  have hab:0≤a∧a < b∧b < (n:Int):=by
   rw [ht] at hh
   unfold tE mkE at hh
   simp only [List.getD_cons_zero,List.getD_cons_succ,List.mem_cons,List.not_mem_nil,or_false] at hh
   rcases hh with hh | hh | hh<;>(split at hh<;>simp only [Gedge.mk.injEq] at hh<;>omega)
  refine ⟨hab,_,hm,?_⟩
  rw [ht] at hh ⊢
  exact (X53 n1 n2 n3 hab.2.1).1 hh
 ·rintro ⟨hab,t,hm,hh⟩
  obtain ⟨i,hi,rfl⟩:=List.getElem_of_mem hm
  refine ⟨i,hi,?_⟩
  rw [List.getD_eq_getElem?_getD,List.getElem?_eq_getElem hi,Option.getD_some]
  obtain ⟨x,y,z,ht,r1,r2,r3,n1,n2,n3⟩:=ok.2.2 _ hm
  rw [ht] at hh ⊢
  exact (X53 n1 n2 n3 hab.2.1).2 hh
theorem ETab.sorted {n:Nat} {ts:List (List Int)} (ok:OkE n ts) {s:List (Gedge × List Int) × List Gedge} (h:ETab ts ts.length s):X2s Gedge.pr s.2=edgL n ts:=by
 have hp:(X2s Gedge.pr s.2).Perm s.2:=List.mergeSort_perm _ _
 refine List.Perm.eq_of_pairwise (le:=fun x y:Gedge=>leP x.pr y.pr=true) (fun a b _ _ h1 h2=>Gedge.inj _ _ ?_) ?_ (X7R n ts) ?_
 ·rw [X2B] at h1 h2
  exact Prod.ext (by omega) (by omega)
 ·refine List.pairwise_mergeSort (fun a b c h1 h2 => ?_) (fun a b => ?_) _
  ·rw [X2B] at h1 h2 ⊢;omega
  ·rw [Bool.or_eq_true,X2B,X2B];omega
 ·refine hp.trans ((List.perm_ext_iff_of_nodup h.inv.nd (X8A n ts)).2 fun e => ?_)
  rw [h.inv.mem,h.val,X84 ok]
theorem ETab.at {n:Nat} {ts:List (List Int)} (ok:OkE n ts) {s:List (Gedge × List Int) × List Gedge} (h:ETab ts ts.length s) {e:Gedge} (he:e∈edgL n ts) :
  mhas s.1 e=true∧(s.1.getD (midx s.1 e) default).2=idxE ts ts.length e:=by
 have h1:=(X84 ok e).2 he
 have h2:mhas s.1 e=true:=(h.inv.has e).2 (by rw [h.val];exact h1)
 refine ⟨h2,?_⟩
 rw [← h.val];unfold gl;rw [h2];rfl
def idxP (ts:List (List Int)) (a b:Int):List Int:=((List.range ts.length).filter fun i=>tHas (ts.getD i default) a b).map fun (i:Nat)=>(i:Int)
theorem Xad {n:Nat} {ts:List (List Int)} (ok:OkE n ts) {e:Gedge} (he:e.e0 < e.e1):idxE ts ts.length e=idxP ts e.e0 e.e1:=by
 unfold idxE idxP
 congr 1
 refine List.filter_congr fun i hi => ?_
 rw [List.mem_range] at hi
 have hm:ts.getD i default∈ts:=by rw [List.getD_eq_getElem?_getD,List.getElem?_eq_getElem hi];exact List.getElem_mem _
 obtain ⟨x,y,z,ht,r1,r2,r3,n1,n2,n3⟩:=ok.2.2 _ hm
 rw [ht]
 have:=X53 n1 n2 n3 he
 cases hh:tHas [x,y,z] e.e0 e.e1
 ·rw [hh] at this;simpa using this
 ·rw [hh] at this;simpa using this
theorem X5r {n:Nat} {ts:List (List Int)} {e:Gedge} (h:e∈edgL n ts):0≤e.e0∧e.e0 < e.e1∧e.e1 < (n:Int):=(X4w.1 h).1
theorem X8B {α β:Type} [Inhabited α] {p:α→Bool} {f:α→β} {a:List α} {lo:Nat→Int→List β→List β}
  (h:∀ k i r,0≤i→i < (a.length:Int)→lo (k + 1) i r=cond (p (a.getD i.toNat default)) (lo k (i + 1) (r ++ [f (a.getD i.toNat default)])) (lo k (i + 1) r))
  (h':∀ k i r,(a.length:Int)≤i→lo (k + 1) i r=r) :
  ∀ (k:Nat) (i:Int) (r:List β),0≤i→((a.length:Int) - i).toNat < k→lo k i r=r ++ ((a.drop i.toNat).filter p).map f:=by
 intro k
 induction k with
 | zero=>intro i r _ hk;exact absurd hk (Nat.not_lt_zero _)
 | succ k ih =>
  intro i r h0 hk
  by_cases hi:i < (a.length:Int)
  ·have hn:i.toNat < a.length:=by omega
   have hg:a.getD i.toNat default=a[i.toNat]:=by rw [List.getD_eq_getElem?_getD,List.getElem?_eq_getElem hn];rfl
   rw [h _ _ _ h0 hi,List.drop_eq_getElem_cons hn,hg,List.filter_cons]
   cases hp:p a[i.toNat] with
   | true=>rw [cond_true,ih _ _ (by omega) (by omega),show (i + 1).toNat=i.toNat + 1 from by omega];simp
   | false=>rw [cond_false,ih _ _ (by omega) (by omega),show (i + 1).toNat=i.toNat + 1 from by omega];simp
  ·rw [h' _ _ _ (by omega),List.drop_eq_nil_of_le (by omega)];simp
theorem X8C {α β:Type} [Inhabited α] {p:α→Bool} {f:α→β} {a:List α} {lo:Nat→Int→List β→List β}
  (h:∀ k i r,0≤i→i < (a.length:Int)→lo (k + 1) i r=cond (p (a.getD i.toNat default)) (lo k (i + 1) (r ++ [f (a.getD i.toNat default)])) (lo k (i + 1) r))
  (h':∀ k i r,(a.length:Int)≤i→lo (k + 1) i r=r):lo (((a.length:Int) - 0).toNat + 1) 0 []=(a.filter p).map f:=by
 rw [X8B h h' _ _ _ (Int.le_refl 0) (Nat.lt_succ_self _)];simp
theorem X7k {ts:List (List Int)} {a b i:Int} (h:i∈idxP ts a b):0≤i∧i < (ts.length:Int)∧tHas (ts.getD i.toNat default) a b=true:=by
 unfold idxP at h
 rw [List.mem_map] at h
 obtain ⟨j,hj,rfl⟩:=h
 rw [List.mem_filter,List.mem_range] at hj
 exact ⟨by omega,by omega,by rw [show ((j:Nat):Int).toNat=j from by omega];exact hj.2⟩
theorem X5s {ts:List (List Int)} {a b:Int} {k:Nat} (h:k < (idxP ts a b).length):0≤(idxP ts a b).getD k default∧(idxP ts a b).getD k default < (ts.length:Int)∧tHas (ts.getD ((idxP ts a b).getD k default).toNat default) a b=true:=by
 refine X7k ?_
 rw [List.getD_eq_getElem?_getD,List.getElem?_eq_getElem h];exact List.getElem_mem h
def thd (t:List Int) (a b:Int):Int:=t.getD 0 default + t.getD 1 default + t.getD 2 default - a - b
theorem Xae {x y z a b:Int} (n1:x≠y) (n2:y≠z) (n3:x≠z) (h:a≠b) (hh:tHas [x,y,z] a b=true) :
  (thd [x,y,z] a b=x∧x≠a∧x≠b∧(y=a∨y=b)∧(z=a∨z=b))∨(thd [x,y,z] a b=y∧y≠a∧y≠b∧(x=a∨x=b)∧(z=a∨z=b))∨(thd [x,y,z] a b=z∧z≠a∧z≠b∧(x=a∨x=b)∧(y=a∨y=b)):=by
 unfold tHas at hh
 unfold thd
 simp only [List.getD_cons_zero,List.getD_cons_succ,Bool.and_eq_true,Bool.or_eq_true,beq_iff_eq] at hh ⊢
 obtain ⟨h1,h2⟩:=hh
 omega
def hgL (n:Nat) (ts:List (List Int)):List (List Int) :=
 ((edgL n ts).filter fun e=>decide ((idxP ts e.e0 e.e1).length=2)).map fun e => [e.e0,e.e1] ++ (idxP ts e.e0 e.e1).map fun i=>thd (ts.getD i.toNat default) e.e0 e.e1
theorem Xaf {n:Nat} {ts:List (List Int)} (ok:OkE n ts):(hgL n ts).length≤4096:=by
 unfold hgL
 rw [List.length_map]
 exact Nat.le_trans (List.length_filter_le _ _) (X3D ok)
theorem XaK {n:Nat} {ts:List (List Int)} (ok:OkE n ts) {a b i:Int} (hab:a≠b) (h:i∈idxP ts a b):0≤thd (ts.getD i.toNat default) a b∧thd (ts.getD i.toNat default) a b < (n:Int):=by
 obtain ⟨h0,h1,h2⟩:=X7k h
 have hm:ts.getD i.toNat default∈ts:=by rw [List.getD_eq_getElem?_getD,List.getElem?_eq_getElem (by omega)];exact List.getElem_mem _
 obtain ⟨x,y,z,ht,r1,r2,r3,n1,n2,n3⟩:=ok.2.2 _ hm
 rw [ht] at h2 ⊢
 rcases Xae n1 n2 n3 hab h2 with h | h | h<;>rw [h.1]<;>assumption
theorem Xag {n:Nat} {ts:List (List Int)} (ok:OkE n ts) {t:List Int} (h:t∈hgL n ts):t.length=4∧∀ x∈t,0≤x∧x < (n:Int):=by
 unfold hgL at h
 rw [List.mem_map] at h
 obtain ⟨e,he,rfl⟩:=h
 rw [List.mem_filter,decide_eq_true_iff] at he
 have hb:=X5r he.1
 refine ⟨by rw [List.length_append,List.length_map,he.2];rfl,fun x hx => ?_⟩
 rw [List.mem_append] at hx
 rcases hx with hx | hx
 ·simp only [List.mem_cons,List.not_mem_nil,or_false] at hx
  rcases hx with rfl | rfl<;>omega
 ·rw [List.mem_map] at hx
  obtain ⟨i,hi,rfl⟩:=hx
  exact XaK ok (by omega) hi
theorem Okh.at {n:Nat} {t:List Int} (h:t.length=4∧∀ x∈t,0≤x∧x < (n:Int)) :
  t.length=4∧(0≤t.getD 0 default∧t.getD 0 default < (n:Int))∧(0≤t.getD 1 default∧t.getD 1 default < (n:Int))∧(0≤t.getD 2 default∧t.getD 2 default < (n:Int))∧(0≤t.getD 3 default∧t.getD 3 default < (n:Int)):=by
 obtain ⟨h1,h2⟩:=h
 match t,h1 with
 | [a,b,c,d],_=>exact ⟨rfl,h2 a (by simp),h2 b (by simp),h2 c (by simp),h2 d (by simp)⟩
@[simp] theorem Xb6 {α:Type} (c:α→List AV) (o:Option (List α)):(Option.map (fun l=>List.map c l) o).getD []=(o.getD default).map c:=by cases o<;>rfl
def e2 (e:Gedge):List Int:=[e.e0,e.e1]
theorem X9H {β:Type} (f:Gedge→β) (n:Nat) (ts:List (List Int)):(edgL n ts).map f=(List.range n).flatMap fun (a:Nat)=>((List.range (n - (a + 1))).filter fun (j:Nat)=>ts.any fun t=>tHas t a ((a:Int) + 1 + j)).map fun (j:Nat)=>f (⟨a,(a:Int) + 1 + j⟩:Gedge):=by
 unfold edgL
 rw [List.map_flatMap]
 simp only [List.map_map,Function.comp_def]
theorem X4x {n:Int} {r:List Bool} {u v mn mx a b:Int} (hn:n≤64) (hm:(⟨mn,mx⟩:Gedge)=mkE u v) (m1:0≤mn∧mn < n) (m2:0≤mx∧mx < n) (ha:0≤a) (hab:a < b) (hb:b < n)
  (hr:r.length=(IntKind.wrap .i64 (n * n)).toNat) :
  (r.set (IntKind.wrap .i64 (IntKind.wrap .i64 (mn * n) + mx)).toNat true).getD (IntKind.wrap .i64 (IntKind.wrap .i64 (a * n) + b)).toNat default
   = (decide ((⟨a,b⟩:Gedge)=mkE u v) || r.getD (IntKind.wrap .i64 (IntKind.wrap .i64 (a * n) + b)).toNat default):=by
 obtain ⟨p1,p2,p3,-,-⟩:=ix2 (n:=n) hn m1.1 m1.2 m2.1 m2.2
 obtain ⟨q1,q2,q3,q4,-⟩:=ix2 (n:=n) (a:=a) (b:=b) hn ha (by omega) (by omega) hb
 rw [p1,q1]
 rw [q4] at hr
 by_cases h:(⟨a,b⟩:Gedge)=mkE u v
 ·rw [decide_eq_true h,Bool.true_or]
  rw [← hm] at h
  simp only [Gedge.mk.injEq] at h
  obtain ⟨rfl,rfl⟩:=h
  rw [List.getD_eq_getElem?_getD,List.getElem?_set_self (by omega)];rfl
 ·rw [decide_eq_false h,Bool.false_or]
  have hne:(mn * n + mx).toNat≠(a * n + b).toNat:=by
   intro hc
   have hc2:mn * n + mx=a * n + b:=by omega
   obtain ⟨h1,h2⟩:=Xab m2.1 m2.2 (by omega) hb hc2
   apply h
   rw [← hm,h1,h2]
  rw [List.getD_eq_getElem?_getD,List.getElem?_set_ne hne,← List.getD_eq_getElem?_getD]
theorem X9d {n:Nat} {β:Type} {p:Int→Int→Bool} {g:Int→Int→β} {lo:Nat→Int→List β→List β} {li:Int→List β→List β}
  (h:∀ k a r,lo (k + 1) a r=cond (decide (a < (n:Int))) (lo k (a + 1) (li a r)) r)
  (hi:∀ (a:Nat) r,(a:Int) < n→li a r=r ++ ((List.range (n - (a + 1))).filter fun (j:Nat)=>p a ((a:Int) + 1 + j)).map fun (j:Nat)=>g a ((a:Int) + 1 + j)) :
  ∀ (k:Nat) (a:Nat),a≤n→((n:Int) - a).toNat < k →
   lo k a ((List.range a).flatMap fun (a:Nat)=>((List.range (n - (a + 1))).filter fun (j:Nat)=>p a ((a:Int) + 1 + j)).map fun (j:Nat)=>g a ((a:Int) + 1 + j))
    = (List.range n).flatMap fun (a:Nat)=>((List.range (n - (a + 1))).filter fun (j:Nat)=>p a ((a:Int) + 1 + j)).map fun (j:Nat)=>g a ((a:Int) + 1 + j):=by
 intro k
 induction k with
 | zero=>intro a _ hk;exact absurd hk (Nat.not_lt_zero _)
 | succ k ih =>
  intro a hle hk
  rw [h]
  by_cases hc:(a:Int) < n
  ·rw [decide_eq_true hc,cond_true,hi a _ hc]
   have:=ih (a + 1) (by omega) (by omega)
   rw [List.range_succ,List.flatMap_append,List.flatMap_singleton] at this
   exact this
  ·rw [decide_eq_false hc,cond_false]
   rw [show a=n from by omega]
end Go.Ab

set_option linter.unusedVariables false
set_option linter.unusedSimpArgs false
namespace Go.Ab
def mR:Bool→List Nat→List Bool
 | _,[] => []
 | b,n :: l=>List.replicate n b ++ mR (!b) l
def an:Nat→List AV→List AV
 | 0,l=>l
 | n + 1,l => .any :: an n l
theorem odt {p:Prop} [Decidable p] (h:decide p=true):p:=of_decide_eq_true h
theorem odf {p:Prop} [Decidable p] (h:decide p=false):¬p:=of_decide_eq_false h
end Go.Ab

set_option linter.unusedVariables false
set_option linter.unusedSimpArgs false
namespace Go.Ab
open Go.RowKit
def rdyB (ops:List Oper) (D i:Nat):Bool:=!D.testBit i && match ops[i]? with
 | some o=>o.after.toList.all fun e => !Region.binds .any e || (D.testBit e.on && Nat.blt e.on ops.length)
 | none=>false
structure Stp where
 a:List Ans
 C:List Prop
 p:Scr a C
def stA (S:List Stp) (i:Nat):List Ans:=match S[i]? with
 | some s=>s.a
 | none => []
def stC (S:List Stp) (i:Nat):List Prop:=match S[i]? with
 | some s=>s.C
 | none => []
theorem Xah (S:List Stp) (i:Nat):All (stC S i):=by
 unfold stC
 cases S[i]? with
 | none=>trivial
 | some s=>exact s.p
def XaV:Code→Array Oper
 | .region _ ops _=>ops
 | _ => #[]
def opAt (ops:List Oper) (i:Nat):Oper:=match ops[i]? with
 | some o=>o
 | none=>default
theorem sR {P:Program} {N:Nat} {c:Code} {st st':St} {a:List Ans} {C:List Prop} (h:Ev P N c st .norm st') (s:Scr a C):Scr (.loop [] 0 .norm st' :: a) (Ev P N c st .norm st' :: C):=⟨h,s⟩
end Go.Ab

set_option linter.unusedVariables false
set_option linter.unusedSimpArgs false
namespace Go.Ab
open Ieee
def Nw (w:Nat):Prop:=4503599627370496≤w∧w < 9218868437227405312
end Go.Ab

set_option linter.unusedVariables false
set_option linter.unusedSimpArgs false
namespace Go.Ab
open Ieee
theorem X65 {m k:Nat} (h:m < 2 ^ (k + 1)) (h0:m≠0):m.log2≤k:=by
 have:=(Nat.log2_lt h0).2 h
 omega
end Go.Ab

set_option linter.unusedVariables false
set_option linter.unusedSimpArgs false
namespace Go.Ab
open Ieee
end Go.Ab

set_option linter.unusedVariables false
set_option linter.unusedSimpArgs false
namespace Go.Ab
open Ieee
def ex (r:Nat):Nat:=if r < 8388608 then 0 else r / 8388608 - 1
def Ok32 (x:Nat):Prop:=Wd .f32 x∧cn .f32 x=x
theorem Ok32.lt {x:Nat} (h:Ok32 x):x < 4294967296:=h.1
end Go.Ab

set_option linter.unusedVariables false
set_option linter.unusedSimpArgs false
namespace Go.Ab
open Ieee
end Go.Ab

set_option linter.unusedVariables false
namespace Go.Ab
open Ieee
end Go.Ab

set_option linter.unusedVariables false
set_option linter.unusedSimpArgs false
namespace Go.Ab
open Ieee
theorem XaL:(2:Rat)≠0:=by decide
theorem Xp (e:Int):(0:Rat) < (2:Rat)^e:=Rat.zpow_pos (by decide)
theorem Xf (a b:Int):(2:Rat)^(a+b)=(2:Rat)^a * (2:Rat)^b:=Rat.zpow_add XaL a b
theorem X8D (n:Nat):(1:Rat)≤(2:Rat)^n:=by
 induction n with
 | zero=>simp
 | succ n ih=>rw [Rat.pow_succ];grind
theorem Xai {a b:Int} (h:a≤b):(2:Rat)^a≤(2:Rat)^b:=by
 have:b=a + ((b - a).toNat:Int):=by omega
 rw [this,Xf,Rat.zpow_natCast]
 have h1:=X8D (b-a).toNat
 have h2:=Xp a
 generalize (2:Rat)^(b-a).toNat=x at *
 generalize (2:Rat)^a=y at *
 have:=Rat.mul_le_mul_of_nonneg_left h1 (Rat.le_of_lt h2)
 grind
theorem XaW {a b:Int} (h:(2:Rat)^a < (2:Rat)^b):a < b:=by
 refine Int.not_le.1 fun hn => ?_
 have:=Xai hn
 grind
theorem X19 (n:Nat):(2:Rat)^(n:Int)=((2 ^ n:Nat):Rat):=by
 rw [Rat.zpow_natCast,Rat.natCast_pow];rfl
theorem X85 (neg:Bool) (n drop:Nat):2 * (Toward.even.cut neg n drop * 2 ^ drop)≤2 * n + 2 ^ drop∧2 * n≤2 * (Toward.even.cut neg n drop * 2 ^ drop) + 2 ^ drop:=by
 unfold Toward.cut
 simp only [Nat.shiftLeft_eq,Nat.one_mul]
 rcases Nat.le_total drop (n.log2 + 2) with h | h
 ·rw [Nat.min_eq_left h]
  have hd:=Nat.div_add_mod n (2 ^ drop)
  have hp:=Nat.two_pow_pos drop
  have hm:=Nat.mod_lt n hp
  rw [Nat.add_mul]
  have hc:2 ^ drop * (n / 2 ^ drop)=n / 2 ^ drop * 2 ^ drop:=Nat.mul_comm _ _
  rw [hc] at hd
  generalize n / 2 ^ drop * 2 ^ drop=y at *
  generalize n % 2 ^ drop=r at *
  generalize n / 2 ^ drop=q at *
  generalize 2 ^ drop=g at *
  by_cases c1:g < 2 * r
  ·simp only [c1,decide_true,Bool.true_or,Bool.toNat_true];omega
  ·by_cases c2:g=2 * r
   ·cases hb:(decide (g < 2 * r) || (g == 2 * r && q % 2 == 1))<;>simp only [Bool.toNat_true,Bool.toNat_false]<;>omega
   ·have:(decide (g < 2 * r) || (g == 2 * r && q % 2 == 1))=false:=by simp [c1,c2]
    rw [this];simp only [Bool.toNat_false];omega
 ·rw [Nat.min_eq_right h]
  have hlt:n < 2 ^ (n.log2 + 1):=Nat.lt_log2_self
  have e2:2 ^ (n.log2 + 2)=2 * 2 ^ (n.log2 + 1):=by rw [Nat.pow_succ 2 (n.log2 + 1)];omega
  have hle:2 ^ (n.log2 + 2)≤2 ^ drop:=Nat.pow_le_pow_right (by omega) h
  have hz:n / 2 ^ (n.log2 + 2)=0:=Nat.div_eq_of_lt (by omega)
  have hm:n % 2 ^ (n.log2 + 2)=n:=Nat.mod_eq_of_lt (by omega)
  rw [hz,hm]
  have:(decide (2 ^ (n.log2 + 2) < 2 * n) || (2 ^ (n.log2 + 2) == 2 * n && 0 % 2 == 1))=false:=by
   simp;omega
  rw [this]
  simp only [Bool.toNat_false]
  omega
theorem X7l (neg:Bool) (n:Nat):Toward.even.cut neg n 0=n:=by
 unfold Toward.cut
 simp [Nat.mod_one]
theorem X5K (f:Format) (neg:Bool) (E K:Nat) (hb:1≤f.fractionBits) (h1:E=0∨f.binade≤K) (h2:K≤2 * f.binade) (hi:E * f.binade + K < f.infRung) :
  ∃ M x,f.read (f.word neg (E * f.binade + K)) = .number neg M (f.leastPlace + ((x:Nat):Int))∧(M:Rat) * (2:Rat) ^ (x:Int)=(K:Rat) * (2:Rat) ^ (E:Int)∧M < 2 * f.binade:=by
 have hp:0 < f.binade:=Nat.two_pow_pos _
 have hs:f.infRung < f.signWeight:=by
  have e:f.signWeight=2 ^ f.exponentBits * f.binade:=by unfold Format.signWeight Format.binade;rw [Nat.pow_add]
  rw [e];unfold Format.infRung
  exact Nat.mul_lt_mul_of_pos_right (by have:=Nat.two_pow_pos f.exponentBits;omega) hp
 have hneg:(f.word neg (E * f.binade + K) / f.signWeight % 2 == 1)=neg:=by
  unfold Format.word
  cases neg with
  | true=>rw [if_pos rfl,Nat.add_div_left _ (by omega),Nat.div_eq_of_lt (by omega)];rfl
  | false=>rw [if_neg (by simp),Nat.div_eq_of_lt (by omega)];rfl
 unfold Format.read
 simp only [X3U f neg (Nat.lt_trans hi hs),hneg]
 have stepx:∀ (A:Nat) ,(f.binade:Rat) * (2:Rat) ^ ((A + 1:Nat):Int)=((2 * f.binade:Nat):Rat) * (2:Rat) ^ (A:Int):=by
  intro A
  rw [show ((A + 1:Nat):Int)=(A:Int) + 1 from by omega,Xf,Rat.natCast_mul,Rat.zpow_one]
  grind
 rcases Nat.eq_zero_or_pos E with h0 | h0
 ·subst h0
  by_cases hk:K < f.binade
  ·rw [if_pos (by omega)]
   exact ⟨K,0,by simp,by simp,by omega⟩
  ·rw [if_neg (by omega),if_pos (by omega)]
   by_cases hk2:K=2 * f.binade
   ·refine ⟨f.binade,1,?_,?_,by omega⟩
    ·subst hk2
     rw [show 0 * f.binade + 2 * f.binade=2 * f.binade from by omega,Nat.mul_mod_left,Nat.mul_div_cancel _ hp];rfl
    ·subst hk2;exact stepx 0
   ·refine ⟨K,0,?_,rfl,by omega⟩
    rw [show 0 * f.binade + K=f.binade + (K - f.binade) from by omega,Nat.add_mod_left,Nat.add_div_left _ hp,Nat.mod_eq_of_lt (by omega),Nat.div_eq_of_lt (by omega)]
    simp;omega
 ·have hk:f.binade≤K:=by omega
  have hE1:f.binade≤E * f.binade:=Nat.le_mul_of_pos_left _ h0
  rw [if_neg (by omega),if_pos hi]
  by_cases hk2:K=2 * f.binade
  ·refine ⟨f.binade,E + 1,?_,?_,by omega⟩
   ·subst hk2
    rw [← Nat.add_mul,Nat.mul_mod_left,Nat.mul_div_cancel _ hp];rfl
   ·subst hk2;exact stepx E
  ·refine ⟨K,E,?_,rfl,by omega⟩
   rw [show E * f.binade + K=(E + 1) * f.binade + (K - f.binade) from by rw [Nat.add_mul];omega]
   rw [Nat.mul_comm (E+1) f.binade,Nat.mul_add_mod,Nat.mod_eq_of_lt (by omega),Nat.mul_add_div hp,Nat.div_eq_of_lt (by omega)]
   congr 1<;>omega
def sg (s:Bool):Rat:=if s then -1 else 1
def vl:Datum→Option Rat
 | .number s m e=>some (sg s * ((m:Rat) * (2:Rat) ^ e))
 | _=>none
theorem X2K (f:Format) (neg:Bool) (m:Nat) (e:Int) (hb:1≤f.fractionBits) (hT:(max (e + m.log2 - f.fractionBits) f.leastPlace - f.leastPlace).toNat + 2 < 2 ^ f.exponentBits - 1) :
  ∃ q:Rat,vl (f.read (f.nearest neg m e))=some (sg neg * q)∧2 * q≤2 * ((m:Rat) * (2:Rat)^e) + (2:Rat) ^ (max (e + m.log2 - f.fractionBits) f.leastPlace)∧2 * ((m:Rat) * (2:Rat)^e)≤2 * q + (2:Rat) ^ (max (e + m.log2 - f.fractionBits) f.leastPlace)
   ∧ (max (e + m.log2 - f.fractionBits) f.leastPlace≤e→q=(m:Rat) * (2:Rat)^e):=by
 by_cases h0:m=0
 ·subst h0
  have hp:0 < f.binade:=Nat.two_pow_pos _
  refine ⟨0,?_,?_,?_,?_⟩
  ·unfold Format.nearest
   rw [if_pos rfl]
   obtain ⟨M,x,h1,h2,-⟩:=X5K f neg 0 0 hb (.inl rfl) (Nat.zero_le _) (by
    unfold Format.infRung;have:=Nat.mul_pos (show 0 < 2 ^ f.exponentBits - 1 by omega) hp;omega)
   rw [Nat.zero_mul] at h1
   rw [show (0:Nat) + 0=0 from rfl] at h1
   rw [h1]
   simp only [vl,Xf]
   congr 1
   have:((M:Rat) * (2:Rat)^((x:Nat):Int))=0:=by rw [h2];simp
   grind
  ·generalize max (e + (Nat.log2 0:Nat) - f.fractionBits) f.leastPlace=w
   have:=Xp w
   simp;grind
  ·generalize max (e + (Nat.log2 0:Nat) - f.fractionBits) f.leastPlace=w
   have:=Xp w
   simp;grind
  ·simp
 generalize hlast:max (e + (m.log2:Int) - (f.fractionBits:Int)) f.leastPlace=last at *
 have hl1:f.leastPlace≤last:=by omega
 have hl2:e + m.log2 - f.fractionBits≤last:=by omega
 have hm1:2 ^ m.log2≤m:=Nat.log2_self_le h0
 have hm2:m < 2 ^ (m.log2 + 1):=Nat.lt_log2_self
 have hk:Toward.even.cut neg (m <<< (e - last).toNat) (last - e).toNat≤2 * f.binade∧(last=f.leastPlace∨f.binade≤Toward.even.cut neg (m <<< (e - last).toNat) (last - e).toNat)
   ∧ 2 * ((Toward.even.cut neg (m <<< (e - last).toNat) (last - e).toNat:Nat):Rat) * (2:Rat)^last≤2 * ((m:Rat) * (2:Rat)^e) + (2:Rat) ^ last∧2 * ((m:Rat) * (2:Rat)^e)≤2 * ((Toward.even.cut neg (m <<< (e - last).toNat) (last - e).toNat:Nat):Rat) * (2:Rat)^last + (2:Rat) ^ last
   ∧ (last≤e→((Toward.even.cut neg (m <<< (e - last).toNat) (last - e).toNat:Nat):Rat) * (2:Rat)^last=(m:Rat) * (2:Rat)^e):=by
  by_cases hle:last≤e
  ·obtain ⟨u,hu⟩:=Int.eq_ofNat_of_zero_le (show 0≤e - last by omega)
   rw [show (last - e).toNat=0 from by omega,X7l,show (e - last).toNat=u from by omega,Nat.shiftLeft_eq]
   have he:((m * 2 ^ u:Nat):Rat) * (2:Rat)^last=(m:Rat) * (2:Rat)^e:=by
    rw [show e=(u:Int) + last from by omega,Xf,X19,Rat.natCast_mul,Rat.mul_assoc]
   refine ⟨?_,?_,?_,?_,fun _=>he⟩
   ·have h3:m * 2 ^ u < 2 ^ (m.log2 + 1 + u):=by rw [Nat.pow_add];exact Nat.mul_lt_mul_of_pos_right hm2 (Nat.two_pow_pos u)
    have h4:2 ^ (m.log2 + 1 + u)≤2 ^ (f.fractionBits + 1):=Nat.pow_le_pow_right (by omega) (by omega)
    have h5:2 ^ (f.fractionBits + 1)=2 * f.binade:=by unfold Format.binade;rw [Nat.pow_succ];omega
    omega
   ·by_cases hh:last=f.leastPlace
    ·exact .inl hh
    ·right
     have h3:2 ^ m.log2 * 2 ^ u≤m * 2 ^ u:=Nat.mul_le_mul_right _ hm1
     have h4:f.binade=2 ^ m.log2 * 2 ^ u:=by unfold Format.binade;rw [← Nat.pow_add];congr 1;omega
     omega
   ·rw [Rat.mul_assoc,he];have:=Xp last;grind
   ·rw [Rat.mul_assoc,he];have:=Xp last;grind
  ·obtain ⟨u,hu⟩:=Int.eq_ofNat_of_zero_le (show 0≤last - e by omega)
   rw [show (e - last).toNat=0 from by omega,Nat.shiftLeft_zero,show (last - e).toNat=u from by omega]
   obtain ⟨c1,c2⟩:=X85 neg m u
   generalize hc:Toward.even.cut neg m u=c at *
   have hpu:=Nat.two_pow_pos u
   have el:(2:Rat)^last=((2 ^ u:Nat):Rat) * (2:Rat)^e:=by rw [show last=(u:Int) + e from by omega,Xf,X19]
   have d1:((2 * (c * 2 ^ u):Nat):Rat)≤((2 * m + 2 ^ u:Nat):Rat):=Rat.natCast_le_natCast.2 c1
   have d2:((2 * m:Nat):Rat)≤((2 * (c * 2 ^ u) + 2 ^ u:Nat):Rat):=Rat.natCast_le_natCast.2 c2
   simp only [Rat.natCast_mul,Rat.natCast_add] at d1 d2
   have d1:=Rat.mul_le_mul_of_nonneg_right d1 (Rat.le_of_lt (Xp e))
   have d2:=Rat.mul_le_mul_of_nonneg_right d2 (Rat.le_of_lt (Xp e))
   refine ⟨?_,?_,?_,?_,fun h=>absurd h hle⟩
   ·have h3:m < 2 ^ (f.fractionBits + 1 + u):=Nat.lt_of_lt_of_le hm2 (Nat.pow_le_pow_right (by omega) (by omega))
    have h5:2 ^ (f.fractionBits + 1 + u)=2 * f.binade * 2 ^ u:=by unfold Format.binade;rw [Nat.pow_add,Nat.pow_succ,Nat.mul_comm 2 (2 ^ f.fractionBits)]
    refine Nat.not_lt.1 fun hlt => ?_
    have h6:(2 * f.binade + 1) * 2 ^ u≤c * 2 ^ u:=Nat.mul_le_mul_right _ hlt
    rw [Nat.add_mul] at h6
    omega
   ·by_cases hh:last=f.leastPlace
    ·exact .inl hh
    ·right
     have h4:f.binade * 2 ^ u=2 ^ m.log2:=by unfold Format.binade;rw [← Nat.pow_add];congr 1;omega
     refine Nat.not_lt.1 fun hlt => ?_
     have h6:(c + 1) * 2 ^ u≤f.binade * 2 ^ u:=Nat.mul_le_mul_right _ hlt
     rw [Nat.add_mul] at h6
     omega
   ·rw [el];grind
   ·rw [el];grind
 obtain ⟨k1,k2,k3,k4,k5⟩:=hk
 have hr:(last - f.leastPlace).toNat * f.binade + Toward.even.cut neg (m <<< (e - last).toNat) (last - e).toNat < f.infRung:=by
  unfold Format.infRung
  have hp:0 < f.binade:=Nat.two_pow_pos _
  have:((last - f.leastPlace).toNat + 2 + 1) * f.binade≤(2 ^ f.exponentBits - 1) * f.binade:=Nat.mul_le_mul_right _ hT
  rw [Nat.add_mul,Nat.add_mul] at this
  omega
 obtain ⟨M,x,h1,h2,-⟩:=X5K f neg _ _ hb (k2.imp (fun h=>by omega) id) k1 hr
 refine ⟨((Toward.even.cut neg (m <<< (e - last).toNat) (last - e).toNat:Nat):Rat) * (2:Rat)^last,?_,by rw [Rat.mul_assoc] at k3;exact k3,by rw [Rat.mul_assoc] at k4;exact k4,k5⟩
 unfold Format.nearest
 rw [if_neg h0]
 simp only [hlast]
 rw [Nat.min_eq_left (Nat.le_of_lt hr),h1]
 simp only [vl]
 congr 2
 have e1:(2:Rat)^last=(2:Rat)^f.leastPlace * (2:Rat)^(((last - f.leastPlace).toNat:Nat):Int):=by rw [← Xf];congr 1;omega
 rw [Xf,e1]
 grind
end Go.Ab

set_option linter.unusedVariables false
set_option linter.unusedSimpArgs false
namespace Go.Ab
open Ieee
def uK:FloatKind→Rat
 | .f32=>1 / 16777216
 | .f64=>1 / 9007199254740992
def tK:FloatKind→Rat
 | .f32=>(2:Rat) ^ (-150:Int)
 | .f64=>(2:Rat) ^ (-1075:Int)
def topE:FloatKind→Int
 | .f32=>127
 | .f64=>1023
def Vl (k:FloatKind) (w:Nat) (q:Rat):Prop:=vl (k.format.read w)=some q
def Nr (x y d:Rat):Prop:=y - d≤x∧x≤y + d
theorem X9e (s t:Bool):sg (s ^^ t)=sg s * sg t:=by cases s<;>cases t<;>decide +kernel
theorem X9U (s:Bool):sg s * sg s=1:=by cases s<;>decide +kernel
theorem X7m (k:FloatKind):0 < tK k:=by cases k<;>exact Xp _
theorem X2a (k:FloatKind):tK k≤1 / 1000000000000000000000000000000:=by cases k<;>decide +kernel
theorem X2t (m:Nat) (e:Int):(0:Rat)≤(m:Rat) * (2:Rat)^e:=Rat.mul_nonneg Rat.natCast_nonneg (Rat.le_of_lt (Xp e))
theorem X9f {m:Nat} {e K:Int} (h0:m≠0) (h:(m:Rat) * (2:Rat)^e < (2:Rat)^K):e + (m.log2:Int) < K:=by
 refine XaW (Rat.not_le.1 fun hc => ?_)
 have h1:((2 ^ m.log2:Nat):Rat)≤(m:Rat):=Rat.natCast_le_natCast.2 (Nat.log2_self_le h0)
 have h2:=Rat.mul_le_mul_of_nonneg_right h1 (Rat.le_of_lt (Xp e))
 rw [← X19,← Xf,Int.add_comm] at h2
 grind
theorem X9I (k:FloatKind) (neg:Bool) (m:Nat) (e:Int) (h:(m:Rat) * (2:Rat)^e < (2:Rat)^(topE k)) :
  ∃ q,vl (k.format.read (k.format.nearest neg m e))=some (sg neg * q)∧Nr q ((m:Rat) * (2:Rat)^e) ((m:Rat) * (2:Rat)^e * uK k + tK k):=by
 have hu:∀ x:Rat,0≤x→0≤x * uK k:=fun x hx=>Rat.mul_nonneg hx (by cases k<;>decide +kernel)
 have hfb:1≤k.format.fractionBits:=by cases k<;>decide
 by_cases h0:m=0
 ·subst h0
  have hn:k.format.nearest neg 0 e=k.format.nearest neg 0 0:=by unfold Format.nearest;rw [if_pos rfl,if_pos rfl]
  obtain ⟨q,q1,q2,q3,-⟩:=X2K k.format neg 0 (k.format.leastPlace) hfb (by cases k<;>decide +kernel)
  have hn2:k.format.nearest neg 0 k.format.leastPlace=k.format.nearest neg 0 e:=by unfold Format.nearest;rw [if_pos rfl,if_pos rfl]
  rw [hn2] at q1
  refine ⟨q,q1,?_⟩
  have e1:(2:Rat) ^ (max (k.format.leastPlace + (Nat.log2 0:Nat) - k.format.fractionBits) k.format.leastPlace)=2 * tK k:=by cases k<;>decide +kernel
  rw [e1] at q2 q3
  have:=X7m k
  simp at q2 q3
  unfold Nr
  simp
  grind
 ·have hl:=X9f h0 h
  obtain ⟨q,q1,q2,q3,-⟩:=X2K k.format neg m e hfb (by
   cases k
   ·have e1:FloatKind.f32.format.leastPlace=-149:=by decide +kernel
    have e2:FloatKind.f32.format.fractionBits=23:=rfl
    have e3:2 ^ FloatKind.f32.format.exponentBits=256:=rfl
    rw [e1,e2,e3];unfold topE at hl;simp only at hl;omega
   ·have e1:FloatKind.f64.format.leastPlace=-1074:=by decide +kernel
    have e2:FloatKind.f64.format.fractionBits=52:=rfl
    have e3:2 ^ FloatKind.f64.format.exponentBits=2048:=rfl
    rw [e1,e2,e3];unfold topE at hl;simp only at hl;omega)
  refine ⟨q,q1,?_⟩
  have hb:(2:Rat) ^ (max (e + m.log2 - k.format.fractionBits) k.format.leastPlace)≤2 * ((m:Rat) * (2:Rat)^e * uK k + tK k):=by
   have ht:=X7m k
   rcases Int.le_total (e + m.log2 - k.format.fractionBits) k.format.leastPlace with hm | hm
   ·rw [Int.max_eq_right hm]
    have e1:(2:Rat) ^ k.format.leastPlace=2 * tK k:=by cases k<;>decide +kernel
    have:=hu _ (X2t m e)
    rw [e1];grind
   ·rw [Int.max_eq_left hm,show e + (m.log2:Int) - k.format.fractionBits=-(k.format.fractionBits:Int) + ((m.log2:Int) + e) from by omega,Xf,Xf,X19]
    have e1:(2:Rat) ^ (-(k.format.fractionBits:Int))=2 * uK k:=by cases k<;>decide +kernel
    rw [e1]
    have h1:((2 ^ m.log2:Nat):Rat)≤(m:Rat):=Rat.natCast_le_natCast.2 (Nat.log2_self_le h0)
    have h2:=Rat.mul_le_mul_of_nonneg_right h1 (Rat.le_of_lt (Xp e))
    have h3:=Rat.mul_le_mul_of_nonneg_right h2 (show 0≤uK k by cases k<;>decide +kernel)
    grind
  generalize (2:Rat) ^ (max (e + m.log2 - k.format.fractionBits) k.format.leastPlace)=z at *
  unfold Nr
  grind
theorem X25 (k:FloatKind) {d:Datum} {v B:Rat} (hd:vl d=some v) (h1:-B≤v) (h2:v≤B) (hB:B < (2:Rat)^(topE k)) :
  ∃ q,Vl k (k.format.write d) q∧Nr q v (B * uK k + tK k):=by
 cases d with
 | nan s t=>simp [vl] at hd
 | infinity s=>simp [vl] at hd
 | number s m e =>
  simp only [vl,Option.some.injEq] at hd
  have hn:=X2t m e
  have hle:(m:Rat) * (2:Rat)^e≤B:=by
   subst hd;cases s<;>simp only [sg,if_true,if_false,Bool.false_eq_true] at h1 h2<;>grind
  obtain ⟨q,q1,q2⟩:=X9I k s m e (by grind)
  refine ⟨_,q1,?_⟩
  have hu:(m:Rat) * (2:Rat)^e * uK k≤B * uK k:=Rat.mul_le_mul_of_nonneg_right hle (by cases k<;>decide +kernel)
  subst hd
  unfold Nr at *
  cases s<;>simp only [sg,if_true,if_false,Bool.false_eq_true]<;>grind
theorem X2u (s:Bool) (m u:Nat):((signed s m u:Int):Rat)=sg s * ((m:Rat) * (2:Rat)^(u:Int)):=by
 unfold signed sg
 rw [X19,← Rat.natCast_mul,Nat.shiftLeft_eq]
 cases s
 ·simp only [Bool.false_eq_true,if_false,Rat.one_mul,Rat.intCast_natCast]
 ·simp only [if_true];rw [Rat.intCast_neg,Rat.intCast_natCast];grind
theorem X3k {d e:Datum} {a b:Rat} (hd:vl d=some a) (he:vl e=some b):∃ r,d.sum e=some r∧vl r=some (a + b):=by
 cases d with
 | nan s t=>simp [vl] at hd
 | infinity s=>simp [vl] at hd
 | number s m i =>
  cases e with
  | nan s t=>simp [vl] at he
  | infinity s=>simp [vl] at he
  | number t n j =>
   simp only [vl,Option.some.injEq] at hd he
   refine ⟨_,rfl,?_⟩
   simp only [vl,Option.some.injEq]
   generalize hT:signed s m (i - min i j).toNat + signed t n (j - min i j).toNat=T
   have hv:(T:Rat) * (2:Rat)^(min i j)=a + b:=by
    rw [← hT,Rat.intCast_add,X2u,X2u,← hd,← he]
    have e1:(2:Rat)^i=(2:Rat)^(((i - min i j).toNat:Nat):Int) * (2:Rat)^(min i j):=by rw [← Xf];congr 1;omega
    have e2:(2:Rat)^j=(2:Rat)^(((j - min i j).toNat:Nat):Int) * (2:Rat)^(min i j):=by rw [← Xf];congr 1;omega
    rw [e1,e2];grind
   rw [← hv]
   by_cases h0:T=0
   ·subst h0;simp
   ·rw [if_neg h0]
    by_cases h1:T < 0
    ·simp only [h1,decide_true,sg,if_true]
     have:((T.natAbs:Nat):Rat)=-(T:Rat):=by
      have e:((T.natAbs:Nat):Int)=-T:=by omega
      rw [← Rat.intCast_neg,← e];rfl
     rw [this];grind
    ·simp only [h1,decide_false,sg,Bool.false_eq_true,if_false]
     have:((T.natAbs:Nat):Rat)=(T:Rat):=by
      have e:((T.natAbs:Nat):Int)=T:=by omega
      rw [← Rat.intCast_natCast,e]
     rw [this];grind
theorem X86 {d:Datum} {a:Rat} (hd:vl d=some a):vl d.opposite=some (-a):=by
 cases d with
 | nan s t=>simp [vl] at hd
 | infinity s=>simp [vl] at hd
 | number s m i =>
  simp only [vl,Option.some.injEq,Datum.opposite] at hd ⊢
  subst hd
  cases s<;>simp [sg]<;>grind
theorem X4y {d e:Datum} {a b:Rat} (hd:vl d=some a) (he:vl e=some b):∃ r,d.product e=some r∧vl r=some (a * b):=by
 cases d with
 | nan s t=>simp [vl] at hd
 | infinity s=>simp [vl] at hd
 | number s m i =>
  cases e with
  | nan s t=>simp [vl] at he
  | infinity s=>simp [vl] at he
  | number t n j =>
   simp only [vl,Option.some.injEq] at hd he
   refine ⟨_,rfl,?_⟩
   simp only [vl,Option.some.injEq]
   rw [← hd,← he,X9e,Rat.natCast_mul,Xf]
   grind
theorem X5t (k:FloatKind) (x y:Nat):fop .add k x y=(((k.format.read x).sum (k.format.read y)).map k.format.write).getD (XI k):=by cases k<;>rfl
theorem X87 (k:FloatKind) (x y:Nat):fop .sub k x y=(((k.format.read x).sum (k.format.read y).opposite).map k.format.write).getD (XI k):=by cases k<;>rfl
theorem X3E (k:FloatKind) (x y:Nat):fop .mul k x y=(((k.format.read x).product (k.format.read y)).map k.format.write).getD (XI k):=by cases k<;>rfl
theorem Xaj (k:FloatKind) (x y:Nat):fop .quo k x y=(((k.format.read x).quotient (k.format.fractionBits + 2) (k.format.read y)).map k.format.write).getD (XI k):=by cases k<;>rfl
theorem addV {k:FloatKind} {x y:Nat} {a b:Rat} (hx:Vl k x a) (hy:Vl k y b) {B:Rat} (h1:-B≤a + b) (h2:a + b≤B) (hB:B < (2:Rat)^(topE k)) :
  ∃ q,Vl k (fop .add k x y) q∧Nr q (a + b) (B * uK k + tK k):=by
 obtain ⟨r,r1,r2⟩:=X3k hx hy
 rw [X5t,r1]
 exact X25 k r2 h1 h2 hB
theorem subV {k:FloatKind} {x y:Nat} {a b:Rat} (hx:Vl k x a) (hy:Vl k y b) {B:Rat} (h1:-B≤a - b) (h2:a - b≤B) (hB:B < (2:Rat)^(topE k)) :
  ∃ q,Vl k (fop .sub k x y) q∧Nr q (a - b) (B * uK k + tK k):=by
 obtain ⟨r,r1,r2⟩:=X3k hx (X86 hy)
 rw [X87,r1]
 rw [← Rat.sub_eq_add_neg] at r2
 exact X25 k r2 h1 h2 hB
theorem mulV {k:FloatKind} {x y:Nat} {a b:Rat} (hx:Vl k x a) (hy:Vl k y b) {B:Rat} (h1:-B≤a * b) (h2:a * b≤B) (hB:B < (2:Rat)^(topE k)) :
  ∃ q,Vl k (fop .mul k x y) q∧Nr q (a * b) (B * uK k + tK k):=by
 obtain ⟨r,r1,r2⟩:=X4y hx hy
 rw [X3E,r1]
 exact X25 k r2 h1 h2 hB
end Go.Ab

set_option linter.unusedVariables false
set_option linter.unusedSimpArgs false
namespace Go.Ab
open Ieee
theorem qa1 {X N I:Rat} (h:I * N=1):X * N * I=X:=by grind
theorem qa2 {M P N I:Rat} (h:I * N=1):(2 * (M * P) + N) * I=2 * (M * P * I) + 1:=by grind
theorem qa3 {M P I:Rat}:2 * (M * P) * I=2 * (M * P * I):=by grind
theorem qa4 {X N I:Rat} (h:I * N=1):(X * N + N) * I=X + 1:=by grind
theorem qa5 {A d z:Rat} (h:d * (2 * A)=1):2 * (A * z * d)=z:=by grind
theorem qa6 {A B d:Rat} (h:2 * A=B):2 * (A * d)=B * d:=by grind
theorem qa7 {A B C D E:Rat} (h:A≤B) (h1:2 * A=C) (h2:2 * B=D):C≤D:=by grind
theorem qa8 {X Y z B:Rat} (h:X * z≤(Y + 1) * z) (h1:Y * z=B):X * z≤B + z:=by grind
theorem qa9 {X Y z B:Rat} (h:Y * z≤(X + 1) * z) (h1:Y * z=B):B≤X * z + z:=by grind
theorem qa10 {X z y d:Rat} {b:Bool} (k1:X * z≤y + z) (k2:y≤X * z + z) (h:z≤d):Nr (sg b * (X * z)) (sg b * y) d:=by
 unfold Nr
 cases b<;>simp only [sg,if_true,if_false,Bool.false_eq_true]<;>grind
theorem X9J {D:Nat} {d e:Datum} {a b:Rat} (hd:vl d=some a) (he:vl e=some b) (hb:b≠0) :
  ∃ r v,d.quotient (D + 1) e=some r∧vl r=some v∧∃ w,w * b=a∧(∀ B,-B≤w→w≤B→Nr v w (B * (2:Rat) ^ (-(D:Int) - 1))):=by
 cases d with
 | nan s t=>simp [vl] at hd
 | infinity s=>simp [vl] at hd
 | number s m i =>
  cases e with
  | nan s t=>simp [vl] at he
  | infinity s=>simp [vl] at he
  | number t n j =>
   simp only [vl,Option.some.injEq] at hd he
   have hn:n≠0:=by
    intro h;subst h;apply hb;rw [← he];simp
   simp only [Datum.quotient,if_neg hn]
   generalize hmore:D + 1 + n.log2 - m.log2=more
   refine ⟨_,_,rfl,rfl,?_⟩
   have npos:0 < n:=by omega
   generalize hq:m <<< more / n=Q
   generalize hr:m <<< more % n=R
   have hdm:n * Q + R=m <<< more:=by rw [← hq,← hr];exact Nat.div_add_mod _ _
   have hR:R < n:=by rw [← hr];exact Nat.mod_lt _ npos
   rw [Nat.shiftLeft_eq] at hdm
   have nq:(0:Rat) < (n:Rat):=Rat.natCast_pos.2 npos
   refine ⟨sg (s ^^ t) * ((m:Rat) * (n:Rat)⁻¹ * (2:Rat)^(i - j)),?_,?_⟩
   ·rw [← hd,← he,X9e,show i=(i - j) + j from by omega,Xf,show (i - j) + j - j=i - j from by omega]
    have h1:=Rat.inv_mul_cancel (n:Rat) (by grind)
    have h2:=X9U t
    grind
   ·intro B hB1 hB2
    by_cases hm:m=0
    ·subst hm
     have hz:n * Q + R=0:=by rw [hdm];simp
     have hR0:R=0:=by omega
     have hQ0:Q=0:=by
      rcases Nat.mul_eq_zero.1 (show n * Q=0 by omega) with h | h
      ·omega
      ·exact h
     subst hQ0 hR0
     have h0:(0:Rat)≤B:=by simp at hB1 hB2;grind
     have:=Rat.mul_nonneg h0 (Rat.le_of_lt (Xp (-(D:Int) - 1)))
     unfold Nr
     simp
     grind
    have hE:(2:Rat)^(i - j - (more:Int) - 1) * (2 * ((2 ^ more:Nat):Rat))=(2:Rat)^(i - j):=by
     rw [show i - j=(i - j - (more:Int) - 1) + 1 + (more:Int) from by omega,Xf,Xf,X19,Rat.zpow_one,show i - j - (more:Int) - 1 + 1 + more - more - 1=i - j - (more:Int) - 1 from by omega]
     grind
    generalize hz:(2:Rat)^(i - j - (more:Int) - 1)=z at *
    have zpos:0 < z:=by rw [← hz];exact Xp _
    generalize hst:(R != 0).toNat=st
    have hst1:(st=0∧R=0)∨(st=1∧1≤R):=by
     rw [← hst]
     by_cases h0:R=0
     ·left;subst h0;exact ⟨rfl,rfl⟩
     ·right;exact ⟨by simp [h0],by omega⟩
    have c1:(2 * Q + st) * n≤2 * (m * 2 ^ more) + n:=by
     rw [← hdm,Nat.add_mul,Nat.mul_add,Nat.mul_assoc,Nat.mul_comm Q n]
     rcases hst1 with ⟨h1,h2⟩ | ⟨h1,h2⟩<;>subst h1<;>omega
    have c2:2 * (m * 2 ^ more)≤(2 * Q + st) * n + n:=by
     rw [← hdm,Nat.add_mul,Nat.mul_add,Nat.mul_assoc,Nat.mul_comm Q n]
     rcases hst1 with ⟨h1,h2⟩ | ⟨h1,h2⟩<;>subst h1<;>omega
    have c3:2 ^ D * n≤m * 2 ^ more:=by
     have h1:2 ^ m.log2 * 2 ^ more≤m * 2 ^ more:=Nat.mul_le_mul_right _ (Nat.log2_self_le hm)
     have h2:n < 2 ^ (n.log2 + 1):=Nat.lt_log2_self
     have h3:2 ^ D * n≤2 ^ D * 2 ^ (n.log2 + 1):=Nat.mul_le_mul_left _ (by omega)
     rw [← Nat.pow_add] at h1 h3
     have h4:2 ^ (D + (n.log2 + 1))≤2 ^ (m.log2 + more):=Nat.pow_le_pow_right (by omega) (by omega)
     omega
    have d1:(((2 * Q + st) * n:Nat):Rat)≤((2 * (m * 2 ^ more) + n:Nat):Rat):=Rat.natCast_le_natCast.2 c1
    have d2:((2 * (m * 2 ^ more):Nat):Rat)≤(((2 * Q + st) * n + n:Nat):Rat):=Rat.natCast_le_natCast.2 c2
    have d3:((2 ^ D * n:Nat):Rat)≤((m * 2 ^ more:Nat):Rat):=Rat.natCast_le_natCast.2 c3
    simp only [Rat.natCast_mul (2 * Q + st),Rat.natCast_mul _ n,Rat.natCast_mul m,Rat.natCast_mul 2 (m * 2 ^ more),Rat.natCast_add _ n,Rat.natCast_ofNat] at d1 d2 d3
    have ninv:(n:Rat)⁻¹ * (n:Rat)=1:=Rat.inv_mul_cancel (n:Rat) (by grind)
    have ninv0:0≤(n:Rat)⁻¹:=Rat.le_of_lt (Rat.inv_pos.2 nq)
    generalize hX:((2 * Q + st:Nat):Rat)=X at *
    generalize hP:((2 ^ more:Nat):Rat)=P at *
    generalize hI:(n:Rat)⁻¹=I at *
    generalize hN:(n:Rat)=N at *
    generalize hM:(m:Rat)=M at *
    generalize hDD:((2 ^ D:Nat):Rat)=DD at *
    have e1:=Rat.mul_le_mul_of_nonneg_right d1 ninv0
    have e2:=Rat.mul_le_mul_of_nonneg_right d2 ninv0
    have e3:=Rat.mul_le_mul_of_nonneg_right d3 ninv0
    have t1:X * N * I=X:=qa1 ninv
    have t2:(2 * (M * P) + N) * I=2 * (M * P * I) + 1:=qa2 ninv
    have t3:2 * (M * P) * I=2 * (M * P * I):=qa3
    have t4:(X * N + N) * I=X + 1:=qa4 ninv
    have t5:DD * N * I=DD:=qa1 ninv
    have f1:X≤2 * (M * P * I) + 1:=by rw [← t1,← t2];exact e1
    have f2:2 * (M * P * I)≤X + 1:=by rw [← t3,← t4];exact e2
    have f3:DD≤M * P * I:=by rw [← t5];exact e3
    have g1:=Rat.mul_le_mul_of_nonneg_right f1 (Rat.le_of_lt zpos)
    have g2:=Rat.mul_le_mul_of_nonneg_right f2 (Rat.le_of_lt zpos)
    have g3:=Rat.mul_le_mul_of_nonneg_right f3 (Rat.le_of_lt zpos)
    have hw:2 * (M * P * I) * z=M * I * (2:Rat)^(i - j):=by rw [← hE];grind
    have hDz:(2:Rat) ^ (-(D:Int) - 1) * (2 * DD)=1:=by
     rw [← hDD,← X19,show (-(D:Int) - 1)=-((D:Int) + 1) from by omega,Rat.zpow_neg]
     have:(2:Rat) ^ ((D:Int) + 1)=2 * (2:Rat)^(D:Int):=by rw [Xf,Rat.zpow_one];grind
     rw [this]
     exact Rat.inv_mul_cancel _ (by have:=Xp (D:Int);grind)
    have hdz:=Xp (-(D:Int) - 1)
    generalize (2:Rat) ^ (-(D:Int) - 1)=dz at *
    generalize (2:Rat)^(i - j)=y at *
    have hz1:z≤M * I * y * dz:=by
     have h3:=Rat.mul_le_mul_of_nonneg_right g3 (Rat.le_of_lt hdz)
     have h4:2 * (DD * z * dz)=z:=qa5 hDz
     have h5:2 * (M * P * I * z * dz)=M * I * y * dz:=qa6 (by rw [← hw];exact (Rat.mul_assoc ..).symm)
     exact qa7 (E:=0) h3 h4 h5
    have hMB:M * I * y≤B:=by
     cases hs:(s ^^ t)<;>simp only [hs,sg,if_true,if_false,Bool.false_eq_true] at hB1 hB2<;>grind
    have hz2:z≤B * dz:=by
     have:=Rat.mul_le_mul_of_nonneg_right hMB (Rat.le_of_lt hdz)
     exact Rat.le_trans hz1 this
    have k1:X * z≤M * I * y + z:=qa8 g1 hw
    have k2:M * I * y≤X * z + z:=qa9 g2 hw
    exact qa10 k1 k2 hz2
theorem quoV {k:FloatKind} {x y:Nat} {a b:Rat} (hx:Vl k x a) (hy:Vl k y b) (hb:b≠0) {B w:Rat} (hw:w * b=a) (h1:-B≤w) (h2:w≤B) (hB:2 * B < (2:Rat)^(topE k)) :
  ∃ q,Vl k (fop .quo k x y) q∧Nr q w (3 * B * uK k + tK k):=by
 obtain ⟨r,v,r1,r2,w',hw',r3⟩:=X9J (D:=k.format.fractionBits + 1) hx hy hb
 have hww:w'=w:=by
  have h:=Rat.mul_inv_cancel b hb
  have e1:w' * b * b⁻¹=w * b * b⁻¹:=by rw [hw',hw]
  rw [Rat.mul_assoc,Rat.mul_assoc,h,Rat.mul_one,Rat.mul_one] at e1
  exact e1
 subst hww
 have r3:=r3 B h1 h2
 have B0:0≤B:=by grind
 have he:(2:Rat) ^ (-((k.format.fractionBits + 1:Nat):Int) - 1)≤uK k:=by cases k<;>decide +kernel
 have hu:uK k≤1 / 4:=by cases k<;>decide +kernel
 have he2:=Rat.mul_le_mul_of_nonneg_left he B0
 have hu2:=Rat.mul_le_mul_of_nonneg_left hu B0
 generalize B * (2:Rat) ^ (-((k.format.fractionBits + 1:Nat):Int) - 1)=z at *
 unfold Nr at r3
 obtain ⟨q,q1,q2⟩:=X25 k (B:=2 * B) r2 (by grind) (by grind) hB
 rw [Xaj,r1]
 refine ⟨q,q1,?_⟩
 unfold Nr at *
 grind
theorem X5L {a b e:Rat} (he:0 < e):a * e < b * e↔a < b:=Rat.mul_lt_mul_right he
theorem X5M {d e:Datum} {a b:Rat} (hd:vl d=some a) (he:vl e=some b):d.order e=some (if a < b then .lt else if a=b then .eq else .gt):=by
 cases d with
 | nan s t=>simp [vl] at hd
 | infinity s=>simp [vl] at hd
 | number s m i =>
  cases e with
  | nan s t=>simp [vl] at he
  | infinity s=>simp [vl] at he
  | number t n j =>
   simp only [vl,Option.some.injEq] at hd he
   simp only [Datum.order]
   have hz:=Xp (min i j)
   have ha:((signed s m (i - min i j).toNat:Int):Rat) * (2:Rat)^(min i j)=a:=by
    rw [X2u,← hd]
    have e1:(2:Rat)^i=(2:Rat)^(((i - min i j).toNat:Nat):Int) * (2:Rat)^(min i j):=by rw [← Xf];congr 1;omega
    rw [e1];grind
   have hb:((signed t n (j - min i j).toNat:Int):Rat) * (2:Rat)^(min i j)=b:=by
    rw [X2u,← he]
    have e1:(2:Rat)^j=(2:Rat)^(((j - min i j).toNat:Nat):Int) * (2:Rat)^(min i j):=by rw [← Xf];congr 1;omega
    rw [e1];grind
   generalize signed s m (i - min i j).toNat=A at *
   generalize signed t n (j - min i j).toNat=B at *
   generalize (2:Rat)^(min i j)=z at *
   congr 1
   rcases Int.lt_trichotomy A B with h | h | h
   ·have hc:compare A B = .lt:=Int.compare_eq_lt.2 h
    have:a < b:=by rw [← ha,← hb,X5L hz];exact Rat.intCast_lt_intCast.2 h
    rw [hc,if_pos this]
   ·subst h
    have hc:compare A A = .eq:=by simp
    have:a=b:=by rw [← ha,← hb]
    rw [hc,if_neg (by grind),if_pos this]
   ·have hc:compare A B = .gt:=Int.compare_eq_gt.2 h
    have:b < a:=by rw [← ha,← hb,X5L hz];exact Rat.intCast_lt_intCast.2 h
    rw [hc,if_neg (by grind),if_neg (by grind)]
theorem lssV {k:FloatKind} {x y:Nat} {a b:Rat} (hx:Vl k x a) (hy:Vl k y b):fcmp .lss k x y=decide (a < b):=by
 show ((k.format.read x).order (k.format.read y) == some .lt)=_
 rw [X5M hx hy]
 by_cases h:a < b
 ·simp [h]
 ·by_cases h2:a=b
  ·subst h2;simp
  ·simp [h,h2]
theorem gtrV {k:FloatKind} {x y:Nat} {a b:Rat} (hx:Vl k x a) (hy:Vl k y b):fcmp .gtr k x y=decide (b < a):=by
 show ((k.format.read x).order (k.format.read y) == some .gt)=_
 rw [X5M hx hy]
 by_cases h:a < b
 ·have:¬ b < a:=by grind
  simp [h,this]
 ·by_cases h2:a=b
  ·subst h2;simp
  ·have:b < a:=by grind
   simp [h,h2,this]
end Go.Ab

set_option linter.unusedVariables false
set_option linter.unusedSimpArgs false
namespace Go.Ab
open Ieee
theorem u64:uK .f64=1 / 9007199254740992:=rfl
theorem mul_le_mul' {a b A B:Rat} (h1:-A≤a) (h2:a≤A) (h3:-B≤b) (h4:b≤B):-(A * B)≤a * b∧a * b≤A * B:=by
 have p1:=Rat.mul_nonneg (show 0≤A - a by grind) (show 0≤B + b by grind)
 have p2:=Rat.mul_nonneg (show 0≤A + a by grind) (show 0≤B - b by grind)
 have p3:=Rat.mul_nonneg (show 0≤A - a by grind) (show 0≤B - b by grind)
 have p4:=Rat.mul_nonneg (show 0≤A + a by grind) (show 0≤B + b by grind)
 constructor<;>grind
end Go.Ab

set_option linter.unusedVariables false
set_option linter.unusedSimpArgs false
namespace Go.Ab
open Ieee
theorem X7n {x:Nat} {a:Rat} (h:Vl .f32 x a):Vl .f64 (fcv .f32 .f64 x) a:=by
 have h':vl (single.read x)=some a:=h
 have hf:=X78 x
 cases hr:single.read x with
 | nan s t=>rw [hr] at h';simp [vl] at h'
 | infinity s=>rw [hr] at h';simp [vl] at h'
 | number s m e =>
  obtain ⟨p1,p2,p3⟩:=X3V hr
  rw [hr] at hf h'
  have hf:fcv .f32 .f64 x=double.nearest s m e:=hf
  have e1:double.leastPlace=-1074:=by decide +kernel
  have e2:double.fractionBits=52:=rfl
  have e3:2 ^ double.exponentBits=2048:=rfl
  have hl:m.log2≤23:=by
   by_cases m0:m=0
   ·subst m0;simp
   ·exact X65 p1 m0
  obtain ⟨q,q1,-,-,q4⟩:=X2K double s m e (by decide) (by rw [e1,e2,e3];omega)
  have q4:=q4 (by rw [e1,e2];omega)
  unfold Vl
  show vl (double.read (fcv .f32 .f64 x))=some a
  rw [hf,q1,q4,← h']
  rfl
theorem X8E {x:Nat} {v:Rat} (h:Vl .f64 x v):fcv .f64 .f32 x=single.write (double.read x):=by
 have h':vl (double.read x)=some v:=h
 unfold fcv
 rw [if_neg (by decide)]
 show (match double.read x with | .nan .. => XI .f32 | y=>FloatKind.f32.encode y)=_
 cases hr:double.read x with
 | nan s t=>rw [hr] at h';simp [vl] at h'
 | infinity s=>rfl
 | number s m e=>rfl
theorem X9g {x:Nat} {v B:Rat} (h:Vl .f64 x v) (h1:-B≤v) (h2:v≤B) (hB:B < (2:Rat)^(topE .f32)):∃ q,Vl .f32 (fcv .f64 .f32 x) q∧Nr q v (B * uK .f32 + tK .f32):=by
 rw [X8E h]
 exact X25 .f32 h h1 h2 hB
end Go.Ab

set_option linter.unusedVariables false
set_option linter.unusedSimpArgs false
namespace Go.Ab
open Ieee
theorem div_le' {a b B:Rat} (hb:1≤b) (h1:-B≤a) (h2:a≤B):a / b * b=a∧-B≤a / b∧a / b≤B:=by
 have b0:b≠0:=by grind
 have hw:a / b * b=a:=Rat.div_mul_cancel b0
 have B0:0≤B:=by grind
 generalize a / b=w at *
 refine ⟨hw,?_,?_⟩
 ·refine Rat.not_lt.1 fun hc => ?_
  have h3:=Rat.mul_lt_mul_of_pos_right hc (show 0 < b by grind)
  have h4:=Rat.mul_le_mul_of_nonneg_left hb B0
  grind
 ·refine Rat.not_lt.1 fun hc => ?_
  have h3:=Rat.mul_lt_mul_of_pos_right hc (show 0 < b by grind)
  have h4:=Rat.mul_le_mul_of_nonneg_left hb B0
  grind
theorem X6c {x:Rat} (h:x≤1000000000000):x < (2:Rat)^(topE .f32):=by
 have e:(1000000000000:Rat) < (2:Rat)^(topE .f32):=by decide +kernel
 grind
theorem u32:uK .f32=1 / 16777216:=rfl
theorem t32:tK .f32≤1 / 1000000000000000000000000000000:=X2a _
theorem t32p:0 < tK .f32:=X7m _
end Go.Ab

set_option linter.unusedVariables false
set_option linter.unusedSimpArgs false
namespace Go.Ab
open Ieee
theorem X8F (c:Nat) (h:c≠0):∀ u,Nat.log2 (c * 2 ^ u)=Nat.log2 c + u:=by
 intro u
 induction u with
 | zero=>simp
 | succ u ih =>
  have e:c * 2 ^ (u + 1)=2 * (c * 2 ^ u):=by rw [Nat.pow_succ];grind
  have h2:c * 2 ^ u≠0:=Nat.mul_ne_zero h (Nat.ne_of_gt (Nat.two_pow_pos u))
  rw [e,Nat.log2_two_mul h2,ih];omega
theorem Xak (neg:Bool) (c u:Nat):Toward.even.cut neg (c * 2 ^ u) u=c:=by
 obtain ⟨c1,c2⟩:=X85 neg (c * 2 ^ u) u
 have hp:=Nat.two_pow_pos u
 generalize Toward.even.cut neg (c * 2 ^ u) u=x at *
 rcases Nat.lt_trichotomy x c with h | h | h
 ·have h6:(x + 1) * 2 ^ u≤c * 2 ^ u:=Nat.mul_le_mul_right _ h
  rw [Nat.add_mul] at h6;omega
 ·exact h
 ·have h6:(c + 1) * 2 ^ u≤x * 2 ^ u:=Nat.mul_le_mul_right _ h
  rw [Nat.add_mul] at h6;omega
def Rp (k:FloatKind) (v:Rat):Prop:=∃ (n:Int) (s:Nat),v * (2:Rat)^(s:Int)=(n:Rat)∧n.natAbs < 2 * k.format.binade∧s≤140
theorem X8G (k:FloatKind) (neg:Bool) (m:Nat) (e:Int) {n s:Nat} (hs:s≤140) (hn:n < 2 * k.format.binade) (hv:(m:Rat) * (2:Rat)^e * (2:Rat)^(s:Int)=(n:Rat)) :
  vl (k.format.read (k.format.nearest neg m e))=some (sg neg * ((m:Rat) * (2:Rat)^e)):=by
 have hfb:1≤k.format.fractionBits:=by cases k<;>decide
 have hnr:(n:Rat) < (2:Rat) ^ ((k.format.fractionBits + 1:Nat):Int):=by
  have e1:2 * k.format.binade=2 ^ (k.format.fractionBits + 1):=by unfold Format.binade;rw [Nat.pow_succ];omega
  rw [X19];rw [e1] at hn;exact Rat.natCast_lt_natCast.2 hn
 by_cases h0:m=0
 ·subst h0
  have hn2:k.format.nearest neg 0 e=k.format.nearest neg 0 0:=by unfold Format.nearest;rw [if_pos rfl,if_pos rfl]
  rw [hn2]
  have:vl (k.format.read (k.format.nearest neg 0 0))=some (sg neg * 0):=by cases k<;>cases neg<;>decide +kernel
  rw [this];simp
 ·have hlt:(m:Rat) * (2:Rat)^e < (2:Rat)^((k.format.fractionBits:Int) + 1 - (s:Int)):=by
   have h1:(2:Rat)^((k.format.fractionBits:Int) + 1 - (s:Int)) * (2:Rat)^(s:Int)=(2:Rat) ^ ((k.format.fractionBits + 1:Nat):Int):=by
    rw [← Xf];congr 1;omega
   rw [← hv,← h1] at hnr
   exact (Rat.mul_lt_mul_right (Xp _)).1 hnr
  have hl:=X9f h0 hlt
  have hT:(max (e + m.log2 - k.format.fractionBits) k.format.leastPlace - k.format.leastPlace).toNat + 2 < 2 ^ k.format.exponentBits - 1:=by
   cases k
   ·have e1:FloatKind.f32.format.leastPlace=-149:=by decide +kernel
    have e2:FloatKind.f32.format.fractionBits=23:=rfl
    have e3:2 ^ FloatKind.f32.format.exponentBits=256:=rfl
    rw [e1,e2,e3];rw [e2] at hl;omega
   ·have e1:FloatKind.f64.format.leastPlace=-1074:=by decide +kernel
    have e2:FloatKind.f64.format.fractionBits=52:=rfl
    have e3:2 ^ FloatKind.f64.format.exponentBits=2048:=rfl
    rw [e1,e2,e3];rw [e2] at hl;omega
  have hle:k.format.leastPlace≤-(s:Int):=by
   cases k
   ·have e1:FloatKind.f32.format.leastPlace=-149:=by decide +kernel
    rw [e1];omega
   ·have e1:FloatKind.f64.format.leastPlace=-1074:=by decide +kernel
    rw [e1];omega
  by_cases hlast:max (e + m.log2 - k.format.fractionBits) k.format.leastPlace≤e
  ·obtain ⟨q,q1,-,-,q4⟩:=X2K k.format neg m e hfb hT
   rw [q1,q4 hlast]
  ·generalize hg:max (e + (m.log2:Int) - (k.format.fractionBits:Int)) k.format.leastPlace=last at *
   obtain ⟨u,hu⟩:=Int.eq_ofNat_of_zero_le (show 0≤last - e by omega)
   obtain ⟨w,hw⟩:=Int.eq_ofNat_of_zero_le (show 0≤-(s:Int) - last by omega)
   have hm:m=n * 2 ^ w * 2 ^ u:=by
    have e1:(m:Rat) * (2:Rat)^e=(n:Rat) * (2:Rat)^(-(s:Int)):=by
     rw [← hv,Rat.mul_assoc,← Xf];simp [Rat.mul_assoc];grind
    rw [show -(s:Int)=(w:Int) + (u:Int) + e from by omega,Xf,Xf,X19,X19] at e1
    have e2:(m:Rat) * (2:Rat)^e=((n * 2 ^ w * 2 ^ u:Nat):Rat) * (2:Rat)^e:=by
     rw [e1,Rat.natCast_mul,Rat.natCast_mul];grind
    have hp:=Xp e
    have e3:=congrArg (· * ((2:Rat)^e)⁻¹) e2
    simp only [Rat.mul_assoc,Rat.mul_inv_cancel _ (show (2:Rat)^e≠0 by grind),Rat.mul_one] at e3
    exact Rat.natCast_inj.1 e3
   generalize n * 2 ^ w=c at *
   have hc:c≠0:=by intro h;subst h;simp at hm;exact h0 hm
   subst hm
   have hlog:=X8F c hc u
   have hsame:k.format.nearest neg (c * 2 ^ u) e=k.format.nearest neg c last:=by
    unfold Format.nearest
    rw [if_neg h0,if_neg hc]
    rw [hlog] at hg ⊢
    have e1:max (last + (c.log2:Int) - k.format.fractionBits) k.format.leastPlace=last:=by omega
    have e2:max (e + ((c.log2 + u:Nat):Int) - k.format.fractionBits) k.format.leastPlace=last:=hg
    simp only [e1,e2]
    rw [show (e - last).toNat=0 from by omega,show (last - last).toNat=0 from by omega,show (last - e).toNat=u from by omega,Nat.shiftLeft_zero,Nat.shiftLeft_zero,Xak,X7l]
   rw [hsame]
   have e1:max (last + (c.log2:Int) - k.format.fractionBits) k.format.leastPlace=last:=by rw [hlog] at hg;omega
   obtain ⟨q,q1,-,-,q4⟩:=X2K k.format neg c last hfb (by rw [e1];exact hT)
   rw [q1,q4 (by rw [e1];exact Int.le_refl _)]
   rw [show last=(u:Int) + e from by omega,Xf,X19,Rat.natCast_mul]
   congr 2;grind
theorem X4z (k:FloatKind) {d:Datum} {v:Rat} (hd:vl d=some v) (hr:Rp k v):Vl k (k.format.write d) v:=by
 cases d with
 | nan s t=>simp [vl] at hd
 | infinity s=>simp [vl] at hd
 | number s m e =>
  simp only [vl,Option.some.injEq] at hd
  obtain ⟨n,t,h1,h2,h3⟩:=hr
  have hn:(m:Rat) * (2:Rat)^e * (2:Rat)^(t:Int)=(n.natAbs:Rat):=by
   have h0:(0:Rat)≤(m:Rat) * (2:Rat)^e * (2:Rat)^(t:Int):=Rat.mul_nonneg (X2t m e) (Rat.le_of_lt (Xp _))
   rw [← hd] at h1
   generalize (m:Rat) * (2:Rat)^e=x at *
   generalize (2:Rat)^(t:Int)=y at *
   have hna:(n.natAbs:Rat)=if 0≤n then (n:Rat) else -(n:Rat):=by
    split
    ·rw [← Rat.intCast_natCast];congr 1;omega
    ·rw [← Rat.intCast_neg,← Rat.intCast_natCast];congr 1;omega
   have hneg:¬ 0≤n→(n:Rat) < 0:=fun h=>by
    have:((n:Int):Rat) < ((0:Int):Rat):=Rat.intCast_lt_intCast.2 (by omega)
    simpa using this
   have hpos:0≤n→(0:Rat)≤(n:Rat):=fun h=>by
    have:((0:Int):Rat)≤((n:Int):Rat):=Rat.intCast_le_intCast.2 h
    simpa using this
   rw [hna]
   cases s<;>simp only [sg,if_true,if_false,Bool.false_eq_true] at h1<;>split<;>rename_i hh
   ·have:=hpos hh;grind
   ·have:=hneg hh;grind
   ·have:=hpos hh;grind
   ·have:=hneg hh;grind
  have:=X8G k s m e h3 h2 hn
  rw [hd] at this
  exact this
theorem addX {k:FloatKind} {x y:Nat} {a b:Rat} (hx:Vl k x a) (hy:Vl k y b) (hr:Rp k (a + b)):Vl k (fop .add k x y) (a + b):=by
 obtain ⟨r,r1,r2⟩:=X3k hx hy
 rw [X5t,r1]
 exact X4z k r2 hr
theorem subX {k:FloatKind} {x y:Nat} {a b:Rat} (hx:Vl k x a) (hy:Vl k y b) (hr:Rp k (a - b)):Vl k (fop .sub k x y) (a - b):=by
 obtain ⟨r,r1,r2⟩:=X3k hx (X86 hy)
 rw [X87,r1]
 rw [← Rat.sub_eq_add_neg] at r2
 exact X4z k r2 hr
theorem mulX {k:FloatKind} {x y:Nat} {a b:Rat} (hx:Vl k x a) (hy:Vl k y b) (hr:Rp k (a * b)):Vl k (fop .mul k x y) (a * b):=by
 obtain ⟨r,r1,r2⟩:=X4y hx hy
 rw [X3E,r1]
 exact X4z k r2 hr
end Go.Ab

set_option linter.unusedVariables false
set_option linter.unusedSimpArgs false
namespace Go.Ab
open Ieee
def rq (n:Int):Rat:=(n:Rat) / 1073741824
theorem Xn (a b:Int):rq (a + b)=rq a + rq b:=by unfold rq;rw [Rat.intCast_add];grind
theorem X54 (a b:Int):rq (a - b)=rq a - rq b:=by unfold rq;rw [Rat.intCast_sub];grind
theorem X7o (a:Int):rq (-a)=-rq a:=by unfold rq;rw [Rat.intCast_neg];grind
theorem X2b {a b:Int} (h:a≤b):rq a≤rq b:=by
 have h1:(a:Rat)≤(b:Rat):=Rat.intCast_le_intCast.2 h
 unfold rq;grind
theorem X3F {a:Int} (h:0≤a):0≤rq a:=by
 have:=X2b h
 have e:rq 0=0:=by unfold rq;decide +kernel
 rw [e] at this;exact this
theorem rq_1:rq 1=1 / 1073741824:=by unfold rq;decide +kernel
def fl (x d:Int):Int:=x / d
def ce (x d:Int):Int:=-((-x) / d)
theorem XaX {x d:Int} (hd:0 < d):fl x d * d≤x:=Int.ediv_mul_le x (by omega)
theorem X6d {x d:Int} (hd:0 < d):x≤ce x d * d:=by
 have:=Int.ediv_mul_le (-x) (b:=d) (by omega)
 unfold ce;rw [Int.neg_mul];omega
theorem XaY (a b:Int):rq (fl (a * b) 1073741824)≤rq a * rq b:=by
 have h:((fl (a * b) 1073741824 * 1073741824:Int):Rat)≤((a * b:Int):Rat):=Rat.intCast_le_intCast.2 (XaX (by decide))
 rw [Rat.intCast_mul,Rat.intCast_mul] at h
 have e:((1073741824:Int):Rat)=1073741824:=by decide +kernel
 rw [e] at h
 unfold rq;grind
theorem X6e (a b:Int):rq a * rq b≤rq (ce (a * b) 1073741824):=by
 have h:((a * b:Int):Rat)≤((ce (a * b) 1073741824 * 1073741824:Int):Rat):=Rat.intCast_le_intCast.2 (X6d (by decide))
 rw [Rat.intCast_mul,Rat.intCast_mul] at h
 have e:((1073741824:Int):Rat)=1073741824:=by decide +kernel
 rw [e] at h
 unfold rq;grind
theorem X3Y (a:Int) {d:Int} (hd:0 < d):rq a / (d:Rat)≤rq (ce a d):=by
 have h:((a:Int):Rat)≤((ce a d * d:Int):Rat):=Rat.intCast_le_intCast.2 (X6d hd)
 rw [Rat.intCast_mul] at h
 have hp:(0:Rat) < (d:Rat):=by have:=Rat.intCast_lt_intCast.2 hd;simpa using this
 have hi:(d:Rat) * (d:Rat)⁻¹=1:=Rat.mul_inv_cancel _ (by grind)
 have h2:=Rat.mul_le_mul_of_nonneg_right h (Rat.le_of_lt (Rat.inv_pos.2 hp))
 rw [Rat.mul_assoc,hi,Rat.mul_one] at h2
 unfold rq
 rw [Rat.div_def] at *
 rw [Rat.div_def,Rat.div_def]
 have e:(a:Rat) * (1073741824:Rat)⁻¹ * (d:Rat)⁻¹=(a:Rat) * (d:Rat)⁻¹ * (1073741824:Rat)⁻¹:=by grind
 rw [e]
 exact Rat.mul_le_mul_of_nonneg_right h2 (by decide +kernel)
theorem XaM (a:Int) {d:Int} (hd:0 < d):rq (fl a d)≤rq a / (d:Rat):=by
 have h:=X3Y (-a) hd
 unfold ce at h
 rw [Int.neg_neg,X7o,X7o] at h
 unfold fl
 have e:-rq a / (d:Rat)=-(rq a / (d:Rat)):=by rw [Rat.div_def,Rat.div_def,Rat.neg_mul]
 rw [e] at h
 grind
theorem X7p {a b y:Rat} (h:a≤b) (hy:0≤y):a * y≤b * y:=Rat.mul_le_mul_of_nonneg_right h hy
theorem X9h {a b y:Rat} (h:a≤b) (hy:y≤0):b * y≤a * y:=by
 have:=X7p (y:=-y) h (by grind)
 grind
theorem X7q {a b x y:Rat} (h1:a≤x) (h2:x≤b):(a * y≤x * y∧x * y≤b * y)∨(b * y≤x * y∧x * y≤a * y):=by
 rcases Rat.le_total (a:=0) (b:=y) with hy | hy
 ·exact .inl ⟨X7p h1 hy,X7p h2 hy⟩
 ·exact .inr ⟨X9h h2 hy,X9h h1 hy⟩
theorem Xal {a b c d x y m M:Rat} (h1:a≤x) (h2:x≤b) (h3:c≤y) (h4:y≤d)
  (m1:m≤a * c) (m2:m≤a * d) (m3:m≤b * c) (m4:m≤b * d) (M1:a * c≤M) (M2:a * d≤M) (M3:b * c≤M) (M4:b * d≤M):m≤x * y∧x * y≤M:=by
 have ha:=X7q (y:=a) h3 h4
 have hb:=X7q (y:=b) h3 h4
 have hx:=X7q (y:=y) h1 h2
 have c1:c * a=a * c:=Rat.mul_comm _ _
 have c2:d * a=a * d:=Rat.mul_comm _ _
 have c3:c * b=b * c:=Rat.mul_comm _ _
 have c4:d * b=b * d:=Rat.mul_comm _ _
 have c5:y * a=a * y:=Rat.mul_comm _ _
 have c6:y * b=b * y:=Rat.mul_comm _ _
 rw [c1,c2,c5] at ha
 rw [c3,c4,c6] at hb
 grind
structure Bd where
 lo:Int
 hi:Int
 e:Int
inductive FE where
 | var (i:Nat)
 | lit (w:Nat) (n:Int)
 | add (a b:FE)
 | sub (a b:FE)
 | mul (a b:FE)
 | div (a:FE) (w k:Nat)
def FE.ev (ρ:Nat→Nat):FE→Nat
 | .var i=>ρ i
 | .lit w _=>w
 | .add a b=>fop .add .f32 (a.ev ρ) (b.ev ρ)
 | .sub a b=>fop .sub .f32 (a.ev ρ) (b.ev ρ)
 | .mul a b=>fop .mul .f32 (a.ev ρ) (b.ev ρ)
 | .div a w _=>fop .quo .f32 (a.ev ρ) w
def FE.xv (η:Nat→Rat):FE→Rat
 | .var i=>η i
 | .lit _ n=>rq n
 | .add a b=>a.xv η + b.xv η
 | .sub a b=>a.xv η - b.xv η
 | .mul a b=>a.xv η * b.xv η
 | .div a _ k=>a.xv η / (k:Rat)
def mx (b:Bd):Int:=max (-b.lo) b.hi
def top:Int:=1073741824 * 1000000
def rnd (M:Int):Int:=ce M 16777216 + 1
def X8H (x y:Bd):Option Bd :=
 let r:Bd:=⟨x.lo + y.lo,x.hi + y.hi,0⟩;let M:=mx r + x.e + y.e
 if M≤top then some ⟨r.lo,r.hi,x.e + y.e + rnd M⟩ else none
def X8I (x y:Bd):Option Bd :=
 let r:Bd:=⟨x.lo - y.hi,x.hi - y.lo,0⟩;let M:=mx r + x.e + y.e
 if M≤top then some ⟨r.lo,r.hi,x.e + y.e + rnd M⟩ else none
def min4 (a b c d:Int):Int:=min (min a b) (min c d)
def max4 (a b c d:Int):Int:=max (max a b) (max c d)
def X8J (x y:Bd):Option Bd :=
 let p:=fl (min4 (x.lo * y.lo) (x.lo * y.hi) (x.hi * y.lo) (x.hi * y.hi)) 1073741824
 let q:=ce (max4 (x.lo * y.lo) (x.lo * y.hi) (x.hi * y.lo) (x.hi * y.hi)) 1073741824
 let er:=ce (mx x * y.e) 1073741824 + ce (mx y * x.e) 1073741824 + ce (x.e * y.e) 1073741824
 let M:=mx ⟨p,q,0⟩ + er
 if M≤top then some ⟨p,q,er + rnd M⟩ else none
def X8K (x:Bd) (k:Nat):Option Bd :=
 let M:=mx x + x.e
 if M≤top∧1≤k then some ⟨fl x.lo k,ce x.hi k,ce x.e k + 3 * rnd (ce M k)⟩ else none
def FE.an (β:Nat→Bd):FE→Option Bd
 | .var i=>some ⟨(β i).lo,(β i).hi,0⟩
 | .lit w n=>if vl (single.read w)=some (rq n) then some ⟨n,n,0⟩ else none
 | .add a b=>match a.an β,b.an β with | some x,some y=>X8H x y | _,_=>none
 | .sub a b=>match a.an β,b.an β with | some x,some y=>X8I x y | _,_=>none
 | .mul a b=>match a.an β,b.an β with | some x,some y=>X8J x y | _,_=>none
 | .div a w k=>match a.an β with | some x=>if vl (single.read w)=some (k:Rat) then X8K x k else none | _=>none
def Ok (w:Nat) (v:Rat) (b:Bd):Prop:=0≤b.e∧rq b.lo≤v∧v≤rq b.hi∧∃ q,Vl .f32 w q∧Nr q v (rq b.e)
theorem X31 {b:Bd} {v:Rat} (h1:rq b.lo≤v) (h2:v≤rq b.hi):-rq (mx b)≤v∧v≤rq (mx b):=by
 have a1:=X2b (show -b.lo≤mx b by unfold mx;omega)
 have a2:=X2b (show b.hi≤mx b by unfold mx;omega)
 rw [X7o] at a1
 grind
theorem X4d {M:Int} (h:0≤rq M):0≤M:=by
 refine Int.not_lt.1 fun hM => ?_
 have h2:=X2b (show M≤-1 by omega)
 have e:rq (-1) < 0:=by unfold rq;decide +kernel
 grind
theorem X3Z {M:Int} (h:M≤top):rq M≤1000000:=by
 have:=X2b h
 have e:rq top=1000000:=by unfold rq top;decide +kernel
 rw [e] at this;exact this
theorem X55 (M:Int):rq M * uK .f32 + tK .f32≤rq (rnd M):=by
 have h:=X3Y M (d:=16777216) (by decide)
 have t:=t32
 unfold rnd
 rw [Xn,rq_1,u32]
 have e:((16777216:Int):Rat)=16777216:=by decide +kernel
 rw [e] at h
 grind
theorem X56 {M:Int} (h:0≤M):0≤rnd M:=by
 have:=X6d (x:=M) (d:=16777216) (by decide)
 unfold rnd;omega
theorem XaZ {w1 w2:Nat} {v1 v2:Rat} {x y z:Bd} (h1:Ok w1 v1 x) (h2:Ok w2 v2 y) (h:X8H x y=some z):Ok (fop .add .f32 w1 w2) (v1 + v2) z:=by
 obtain ⟨e1,a1,a2,q1,V1,N1⟩:=h1
 obtain ⟨e2,b1,b2,q2,V2,N2⟩:=h2
 unfold X8H at h
 simp only at h
 split at h
 ·rename_i hM
  cases h
  have m:=X31 (b:=⟨x.lo + y.lo,x.hi + y.hi,0⟩) (v:=v1 + v2) (by rw [Xn];grind) (by rw [Xn];grind)
  generalize hm:mx ⟨x.lo + y.lo,x.hi + y.hi,0⟩=M at *
  have hM2:rq (M + x.e + y.e)=rq M + rq x.e + rq y.e:=by rw [Xn,Xn]
  have ht:=X3Z hM
  have n1:=X3F e1
  have n2:=X3F e2
  unfold Nr at N1 N2
  obtain ⟨q,V,N⟩:=addV V1 V2 (B:=rq (M + x.e + y.e)) (by rw [hM2];grind) (by rw [hM2];grind) (X6c (by grind))
  have r:=X55 (M + x.e + y.e)
  have hMn:0≤M + x.e + y.e:=by have:=X4d (M:=M) (by grind);omega
  have hr:=X56 hMn
  refine ⟨by simp only;omega,by simp only;rw [Xn];grind,by simp only;rw [Xn];grind,q,V,?_⟩
  unfold Nr at N ⊢
  simp only
  rw [Xn,Xn]
  grind
 ·cases h
theorem Xb0 {w1 w2:Nat} {v1 v2:Rat} {x y z:Bd} (h1:Ok w1 v1 x) (h2:Ok w2 v2 y) (h:X8I x y=some z):Ok (fop .sub .f32 w1 w2) (v1 - v2) z:=by
 obtain ⟨e1,a1,a2,q1,V1,N1⟩:=h1
 obtain ⟨e2,b1,b2,q2,V2,N2⟩:=h2
 unfold X8I at h
 simp only at h
 split at h
 ·rename_i hM
  cases h
  have m:=X31 (b:=⟨x.lo - y.hi,x.hi - y.lo,0⟩) (v:=v1 - v2) (by rw [X54];grind) (by rw [X54];grind)
  generalize hm:mx ⟨x.lo - y.hi,x.hi - y.lo,0⟩=M at *
  have hM2:rq (M + x.e + y.e)=rq M + rq x.e + rq y.e:=by rw [Xn,Xn]
  have ht:=X3Z hM
  have n1:=X3F e1
  have n2:=X3F e2
  unfold Nr at N1 N2
  obtain ⟨q,V,N⟩:=subV V1 V2 (B:=rq (M + x.e + y.e)) (by rw [hM2];grind) (by rw [hM2];grind) (X6c (by grind))
  have r:=X55 (M + x.e + y.e)
  have hMn:0≤M + x.e + y.e:=by have:=X4d (M:=M) (by grind);omega
  have hr:=X56 hMn
  refine ⟨by simp only;omega,by simp only;rw [X54];grind,by simp only;rw [X54];grind,q,V,?_⟩
  unfold Nr at N ⊢
  simp only
  rw [Xn,Xn]
  grind
 ·cases h
theorem X8L {x:Int} (h:0≤x):0≤ce x 1073741824:=by
 have:=X6d (x:=x) (d:=1073741824) (by decide);omega
theorem Xb1 {w1 w2:Nat} {v1 v2:Rat} {x y z:Bd} (h1:Ok w1 v1 x) (h2:Ok w2 v2 y) (h:X8J x y=some z):Ok (fop .mul .f32 w1 w2) (v1 * v2) z:=by
 obtain ⟨e1,a1,a2,q1,V1,N1⟩:=h1
 obtain ⟨e2,b1,b2,q2,V2,N2⟩:=h2
 unfold X8J at h
 simp only at h
 generalize hp:fl (min4 (x.lo * y.lo) (x.lo * y.hi) (x.hi * y.lo) (x.hi * y.hi)) 1073741824=p at *
 generalize hq:ce (max4 (x.lo * y.lo) (x.lo * y.hi) (x.hi * y.lo) (x.hi * y.hi)) 1073741824=r at *
 have lo4:∀ a b:Int,min4 (x.lo * y.lo) (x.lo * y.hi) (x.hi * y.lo) (x.hi * y.hi)≤a * b→rq p≤rq a * rq b:=by
  intro a b hab
  have h1:p≤fl (a * b) 1073741824:=by rw [← hp];unfold fl;exact Int.ediv_le_ediv (by decide) hab
  have h2:=X2b h1
  have h3:=XaY a b
  grind
 have hi4:∀ a b:Int,a * b≤max4 (x.lo * y.lo) (x.lo * y.hi) (x.hi * y.lo) (x.hi * y.hi)→rq a * rq b≤rq r:=by
  intro a b hab
  have h1:ce (a * b) 1073741824≤r:=by
   rw [← hq];unfold ce
   have:=Int.ediv_le_ediv (c:=1073741824) (by decide) (Int.neg_le_neg hab)
   omega
  have h2:=X2b h1
  have h3:=X6e a b
  grind
 have hpr:=Xal a1 a2 b1 b2 (lo4 _ _ (by unfold min4;omega)) (lo4 _ _ (by unfold min4;omega)) (lo4 _ _ (by unfold min4;omega)) (lo4 _ _ (by unfold min4;omega))
  (hi4 _ _ (by unfold max4;omega)) (hi4 _ _ (by unfold max4;omega)) (hi4 _ _ (by unfold max4;omega)) (hi4 _ _ (by unfold max4;omega))
 have mX:=X31 a1 a2
 have mY:=X31 b1 b2
 have n1:=X3F e1
 have n2:=X3F e2
 have k1:=X6e (mx x) y.e
 have k2:=X6e (mx y) x.e
 have k3:=X6e x.e y.e
 have mXn:=X4d (M:=mx x) (by grind)
 have mYn:=X4d (M:=mx y) (by grind)
 have c1:=X8L (Int.mul_nonneg mXn e2)
 have c2:=X8L (Int.mul_nonneg mYn e1)
 have c3:=X8L (Int.mul_nonneg e1 e2)
 generalize ce (mx x * y.e) 1073741824=E1 at *
 generalize ce (mx y * x.e) 1073741824=E2 at *
 generalize ce (x.e * y.e) 1073741824=E3 at *
 unfold Nr at N1 N2
 have d1:=mul_le_mul' (a:=v1) (b:=q2 - v2) (A:=rq (mx x)) (B:=rq y.e) mX.1 mX.2 (by grind) (by grind)
 have d2:=mul_le_mul' (a:=v2) (b:=q1 - v1) (A:=rq (mx y)) (B:=rq x.e) mY.1 mY.2 (by grind) (by grind)
 have d3:=mul_le_mul' (a:=q1 - v1) (b:=q2 - v2) (A:=rq x.e) (B:=rq y.e) (by grind) (by grind) (by grind) (by grind)
 have hid:q1 * q2=v1 * v2 + v1 * (q2 - v2) + v2 * (q1 - v1) + (q1 - v1) * (q2 - v2):=by grind
 split at h
 ·rename_i hM
  cases h
  have m:=X31 (b:=⟨p,r,0⟩) (v:=v1 * v2) hpr.1 hpr.2
  generalize hm:mx ⟨p,r,0⟩=M at *
  have hM2:rq (M + (E1 + E2 + E3))=rq M + (rq E1 + rq E2 + rq E3):=by rw [Xn,Xn,Xn]
  have ht:=X3Z hM
  generalize v1 * (q2 - v2)=D1 at *
  generalize v2 * (q1 - v1)=D2 at *
  generalize (q1 - v1) * (q2 - v2)=D3 at *
  generalize v1 * v2=V at *
  obtain ⟨q,W,N⟩:=mulV V1 V2 (B:=rq (M + (E1 + E2 + E3))) (by rw [hM2,hid];grind) (by rw [hM2,hid];grind) (X6c (by grind))
  have rr:=X55 (M + (E1 + E2 + E3))
  have hMn:0≤M + (E1 + E2 + E3):=by have:=X4d (M:=M) (by grind);omega
  have hr:=X56 hMn
  refine ⟨by simp only;omega,hpr.1,hpr.2,q,W,?_⟩
  unfold Nr at N ⊢
  rw [hid] at N
  simp only
  rw [Xn,Xn,Xn]
  grind
 ·cases h
theorem X1o {a b c:Rat} (hc:0 < c) (h:a≤b):a / c≤b / c:=by
 rw [Rat.div_def,Rat.div_def]
 exact Rat.mul_le_mul_of_nonneg_right h (Rat.le_of_lt (Rat.inv_pos.2 hc))
theorem Xb2 {w1 w2 k:Nat} {v1:Rat} {x z:Bd} (h1:Ok w1 v1 x) (hw:Vl .f32 w2 (k:Rat)) (h:X8K x k=some z):Ok (fop .quo .f32 w1 w2) (v1 / (k:Rat)) z:=by
 obtain ⟨e1,a1,a2,q1,V1,N1⟩:=h1
 unfold X8K at h
 simp only at h
 split at h
 ·rename_i hM
  obtain ⟨hM,hk⟩:=hM
  cases h
  have kp:(1:Rat)≤(k:Rat):=by have:=Rat.natCast_le_natCast.2 hk;simpa using this
  have kp0:(0:Rat) < (k:Rat):=by grind
  have ek:((k:Int):Rat)=(k:Rat):=Rat.intCast_natCast k
  have mX:=X31 a1 a2
  have n1:=X3F e1
  unfold Nr at N1
  have ht:=X3Z hM
  have hM2:rq (mx x + x.e)=rq (mx x) + rq x.e:=Xn _ _
  have hMn:0≤mx x + x.e:=by have:=X4d (M:=mx x) (by grind);omega
  have g0:=div_le' (a:=q1) (b:=(k:Rat)) (B:=rq (mx x + x.e)) kp (by rw [hM2];grind) (by rw [hM2];grind)
  have gM:=div_le' (a:=rq (mx x + x.e)) (b:=(k:Rat)) (B:=rq (mx x + x.e)) kp (by rw [hM2];grind) (by grind)
  have cM:=X3Y (mx x + x.e) (d:=(k:Int)) (by omega)
  have u1:=X1o (a:=q1) (b:=rq (mx x + x.e)) kp0 (by rw [hM2];grind)
  have u2:=X1o (a:=-rq (mx x + x.e)) (b:=q1) kp0 (by rw [hM2];grind)
  have u3:-rq (mx x + x.e) / (k:Rat)=-(rq (mx x + x.e) / (k:Rat)):=by rw [Rat.div_def,Rat.div_def,Rat.neg_mul]
  rw [u3] at u2
  rw [ek] at cM
  have hck:ce (mx x + x.e) (k:Int)≤mx x + x.e:=by
   unfold ce
   have hkk:(1:Int)≤(k:Int):=by omega
   have h1:-(mx x + x.e)≤-(mx x + x.e) / (k:Int):=by
    rw [Int.le_ediv_iff_mul_le (by omega)]
    have:=Int.mul_le_mul_of_nonneg_left hkk hMn
    have e1:-(mx x + x.e) * (k:Int)=-((mx x + x.e) * (k:Int)):=Int.neg_mul _ _
    omega
   omega
  have hc0:0≤ce (mx x + x.e) (k:Int):=by
   unfold ce
   have:-(mx x + x.e) / (k:Int)≤0:=by
    have:=Int.ediv_le_ediv (a:=-(mx x + x.e)) (b:=0) (c:=(k:Int)) (by omega) (by omega)
    rw [Int.zero_ediv] at this;exact this
   omega
  have htc:=X2b hck
  obtain ⟨q,W,N⟩:=quoV V1 hw (by grind) (w:=q1 / (k:Rat)) (B:=rq (ce (mx x + x.e) (k:Int))) g0.1 (by grind) (by grind) (X6c (by grind))
  have rr:=X55 (ce (mx x + x.e) (k:Int))
  have hr:=X56 hc0
  have f1:=XaM x.lo (d:=(k:Int)) (by omega)
  have f2:=X3Y x.hi (d:=(k:Int)) (by omega)
  have f3:=X3Y x.e (d:=(k:Int)) (by omega)
  have hce:0≤ce x.e (k:Int):=by
   unfold ce
   have:-x.e / (k:Int)≤0:=by
    have:=Int.ediv_le_ediv (a:=-x.e) (b:=0) (c:=(k:Int)) (by omega) (by omega)
    rw [Int.zero_ediv] at this;exact this
   omega
  rw [ek] at f1 f2 f3
  have o1:=X1o kp0 a1
  have o2:=X1o kp0 a2
  have o3:=X1o kp0 N1.1
  have o4:=X1o kp0 N1.2
  have s1:(v1 - rq x.e) / (k:Rat)=v1 / (k:Rat) - rq x.e / (k:Rat):=by rw [Rat.div_def,Rat.div_def,Rat.div_def];grind
  have s2:(v1 + rq x.e) / (k:Rat)=v1 / (k:Rat) + rq x.e / (k:Rat):=by rw [Rat.div_def,Rat.div_def,Rat.div_def];grind
  rw [s1] at o3
  rw [s2] at o4
  have t0:=t32p
  refine ⟨by simp only;omega,by simp only;grind,by simp only;grind,q,W,?_⟩
  unfold Nr at N ⊢
  simp only
  have e3:rq (ce x.e (k:Int) + 3 * rnd (ce (mx x + x.e) (k:Int)))=rq (ce x.e (k:Int)) + 3 * rq (rnd (ce (mx x + x.e) (k:Int))):=by
   rw [Xn,show 3 * rnd (ce (mx x + x.e) (k:Int))=rnd (ce (mx x + x.e) (k:Int)) + rnd (ce (mx x + x.e) (k:Int)) + rnd (ce (mx x + x.e) (k:Int)) from by omega,Xn,Xn];grind
  rw [e3]
  have e4:3 * rq (ce (mx x + x.e) (k:Int)) * uK .f32=3 * (rq (ce (mx x + x.e) (k:Int)) * uK .f32):=Rat.mul_assoc _ _ _
  rw [e4] at N
  generalize rq (rnd (ce (mx x + x.e) (k:Int)))=R at *
  generalize rq (ce (mx x + x.e) (k:Int)) * uK .f32=U at *
  grind
 ·cases h
theorem anOk {ρ:Nat→Nat} {η:Nat→Rat} {β:Nat→Bd} (h:∀ i,Vl .f32 (ρ i) (η i)∧rq (β i).lo≤η i∧η i≤rq (β i).hi):∀ {e:FE} {b:Bd},e.an β=some b→Ok (e.ev ρ) (e.xv η) b:=by
 intro e
 induction e with
 | var i =>
  intro b hb
  cases hb
  have z:rq 0=0:=by unfold rq;decide +kernel
  exact ⟨Int.le_refl 0,(h i).2.1,(h i).2.2,_,(h i).1,by unfold Nr FE.xv;rw [z];grind⟩
 | lit w n =>
  intro b hb
  unfold FE.an at hb
  split at hb
  ·rename_i hv
   cases hb
   have z:rq 0=0:=by unfold rq;decide +kernel
   exact ⟨Int.le_refl 0,Rat.le_refl,Rat.le_refl,_,hv,by unfold Nr FE.xv;rw [z];grind⟩
  ·cases hb
 | add x y hx hy =>
  intro b hb
  unfold FE.an at hb
  split at hb
  ·rename_i p q e1 e2;exact XaZ (hx e1) (hy e2) hb
  ·cases hb
 | sub x y hx hy =>
  intro b hb
  unfold FE.an at hb
  split at hb
  ·rename_i p q e1 e2;exact Xb0 (hx e1) (hy e2) hb
  ·cases hb
 | mul x y hx hy =>
  intro b hb
  unfold FE.an at hb
  split at hb
  ·rename_i p q e1 e2;exact Xb1 (hx e1) (hy e2) hb
  ·cases hb
 | div x w k hx =>
  intro b hb
  unfold FE.an at hb
  split at hb
  ·rename_i p e1
   split at hb
   ·rename_i hv;exact Xb2 (hx e1) hv hb
   ·cases hb
  ·cases hb
end Go.Ab

set_option linter.unusedVariables false
set_option linter.unusedSimpArgs false
namespace Go.Ab
open Ieee
theorem X7S (n:Nat):∀ (todo root:Nat),n < (root + 2 ^ todo) * (root + 2 ^ todo)→n < (Datum.rootFrom n todo root + 1) * (Datum.rootFrom n todo root + 1):=by
 intro todo
 induction todo with
 | zero=>intro root h;exact h
 | succ t ih =>
  intro root h
  unfold Datum.rootFrom
  simp only [Nat.shiftLeft_eq,Nat.one_mul]
  split
  ·exact ih _ (by rw [Nat.add_assoc,← Nat.two_mul,← Nat.pow_succ'];exact h)
  ·rename_i hl;exact ih _ (by omega)
theorem Xw {a b:Rat} (h0:0≤a) (h:a≤b):a * a≤b * b:=by
 have h1:=Rat.mul_le_mul_of_nonneg_left h h0
 have h2:=Rat.mul_le_mul_of_nonneg_right h (show 0≤b by grind)
 grind
theorem XR {a b:Rat} (h0:0≤b) (h:a * a≤b * b):a≤b:=by
 refine Rat.not_lt.1 fun hl => ?_
 have h1:=Rat.mul_lt_mul_of_pos_right hl (show 0 < a by grind)
 have h2:=Rat.mul_le_mul_of_nonneg_left (Rat.le_of_lt hl) h0
 grind
theorem X7r {a b:Nat} (h:a≤b):((a:Nat):Rat)≤(b:Rat):=Rat.natCast_le_natCast.2 h
theorem X9K {d:Datum} {v:Rat} (hd:vl d=some v) (h0:0≤v):∃ e r,Datum.root 54 d=some e∧vl e=some r∧0≤r∧(r - r / 9007199254740992) * (r - r / 9007199254740992)≤v∧v≤(r + r / 9007199254740992) * (r + r / 9007199254740992):=by
 cases d with
 | nan s t=>simp [vl] at hd
 | infinity s=>simp [vl] at hd
 | number s m i =>
  simp only [vl,Option.some.injEq] at hd
  unfold Datum.root
  by_cases hm:m=0
  ·subst hm
   have hv:v=0:=by rw [← hd];simp
   subst hv
   refine ⟨.number s 0 i,0,by simp only [if_true],by simp [vl],by decide +kernel,by decide +kernel,by decide +kernel⟩
  ·have hs:s=false:=by
    cases s with
    | false=>rfl
    | true =>
     exfalso
     have:=Rat.mul_pos (Rat.natCast_pos.2 (show 0 < m by omega)) (Xp i)
     simp only [sg,if_true] at hd;grind
   subst hs
   simp only [if_neg hm,Bool.false_eq_true,if_false]
   generalize hM:2 * 54 - m.log2 + ((i - ((2 * 54 - m.log2:Nat):Int)) % 2).toNat=M
   have hev:∃ j:Int,i - (M:Int)=2 * j:=⟨(i - (M:Int)) / 2,by omega⟩
   obtain ⟨j,hj⟩:=hev
   rw [show (i - (M:Int)) / 2=j from by omega]
   have hn:m <<< M=m * 2 ^ M:=Nat.shiftLeft_eq _ _
   have hlow:2 ^ 108≤m <<< M:=by
    rw [hn]
    have h1:2 ^ m.log2≤m:=Nat.log2_self_le hm
    have h2:2 ^ m.log2 * 2 ^ M≤m * 2 ^ M:=Nat.mul_le_mul_right _ h1
    rw [← Nat.pow_add] at h2
    have h3:2 ^ 108≤2 ^ (m.log2 + M):=Nat.pow_le_pow_right (by omega) (by omega)
    omega
   have hval:((m <<< M:Nat):Rat) * ((2:Rat)^j * (2:Rat)^j)=v:=by
    rw [hn,Rat.natCast_mul,← X19,← Xf,Rat.mul_assoc,← Xf,show (M:Int) + (j + j)=i from by omega,← hd]
    simp [sg]
   generalize m <<< M=n at *
   have hn0:n≠0:=by omega
   generalize hW:Datum.rootFrom n (n.log2 / 2 + 1) 0=W
   have w1:W * W≤n:=by rw [← hW];exact X4k n _ 0 (Nat.zero_le _)
   have w2:n < (W + 1) * (W + 1):=by
    rw [← hW]
    refine X7S n _ 0 ?_
    rw [Nat.zero_add,← Nat.pow_add]
    refine Nat.lt_of_lt_of_le Nat.lt_log2_self (Nat.pow_le_pow_right (by omega) (by omega))
   have w3:2 ^ 54≤W + 1:=by
    refine Nat.not_lt.1 fun hl => ?_
    have:=Nat.mul_le_mul (show W + 1≤2 ^ 54 by omega) (show W + 1≤2 ^ 54 by omega)
    rw [← Nat.pow_add] at this
    omega
   have hz:=Xp j
   have hj1:(2:Rat)^(j - 1) * 2=(2:Rat)^j:=by
    have:=Xf (j - 1) 1
    rw [show j - 1 + 1=j from by omega,Rat.zpow_one] at this
    exact this.symm
   have q1:((W * W:Nat):Rat)≤(n:Rat):=X7r w1
   have q2:((n + 1:Nat):Rat)≤(((W + 1) * (W + 1):Nat):Rat):=X7r w2
   have q3:((2 ^ 54:Nat):Rat)≤((W + 1:Nat):Rat):=X7r w3
   have e54:((2 ^ 54:Nat):Rat)=18014398509481984:=by decide +kernel
   rw [e54] at q3
   simp only [Rat.natCast_mul,Rat.natCast_add] at q1 q2 q3
   have e1:((1:Nat):Rat)=1:=rfl
   rw [e1] at q2 q3
   have zz:0≤(2:Rat)^j * (2:Rat)^j:=Rat.mul_nonneg (Rat.le_of_lt hz) (Rat.le_of_lt hz)
   by_cases hb:W * W=n
   ·have hbb:(W * W != n)=false:=by simp [hb]
    rw [hbb]
    refine ⟨_,(W:Rat) * (2:Rat)^j,rfl,?_,?_,?_,?_⟩
    ·simp only [vl,Bool.toNat_false,Nat.add_zero,sg,if_false,Bool.false_eq_true,Rat.natCast_mul]
     congr 1
     rw [← hj1]
     have e2:((2:Nat):Rat)=2:=rfl
     rw [e2];grind
    ·exact Rat.mul_nonneg Rat.natCast_nonneg (Rat.le_of_lt hz)
    all_goals
     have hv:v=((W:Rat) * (2:Rat)^j) * ((W:Rat) * (2:Rat)^j):=by rw [← hval,← hb,Rat.natCast_mul];grind
     have hp:0≤(W:Rat) * (2:Rat)^j:=Rat.mul_nonneg Rat.natCast_nonneg (Rat.le_of_lt hz)
     generalize (W:Rat) * (2:Rat)^j=r at *
     rw [hv]
     exact Xw (by grind) (by grind)
   ·have hbb:(W * W != n)=true:=by simp [hb]
    rw [hbb]
    refine ⟨_,((W:Rat) + 1 / 2) * (2:Rat)^j,rfl,?_,?_,?_,?_⟩
    ·simp only [vl,Bool.toNat_true,sg,if_false,Bool.false_eq_true,Rat.natCast_mul,Rat.natCast_add]
     congr 1
     rw [← hj1]
     have e2:((2:Nat):Rat)=2:=rfl
     rw [e2,e1];grind
    ·have:(0:Rat)≤(W:Rat):=Rat.natCast_nonneg
     exact Rat.mul_nonneg (by grind) (Rat.le_of_lt hz)
    ·have h1:=Rat.mul_le_mul_of_nonneg_right q1 zz
     rw [hval] at h1
     refine Rat.le_trans ?_ h1
     have h2:(W:Rat) * (W:Rat) * ((2:Rat)^j * (2:Rat)^j)=((W:Rat) * (2:Rat)^j) * ((W:Rat) * (2:Rat)^j):=by grind
     rw [h2]
     have h3:=Rat.mul_le_mul_of_nonneg_right q3 (Rat.le_of_lt hz)
     have h4:((W:Rat) + 1) * (2:Rat)^j=(W:Rat) * (2:Rat)^j + (2:Rat)^j:=by grind
     have h5:((W:Rat) + 1 / 2) * (2:Rat)^j=(W:Rat) * (2:Rat)^j + (2:Rat)^j / 2:=by grind
     have h6:(0:Rat)≤(W:Rat) * (2:Rat)^j:=Rat.mul_nonneg Rat.natCast_nonneg (Rat.le_of_lt hz)
     rw [h5];rw [h4] at h3
     generalize (W:Rat) * (2:Rat)^j=X at *
     generalize (2:Rat)^j=z at *
     exact Xw (by grind) (by grind)
    ·have h1:=Rat.mul_le_mul_of_nonneg_right (show (n:Rat)≤((W:Rat) + 1) * ((W:Rat) + 1) by grind) zz
     rw [hval] at h1
     refine Rat.le_trans h1 ?_
     have h2:((W:Rat) + 1) * ((W:Rat) + 1) * ((2:Rat)^j * (2:Rat)^j)=(((W:Rat) + 1) * (2:Rat)^j) * (((W:Rat) + 1) * (2:Rat)^j):=by grind
     rw [h2]
     have h3:=Rat.mul_le_mul_of_nonneg_right q3 (Rat.le_of_lt hz)
     have h4:((W:Rat) + 1) * (2:Rat)^j=(W:Rat) * (2:Rat)^j + (2:Rat)^j:=by grind
     have h5:((W:Rat) + 1 / 2) * (2:Rat)^j=(W:Rat) * (2:Rat)^j + (2:Rat)^j / 2:=by grind
     have h6:(0:Rat)≤(W:Rat) * (2:Rat)^j:=Rat.mul_nonneg Rat.natCast_nonneg (Rat.le_of_lt hz)
     rw [h5,h4];rw [h4] at h3
     generalize (W:Rat) * (2:Rat)^j=X at *
     generalize (2:Rat)^j=z at *
     exact Xw (by grind) (by grind)
def tR:Rat:=1 / 1393796574908163946345982392040522594123776
theorem X7s:0 < tR:=by decide +kernel
theorem Xb3:tK .f32≤tR / 8:=by decide +kernel
theorem tK64:tK .f64≤tR / 8:=by decide +kernel
theorem X9V {w:Nat} {a:Rat} (h:Vl .f32 w a) (h0:0≤a) (h1:a≤1000000000000):∃ Q,Vl .f32 (fcv .f64 .f32 (X1y (fcv .f32 .f64 w))) Q∧-tR≤Q∧(tR≤Q→(Q - tR) * (Q - tR)≤a + a / 4000000)∧a - a / 4000000≤(Q + tR) * (Q + tR):=by
 obtain ⟨e,r,r1,r2,r3,r4,r5⟩:=X9K (X7n h) h0
 have hrb:r≤2000000:=by
  refine Rat.not_lt.1 fun hl => ?_
  have:=Xw (a:=1000001) (b:=r - r / 9007199254740992) (by decide +kernel) (by grind)
  have e1:(1000001:Rat) * 1000001=1000002000001:=by decide +kernel
  grind
 have t1:=Xb3
 have t2:=tK64
 have t3:=X7s
 have t4:tR≤1:=by decide +kernel
 have u64:uK .f64=1 / 9007199254740992:=rfl
 have u32':uK .f32=1 / 16777216:=rfl
 have top1:(4000000:Rat) < (2:Rat)^(topE .f64):=by decide +kernel
 have top2:(4000000:Rat) < (2:Rat)^(topE .f32):=by decide +kernel
 obtain ⟨q,V,N⟩:=X25 .f64 (B:=r) r2 (by grind) (by grind) (by grind)
 have hq:X1y (fcv .f32 .f64 w)=FloatKind.f64.format.write e:=by
  have r1:Datum.root 54 (double.read (fcv .f32 .f64 w))=some e:=r1
  rw [X77,r1];rfl
 rw [hq]
 unfold Nr at N
 rw [u64] at N
 obtain ⟨Q,W,M⟩:=X9g V (B:=r + r / 9007199254740992 + tR / 8) (by grind) (by grind) (by grind)
 unfold Nr at M
 rw [u32'] at M
 refine ⟨Q,W,by grind,?_,?_⟩
 ·intro hQ
  have g1:=Xw (a:=Q - tR) (b:=r + r / 16000000) (by grind) (by grind)
  refine Rat.le_trans g1 ?_
  have P:0≤r * r:=Rat.mul_nonneg r3 r3
  have e1:(r + r / 16000000) * (r + r / 16000000)=r * r * ((1 + 1 / 16000000) * (1 + 1 / 16000000)):=by grind
  have e2:(r - r / 9007199254740992) * (r - r / 9007199254740992)=r * r * ((1 - 1 / 9007199254740992) * (1 - 1 / 9007199254740992)):=by grind
  rw [e1];rw [e2] at r4
  have c:=Rat.mul_le_mul_of_nonneg_left (show (1 + 1 / 16000000) * (1 + 1 / 16000000)≤((1 - 1 / 9007199254740992) * (1 - 1 / 9007199254740992)) * (1 + 1 / (4000000:Rat)) by decide +kernel) P
  have c2:=Rat.mul_le_mul_of_nonneg_right r4 (show (0:Rat)≤1 + 1 / 4000000 by decide +kernel)
  refine Rat.le_trans c ?_
  rw [← Rat.mul_assoc]
  refine Rat.le_trans c2 ?_
  grind
 ·have g1:=Xw (a:=r - r / 16000000) (b:=Q + tR) (by grind) (by grind)
  refine Rat.le_trans ?_ g1
  have P:0≤r * r:=Rat.mul_nonneg r3 r3
  have e1:(r - r / 16000000) * (r - r / 16000000)=r * r * ((1 - 1 / 16000000) * (1 - 1 / 16000000)):=by grind
  have e2:(r + r / 9007199254740992) * (r + r / 9007199254740992)=r * r * ((1 + 1 / 9007199254740992) * (1 + 1 / 9007199254740992)):=by grind
  rw [e1];rw [e2] at r5
  have c:=Rat.mul_le_mul_of_nonneg_left (show ((1 + 1 / 9007199254740992) * (1 + 1 / 9007199254740992)) * (1 - 1 / (4000000:Rat))≤(1 - 1 / 16000000) * (1 - 1 / 16000000) by decide +kernel) P
  have c2:=Rat.mul_le_mul_of_nonneg_right r5 (show (0:Rat)≤1 - 1 / 4000000 by decide +kernel)
  refine Rat.le_trans ?_ c
  rw [← Rat.mul_assoc (r * r)]
  refine Rat.le_trans ?_ c2
  grind
end Go.Ab

set_option linter.unusedVariables false
set_option linter.unusedSimpArgs false
namespace Go.Ab
open Ieee
theorem X9i (f:Format) (neg:Bool) {r:Nat} (h:r≤f.infRung):(f.word neg r / f.signWeight % 2 == 1)=neg:=by
 have hs:f.infRung < f.signWeight:=f.infRung_lt
 unfold Format.word
 cases neg with
 | true=>rw [if_pos rfl,Nat.add_div_left _ (by omega),Nat.div_eq_of_lt (by omega)];rfl
 | false=>rw [if_neg (by simp),Nat.div_eq_of_lt (by omega)];rfl
theorem X9j {f:Format} {w:Nat} {s:Bool} {m:Nat} {e:Int} (h:f.read w = .number s m e):s=(w / f.signWeight % 2 == 1):=by
 unfold Format.read at h
 simp only at h
 split at h
 ·cases h;rfl
 ·split at h
  ·cases h;rfl
  ·split at h<;>cases h
theorem X7t (f:Format) (neg:Bool) (m:Nat) (e:Int):∃ r,r≤f.infRung∧f.nearest neg m e=f.word neg r:=by
 unfold Format.nearest
 split
 ·exact ⟨0,Nat.zero_le _,rfl⟩
 ·exact ⟨_,Nat.min_le_right _ _,rfl⟩
theorem X9k {f:Format} {neg:Bool} {m:Nat} {e:Int} {q:Rat} (h:vl (f.read (f.nearest neg m e))=some q):0≤sg neg * q:=by
 obtain ⟨r,hr,hw⟩:=X7t f neg m e
 rw [hw] at h
 cases hd:f.read (f.word neg r) with
 | nan s t=>rw [hd] at h;simp [vl] at h
 | infinity s=>rw [hd] at h;simp [vl] at h
 | number s M E =>
  have hs:=X9j hd
  rw [X9i f neg hr] at hs
  subst hs
  rw [hd] at h
  simp only [vl,Option.some.injEq] at h
  rw [← h,← Rat.mul_assoc,X9U,Rat.one_mul]
  exact X2t M E
theorem X7u {k:FloatKind} {d:Datum} {v q:Rat} (hd:vl d=some v) (h0:0≤v) (hq:Vl k (k.format.write d) q):0≤q:=by
 cases d with
 | nan s t=>simp [vl] at hd
 | infinity s=>simp [vl] at hd
 | number s m e =>
  have h:=X9k (f:=k.format) (neg:=s) (m:=m) (e:=e) hq
  cases s with
  | false=>simpa [sg] using h
  | true =>
   by_cases hm:m=0
   ·subst hm
    have e1:k.format.write (.number true 0 e)=k.format.word true 0:=by
     show k.format.nearest true 0 e=_
     unfold Format.nearest
     rw [if_pos rfl]
    rw [e1] at hq
    have:Vl k (k.format.word true 0) 0:=by unfold Vl;cases k<;>decide +kernel
    unfold Vl at hq this
    rw [this] at hq
    cases hq
    decide
   ·exfalso
    have:=Rat.mul_pos (Rat.natCast_pos.2 (show 0 < m by omega)) (Xp e)
    simp only [vl,Option.some.injEq,sg,if_true] at hd
    grind
theorem XaN {k:FloatKind} {w:Nat} {a b:Rat} (h:Vl k w a) (h':Vl k w b):a=b:=by
 unfold Vl at h h';rw [h] at h';cases h';rfl
theorem X8M {k:FloatKind} {x y:Nat} {a b q:Rat} (hx:Vl k x a) (hy:Vl k y b) (h:0≤a + b) (hq:Vl k (fop .add k x y) q):0≤q:=by
 obtain ⟨r,r1,r2⟩:=X3k hx hy
 rw [X5t,r1] at hq
 exact X7u r2 h hq
theorem X32 {k:FloatKind} {x y:Nat} {a b q:Rat} (hx:Vl k x a) (hy:Vl k y b) (h:0≤a * b) (hq:Vl k (fop .mul k x y) q):0≤q:=by
 obtain ⟨r,r1,r2⟩:=X4y hx hy
 rw [X3E,r1] at hq
 exact X7u r2 h hq
theorem X33 (a:Rat):0≤a * a:=by
 rcases Rat.le_total (a:=0) (b:=a) with h | h
 ·exact Rat.mul_nonneg h h
 ·have:=Rat.mul_nonneg (show 0≤-a by grind) (show 0≤-a by grind);grind
def sqs (x y z:Nat):Nat:=fop .add .f32 (fop .add .f32 (fop .mul .f32 x x) (fop .mul .f32 y y)) (fop .mul .f32 z z)
end Go.Ab

set_option linter.unusedVariables false
set_option linter.unusedSimpArgs false
namespace Go.Ab
open Ieee
def rsum {α:Type} (g:α→Rat) (l:List α):Rat:=l.foldr (fun a s=>g a + s) 0
theorem Xe {α:Type} (g:α→Rat):rsum g []=0:=rfl
theorem X3 {α:Type} (g:α→Rat) (a:α) (l:List α):rsum g (a :: l)=g a + rsum g l:=rfl
theorem X11 {α:Type} (g:α→Rat):∀ l r:List α,rsum g (l ++ r)=rsum g l + rsum g r
 | [],r=>by rw [Xe,List.nil_append];grind
 | a :: l,r=>by rw [List.cons_append,X3,X3,X11 g l r];grind
theorem X4A {α:Type} (f g:α→Rat):∀ l:List α,rsum (fun a=>f a + g a) l=rsum f l + rsum g l
 | []=>by rw [Xe,Xe,Xe];grind
 | a :: l=>by rw [X3,X3,X3,X4A f g l];grind
theorem X7v {α:Type} (k:Rat) (g:α→Rat):∀ l:List α,rsum (fun a=>k * g a) l=k * rsum g l
 | []=>by rw [Xe,Xe];grind
 | a :: l=>by rw [X3,X3,X7v k g l];grind
theorem X2C {α:Type} {g:α→Rat} {ε:Rat}:∀ {l:List α},(∀ a∈l,-ε≤g a∧g a≤ε)→-((l.length:Rat) * ε)≤rsum g l∧rsum g l≤(l.length:Rat) * ε
 | [],_=>by
  rw [Xe]
  show -(((0:Nat):Rat) * ε)≤0∧0≤((0:Nat):Rat) * ε
  have:((0:Nat):Rat)=0:=rfl
  rw [this];grind
 | a :: l,h=>by
  have h1:=h a List.mem_cons_self
  have h2:=X2C (l:=l) fun b hb=>h b (List.mem_cons_of_mem _ hb)
  rw [X3,List.length_cons,Rat.natCast_add]
  have:((1:Nat):Rat)=1:=rfl
  rw [this];grind
theorem X3G {α:Type} {f g:α→Rat}:∀ {l:List α},(∀ a∈l,f a=g a)→rsum f l=rsum g l
 | [],_=>rfl
 | a :: l,h=>by rw [X3,X3,h a List.mem_cons_self,X3G fun b hb=>h b (List.mem_cons_of_mem _ hb)]
def Wn (w:Nat) (v d B:Rat):Prop:=∃ q,Vl .f32 w q∧Nr q v d∧-B≤q∧q≤B
theorem X5N {α:Type} {f:α→Nat} {g:α→Rat} {d B S:Rat} (hd:0≤d) (hB:0≤B) (h1S:1≤S) (hS:S≤1000000):∀ (l:List α) (w:Nat) (s P:Rat),Vl .f32 w s→-P≤s→s≤P →
  P + (l.length:Rat) * (B + S / 16000000)≤S→(∀ a∈l,Wn (f a) (g a) d B) →
  ∃ q,Vl .f32 (l.foldl (fun w a=>fop .add .f32 w (f a)) w) q∧Nr q (s + rsum g l) ((l.length:Rat) * (d + S / 16000000))∧-S≤q∧q≤S∧((0≤s∧∀ a∈l,∀ v,Vl .f32 (f a) v→0≤v)→0≤q)
 | [],w,s,P,hw,h1,h2,hP,_=>by
  have z:((([]:List α).length:Nat):Rat)=0:=rfl
  rw [z] at hP ⊢
  refine ⟨s,hw,?_,by grind,by grind,fun h=>h.1⟩
  unfold Nr;rw [Xe];grind
 | a :: l,w,s,P,hw,h1,h2,hP,hl=>by
  obtain ⟨qa,Va,Na,b1,b2⟩:=hl a List.mem_cons_self
  have e1:(((a :: l).length:Nat):Rat)=(l.length:Rat) + 1:=by rw [List.length_cons,Rat.natCast_add];rfl
  rw [e1] at hP ⊢
  have hn:(0:Rat)≤(l.length:Rat):=Rat.natCast_nonneg
  have hn2:0≤(l.length:Rat) * (B + S / 16000000):=Rat.mul_nonneg hn (by grind)
  have t:=X2a .f32
  obtain ⟨q1,V1,N1⟩:=addV hw Va (B:=S) (by grind) (by grind) (by
   have:(1000000:Rat) < (2:Rat)^(topE .f32):=by decide +kernel
   grind)
  have u:uK .f32=1 / 16777216:=rfl
  rw [u] at N1
  unfold Nr at N1 Na
  have hE:S * (1 / 16777216) + tK .f32≤S / 16000000:=by grind
  obtain ⟨q,V,N,c1,c2,c3⟩:=X5N hd hB h1S hS l (fop .add .f32 w (f a)) q1 (P + B + S / 16000000) V1 (by grind) (by grind) (by grind) fun b hb=>hl b (List.mem_cons_of_mem _ hb)
  refine ⟨q,V,?_,c1,c2,?_⟩
  ·unfold Nr at *
   rw [X3]
   grind
  ·intro ⟨z1,z2⟩
   have:=z2 a List.mem_cons_self qa Va
   exact c3 ⟨X8M hw Va (by grind) V1,fun b hb=>z2 b (List.mem_cons_of_mem _ hb)⟩
theorem X34 {v:Rat} {n:Int} {s:Nat} (h:v * (2:Rat)^(s:Int)=(n:Rat)) (h1:-16777216 < n) (h2:n < 16777216) (hs:s≤140):Rp .f32 v:=by
 refine ⟨n,s,h,?_,hs⟩
 have:FloatKind.f32.format.binade=8388608:=by decide +kernel
 rw [this];omega
def I6 (w:Nat) (n:Int):Prop:=Vl .f32 w ((n:Rat) / 64)
def I12 (w:Nat) (n:Int):Prop:=Vl .f32 w ((n:Rat) / 4096)
theorem p6:(2:Rat)^((6:Nat):Int)=64:=by decide +kernel
theorem p12:(2:Rat)^((12:Nat):Int)=4096:=by decide +kernel
theorem sub6 {x y:Nat} {a b:Int} (hx:I6 x a) (hy:I6 y b) (h1:-16777216 < a - b) (h2:a - b < 16777216):I6 (fop .sub .f32 x y) (a - b):=by
 have e:((a - b:Int):Rat) / 64=(a:Rat) / 64 - (b:Rat) / 64:=by rw [Rat.intCast_sub];grind
 unfold I6;rw [e]
 refine subX hx hy (X34 (n:=a - b) (s:=6) ?_ h1 h2 (by decide))
 rw [p6,Rat.intCast_sub];grind
theorem add6 {x y:Nat} {a b:Int} (hx:I6 x a) (hy:I6 y b) (h1:-16777216 < a + b) (h2:a + b < 16777216):I6 (fop .add .f32 x y) (a + b):=by
 have e:((a + b:Int):Rat) / 64=(a:Rat) / 64 + (b:Rat) / 64:=by rw [Rat.intCast_add];grind
 unfold I6;rw [e]
 refine addX hx hy (X34 (n:=a + b) (s:=6) ?_ h1 h2 (by decide))
 rw [p6,Rat.intCast_add];grind
theorem mul6 {x y:Nat} {a b:Int} (hx:I6 x a) (hy:I6 y b) (h1:-16777216 < a * b) (h2:a * b < 16777216):I12 (fop .mul .f32 x y) (a * b):=by
 have e:((a * b:Int):Rat) / 4096=(a:Rat) / 64 * ((b:Rat) / 64):=by rw [Rat.intCast_mul];grind
 unfold I12;rw [e]
 refine mulX hx hy (X34 (n:=a * b) (s:=12) ?_ h1 h2 (by decide))
 rw [p12,Rat.intCast_mul];grind
theorem X8N {x y:Nat} {a b:Int} (hx:I12 x a) (hy:I12 y b) (h1:-16777216 < a - b) (h2:a - b < 16777216):I12 (fop .sub .f32 x y) (a - b):=by
 have e:((a - b:Int):Rat) / 4096=(a:Rat) / 4096 - (b:Rat) / 4096:=by rw [Rat.intCast_sub];grind
 unfold I12;rw [e]
 refine subX hx hy (X34 (n:=a - b) (s:=12) ?_ h1 h2 (by decide))
 rw [p12,Rat.intCast_sub];grind
theorem X9W {x y:Nat} {a b:Int} (hx:I12 x a) (hy:I12 y b) (h1:-16777216 < a + b) (h2:a + b < 16777216):I12 (fop .add .f32 x y) (a + b):=by
 have e:((a + b:Int):Rat) / 4096=(a:Rat) / 4096 + (b:Rat) / 4096:=by rw [Rat.intCast_add];grind
 unfold I12;rw [e]
 refine addX hx hy (X34 (n:=a + b) (s:=12) ?_ h1 h2 (by decide))
 rw [p12,Rat.intCast_add];grind
theorem Xam {a b A:Int} (h1:-A≤a) (h2:a≤A) (h3:-A≤b) (h4:b≤A):-(A * A)≤a * b∧a * b≤A * A:=by
 have x1:=Int.mul_nonneg (show 0≤A - a by omega) (show 0≤A - b by omega)
 have x2:=Int.mul_nonneg (show 0≤A - a by omega) (show 0≤A + b by omega)
 have x3:=Int.mul_nonneg (show 0≤A + a by omega) (show 0≤A - b by omega)
 have x4:=Int.mul_nonneg (show 0≤A + a by omega) (show 0≤A + b by omega)
 constructor<;>grind
theorem XA {a A:Int} (h1:-A≤a) (h2:a≤A):0≤a * a∧a * a≤A * A:=by
 have h:=Xam h1 h2 h1 h2
 refine ⟨?_,h.2⟩
 rcases Int.le_total 0 a with h | h
 ·exact Int.mul_nonneg h h
 ·have:=Int.mul_nonneg (show 0≤-a by omega) (show 0≤-a by omega)
  grind
theorem X3H {a A:Int} (h0:0≤A) (h:A≤a∨a≤-A):A * A≤a * a:=by
 rcases h with h | h
 ·have:=Int.mul_nonneg (show 0≤a - A by omega) (show 0≤a + A by omega)
  grind
 ·have:=Int.mul_nonneg (show 0≤-a - A by omega) (show 0≤-a + A by omega)
  grind
theorem X5O {w:Nat} {a:Rat} (h:Vl .f32 w a) (h0:1 / 10000≤a) (h1:a≤1000):∃ l,Vl .f32 (fcv .f64 .f32 (X1y (fcv .f32 .f64 w))) l∧0≤l∧l≤40∧a - a / 3000000≤l * l∧l * l≤a + a / 3000000:=by
 obtain ⟨Q,W,q0,q1,q2⟩:=X9V h (by grind) (by grind)
 have t0:=X7s
 have t1:tR≤1 / 1000000000000000000000000000000:=by decide +kernel
 have g1:1 / 1000≤Q:=by
  refine Rat.not_lt.1 fun hl => ?_
  have:=Xw (a:=Q + tR) (b:=1 / 999) (by grind) (by grind)
  have e:(1 / 999:Rat) * (1 / 999)=1 / 998001:=by decide +kernel
  grind
 have q1:=q1 (by grind)
 have g2:Q≤40:=by
  refine Rat.not_lt.1 fun hl => ?_
  have:=Xw (a:=39) (b:=Q - tR) (by decide +kernel) (by grind)
  grind
 have e1:(Q - tR) * (Q - tR)=Q * Q - tR * (2 * Q - tR):=by grind
 have e2:(Q + tR) * (Q + tR)=Q * Q + tR * (2 * Q + tR):=by grind
 have b1:tR * (2 * Q - tR)≤tR * 80:=Rat.mul_le_mul_of_nonneg_left (by grind) (Rat.le_of_lt t0)
 have b2:tR * (2 * Q + tR)≤tR * 81:=Rat.mul_le_mul_of_nonneg_left (by grind) (Rat.le_of_lt t0)
 rw [e1] at q1
 rw [e2] at q2
 exact ⟨Q,W,by grind,g2,by grind,by grind⟩
def Ab (x B:Rat):Prop:=-B≤x∧x≤B
theorem Xx {x y A B:Rat} (h1:Ab x A) (h2:Ab y B):Ab (x * y) (A * B):=mul_le_mul' h1.1 h1.2 h2.1 h2.2
theorem X40 {x y B c:Rat} (h:Ab (x * y) B) (hc:0≤c) (hy:c≤y):Ab (x * c) B:=by
 unfold Ab at *
 rcases Rat.le_total (a:=0) (b:=x) with hx | hx
 ·have:=Rat.mul_le_mul_of_nonneg_left hy hx
  have h0:=Rat.mul_nonneg hx hc
  grind
 ·have:=Rat.mul_le_mul_of_nonneg_left hy (show 0≤-x by grind)
  have h0:=Rat.mul_nonneg (show 0≤-x by grind) hc
  grind
theorem X9L {x B:Rat} (hB:0≤B) (h:x * x≤B * B):Ab x B:=by
 unfold Ab
 rcases Rat.le_total (a:=0) (b:=x) with hx | hx
 ·have:=XR hB h;grind
 ·have:=XR (a:=-x) hB (by grind);grind
end Go.Ab

set_option linter.unusedVariables false
set_option linter.unusedSimpArgs false
namespace Go.Ab
theorem md0 {k κ N η:Rat} (hκ:0≤κ) (hN:49 / 100≤N) (hη:0≤η) (hη2:η≤1 / 400000) (D:Rat) (d1:D≤N * N + η) (hk:k * k≤κ * κ * D):Ab k (κ * N * (100001 / 100000)):=by
 refine X9L (Rat.mul_nonneg (Rat.mul_nonneg hκ (by grind)) (by decide +kernel)) ?_
 have kk:0≤κ * κ:=Rat.mul_nonneg hκ hκ
 have g1:=Rat.mul_le_mul_of_nonneg_left d1 kk
 have nn:=Xw (a:=49 / 100) (b:=N) (by decide +kernel) hN
 have e:(49 / 100:Rat) * (49 / 100)=2401 / 10000:=by decide +kernel
 rw [e] at nn
 have g2:=Rat.mul_le_mul_of_nonneg_left (show N * N + η≤N * N * (100001 / 100000 * (100001 / 100000)) by grind) kk
 have e2:κ * N * (100001 / 100000) * (κ * N * (100001 / 100000))=κ * κ * (N * N * (100001 / 100000 * (100001 / 100000))):=by grind
 rw [e2];grind
theorem md1 {k κ N η D c l:Rat} (hκ:0≤κ) (hκ2:κ≤3 / 100) (hN:49 / 100≤N) (hη:0≤η) (hη2:η≤1 / 400000) (d0:N * N - η≤D) (hk:Ab k (κ * N * (100001 / 100000))) (hc:0≤c) (h0:0≤l) (hl:D + 2 * k + c - η≤l * l):93 / 100 * N≤l:=by
 refine XR h0 ?_
 unfold Ab at hk
 have nn:=Xw (a:=49 / 100) (b:=N) (by decide +kernel) hN
 have e:(49 / 100:Rat) * (49 / 100)=2401 / 10000:=by decide +kernel
 rw [e] at nn
 have g1:κ * N≤3 / 100 * N:=Rat.mul_le_mul_of_nonneg_right hκ2 (by grind)
 have g2:N≤100 / 49 * (N * N):=by
  have:=Rat.mul_le_mul_of_nonneg_right hN (show 0≤N by grind)
  grind
 grind
theorem mid {N lp lm D k c η κ:Rat} (hN:49 / 100≤N) (hη:0≤η) (hη2:η≤1 / 400000) (hκ:0≤κ) (hκ2:κ≤3 / 100)
  (n1:N * N - η≤D) (n2:D≤N * N + η) (p0:0≤lp) (p1:D + 2 * k + c - η≤lp * lp) (p2:lp * lp≤D + 2 * k + c + η)
  (m0:0≤lm) (m1:D - 2 * k + c - η≤lm * lm) (m2:lm * lm≤D - 2 * k + c + η) (hk:k * k≤κ * κ * D) (c0:0≤c) (c1:c≤κ * κ) :
  Ab ((N * (lp - lm) - 2 * k) * N) (4 / 3 * (κ * κ * κ) + κ * (3 * η) + 11 / 10 * η * N):=by
 have k0:=md0 hκ hN hη hη2 D n2 hk
 have k0':Ab (-k) (κ * N * (100001 / 100000)):=by unfold Ab at *;grind
 have lp1:=md1 hκ hκ2 hN hη hη2 n1 k0 c0 p0 p1
 have lm1:=md1 hκ hκ2 hN hη hη2 n1 k0' c0 m0 (by grind)
 have nn:=Xw (a:=49 / 100) (b:=N) (by decide +kernel) hN
 have e:(49 / 100:Rat) * (49 / 100)=2401 / 10000:=by decide +kernel
 rw [e] at nn
 have kk:0≤κ * κ:=Rat.mul_nonneg hκ hκ
 have kn:0≤κ * N:=Rat.mul_nonneg hκ (by grind)
 generalize hu:lp - lm=u
 generalize hm:lp + lm=m
 have hm1:186 / 100 * N≤m:=by grind
 have um:u * m=lp * lp - lm * lm:=by rw [← hu,← hm];grind
 have hum:Ab (u * m) (4 * (κ * N * (100001 / 100000)) + 2 * η):=by unfold Ab at *;rw [um];grind
 have hu1:=X40 hum (show 0≤186 / 100 * N by grind) hm1
 have hu2:Ab u (216 / 100 * κ + 22 / 10 * η):=by
  have a1:Ab (u * N) (4 * (κ * N * (100001 / 100000)) * (100 / 186) + 2 * η * (100 / 186)):=by unfold Ab at *;grind
  have a2:Ab (u * N) ((216 / 100 * κ + 22 / 10 * η) * N):=by
   have:η * (49 / 100)≤η * N:=Rat.mul_le_mul_of_nonneg_left hN hη
   unfold Ab at *;grind
  unfold Ab at *
  have np:0 < N:=by grind
  constructor
  ·refine Rat.not_lt.1 fun hl => ?_
   have:=Rat.mul_lt_mul_of_pos_right hl np
   grind
  ·refine Rat.not_lt.1 fun hl => ?_
   have:=Rat.mul_lt_mul_of_pos_right hl np
   grind
 have hη3:η * η≤η * (1 / 400000):=Rat.mul_le_mul_of_nonneg_left hη2 hη
 have hκη:κ * η≤3 / 100 * η:=Rat.mul_le_mul_of_nonneg_right hκ2 hη
 have huu:u * u≤467 / 100 * (κ * κ) + 3 / 10 * η:=by
  have h:=(Xx hu2 hu2).2
  grind
 have hu0:=X33 u
 have hmm:m * m=2 * (lp * lp) + 2 * (lm * lm) - u * u:=by rw [← hu,← hm];grind
 have hw:Ab ((2 * N - m) * (2 * N + m)) (467 / 100 * (κ * κ) + 9 * η):=by
  have e1:(2 * N - m) * (2 * N + m)=4 * (N * N) - m * m:=by grind
  rw [e1,hmm];unfold Ab;grind
 have hd:=X40 hw (show 0≤386 / 100 * N by grind) (by grind)
 have hx:Ab (2 * k * ((2 * N - m) * (386 / 100 * N))) (2 * (κ * N * (100001 / 100000)) * (467 / 100 * (κ * κ) + 9 * η)) :=
  Xx (by unfold Ab at *;grind) hd
 have hx2:Ab (2 * k * (2 * N - m)) (2 * (κ * (100001 / 100000)) * (467 / 100 * (κ * κ) + 9 * η) * (100 / 386)):=by
  have np:0 < N:=by grind
  unfold Ab at *
  constructor
  ·refine Rat.not_lt.1 fun hl => ?_
   have:=Rat.mul_lt_mul_of_pos_right hl np
   grind
  ·refine Rat.not_lt.1 fun hl => ?_
   have:=Rat.mul_lt_mul_of_pos_right hl np
   grind
 have hy:(N * u - 2 * k) * m=2 * k * (2 * N - m) + N * (u * m - 4 * k):=by grind
 have he:Ab (N * (u * m - 4 * k)) (N * (2 * η)):=Xx (by unfold Ab;grind) (by unfold Ab;rw [um];grind)
 have hz:=X40 (x:=N * u - 2 * k) (y:=m) (B:=2 * (κ * (100001 / 100000)) * (467 / 100 * (κ * κ) + 9 * η) * (100 / 386) + N * (2 * η)) (c:=186 / 100 * N) (by rw [hy];unfold Ab at *;grind) (by grind) hm1
 have k3:0≤κ * κ * κ:=Rat.mul_nonneg kk hκ
 have ke:0≤κ * η:=Rat.mul_nonneg hκ hη
 have ne:0≤N * η:=Rat.mul_nonneg (by grind) hη
 unfold Ab at *
 grind
end Go.Ab

set_option linter.unusedVariables false
set_option linter.unusedSimpArgs false
namespace Go.Ab
open Ieee
theorem Xan (w:Nat):(w ^^^ 2147483648) % 2147483648=w % 2147483648∧(w ^^^ 2147483648) / 2147483648 % 2=1 - w / 2147483648 % 2:=by
 have e:(2147483648:Nat)=2 ^ 31:=by decide
 rw [e]
 refine ⟨by rw [Nat.xor_mod_two_pow,Nat.mod_self,Nat.xor_zero],?_⟩
 rw [← Nat.shiftRight_eq_div_pow,Nat.shiftRight_xor_distrib,Nat.shiftRight_eq_div_pow,Nat.shiftRight_eq_div_pow,Nat.div_self (by decide)]
 have h:=Nat.xor_mod_two_pow (a:=w / 2 ^ 31) (b:=1) (n:=1)
 have e1:2 ^ 1=2:=rfl
 rw [e1] at h
 rw [h]
 rcases Nat.mod_two_eq_zero_or_one (w / 2 ^ 31) with h | h<;>rw [h]<;>decide
theorem negV {w:Nat} {a:Rat} (h:Vl .f32 w a):Vl .f32 (fneg .f32 w) (-a):=by
 have hx:=Xan w
 have e1:Op.negFloat .f32 w=w ^^^ 2147483648:=rfl
 have key:∃ s m e,FloatKind.f32.format.read w = .number s m e∧FloatKind.f32.format.read (w ^^^ 2147483648) = .number (!s) m e:=by
  have e2:FloatKind.f32.format.signWeight=2147483648:=by decide +kernel
  unfold Vl Format.read at h
  unfold Format.read
  simp only [e2] at h ⊢
  rw [hx.1,hx.2]
  have hs:(1 - w / 2147483648 % 2 == 1)=!(w / 2147483648 % 2 == 1):=by
   rcases Nat.mod_two_eq_zero_or_one (w / 2147483648) with h | h<;>rw [h]<;>decide
  rw [hs]
  split at h
  ·rename_i c;rw [if_pos c,if_pos c];exact ⟨_,_,_,rfl,rfl⟩
  ·rename_i c
   rw [if_neg c,if_neg c]
   split at h
   ·rename_i c;rw [if_pos c,if_pos c];exact ⟨_,_,_,rfl,rfl⟩
   ·split at h<;>simp [vl] at h
 obtain ⟨s,m,e,r1,r2⟩:=key
 have e3:fneg .f32 w=w ^^^ 2147483648:=by
  unfold fneg
  rw [e1]
  refine XJ ?_
  unfold Xm FloatKind.decode
  rw [r2];rfl
 unfold Vl at *
 rw [r1] at h
 rw [e3,r2]
 simp only [vl,Option.some.injEq] at h ⊢
 rw [← h]
 cases s
 ·show -1 * ((m:Rat) * (2:Rat)^e)=-(1 * ((m:Rat) * (2:Rat)^e));grind
 ·show 1 * ((m:Rat) * (2:Rat)^e)=-(-1 * ((m:Rat) * (2:Rat)^e));grind
def AtE (ρ:Nat→Nat) (η:Nat→Rat) (β:Nat→Bd):Prop:=∀ i,Vl .f32 (ρ i) (η i)∧rq (β i).lo≤η i∧η i≤rq (β i).hi
def bdE (e:FE) (β:Nat→Bd) (n m:Int):Bool:=match e.an β with
 | some b=>decide (b.e≤n) && decide (mx b≤m)
 | none=>false
theorem X4e {ρ:Nat→Nat} {η:Nat→Rat} {β:Nat→Bd} (h:AtE ρ η β) {e:FE} {n m:Int} (hc:bdE e β n m=true):∃ q,Vl .f32 (e.ev ρ) q∧Nr q (e.xv η) (rq n)∧Ab (e.xv η) (rq m):=by
 unfold bdE at hc
 split at hc
 ·rename_i b hb
  rw [Bool.and_eq_true] at hc
  obtain ⟨_,b1,b2,q,V,N⟩:=anOk h hb
  have h1:=X2b (of_decide_eq_true hc.1)
  have h2:=X2b (of_decide_eq_true hc.2)
  have h3:=X31 b1 b2
  unfold Nr at N
  exact ⟨q,V,by unfold Nr;grind,by unfold Ab;grind⟩
 ·cases hc
def sel3 {α:Type} (a b c:α) (i:Nat):α:=if i=0 then a else if i=1 then b else c
theorem at3 {w0 w1 w2:Nat} {v0 v1 v2:Rat} {b0 b1 b2:Bd} (h0:Vl .f32 w0 v0) (l0:rq b0.lo≤v0∧v0≤rq b0.hi) (h1:Vl .f32 w1 v1) (l1:rq b1.lo≤v1∧v1≤rq b1.hi) (h2:Vl .f32 w2 v2) (l2:rq b2.lo≤v2∧v2≤rq b2.hi):AtE (sel3 w0 w1 w2) (sel3 v0 v1 v2) (sel3 b0 b1 b2):=by
 intro i
 unfold sel3
 by_cases hi:i=0
 ·simp only [hi,if_true];exact ⟨h0,l0⟩
 ·by_cases hj:i=1
  ·simp only [hj,if_true];exact ⟨h1,l1⟩
  ·simp only [hi,hj,if_false];exact ⟨h2,l2⟩
def lenW (x y z:Nat):Nat:=fcv .f64 .f32 (X1y (fcv .f32 .f64 (sqs x y z)))
theorem sqs6 {x y z:Nat} {a b c:Int} (hx:I6 x a) (hy:I6 y b) (hz:I6 z c) (a1:-200≤a) (a2:a≤200) (b1:-200≤b) (b2:b≤200) (c1:-200≤c) (c2:c≤200):I12 (sqs x y z) (a * a + b * b + c * c):=by
 have ha:=XA a1 a2
 have hb:=XA b1 b2
 have hc:=XA c1 c2
 unfold sqs
 exact X9W (X9W (mul6 hx hx (by omega) (by omega)) (mul6 hy hy (by omega) (by omega)) (by omega) (by omega)) (mul6 hz hz (by omega) (by omega)) (by omega) (by omega)
theorem len6 {x y z:Nat} {a b c:Int} (hx:I6 x a) (hy:I6 y b) (hz:I6 z c) (a1:-200≤a) (a2:a≤200) (b1:-200≤b) (b2:b≤200) (c1:-200≤c) (c2:c≤200) {D:Rat} (hD:D=((a * a + b * b + c * c:Int):Rat) / 4096) (h0:1≤a * a + b * b + c * c) :
  ∃ l,Vl .f32 (lenW x y z) l∧0≤l∧D - D / 3000000≤l * l∧l * l≤D + D / 3000000:=by
 have h:=sqs6 hx hy hz a1 a2 b1 b2 c1 c2
 have ha:=XA a1 a2
 have hb:=XA b1 b2
 have hc:=XA c1 c2
 unfold I12 at h
 rw [← hD] at h
 have g1:=Rat.intCast_le_intCast.2 h0
 have g2:=Rat.intCast_le_intCast.2 (show a * a + b * b + c * c≤120000 by omega)
 have e1:((1:Int):Rat)=1:=rfl
 have e2:((120000:Int):Rat)=120000:=rfl
 rw [e1] at g1
 rw [e2] at g2
 obtain ⟨l,V,l0,_,l1,l2⟩:=X5O h (by grind) (by grind)
 exact ⟨l,V,l0,l1,l2⟩
def X35:Nat:=1056964608
theorem X41:Vl .f32 X35 (1 / 2):=by unfold Vl X35;decide +kernel
def sprW (l L s:Nat):Nat:=fop .mul .f32 (fop .mul .f32 X35 s) (fop .mul .f32 (fop .sub .f32 l L) (fop .sub .f32 l L))
def sprE:FE := .mul (.mul (.lit 1056964608 536870912) (.var 2)) (.mul (.sub (.var 0) (.var 1)) (.sub (.var 0) (.var 1)))
def pulE:FE := .mul (.var 2) (.sub (.var 0) (.var 1))
def sprB:Nat→Bd:=sel3 ⟨751619276,1971389988,0⟩ ⟨536870912,1610612736,0⟩ ⟨536870912,2147483648,0⟩
theorem Xao:bdE sprE sprB 1000 2415919104=true:=by decide +kernel
theorem Xap:bdE pulE sprB 1000 2899102925=true:=by decide +kernel
theorem X4B {lw Lw sw:Nat} {l L s:Rat} (hl:Vl .f32 lw l) (l0:7 / 10≤l) (l1:l≤183 / 100) (hL:Vl .f32 Lw L) (L0:1 / 2≤L) (L1:L≤3 / 2) (hs:Vl .f32 sw s) (s0:1 / 2≤s) (s1:s≤2) :
  ∃ q,Vl .f32 (sprW lw Lw sw) q∧Nr q (s / 2 * ((l - L) * (l - L))) (1 / 1000000)∧0≤q∧q≤226 / 100:=by
 have r1:rq 751619276≤7 / 10:=by unfold rq;decide +kernel
 have r2:183 / 100≤rq 1971389988:=by unfold rq;decide +kernel
 have r3:rq 536870912=1 / 2:=by unfold rq;decide +kernel
 have r4:rq 1610612736=3 / 2:=by unfold rq;decide +kernel
 have r5:rq 2147483648=2:=by unfold rq;decide +kernel
 have r6:rq 1000≤1 / 1000000:=by unfold rq;decide +kernel
 have r7:rq 2415919104≤9 / 4:=by unfold rq;decide +kernel
 have H:=at3 (b0:=⟨751619276,1971389988,0⟩) (b1:=⟨536870912,1610612736,0⟩) (b2:=⟨536870912,2147483648,0⟩) hl (by simp only;grind) hL (by simp only;grind) hs (by simp only;grind)
 obtain ⟨q,V,N,M⟩:=X4e H Xao
 have hV:Vl .f32 (sprW lw Lw sw) q:=V
 have hx:sprE.xv (sel3 l L s)=rq 536870912 * s * ((l - L) * (l - L)):=rfl
 rw [hx,r3] at N M
 unfold Nr Ab at *
 have hq:0≤q:=by
  obtain ⟨e,Ve,Ne⟩:=subV hl hL (B:=10) (by grind) (by grind) (by decide +kernel)
  have hb:-100≤e∧e≤100:=by
   have t:=X2a .f32
   have u:uK .f32=1 / 16777216:=rfl
   unfold Nr at Ne
   rw [u] at Ne
   grind
  obtain ⟨e2,Ve2,-⟩:=mulV Ve Ve (B:=10000) (by have:=X33 e;grind) (by
   rcases Rat.le_total (a:=0) (b:=e) with h | h
   ·have:=Xw h hb.2;grind
   ·have:=Xw (a:=-e) (b:=100) (by grind) (by grind);grind) (by decide +kernel)
  obtain ⟨h,Vh,-⟩:=mulV X41 hs (B:=10) (by grind) (by grind) (by decide +kernel)
  have p1:=X32 Ve Ve (X33 e) Ve2
  have p2:=X32 X41 hs (by grind) Vh
  exact X32 Vh Ve2 (Rat.mul_nonneg p2 p1) hV
 exact ⟨q,hV,by grind,hq,by grind⟩
def pulW (l L s:Nat):Nat:=fop .quo .f32 (fop .mul .f32 s (fop .sub .f32 l L)) l
theorem X7w {lw Lw sw:Nat} {l L s:Rat} (hl:Vl .f32 lw l) (l0:7 / 10≤l) (l1:l≤183 / 100) (hL:Vl .f32 Lw L) (L0:1 / 2≤L) (L1:L≤3 / 2) (hs:Vl .f32 sw s) (s0:1 / 2≤s) (s1:s≤2) :
  ∃ g,Vl .f32 (pulW lw Lw sw) g∧Nr (g * l) (s * (l - L)) (3 / 1000000)∧Ab g 4:=by
 have r1:rq 751619276≤7 / 10:=by unfold rq;decide +kernel
 have r2:183 / 100≤rq 1971389988:=by unfold rq;decide +kernel
 have r3:rq 536870912=1 / 2:=by unfold rq;decide +kernel
 have r4:rq 1610612736=3 / 2:=by unfold rq;decide +kernel
 have r5:rq 2147483648=2:=by unfold rq;decide +kernel
 have r6:rq 1000≤1 / 1000000:=by unfold rq;decide +kernel
 have r7:rq 2899102925≤271 / 100:=by unfold rq;decide +kernel
 have H:=at3 (b0:=⟨751619276,1971389988,0⟩) (b1:=⟨536870912,1610612736,0⟩) (b2:=⟨536870912,2147483648,0⟩) hl (by simp only;grind) hL (by simp only;grind) hs (by simp only;grind)
 obtain ⟨p,V,N,M⟩:=X4e H Xap
 have hV:Vl .f32 (fop .mul .f32 sw (fop .sub .f32 lw Lw)) p:=V
 have hx:pulE.xv (sel3 l L s)=s * (l - L):=rfl
 rw [hx] at N M
 unfold Nr Ab at *
 have hi:l * l⁻¹=1:=Rat.mul_inv_cancel _ (by grind)
 have hw:p * l⁻¹ * l=p:=by grind
 have hb:Ab (p * l⁻¹) (39 / 10):=by
  unfold Ab
  constructor
  ·refine Rat.not_lt.1 fun h => ?_
   have:=Rat.mul_lt_mul_of_pos_right h (show 0 < l by grind)
   rw [hw] at this
   grind
  ·refine Rat.not_lt.1 fun h => ?_
   have:=Rat.mul_lt_mul_of_pos_right h (show 0 < l by grind)
   rw [hw] at this
   grind
 unfold Ab at hb
 obtain ⟨g,W,G⟩:=quoV hV hl (by grind) hw (B:=39 / 10) hb.1 hb.2 (by decide +kernel)
 have t:=X2a .f32
 have u:uK .f32=1 / 16777216:=rfl
 rw [u] at G
 unfold Nr at G
 have gl:g * l=p * l⁻¹ * l + (g - p * l⁻¹) * l:=by grind
 rw [hw] at gl
 have gb:Ab ((g - p * l⁻¹) * l) (8 / 10000000 * (183 / 100)):=Xx (by unfold Ab;grind) (by unfold Ab;grind)
 unfold Ab at gb
 exact ⟨g,W,by grind,by grind,by grind⟩
theorem X9l {s L N lp lm D k c g:Rat} (s0:1 / 2≤s) (s1:s≤2) (L0:1 / 2≤L) (L1:L≤3 / 2) (hN:0≤N) (d0:54 / 100≤D) (d1:D≤328 / 100)
  (n1:D - D / 3000000≤N * N) (n2:N * N≤D + D / 3000000) (p0:0≤lp) (p1:D + 2 * k + c - (D + 2 * k + c) / 3000000≤lp * lp) (p2:lp * lp≤D + 2 * k + c + (D + 2 * k + c) / 3000000) (p3:D + 2 * k + c≤33 / 10)
  (m0:0≤lm) (m1:D - 2 * k + c - (D - 2 * k + c) / 3000000≤lm * lm) (m2:lm * lm≤D - 2 * k + c + (D - 2 * k + c) / 3000000) (m3:D - 2 * k + c≤33 / 10) (hk:k * k≤1 / 64 * (1 / 64) * D) (c0:0≤c) (c1:c≤1 / 64 * (1 / 64)) (hg:Nr (g * N) (s * (N - L)) (3 / 1000000)) :
  Ab (s / 2 * ((lp - L) * (lp - L)) - s / 2 * ((lm - L) * (lm - L)) - 2 * g * k) (7 / 100000):=by
 have hNl:73 / 100≤N:=by
  refine XR hN ?_
  grind
 have hNu:N≤182 / 100:=by
  refine XR (by decide +kernel) ?_
  grind
 have M:=mid (N:=N) (lp:=lp) (lm:=lm) (D:=D) (k:=k) (c:=c) (η:=11 / 10000000) (κ:=1 / 64) (by grind) (by decide +kernel) (by decide +kernel) (by decide +kernel) (by decide +kernel) (by grind) (by grind) p0 (by grind) (by grind) m0 (by grind) (by grind) hk c0 c1
 have k0:=md0 (k:=k) (κ:=1 / 64) (N:=N) (η:=11 / 10000000) (by decide +kernel) (by grind) (by decide +kernel) (by decide +kernel) D (by grind) hk
 have hNN:N * N≤182 / 100 * (182 / 100):=Xw hN hNu
 have hNN2:73 / 100 * (73 / 100)≤N * N:=Xw (by decide +kernel) hNl
 generalize hX:s / 2 * ((lp - L) * (lp - L)) - s / 2 * ((lm - L) * (lm - L)) - 2 * g * k=X
 have key:X * (N * N)=s / 2 * (N * N * (lp * lp - lm * lm - 4 * k)) - s * L * ((N * (lp - lm) - 2 * k) * N) - 2 * (k * N * (g * N - s * (N - L))):=by rw [← hX];grind
 have e1:Ab (N * N * (lp * lp - lm * lm - 4 * k)) (182 / 100 * (182 / 100) * (22 / 10000000)):=Xx (by unfold Ab;grind) (by unfold Ab;grind)
 have e2:Ab (s / 2 * (N * N * (lp * lp - lm * lm - 4 * k))) (1 * (182 / 100 * (182 / 100) * (22 / 10000000))):=Xx (by unfold Ab;grind) e1
 have sL:Ab (s * L) (2 * (3 / 2)):=Xx (by unfold Ab;grind) (by unfold Ab;grind)
 have e3:=Xx sL M
 have e4:Ab (k * N * (g * N - s * (N - L))) (1 / 64 * (182 / 100) * (100001 / 100000) * (182 / 100) * (3 / 1000000)):=by
  refine Xx (Xx ?_ ?_) ?_
  ·unfold Ab at *;grind
  ·unfold Ab;grind
  ·unfold Ab;unfold Nr at hg;grind
 have hXN:Ab (X * (N * N)) (35 / 1000000):=by
  rw [key]
  unfold Ab at *
  grind
 have:=X40 hXN (show (0:Rat)≤73 / 100 * (73 / 100) by decide +kernel) hNN2
 unfold Ab at *
 grind
end Go.Ab

set_option linter.unusedVariables false
set_option linter.unusedSimpArgs false
namespace Go.Ab
open Ieee
def sqsE:FE := .add (.add (.mul (.var 0) (.var 0)) (.mul (.var 1) (.var 1))) (.mul (.var 2) (.var 2))
def nrmB:Nat→Bd:=sel3 ⟨-805306368,805306368,0⟩ ⟨-805306368,805306368,0⟩ ⟨429496729,2147483648,0⟩
theorem Xaq:bdE sqsE nrmB 800 10737418240=true:=by decide +kernel
theorem X7x {p A B:Int} (h1:A≤p) (h2:p≤B):(A:Rat) / 4096≤(p:Rat) / 4096∧(p:Rat) / 4096≤(B:Rat) / 4096:=by
 have g1:=Rat.intCast_le_intCast.2 h1
 have g2:=Rat.intCast_le_intCast.2 h2
 exact ⟨X1o (by decide +kernel) g1,X1o (by decide +kernel) g2⟩
theorem Xar {x y z:Nat} {p q r:Int} (hx:I12 x p) (hy:I12 y q) (hz:I12 z r) (p1:-3000≤p) (p2:p≤3000) (q1:-3000≤q) (q2:q≤3000) (r1:1700≤r) (r2:r≤7950) {D:Rat} (hD:D=((p * p + q * q + r * r:Int):Rat) / 16777216) (hD2:D≤44 / 10) :
  ∃ N,Vl .f32 (lenW x y z) N∧0≤N∧D - 24 / 10000000≤N * N∧N * N≤D + 24 / 10000000∧4 / 10≤N∧N≤211 / 100:=by
 have bp:=X7x p1 p2
 have bq:=X7x q1 q2
 have br:=X7x r1 r2
 have c1:((-3000:Int):Rat) / 4096=-3000 / 4096:=by decide +kernel
 have c2:((3000:Int):Rat) / 4096=3000 / 4096:=by decide +kernel
 have c3:((1700:Int):Rat) / 4096=1700 / 4096:=by decide +kernel
 have c4:((7950:Int):Rat) / 4096=7950 / 4096:=by decide +kernel
 rw [c1,c2] at bp bq
 rw [c3,c4] at br
 have s1:rq (-805306368)=-(3 / 4):=by unfold rq;decide +kernel
 have s2:rq 805306368=3 / 4:=by unfold rq;decide +kernel
 have s3:rq 429496729≤4 / 10:=by unfold rq;decide +kernel
 have s4:rq 2147483648=2:=by unfold rq;decide +kernel
 have s5:rq 800≤8 / 10000000:=by unfold rq;decide +kernel
 have H:=at3 (b0:=⟨-805306368,805306368,0⟩) (b1:=⟨-805306368,805306368,0⟩) (b2:=⟨429496729,2147483648,0⟩) hx (by simp only;grind) hy (by simp only;grind) hz (by simp only;grind)
 obtain ⟨a,V,N,M⟩:=X4e H Xaq
 have hV:Vl .f32 (sqs x y z) a:=V
 have e1:sqsE.xv (sel3 ((p:Rat) / 4096) ((q:Rat) / 4096) ((r:Rat) / 4096))=(p:Rat) / 4096 * ((p:Rat) / 4096) + (q:Rat) / 4096 * ((q:Rat) / 4096) + (r:Rat) / 4096 * ((r:Rat) / 4096):=rfl
 have e2:D=(p:Rat) / 4096 * ((p:Rat) / 4096) + (q:Rat) / 4096 * ((q:Rat) / 4096) + (r:Rat) / 4096 * ((r:Rat) / 4096):=by
  rw [hD,Rat.intCast_add,Rat.intCast_add,Rat.intCast_mul,Rat.intCast_mul,Rat.intCast_mul];grind
 rw [e1,← e2] at N
 have rr:=Xw (a:=1700 / 4096) (b:=(r:Rat) / 4096) (by decide +kernel) br.1
 have pp:=X33 ((p:Rat) / 4096)
 have qq:=X33 ((q:Rat) / 4096)
 have e3:(1700 / 4096:Rat) * (1700 / 4096) ≥ 17 / 100:=by decide +kernel
 unfold Nr at N
 obtain ⟨l,W,l0,_,l1,l2⟩:=X5O hV (by grind) (by grind)
 refine ⟨l,W,l0,by grind,by grind,?_,?_⟩
 ·refine XR l0 ?_;grind
 ·refine XR (by decide +kernel) ?_;grind
def filW (F N:Nat):Nat:=fop .mul .f32 F (fop .mul .f32 X35 N)
def filE:FE := .mul (.var 1) (.mul (.lit 1056964608 536870912) (.var 0))
def filB:Nat→Bd:=sel3 ⟨429496729,2362232012,0⟩ ⟨0,2147483648,0⟩ ⟨0,0,0⟩
theorem Xas:bdE filE filB 1000 2469606195=true:=by decide +kernel
theorem X3I:Vl .f32 0 0:=by unfold Vl;decide +kernel
theorem X4C {Nw Fw:Nat} {N F:Rat} (hN:Vl .f32 Nw N) (n0:4 / 10≤N) (n1:N≤211 / 100) (hF:Vl .f32 Fw F) (f0:0≤F) (f1:F≤2) :
  ∃ q,Vl .f32 (filW Fw Nw) q∧Nr q (F / 2 * N) (1 / 1000000)∧0≤q∧q≤24 / 10:=by
 have r1:rq 429496729≤4 / 10:=by unfold rq;decide +kernel
 have r2:211 / 100≤rq 2362232012:=by unfold rq;decide +kernel
 have r3:rq 536870912=1 / 2:=by unfold rq;decide +kernel
 have r4:rq 0=0:=by unfold rq;decide +kernel
 have r5:rq 2147483648=2:=by unfold rq;decide +kernel
 have r6:rq 1000≤1 / 1000000:=by unfold rq;decide +kernel
 have r7:rq 2469606195≤231 / 100:=by unfold rq;decide +kernel
 have H:=at3 (b0:=⟨429496729,2362232012,0⟩) (b1:=⟨0,2147483648,0⟩) (b2:=⟨0,0,0⟩) hN (by simp only;grind) hF (by simp only;grind) X3I (by simp only;grind)
 obtain ⟨q,V,G,M⟩:=X4e H Xas
 have hV:Vl .f32 (filW Fw Nw) q:=V
 have hx:filE.xv (sel3 N F 0)=F * (rq 536870912 * N):=rfl
 rw [hx,r3] at G M
 unfold Nr Ab at *
 have e0:F * (1 / 2 * N)=F / 2 * N:=by grind
 rw [e0] at G M
 have hq:0≤q:=by
  obtain ⟨h,Vh,-⟩:=mulV X41 hN (B:=10) (by grind) (by grind) (by decide +kernel)
  have p1:=X32 X41 hN (by grind) Vh
  exact X32 hF Vh (Rat.mul_nonneg f0 p1) hV
 exact ⟨q,hV,by grind,hq,by grind⟩
def frcW (F N:Nat):Nat:=fop .quo .f32 (fneg .f32 (fop .mul .f32 X35 F)) N
theorem X9M {Nw Fw:Nat} {N F:Rat} (hN:Vl .f32 Nw N) (n0:4 / 10≤N) (n1:N≤211 / 100) (hF:Vl .f32 Fw F) (f0:0≤F) (f1:F≤2) :
  ∃ f,Vl .f32 (frcW Fw Nw) f∧Nr (f * N) (-(F / 2)) (3 / 1000000)∧Ab f (26 / 10):=by
 have t:=X2a .f32
 have u:uK .f32=1 / 16777216:=rfl
 obtain ⟨h,Vh,Nh⟩:=mulV X41 hF (B:=1) (by grind) (by grind) (by decide +kernel)
 rw [u] at Nh
 unfold Nr at Nh
 have hV:=negV Vh
 have hi:N * N⁻¹=1:=Rat.mul_inv_cancel _ (by grind)
 have hw:-h * N⁻¹ * N=-h:=by grind
 have hb:Ab (-h * N⁻¹) (251 / 100):=by
  unfold Ab
  constructor
  ·refine Rat.not_lt.1 fun h => ?_
   have:=Rat.mul_lt_mul_of_pos_right h (show 0 < N by grind)
   rw [hw] at this
   grind
  ·refine Rat.not_lt.1 fun h => ?_
   have:=Rat.mul_lt_mul_of_pos_right h (show 0 < N by grind)
   rw [hw] at this
   grind
 unfold Ab at hb
 obtain ⟨g,W,G⟩:=quoV hV hN (by grind) hw (B:=251 / 100) hb.1 hb.2 (by decide +kernel)
 rw [u] at G
 unfold Nr at G
 have gl:g * N=-h * N⁻¹ * N + (g - -h * N⁻¹) * N:=by grind
 rw [hw] at gl
 have gb:Ab ((g - -h * N⁻¹) * N) (6 / 10000000 * (211 / 100)):=Xx (by unfold Ab;grind) (by unfold Ab;grind)
 unfold Ab at gb
 exact ⟨g,W,by unfold Nr;grind,by unfold Ab;grind⟩
theorem X9m {F N lp lm D k c f:Rat} (f0:0≤F) (f1:F≤2) (hN:0≤N) (d0:1 / 4≤D) (d1:D≤44 / 10)
  (n1:D - 24 / 10000000≤N * N) (n2:N * N≤D + 24 / 10000000) (p0:0≤lp) (p1:D + 2 * k + c - 24 / 10000000≤lp * lp) (p2:lp * lp≤D + 2 * k + c + 24 / 10000000)
  (m0:0≤lm) (m1:D - 2 * k + c - 24 / 10000000≤lm * lm) (m2:lm * lm≤D - 2 * k + c + 24 / 10000000) (hk:k * k≤1769 / 64000 * (1769 / 64000) * D) (c0:0≤c) (c1:c≤1769 / 64000 * (1769 / 64000)) (hg:Nr (f * N) (-(F / 2)) (3 / 1000000)) :
  Ab (F / 2 * lp - F / 2 * lm + 2 * f * k) (16 / 100000):=by
 have hNl:49 / 100≤N:=by
  refine XR hN ?_
  grind
 have hNu:N≤211 / 100:=by
  refine XR (by decide +kernel) ?_
  grind
 have M:=mid (N:=N) (lp:=lp) (lm:=lm) (D:=D) (k:=k) (c:=c) (η:=24 / 10000000) (κ:=1769 / 64000) (by grind) (by decide +kernel) (by decide +kernel) (by decide +kernel) (by decide +kernel) (by grind) (by grind) p0 p1 p2 m0 m1 m2 hk c0 c1
 have k0:=md0 (k:=k) (κ:=1769 / 64000) (N:=N) (η:=24 / 10000000) (by decide +kernel) (by grind) (by decide +kernel) (by decide +kernel) D (by grind) hk
 have hNN2:4999 / 10000 * (4999 / 10000)≤N * N:=by grind
 generalize hX:F / 2 * lp - F / 2 * lm + 2 * f * k=X
 have key:X * (N * N)=F / 2 * ((N * (lp - lm) - 2 * k) * N) + 2 * (k * N * (f * N - -(F / 2))):=by rw [← hX];grind
 have e3:=Xx (x:=F / 2) (A:=1) (by unfold Ab;grind) M
 have e4:Ab (k * N * (f * N - -(F / 2))) (1769 / 64000 * (211 / 100) * (100001 / 100000) * (211 / 100) * (3 / 1000000)):=by
  refine Xx (Xx ?_ ?_) ?_
  ·unfold Ab at *;grind
  ·unfold Ab;grind
  ·unfold Ab;unfold Nr at hg;grind
 have hXN:Ab (X * (N * N)) (37 / 1000000):=by
  rw [key]
  unfold Ab at *
  grind
 have:=X40 hXN (show (0:Rat)≤4999 / 10000 * (4999 / 10000) by decide +kernel) hNN2
 unfold Ab at *
 grind
theorem X7y {x y:Nat} {a b:Rat} {n:Int} {s:Nat} (hx:Vl .f32 x a) (hy:Vl .f32 y b) (h:a * b * (2:Rat)^(s:Int)=(n:Rat)) (h1:-16777216 < n) (h2:n < 16777216) (hs:s≤140):Vl .f32 (fop .mul .f32 x y) (a * b):=mulX hx hy (X34 h h1 h2 hs)
theorem X2L {x y:Nat} {a b A B:Rat} (hx:Vl .f32 x a) (hy:Vl .f32 y b) (ha:Ab a A) (hb:Ab b B) (h:A * B≤14):Wn (fop .mul .f32 x y) (a * b) (1 / 1000000) (A * B + 1 / 1000000):=by
 have t:=X2a .f32
 have u:uK .f32=1 / 16777216:=rfl
 have m:=Xx ha hb
 unfold Ab at m
 obtain ⟨q,V,N⟩:=mulV hx hy (B:=14) (by grind) (by grind) (by decide +kernel)
 rw [u] at N
 unfold Nr at N
 exact ⟨q,V,by unfold Nr;grind,by grind,by grind⟩
theorem XaO {x y z:Nat} {a b c D:Rat} (hx:Vl .f32 x a) (hy:Vl .f32 y b) (hz:Vl .f32 z c) (ha:Ab a (1 / 180)) (hb:Ab b (1 / 180)) (hc:Ab c (1 / 180)) :
  ∃ l,Vl .f32 (lenW x y z) l∧l≤98 / 10000:=by
 have t:=X2a .f32
 have u:uK .f32=1 / 16777216:=rfl
 have tp:(1:Rat) < (2:Rat)^(topE .f32):=by decide +kernel
 have na:=X33 a
 have nb:=X33 b
 have nc:=X33 c
 have sa:=(Xx ha ha).2
 have sb:=(Xx hb hb).2
 have sc:=(Xx hc hc).2
 have e1:(1 / 180:Rat) * (1 / 180)=1 / 32400:=by decide +kernel
 rw [e1] at sa sb sc
 obtain ⟨qa,Va,Na⟩:=mulV hx hx (B:=1 / 32400) (by grind) sa (by grind)
 obtain ⟨qb,Vb,Nb⟩:=mulV hy hy (B:=1 / 32400) (by grind) sb (by grind)
 obtain ⟨qc,Vc,Nc⟩:=mulV hz hz (B:=1 / 32400) (by grind) sc (by grind)
 have pa:=X32 hx hx na Va
 have pb:=X32 hy hy nb Vb
 have pc:=X32 hz hz nc Vc
 unfold Nr at Na Nb Nc
 rw [u] at Na Nb Nc
 obtain ⟨qd,Vd,Nd⟩:=addV Va Vb (B:=1 / 1000) (by grind) (by grind) (by grind)
 have pd:=X8M Va Vb (by grind) Vd
 unfold Nr at Nd
 rw [u] at Nd
 obtain ⟨qe,Ve,Ne⟩:=addV Vd Vc (B:=1 / 1000) (by grind) (by grind) (by grind)
 have pe:=X8M Vd Vc (by grind) Ve
 unfold Nr at Ne
 rw [u] at Ne
 have hV:Vl .f32 (sqs x y z) qe:=Ve
 obtain ⟨Q,W,q0,q1,q2⟩:=X9V hV pe (by grind)
 refine ⟨Q,W,?_⟩
 have t0:=X7s
 have t1:tR≤1 / 1000000000000000000000000000000:=by decide +kernel
 refine Rat.not_lt.1 fun hl => ?_
 have q1:=q1 (by grind)
 have:=Xw (a:=97 / 10000) (b:=Q - tR) (by decide +kernel) (by grind)
 have e2:(97 / 10000:Rat) * (97 / 10000)=9409 / 100000000:=by decide +kernel
 grind
end Go.Ab

set_option linter.unusedVariables false
set_option linter.unusedSimpArgs false
namespace Go.Ab
open Ieee
end Go.Ab

set_option linter.unusedVariables false
set_option linter.unusedSimpArgs false
namespace Go.Ab
open Ieee
def Gr (s:Nat) (q:Rat):Prop:=∃ n:Int,q * (2:Rat)^(s:Int)=(n:Rat)
theorem Gr.mono {s t:Nat} {q:Rat} (h:Gr s q) (hst:s≤t):Gr t q:=by
 obtain ⟨n,hn⟩:=h
 refine ⟨n * ((2 ^ (t - s):Nat):Int),?_⟩
 rw [show (t:Int)=(s:Int) + ((t - s:Nat):Int) from by omega,Xf,X19 (t - s),← Rat.mul_assoc,hn,Rat.intCast_mul,Rat.intCast_natCast]
theorem Gr.add {s:Nat} {a b:Rat} (h:Gr s a) (k:Gr s b):Gr s (a + b):=by
 obtain ⟨n,hn⟩:=h
 obtain ⟨m,hm⟩:=k
 exact ⟨n + m,by rw [Rat.intCast_add,← hn,← hm];grind⟩
theorem Gr.sub {s:Nat} {a b:Rat} (h:Gr s a) (k:Gr s b):Gr s (a - b):=by
 obtain ⟨n,hn⟩:=h
 obtain ⟨m,hm⟩:=k
 exact ⟨n - m,by rw [Rat.intCast_sub,← hn,← hm];grind⟩
theorem Gr.mul {s t:Nat} {a b:Rat} (h:Gr s a) (k:Gr t b):Gr (s + t) (a * b):=by
 obtain ⟨n,hn⟩:=h
 obtain ⟨m,hm⟩:=k
 refine ⟨n * m,?_⟩
 rw [Rat.intCast_mul,← hn,← hm,show ((s + t:Nat):Int)=(s:Int) + (t:Int) from rfl,Xf]
 grind
theorem Ok.bd {w:Nat} {v:Rat} {b:Bd} {q:Rat} (h:Ok w v b) (hq:Vl .f32 w q) (hM:mx b + b.e≤top):-1000000≤q∧q≤1000000:=by
 obtain ⟨e1,a1,a2,q1,V1,N1⟩:=h
 have:=XaN hq V1
 subst this
 have m:=X31 a1 a2
 have t:=X3Z hM
 rw [Xn] at t
 unfold Nr at N1
 grind
end Go.Ab

set_option linter.unusedVariables false
set_option linter.unusedSimpArgs false
namespace Go.Ab
open Ieee
theorem X8O (k:FloatKind) (s:Bool) (e:Int):k.format.write (.number s 0 e)=k.format.word s 0:=by
 show k.format.nearest s 0 e=_
 unfold Format.nearest
 rw [if_pos rfl]
theorem X7z {w z:Nat} {q:Rat} (hw:Vl .f32 w q) (hz:z=0∨z=2147483648):fop .mul .f32 z w=0∨fop .mul .f32 z w=2147483648:=by
 have h':vl (single.read w)=some q:=hw
 rw [X3E]
 have hr:∃ s,FloatKind.f32.format.read z = .number s 0 (-149):=by
  rcases hz with rfl | rfl
  ·exact ⟨false,by decide +kernel⟩
  ·exact ⟨true,by decide +kernel⟩
 obtain ⟨s,hr⟩:=hr
 rw [hr]
 cases hd:single.read w with
 | nan a b=>rw [hd] at h';simp [vl] at h'
 | infinity a=>rw [hd] at h';simp [vl] at h'
 | number t m e =>
  have hd':FloatKind.f32.format.read w = .number t m e:=hd
  rw [hd']
  have e1:(Datum.number s 0 (-149)).product (.number t m e)=some (.number (s ^^ t) (0 * m) (-149 + e)):=rfl
  rw [e1,Nat.zero_mul,Option.map_some,Option.getD_some,X8O]
  cases (s ^^ t)
  ·left;decide +kernel
  ·right;decide +kernel
theorem XaP {z:Nat} (hz:z=0∨z=2147483648):fop .add .f32 0 z=0:=by
 rcases hz with rfl | rfl<;>decide +kernel
theorem XaQ {z:Nat} (hz:z=0∨z=2147483648):fneg .f32 z=0∨fneg .f32 z=2147483648:=by
 rcases hz with rfl | rfl
 ·right;decide +kernel
 ·left;decide +kernel
end Go.Ab

set_option linter.unusedVariables false
set_option linter.unusedSimpArgs false
namespace Go.Ab
open Ieee
def vW (w:Nat):Rat:=(vl (single.read w)).getD 0
theorem XB {w:Nat} {q:Rat} (h:Vl .f32 w q):vW w=q:=by
 have h':vl (single.read w)=some q:=h
 unfold vW;rw [h'];rfl
def Fw (w:Nat) (B:Rat):Prop:=Vl .f32 w (vW w)∧Ab (vW w) B
theorem X36 {w:Nat} {q B:Rat} (h:Vl .f32 w q) (hb:Ab q B):Fw w B:=by unfold Fw;rw [XB h];exact ⟨h,hb⟩
theorem X3l {α:Type} {f:α→Nat} {B S:Rat} (hB:0≤B) (h1S:1≤S) (hS:S≤1000000) {l:List α} (hl:∀ a∈l,Fw (f a) B) (hP:(l.length:Rat) * (B + S / 16000000)≤S) :
  ∃ q,Vl .f32 (l.foldl (fun w a=>fop .add .f32 w (f a)) 0) q∧Ab (q - rsum (fun a=>vW (f a)) l) ((l.length:Rat) * (S / 16000000))∧Ab q S∧((∀ a∈l,0≤vW (f a))→0≤q):=by
 obtain ⟨q,V,N,b1,b2,b3⟩:=X5N (f:=f) (g:=fun a=>vW (f a)) (d:=0) (by decide +kernel) hB h1S hS l 0 0 0 X3I (by decide +kernel) (by decide +kernel) (by grind) (fun a ha=>by
  have h:=hl a ha
  unfold Fw Ab at h
  exact ⟨_,h.1,by unfold Nr;grind,h.2⟩)
 refine ⟨q,V,?_,⟨b1,b2⟩,fun h=>b3 ⟨Rat.le_refl,fun a ha v hv=>by rw [← XB hv];exact h a ha⟩⟩
 unfold Nr at N;unfold Ab;grind
theorem X4D {α:Type} {g:α→Rat} {p:α→Bool} {ε:Rat}:∀ {l:List α},(∀ a∈l,p a=true→Ab (g a) ε)→(∀ a∈l,p a=false→g a=0)→Ab (rsum g l) (((l.filter p).length:Rat) * ε)
 | [],_,_=>by
  rw [Xe]
  show -(((0:Nat):Rat) * ε)≤0∧0≤((0:Nat):Rat) * ε
  have:((0:Nat):Rat)=0:=rfl
  rw [this];grind
 | a :: l,h,h0=>by
  have h2:=X4D (l:=l) (fun b hb=>h b (List.mem_cons_of_mem _ hb)) (fun b hb=>h0 b (List.mem_cons_of_mem _ hb))
  rw [X3,List.filter_cons]
  cases hp:p a with
  | true =>
   have h1:=h a List.mem_cons_self hp
   rw [if_pos rfl,List.length_cons,Rat.natCast_add]
   have:((1:Nat):Rat)=1:=rfl
   rw [this];unfold Ab at *;grind
  | false =>
   rw [h0 a List.mem_cons_self hp,if_neg (by decide)]
   unfold Ab at *;grind
theorem X37 {α β:Type} (g:β→Rat) (h:α→List β) (p:β→Bool):∀ l:List α,rsum g ((l.flatMap h).filter p)=rsum (fun a=>rsum g ((h a).filter p)) l
 | []=>rfl
 | a :: l=>by rw [List.flatMap_cons,List.filter_append,X11,X3,X37 g h p l]
theorem X5P {β:Type} (g:β→Rat) (p:β→Bool):∀ l:List β,rsum g (l.filter p)=rsum (fun a=>if p a=true then g a else 0) l
 | []=>rfl
 | a :: l=>by
  rw [List.filter_cons,X3,← X5P g p l]
  cases hp:p a with
  | true=>rw [if_pos rfl,if_pos rfl,X3]
  | false=>rw [if_neg (by decide),if_neg (by decide)];grind
theorem X3m (k:Nat) (c:Rat):∀ n:Nat,rsum (fun i=>if (k == i)=true then c else 0) (List.range n)=if k < n then c else 0
 | 0=>rfl
 | n + 1=>by
  rw [List.range_succ,X11,X3m k c n,X3,Xe]
  by_cases h:k=n
  ·subst h;rw [if_neg (by omega),if_pos (by simp),if_pos (by omega)];grind
  ·have hf:¬(k == n)=true:=by simp [h]
   rw [if_neg hf]
   by_cases h2:k < n
   ·rw [if_pos h2,if_pos (by omega)];grind
   ·rw [if_neg h2,if_neg (by omega)];grind
theorem X5Q {V:Type} (g:Nat × V→Rat) (n:Nat):∀ ps:List (Nat × V),(∀ p∈ps,p.1 < n)→rsum (fun i=>rsum g (ps.filter fun p=>p.1 == i)) (List.range n)=rsum g ps
 | [],_=>by
  have:∀ l:List Nat,rsum (fun i=>rsum g (([]:List (Nat × V)).filter fun p=>p.1 == i)) l=0:=by
   intro l
   induction l with
   | nil=>rfl
   | cons a l ih=>rw [X3,ih];show (0:Rat) + 0=0;decide +kernel
  rw [this];rfl
 | p :: ps,h=>by
  have h1:=X5Q g n ps fun q hq=>h q (List.mem_cons_of_mem _ hq)
  have h2:=X3m p.1 (g p) n
  rw [if_pos (h p List.mem_cons_self)] at h2
  rw [X3,← h1,← h2,← X4A]
  refine X3G fun i _ => ?_
  rw [List.filter_cons]
  cases hp:p.1 == i with
  | true=>rw [if_pos rfl,if_pos rfl,X3]
  | false=>rw [if_neg (by decide),if_neg (by decide)];grind
theorem X7A {V:Type} [Inhabited V] (add:V→V→V) (i:Nat):∀ (ps:List (Nat × V)) (o:List V),i < o.length→(ps.foldl (fun o p=>o.set p.1 (add (o.getD p.1 default) p.2)) o).getD i default=((ps.filter fun p=>p.1 == i).map fun p=>p.2).foldl add (o.getD i default)
 | [],o,h=>rfl
 | p :: ps,o,h=>by
  rw [List.foldl_cons,X7A add i ps _ (by rw [List.length_set];exact h),List.filter_cons]
  by_cases hp:p.1=i
  ·have hb:(p.1 == i)=true:=by simp [hp]
   rw [hb,if_pos rfl,List.map_cons,List.foldl_cons,← hp,List.getD_eq_getElem?_getD,List.getElem?_set_self (by omega)]
   rfl
  ·have hb:(p.1 == i)=false:=by simp [hp]
   rw [hb,if_neg (by decide),List.getD_eq_getElem?_getD,List.getElem?_set_ne hp,← List.getD_eq_getElem?_getD]
theorem X42 {V:Type} (add:V→V→V) (c:V→Nat) (hc:∀ a b,c (add a b)=fop .add .f32 (c a) (c b)):∀ (l:List V) (a:V),c (l.foldl add a)=l.foldl (fun w v=>fop .add .f32 w (c v)) (c a)
 | [],a=>rfl
 | v :: l,a=>by rw [List.foldl_cons,List.foldl_cons,X42 add c hc l,hc]
theorem X9n {V:Type} [Inhabited V] (add:V→V→V) (c:V→Nat) (hc:∀ a b,c (add a b)=fop .add .f32 (c a) (c b)) {ps:List (Nat × V)} {o:List V} {i:Nat} {B S:Rat} (hi:i < o.length) (h0:c (o.getD i default)=0)
  (hB:0≤B) (h1S:1≤S) (hS:S≤1000000) (hl:∀ p∈ps,Fw (c p.2) B) (hP:(((ps.filter fun p=>p.1 == i).length:Nat):Rat) * (B + S / 16000000)≤S) :
  ∃ q,Vl .f32 (c ((ps.foldl (fun o p=>o.set p.1 (add (o.getD p.1 default) p.2)) o).getD i default)) q∧Ab (q - rsum (fun p=>vW (c p.2)) (ps.filter fun p=>p.1 == i)) ((((ps.filter fun p=>p.1 == i).length:Nat):Rat) * (S / 16000000))∧Ab q S:=by
 rw [X7A add i ps o hi,X42 add c hc,h0,List.foldl_map]
 obtain ⟨q,V,N,M,-⟩:=X3l (f:=fun p:Nat × V=>c p.2) hB h1S hS (l:=ps.filter fun p=>p.1 == i) (fun p hp=>hl p (List.mem_filter.1 hp).1) hP
 exact ⟨q,V,N,M⟩
theorem X9o (w:Nat):(w ^^^ 9223372036854775808) % 9223372036854775808=w % 9223372036854775808∧(w ^^^ 9223372036854775808) / 9223372036854775808 % 2=1 - w / 9223372036854775808 % 2:=by
 have e:(9223372036854775808:Nat)=2 ^ 63:=by decide
 rw [e]
 refine ⟨by rw [Nat.xor_mod_two_pow,Nat.mod_self,Nat.xor_zero],?_⟩
 rw [← Nat.shiftRight_eq_div_pow,Nat.shiftRight_xor_distrib,Nat.shiftRight_eq_div_pow,Nat.shiftRight_eq_div_pow,Nat.div_self (by decide)]
 have h:=Nat.xor_mod_two_pow (a:=w / 2 ^ 63) (b:=1) (n:=1)
 have e1:2 ^ 1=2:=rfl
 rw [e1] at h
 rw [h]
 rcases Nat.mod_two_eq_zero_or_one (w / 2 ^ 63) with h | h<;>rw [h]<;>decide
theorem XaR {w:Nat} {a:Rat} (h:Vl .f64 w a):Vl .f64 (fneg .f64 w) (-a):=by
 have hx:=X9o w
 have e1:Op.negFloat .f64 w=w ^^^ 9223372036854775808:=rfl
 have key:∃ s m e,FloatKind.f64.format.read w = .number s m e∧FloatKind.f64.format.read (w ^^^ 9223372036854775808) = .number (!s) m e:=by
  have e2:FloatKind.f64.format.signWeight=9223372036854775808:=by decide +kernel
  unfold Vl Format.read at h
  unfold Format.read
  simp only [e2] at h ⊢
  rw [hx.1,hx.2]
  have hs:(1 - w / 9223372036854775808 % 2 == 1)=!(w / 9223372036854775808 % 2 == 1):=by
   rcases Nat.mod_two_eq_zero_or_one (w / 9223372036854775808) with h | h<;>rw [h]<;>decide
  rw [hs]
  split at h
  ·rename_i c;rw [if_pos c,if_pos c];exact ⟨_,_,_,rfl,rfl⟩
  ·rename_i c
   rw [if_neg c,if_neg c]
   split at h
   ·rename_i c;rw [if_pos c,if_pos c];exact ⟨_,_,_,rfl,rfl⟩
   ·split at h<;>simp [vl] at h
 obtain ⟨s,m,e,r1,r2⟩:=key
 have e3:fneg .f64 w=w ^^^ 9223372036854775808:=by
  unfold fneg
  rw [e1]
  refine XJ ?_
  unfold Xm FloatKind.decode
  rw [r2];rfl
 unfold Vl at *
 rw [r1] at h
 rw [e3,r2]
 simp only [vl,Option.some.injEq] at h ⊢
 rw [← h]
 cases s
 ·show -1 * ((m:Rat) * (2:Rat)^e)=-(1 * ((m:Rat) * (2:Rat)^e));grind
 ·show 1 * ((m:Rat) * (2:Rat)^e)=-(-1 * ((m:Rat) * (2:Rat)^e));grind
end Go.Ab

set_option linter.unusedVariables false
set_option linter.unusedSimpArgs false
namespace Go.Ab
open Ieee
end Go.Ab

set_option linter.unusedVariables false
set_option linter.unusedSimpArgs false
namespace Go.Ab
open Ieee
def gapW (a b:Nat):Nat:=cond (fcmp .lss .f64 a b) (fop .sub .f64 b a) (fop .sub .f64 a b)
theorem X9N {a b:Nat} {p q e:Rat} (ha:Vl .f64 a p) (hb:Vl .f64 b q) (h:Ab (p - q) e) (he:e≤1000):∃ g,Vl .f64 (gapW a b) g∧g≤e + 1 / 1000000:=by
 have u:uK .f64=1 / 9007199254740992:=rfl
 have t:=X2a .f64
 have tp:(1000:Rat) < (2:Rat)^(topE .f64):=by decide +kernel
 unfold Ab at h
 unfold gapW
 cases fcmp .lss .f64 a b with
 | true =>
  rw [cond_true]
  obtain ⟨g,V,N⟩:=subV hb ha (B:=1000) (by grind) (by grind) (by grind)
  unfold Nr at N;rw [u] at N
  exact ⟨g,V,by grind⟩
 | false =>
  rw [cond_false]
  obtain ⟨g,V,N⟩:=subV ha hb (B:=1000) (by grind) (by grind) (by grind)
  unfold Nr at N;rw [u] at N
  exact ⟨g,V,by grind⟩
end Go.Ab
