/- Bounds on the sizes of floats. -/
import Derived.Test.YtpndflbllggeiaaGreatA21
set_option linter.unusedVariables false
set_option linter.unusedSimpArgs false
namespace Go.Ab
open Go.RowKit Ieee
def X11 (d:Datum) (S:Int):Prop:=∀ s m e,d = .number s m e→m=0∨e + (m.log2:Int)≤S
theorem X7U (neg:Bool) (n drop:Nat):Toward.even.cut neg n drop≤n / 2 ^ drop + 1:=by
 have hb:∀ b:Bool,b.toNat≤1:=by intro b;cases b<;>decide
 unfold Toward.cut
 simp only [Nat.shiftLeft_eq,Nat.one_mul]
 rcases Nat.le_total drop (n.log2 + 2) with h | h
 ·rw [Nat.min_eq_left h]
  exact Nat.add_le_add_left (hb _) _
 ·rw [Nat.min_eq_right h]
  have:n / 2 ^ (n.log2 + 2)=0:=Nat.div_eq_of_lt (Nat.lt_trans Nat.lt_log2_self (Nat.pow_lt_pow_right (by omega) (by omega)))
  rw [this]
  exact Nat.add_le_add (Nat.zero_le _) (hb _)
theorem X4r (f:Format) (neg:Bool) (m:Nat) (e S:Int) (h0:m≠0) (hS:e + (m.log2:Int)≤S) (hl:f.leastPlace≤S - f.fractionBits) :
  ∃ r,r≤(S - f.fractionBits - f.leastPlace).toNat * 2 ^ f.fractionBits + 2 ^ (f.fractionBits + 1) + 1∧r≤f.infRung∧f.nearest neg m e=f.word neg r:=by
 unfold Format.nearest
 rw [if_neg h0]
 refine ⟨_,?_,Nat.min_le_right _ _,rfl⟩
 refine Nat.le_trans (Nat.min_le_left _ _) ?_
 generalize hlast:max (e + (m.log2:Int) - (f.fractionBits:Int)) f.leastPlace=last
 have h1:last≤S - f.fractionBits:=by omega
 have h2:e + (m.log2:Int) - f.fractionBits≤last:=by omega
 have hkept:Toward.even.cut neg (m <<< (e - last).toNat) (last - e).toNat≤2 ^ (f.fractionBits + 1) + 1:=by
  refine Nat.le_trans (X7U _ _ _) (Nat.add_le_add_right ?_ 1)
  have hm:m < 2 ^ (m.log2 + 1):=Nat.lt_log2_self
  refine Nat.le_of_lt (Nat.div_lt_of_lt_mul ?_)
  rw [Nat.shiftLeft_eq,← Nat.pow_add]
  refine Nat.lt_of_lt_of_le (Nat.mul_lt_mul_of_pos_right hm (Nat.two_pow_pos _)) ?_
  rw [← Nat.pow_add]
  exact Nat.pow_le_pow_right (by omega) (by omega)
 have hb:f.binade=2 ^ f.fractionBits:=rfl
 rw [hb,Nat.add_assoc]
 refine Nat.add_le_add (Nat.mul_le_mul_right _ ?_) hkept
 omega
theorem X4s (f:Format) (neg:Bool) {r:Nat} (hr:r < f.signWeight):(f.word neg r) % f.signWeight=r:=by
 unfold Format.word
 split
 ·rw [Nat.add_mod_left];exact Nat.mod_eq_of_lt hr
 ·exact Nat.mod_eq_of_lt hr
theorem X5x {S:Int} (neg:Bool) (m:Nat) (e:Int) (h:m=0∨e + (m.log2:Int)≤S) (hl:-1022≤S):X11 (double.read (double.nearest neg m e)) (S + 1):=by
 have hp:double.leastPlace=-1074:=by decide +kernel
 have hb:double.binade=4503599627370496:=by decide +kernel
 have hw:double.infRung < double.signWeight:=by decide +kernel
 have key:∃ r:Nat,(r:Int)≤(S + 1022) * 4503599627370496 + 9007199254740993∧r≤double.infRung∧double.nearest neg m e=double.word neg r:=by
  by_cases h0:m=0
  ·refine ⟨0,?_,Nat.zero_le _,by unfold Format.nearest;rw [if_pos h0]⟩
   have:0≤(S + 1022) * 4503599627370496:=Int.mul_nonneg (by omega) (by omega)
   omega
  ·have hfb:double.fractionBits=52:=rfl
   obtain ⟨r,h1,h2,h3⟩:=X4r double neg m e S h0 (h.resolve_left h0) (by rw [hp,hfb];omega)
   refine ⟨r,?_,h2,h3⟩
   rw [hp,hfb] at h1
   have e1:(S - 52 - -1074).toNat=(S + 1022).toNat:=by congr 1;omega
   rw [show ((52:Nat):Int)=52 from rfl,e1] at h1
   have e2:((S + 1022).toNat:Int)=S + 1022:=Int.toNat_of_nonneg (by omega)
   have e3:((r:Nat):Int)≤(((S + 1022).toNat * 2 ^ 52 + 2 ^ (52 + 1) + 1:Nat):Int):=Int.ofNat_le.2 h1
   rw [Int.natCast_add,Int.natCast_add,Int.natCast_mul,e2] at e3
   have e4:((2 ^ 52:Nat):Int)=4503599627370496:=by decide +kernel
   have e5:((2 ^ (52 + 1):Nat):Int)=9007199254740992:=by decide +kernel
   rw [e4,e5] at e3
   omega
 obtain ⟨r,h1,h2,h3⟩:=key
 intro s m' e' hd
 rw [h3] at hd
 unfold Format.read at hd
 simp only [X4s double neg (Nat.lt_of_le_of_lt h2 hw),hb,hp] at hd
 split at hd
 ·rename_i hlt
  cases hd
  by_cases hr:r=0
  ·exact .inl hr
  ·right
   have:r.log2 < 52:=(Nat.log2_lt hr).2 hlt
   omega
 ·split at hd
  ·rename_i hge hlt
   cases hd
   right
   have hm:4503599627370496 + r % 4503599627370496 < 2 ^ 53:=by
    have:r % 4503599627370496 < 4503599627370496:=Nat.mod_lt _ (by omega)
    simp only [Nat.reducePow];omega
   have hlog:(4503599627370496 + r % 4503599627370496).log2 < 53:=(Nat.log2_lt (by omega)).2 hm
   have hq:r / 4503599627370496 * 4503599627370496≤r:=Nat.div_mul_le_self _ _
   have hq1:1≤r / 4503599627370496:=by omega
   have:((r / 4503599627370496:Nat):Int)≤S + 1024:=by omega
   omega
  ·split at hd<;>cases hd
theorem X7h {x:Nat} {S:Int} (h:X11 (FloatKind.f64.decode x) S) (hS:S≤120):X1s .f64 .f32 x=true:=by
 unfold X1s
 simp only [Bool.or_eq_true]
 right
 split
 ·rename_i neg m e hx
  have hm:=h neg m e hx
  have hp:single.leastPlace=-149:=by decide +kernel
  have hb:single.binade=8388608:=by decide +kernel
  have hi:single.infRung=255 * 8388608:=by decide +kernel
  have hw:single.infRung < single.signWeight:=by decide +kernel
  have key:∃ r:Nat,r < single.infRung∧single.nearest neg m e=single.word neg r:=by
   by_cases h0:m=0
   ·exact ⟨0,by decide +kernel,by unfold Format.nearest;rw [if_pos h0]⟩
   ·have hfb:single.fractionBits=23:=rfl
    obtain ⟨r,h1,h2,h3⟩:=X4r single neg m e 120 h0 (by have:=hm.resolve_left h0;omega) (by rw [hp,hfb];omega)
    refine ⟨r,?_,h3⟩
    rw [hp,hfb] at h1
    rw [hi]
    have e1:((120:Int) - ((23:Nat):Int) - -149).toNat=246:=by decide
    rw [e1] at h1
    simp only [Nat.reducePow,Nat.reduceMul,Nat.reduceAdd] at h1
    omega
  obtain ⟨r,h1,h2⟩:=key
  have:(FloatKind.f32.decode (FloatKind.f32.encode (Datum.number neg m e))).isInfinity=false:=by
   show (single.read (single.nearest neg m e)).isInfinity=false
   rw [h2]
   unfold Format.read
   simp only [X4s single neg (Nat.lt_trans h1 hw)]
   split
   ·rfl
   ·rfl
  rw [this];rfl
 ·rfl
theorem X5V (n:Nat):∀ (todo root:Nat),root * root≤n→Datum.rootFrom n todo root * Datum.rootFrom n todo root≤n:=by
 intro todo
 induction todo with
 | zero=>intro root h;exact h
 | succ t ih =>
  intro root h
  unfold Datum.rootFrom
  simp only
  split
  ·rename_i hl;exact ih _ hl
  ·exact ih _ h
theorem X4t {d:Datum} {S:Int} (h:d.isNaN=true):X11 d S:=by
 intro s m e he;subst he;cases h
theorem X4u {d:Datum} {S:Int} (h:d.isInfinity=true):X11 d S:=by
 intro s m e he;subst he;cases h
theorem X11.mono {d:Datum} {S T:Int} (h:X11 d S) (hS:S≤T):X11 d T:=fun s m e he=>(h s m e he).imp id fun h=>Int.le_trans h hS
theorem X6Z {m W b M:Nat} {i S:Int} (hm:i + (m.log2:Int)≤S) (hw:W * W≤m <<< M) (hb1:b≤1):2 * W + b=0∨(i - M) / 2 - 1 + ((2 * W + b).log2:Int)≤(S + 1) / 2:=by
 by_cases hz:2 * W + b=0
 ·exact .inl hz
 ·right
  have hlt:W < 2 ^ ((m.log2 + 1 + M) / 2 + 1):=by
   rcases Nat.lt_or_ge W (2 ^ ((m.log2 + 1 + M) / 2 + 1)) with h | hge
   ·exact h
   ·exfalso
    have h1:2 ^ ((m.log2 + 1 + M) / 2 + 1) * 2 ^ ((m.log2 + 1 + M) / 2 + 1)≤W * W:=Nat.mul_le_mul hge hge
    rw [← Nat.pow_add] at h1
    have h2:m <<< M < 2 ^ (m.log2 + 1 + M):=by
     rw [Nat.shiftLeft_eq,Nat.pow_add]
     exact Nat.mul_lt_mul_of_pos_right Nat.lt_log2_self (Nat.two_pow_pos _)
    have h3:2 ^ (m.log2 + 1 + M)≤2 ^ ((m.log2 + 1 + M) / 2 + 1 + ((m.log2 + 1 + M) / 2 + 1)):=Nat.pow_le_pow_right (by omega) (by omega)
    exact absurd (Nat.lt_of_lt_of_le (Nat.lt_of_le_of_lt hw h2) (Nat.le_trans h3 h1)) (Nat.lt_irrefl _)
  have hmag:2 * W + b < 2 ^ ((m.log2 + 1 + M) / 2 + 2):=by
   have:2 ^ ((m.log2 + 1 + M) / 2 + 2)=2 * 2 ^ ((m.log2 + 1 + M) / 2 + 1):=by rw [Nat.pow_succ 2 ((m.log2 + 1 + M) / 2 + 1),Nat.mul_comm]
   omega
  have hlog:=(Nat.log2_lt hz).2 hmag
  omega
theorem X6A {d:Datum} {S:Int} (h:X11 d S):Datum.root 54 d=none∨(∃ s,Datum.root 54 d=some (.infinity s))∨∃ s m i,Datum.root 54 d=some (.number s m i)∧(m=0∨i + (m.log2:Int)≤(S + 1) / 2):=by
 cases d with
 | nan s t=>exact .inl rfl
 | infinity s =>
  cases s with
  | true=>exact .inl rfl
  | false=>exact .inr (.inl ⟨false,rfl⟩)
 | number s m i =>
  unfold Datum.root
  by_cases h0:m=0
  ·simp only [if_pos h0]
   exact .inr (.inr ⟨s,m,i,rfl, .inl h0⟩)
  ·simp only [if_neg h0]
   cases s with
   | true=>exact .inl rfl
   | false =>
    simp only [Bool.false_eq_true,if_false]
    refine .inr (.inr ⟨_,_,_,rfl,X6Z ((h false m i rfl).resolve_left h0) (X5V _ _ 0 (Nat.zero_le _)) ?_⟩)
    have hq:∀ q:Bool,q.toNat≤1:=by intro q;cases q<;>decide
    exact hq _
theorem X7V (S:Int):X11 (double.read (X10 .f64)) S:=X4t (by decide +kernel)
theorem X7W (s:Bool) (S:Int):X11 (double.read (double.write (.infinity s))) S:=by
 cases s<;>exact X4u (by decide +kernel)
theorem X7i (x:Nat):X2h x=((Datum.root 54 (double.read x)).map double.write).getD (X10 .f64):=rfl
theorem X7G {x:Nat} {S:Int} (h:X11 (double.read x) S) (hS:-1022≤(S + 1) / 2):X11 (double.read (X2h x)) ((S + 1) / 2 + 1):=by
 rw [X7i]
 rcases X6A h with e | ⟨s,e⟩ | ⟨s,m,i,e,hm⟩
 ·rw [e,Option.map_none,Option.getD_none];exact X7V _
 ·rw [e,Option.map_some,Option.getD_some];exact X7W _ _
 ·rw [e,Option.map_some,Option.getD_some];exact X5x s m i hm hS
theorem X5y {x:Nat} {neg:Bool} {m:Nat} {e:Int} (hx:single.read x = .number neg m e):m < 2 ^ 24∧-149≤e∧e≤104:=by
 unfold Format.read at hx
 have hp:single.leastPlace=-149:=by decide +kernel
 have hbin:single.binade=8388608:=by decide +kernel
 have hinf:single.infRung=255 * 8388608:=by decide +kernel
 rw [hp,hbin,hinf] at hx
 simp only at hx
 split at hx
 ·cases hx;simp only [Nat.reducePow];omega
 ·split at hx
  ·rename_i h1 h2
   cases hx
   have:x % single.signWeight % 8388608 < 8388608:=Nat.mod_lt _ (by omega)
   have:x % single.signWeight / 8388608 < 255:=Nat.div_lt_of_lt_mul (by omega)
   simp only [Nat.reducePow];omega
  ·split at hx<;>cases hx
theorem X70 {x:Nat}:X11 (single.read x) 127:=by
 intro s m e hx
 obtain ⟨h1,h2,h3⟩:=X5y hx
 by_cases h0:m=0
 ·exact .inl h0
 ·right
  have h4:m.log2 < 24:=(Nat.log2_lt h0).2 h1
  clear h1 hx
  omega
theorem X7j (x:Nat):fcv .f32 .f64 x=match single.read x with
  | .nan .. => X10 .f64
  | y=>double.write y:=rfl
theorem X7k (x:Nat):X11 (double.read (fcv .f32 .f64 x)) 128:=by
 rw [X7j]
 have h:=@X70 x
 generalize single.read x=d at h
 cases d with
 | nan s t=>exact X4t (show (double.read (X10 .f64)).isNaN=true by decide +kernel)
 | infinity s=>cases s<;>exact X4u (by decide +kernel)
 | number neg m e=>exact X5x (S:=127) neg m e (h neg m e rfl) (by decide)
theorem X3u (x:Nat):X1s .f64 .f32 (X2h (fcv .f32 .f64 x))=true :=
 X7h (S:=65) (X7G (X7k x) (by decide)) (by decide)
theorem X6B (d:Datum):d.order d=if d.isNaN then none else some .eq:=by
 cases d with
 | nan s t=>rfl
 | infinity s=>cases s<;>rfl
 | number s m i =>
  simp only [Datum.order,Datum.isNaN]
  have hi:∀ a:Int,compare a a = .eq:=fun a=>by simp [compare,compareOfLessAndEq]
  rw [hi];rfl
theorem X7l (k:FloatKind) (x:Nat):fcmp .neq k x x=Xe k x:=by
 have:k.format.order x x=if Xe k x then none else some .eq:=X6B _
 unfold fcmp
 rw [this]
 cases Xe k x<;>rfl
end Go.Ab
