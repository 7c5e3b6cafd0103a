/- Values of finite floats as rational numbers, and rounding. -/
import Derived.Test.YtiddhiepmakopaaA44
set_option linter.unusedVariables false
set_option linter.unusedSimpArgs false
namespace Go.Ab
open Ieee
theorem X7A:(2:Rat)≠0:=by decide
theorem Xi (e:Int):(0:Rat) < (2:Rat)^e:=Rat.zpow_pos (by decide)
theorem Xf (a b:Int):(2:Rat)^(a+b)=(2:Rat)^a * (2:Rat)^b:=Rat.zpow_add X7A a b
theorem X66 (n:Nat):(1:Rat)≤(2:Rat)^n:=by
 induction n with
 | zero=>simp
 | succ n ih=>rw [Rat.pow_succ];grind
theorem X37 {a b:Int} (h:a≤b):(2:Rat)^a≤(2:Rat)^b:=by
 have:b=a + ((b - a).toNat:Int):=by omega
 rw [this,Xf,Rat.zpow_natCast]
 have h1:=X66 (b-a).toNat
 have h2:=Xi a
 generalize (2:Rat)^(b-a).toNat=x at *
 generalize (2:Rat)^a=y at *
 have:=Rat.mul_le_mul_of_nonneg_left h1 (Rat.le_of_lt h2)
 grind
theorem X7H {a b:Int} (h:(2:Rat)^a < (2:Rat)^b):a < b:=by
 refine Int.not_le.1 fun hn => ?_
 have:=X37 hn
 grind
theorem X17 (n:Nat):(2:Rat)^(n:Int)=((2 ^ n:Nat):Rat):=by
 rw [Rat.zpow_natCast,Rat.natCast_pow];rfl
theorem X7j (neg:Bool) (n drop:Nat):2 * (Toward.even.cut neg n drop * 2 ^ drop)≤2 * n + 2 ^ drop∧2 * n≤2 * (Toward.even.cut neg n drop * 2 ^ drop) + 2 ^ drop:=by
 unfold Toward.cut
 simp only [Nat.shiftLeft_eq,Nat.one_mul]
 rcases Nat.le_total drop (n.log2 + 2) with h | h
 ·rw [Nat.min_eq_left h]
  have hd:=Nat.div_add_mod n (2 ^ drop)
  have hp:=Nat.two_pow_pos drop
  have hm:=Nat.mod_lt n hp
  rw [Nat.add_mul]
  have hc:2 ^ drop * (n / 2 ^ drop)=n / 2 ^ drop * 2 ^ drop:=Nat.mul_comm _ _
  rw [hc] at hd
  generalize n / 2 ^ drop * 2 ^ drop=y at *
  generalize n % 2 ^ drop=r at *
  generalize n / 2 ^ drop=q at *
  generalize 2 ^ drop=g at *
  by_cases c1:g < 2 * r
  ·simp only [c1,decide_true,Bool.true_or,Bool.toNat_true];omega
  ·by_cases c2:g=2 * r
   ·cases hb:(decide (g < 2 * r) || (g == 2 * r && q % 2 == 1))<;>simp only [Bool.toNat_true,Bool.toNat_false]<;>omega
   ·have:(decide (g < 2 * r) || (g == 2 * r && q % 2 == 1))=false:=by simp [c1,c2]
    rw [this];simp only [Bool.toNat_false];omega
 ·rw [Nat.min_eq_right h]
  have hlt:n < 2 ^ (n.log2 + 1):=Nat.lt_log2_self
  have e2:2 ^ (n.log2 + 2)=2 * 2 ^ (n.log2 + 1):=by rw [Nat.pow_succ 2 (n.log2 + 1)];omega
  have hle:2 ^ (n.log2 + 2)≤2 ^ drop:=Nat.pow_le_pow_right (by omega) h
  have hz:n / 2 ^ (n.log2 + 2)=0:=Nat.div_eq_of_lt (by omega)
  have hm:n % 2 ^ (n.log2 + 2)=n:=Nat.mod_eq_of_lt (by omega)
  rw [hz,hm]
  have:(decide (2 ^ (n.log2 + 2) < 2 * n) || (2 ^ (n.log2 + 2) == 2 * n && 0 % 2 == 1))=false:=by
   simp;omega
  rw [this]
  simp only [Bool.toNat_false]
  omega
theorem X6S (neg:Bool) (n:Nat):Toward.even.cut neg n 0=n:=by
 unfold Toward.cut
 simp [Nat.mod_one]
theorem X48 (f:Format) (neg:Bool) (E K:Nat) (hb:1≤f.fractionBits) (h1:E=0∨f.binade≤K) (h2:K≤2 * f.binade) (hi:E * f.binade + K < f.infRung) :
  ∃ M x,f.read (f.word neg (E * f.binade + K)) = .number neg M (f.leastPlace + ((x:Nat):Int))∧(M:Rat) * (2:Rat) ^ (x:Int)=(K:Rat) * (2:Rat) ^ (E:Int)∧M < 2 * f.binade:=by
 have hp:0 < f.binade:=Nat.two_pow_pos _
 have hs:f.infRung < f.signWeight:=by
  have e:f.signWeight=2 ^ f.exponentBits * f.binade:=by unfold Format.signWeight Format.binade;rw [Nat.pow_add]
  rw [e];unfold Format.infRung
  exact Nat.mul_lt_mul_of_pos_right (by have:=Nat.two_pow_pos f.exponentBits;omega) hp
 have hneg:(f.word neg (E * f.binade + K) / f.signWeight % 2 == 1)=neg:=by
  unfold Format.word
  cases neg with
  | true=>rw [if_pos rfl,Nat.add_div_left _ (by omega),Nat.div_eq_of_lt (by omega)];rfl
  | false=>rw [if_neg (by simp),Nat.div_eq_of_lt (by omega)];rfl
 unfold Format.read
 simp only [X45 f neg (Nat.lt_trans hi hs),hneg]
 have stepx:∀ (A:Nat) ,(f.binade:Rat) * (2:Rat) ^ ((A + 1:Nat):Int)=((2 * f.binade:Nat):Rat) * (2:Rat) ^ (A:Int):=by
  intro A
  rw [show ((A + 1:Nat):Int)=(A:Int) + 1 from by omega,Xf,Rat.natCast_mul,Rat.zpow_one]
  grind
 rcases Nat.eq_zero_or_pos E with h0 | h0
 ·subst h0
  by_cases hk:K < f.binade
  ·rw [if_pos (by omega)]
   exact ⟨K,0,by simp,by simp,by omega⟩
  ·rw [if_neg (by omega),if_pos (by omega)]
   by_cases hk2:K=2 * f.binade
   ·refine ⟨f.binade,1,?_,?_,by omega⟩
    ·subst hk2
     rw [show 0 * f.binade + 2 * f.binade=2 * f.binade from by omega,Nat.mul_mod_left,Nat.mul_div_cancel _ hp];rfl
    ·subst hk2;exact stepx 0
   ·refine ⟨K,0,?_,rfl,by omega⟩
    rw [show 0 * f.binade + K=f.binade + (K - f.binade) from by omega,Nat.add_mod_left,Nat.add_div_left _ hp,Nat.mod_eq_of_lt (by omega),Nat.div_eq_of_lt (by omega)]
    simp;omega
 ·have hk:f.binade≤K:=by omega
  have hE1:f.binade≤E * f.binade:=Nat.le_mul_of_pos_left _ h0
  rw [if_neg (by omega),if_pos hi]
  by_cases hk2:K=2 * f.binade
  ·refine ⟨f.binade,E + 1,?_,?_,by omega⟩
   ·subst hk2
    rw [← Nat.add_mul,Nat.mul_mod_left,Nat.mul_div_cancel _ hp];rfl
   ·subst hk2;exact stepx E
  ·refine ⟨K,E,?_,rfl,by omega⟩
   rw [show E * f.binade + K=(E + 1) * f.binade + (K - f.binade) from by rw [Nat.add_mul];omega]
   rw [Nat.mul_comm (E+1) f.binade,Nat.mul_add_mod,Nat.mod_eq_of_lt (by omega),Nat.mul_add_div hp,Nat.div_eq_of_lt (by omega)]
   congr 1<;>omega
def sg (s:Bool):Rat:=if s then -1 else 1
def vl:Datum→Option Rat
 | .number s m e=>some (sg s * ((m:Rat) * (2:Rat) ^ e))
 | _=>none
theorem X3l (f:Format) (neg:Bool) (m:Nat) (e:Int) (hb:1≤f.fractionBits) (hT:(max (e + m.log2 - f.fractionBits) f.leastPlace - f.leastPlace).toNat + 2 < 2 ^ f.exponentBits - 1) :
  ∃ q:Rat,vl (f.read (f.nearest neg m e))=some (sg neg * q)∧2 * q≤2 * ((m:Rat) * (2:Rat)^e) + (2:Rat) ^ (max (e + m.log2 - f.fractionBits) f.leastPlace)∧2 * ((m:Rat) * (2:Rat)^e)≤2 * q + (2:Rat) ^ (max (e + m.log2 - f.fractionBits) f.leastPlace)
   ∧ (max (e + m.log2 - f.fractionBits) f.leastPlace≤e→q=(m:Rat) * (2:Rat)^e):=by
 by_cases h0:m=0
 ·subst h0
  have hp:0 < f.binade:=Nat.two_pow_pos _
  refine ⟨0,?_,?_,?_,?_⟩
  ·unfold Format.nearest
   rw [if_pos rfl]
   obtain ⟨M,x,h1,h2,-⟩:=X48 f neg 0 0 hb (.inl rfl) (Nat.zero_le _) (by
    unfold Format.infRung;have:=Nat.mul_pos (show 0 < 2 ^ f.exponentBits - 1 by omega) hp;omega)
   rw [Nat.zero_mul] at h1
   rw [show (0:Nat) + 0=0 from rfl] at h1
   rw [h1]
   simp only [vl,Xf]
   congr 1
   have:((M:Rat) * (2:Rat)^((x:Nat):Int))=0:=by rw [h2];simp
   grind
  ·generalize max (e + (Nat.log2 0:Nat) - f.fractionBits) f.leastPlace=w
   have:=Xi w
   simp;grind
  ·generalize max (e + (Nat.log2 0:Nat) - f.fractionBits) f.leastPlace=w
   have:=Xi w
   simp;grind
  ·simp
 generalize hlast:max (e + (m.log2:Int) - (f.fractionBits:Int)) f.leastPlace=last at *
 have hl1:f.leastPlace≤last:=by omega
 have hl2:e + m.log2 - f.fractionBits≤last:=by omega
 have hm1:2 ^ m.log2≤m:=Nat.log2_self_le h0
 have hm2:m < 2 ^ (m.log2 + 1):=Nat.lt_log2_self
 have hk:Toward.even.cut neg (m <<< (e - last).toNat) (last - e).toNat≤2 * f.binade∧(last=f.leastPlace∨f.binade≤Toward.even.cut neg (m <<< (e - last).toNat) (last - e).toNat)
   ∧ 2 * ((Toward.even.cut neg (m <<< (e - last).toNat) (last - e).toNat:Nat):Rat) * (2:Rat)^last≤2 * ((m:Rat) * (2:Rat)^e) + (2:Rat) ^ last∧2 * ((m:Rat) * (2:Rat)^e)≤2 * ((Toward.even.cut neg (m <<< (e - last).toNat) (last - e).toNat:Nat):Rat) * (2:Rat)^last + (2:Rat) ^ last
   ∧ (last≤e→((Toward.even.cut neg (m <<< (e - last).toNat) (last - e).toNat:Nat):Rat) * (2:Rat)^last=(m:Rat) * (2:Rat)^e):=by
  by_cases hle:last≤e
  ·obtain ⟨u,hu⟩:=Int.eq_ofNat_of_zero_le (show 0≤e - last by omega)
   rw [show (last - e).toNat=0 from by omega,X6S,show (e - last).toNat=u from by omega,Nat.shiftLeft_eq]
   have he:((m * 2 ^ u:Nat):Rat) * (2:Rat)^last=(m:Rat) * (2:Rat)^e:=by
    rw [show e=(u:Int) + last from by omega,Xf,X17,Rat.natCast_mul,Rat.mul_assoc]
   refine ⟨?_,?_,?_,?_,fun _=>he⟩
   ·have h3:m * 2 ^ u < 2 ^ (m.log2 + 1 + u):=by rw [Nat.pow_add];exact Nat.mul_lt_mul_of_pos_right hm2 (Nat.two_pow_pos u)
    have h4:2 ^ (m.log2 + 1 + u)≤2 ^ (f.fractionBits + 1):=Nat.pow_le_pow_right (by omega) (by omega)
    have h5:2 ^ (f.fractionBits + 1)=2 * f.binade:=by unfold Format.binade;rw [Nat.pow_succ];omega
    omega
   ·by_cases hh:last=f.leastPlace
    ·exact .inl hh
    ·right
     have h3:2 ^ m.log2 * 2 ^ u≤m * 2 ^ u:=Nat.mul_le_mul_right _ hm1
     have h4:f.binade=2 ^ m.log2 * 2 ^ u:=by unfold Format.binade;rw [← Nat.pow_add];congr 1;omega
     omega
   ·rw [Rat.mul_assoc,he];have:=Xi last;grind
   ·rw [Rat.mul_assoc,he];have:=Xi last;grind
  ·obtain ⟨u,hu⟩:=Int.eq_ofNat_of_zero_le (show 0≤last - e by omega)
   rw [show (e - last).toNat=0 from by omega,Nat.shiftLeft_zero,show (last - e).toNat=u from by omega]
   obtain ⟨c1,c2⟩:=X7j neg m u
   generalize hc:Toward.even.cut neg m u=c at *
   have hpu:=Nat.two_pow_pos u
   have el:(2:Rat)^last=((2 ^ u:Nat):Rat) * (2:Rat)^e:=by rw [show last=(u:Int) + e from by omega,Xf,X17]
   have d1:((2 * (c * 2 ^ u):Nat):Rat)≤((2 * m + 2 ^ u:Nat):Rat):=Rat.natCast_le_natCast.2 c1
   have d2:((2 * m:Nat):Rat)≤((2 * (c * 2 ^ u) + 2 ^ u:Nat):Rat):=Rat.natCast_le_natCast.2 c2
   simp only [Rat.natCast_mul,Rat.natCast_add] at d1 d2
   have d1:=Rat.mul_le_mul_of_nonneg_right d1 (Rat.le_of_lt (Xi e))
   have d2:=Rat.mul_le_mul_of_nonneg_right d2 (Rat.le_of_lt (Xi e))
   refine ⟨?_,?_,?_,?_,fun h=>absurd h hle⟩
   ·have h3:m < 2 ^ (f.fractionBits + 1 + u):=Nat.lt_of_lt_of_le hm2 (Nat.pow_le_pow_right (by omega) (by omega))
    have h5:2 ^ (f.fractionBits + 1 + u)=2 * f.binade * 2 ^ u:=by unfold Format.binade;rw [Nat.pow_add,Nat.pow_succ,Nat.mul_comm 2 (2 ^ f.fractionBits)]
    refine Nat.not_lt.1 fun hlt => ?_
    have h6:(2 * f.binade + 1) * 2 ^ u≤c * 2 ^ u:=Nat.mul_le_mul_right _ hlt
    rw [Nat.add_mul] at h6
    omega
   ·by_cases hh:last=f.leastPlace
    ·exact .inl hh
    ·right
     have h4:f.binade * 2 ^ u=2 ^ m.log2:=by unfold Format.binade;rw [← Nat.pow_add];congr 1;omega
     refine Nat.not_lt.1 fun hlt => ?_
     have h6:(c + 1) * 2 ^ u≤f.binade * 2 ^ u:=Nat.mul_le_mul_right _ hlt
     rw [Nat.add_mul] at h6
     omega
   ·rw [el];grind
   ·rw [el];grind
 obtain ⟨k1,k2,k3,k4,k5⟩:=hk
 have hr:(last - f.leastPlace).toNat * f.binade + Toward.even.cut neg (m <<< (e - last).toNat) (last - e).toNat < f.infRung:=by
  unfold Format.infRung
  have hp:0 < f.binade:=Nat.two_pow_pos _
  have:((last - f.leastPlace).toNat + 2 + 1) * f.binade≤(2 ^ f.exponentBits - 1) * f.binade:=Nat.mul_le_mul_right _ hT
  rw [Nat.add_mul,Nat.add_mul] at this
  omega
 obtain ⟨M,x,h1,h2,-⟩:=X48 f neg _ _ hb (k2.imp (fun h=>by omega) id) k1 hr
 refine ⟨((Toward.even.cut neg (m <<< (e - last).toNat) (last - e).toNat:Nat):Rat) * (2:Rat)^last,?_,by rw [Rat.mul_assoc] at k3;exact k3,by rw [Rat.mul_assoc] at k4;exact k4,k5⟩
 unfold Format.nearest
 rw [if_neg h0]
 simp only [hlast]
 rw [Nat.min_eq_left (Nat.le_of_lt hr),h1]
 simp only [vl]
 congr 2
 have e1:(2:Rat)^last=(2:Rat)^f.leastPlace * (2:Rat)^(((last - f.leastPlace).toNat:Nat):Int):=by rw [← Xf];congr 1;omega
 rw [Xf,e1]
 grind
end Go.Ab
