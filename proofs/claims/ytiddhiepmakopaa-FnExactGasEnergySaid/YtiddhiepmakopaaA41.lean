/- Words of double: halves and doubles of normal numbers, exactly. -/
import Derived.Test.YtiddhiepmakopaaA40
set_option linter.unusedVariables false
set_option linter.unusedSimpArgs false
namespace Go.Ab
open Ieee
theorem X1Z {M d:Nat} (h1:4503599627370496≤M) (h2:M < 9007199254740992):(M * 2 ^ d).log2=52 + d:=by
 have h0:M * 2 ^ d≠0:=Nat.mul_ne_zero (by omega) (Nat.pos_iff_ne_zero.1 (Nat.two_pow_pos d))
 rw [Nat.log2_eq_iff h0]
 constructor
 ·rw [Nat.pow_add];exact Nat.mul_le_mul_right _ (by omega)
 ·rw [show 52 + d + 1=53 + d from by omega,Nat.pow_add];exact Nat.mul_lt_mul_of_pos_right (by omega) (Nat.two_pow_pos d)
theorem X3d {M d E:Nat} (h1:4503599627370496≤M) (h2:M < 9007199254740992) (hE:E≤2045) {p:Int} (hp:p=-1074 + (E:Int) - (d:Int)) :
  double.nearest false (M * 2 ^ d) p=E * 4503599627370496 + M:=by
 have h0:M * 2 ^ d≠0:=Nat.mul_ne_zero (by omega) (Nat.pos_iff_ne_zero.1 (Nat.two_pow_pos d))
 unfold Format.nearest
 rw [if_neg h0,X1Z h1 h2,show double.leastPlace=-1074 from rfl,show double.fractionBits=52 from rfl,show double.binade=4503599627370496 from rfl,show double.infRung=9218868437227405312 from rfl]
 have hlast:max (p + ((52 + d:Nat):Int) - ((52:Nat):Int)) (-1074)=p + (d:Int):=by omega
 simp only [hlast]
 rw [show (p - (p + (d:Int))).toNat=0 from by omega,show (p + (d:Int) - p).toNat=d from by omega,show (p + (d:Int) - -1074).toNat=E from by omega,Nat.shiftLeft_zero]
 have hcut:Toward.even.cut false (M * 2 ^ d) d=M:=by
  unfold Toward.cut
  simp only [X1Z h1 h2]
  rw [show min d (52 + d + 2)=d from by omega,Nat.shiftLeft_eq,Nat.one_mul,Nat.mul_mod_left,Nat.mul_div_cancel _ (Nat.two_pow_pos d)]
  have:=Nat.two_pow_pos d
  have e1:decide (2 ^ d < 2 * 0)=false:=decide_eq_false (by omega)
  have e2:(2 ^ d == 2 * 0)=false:=by rw [beq_eq_false_iff_ne];omega
  rw [e1,e2];simp
 rw [hcut]
 unfold Format.word
 rw [if_neg (by simp)]
 have:E * 4503599627370496≤2045 * 4503599627370496:=Nat.mul_le_mul_right _ hE
 omega
def Nw (w:Nat):Prop:=4503599627370496≤w∧w < 9218868437227405312
def fld (w:Nat):Nat:=w / 4503599627370496
theorem X1R {w:Nat} (h:Nw w):double.read w = .number false (4503599627370496 + w % 4503599627370496) (-1074 + ((fld w - 1:Nat):Int)):=by
 obtain ⟨h1,h2⟩:=h
 unfold Format.read
 rw [show double.signWeight=9223372036854775808 from rfl,show double.binade=4503599627370496 from rfl,show double.infRung=9218868437227405312 from rfl,show double.leastPlace=-1074 from rfl]
 have e1:w % 9223372036854775808=w:=Nat.mod_eq_of_lt (by omega)
 have e2:w / 9223372036854775808=0:=Nat.div_eq_of_lt (by omega)
 simp only [e1,e2]
 rw [if_neg (by omega),if_pos (by omega)]
 rfl
theorem XP {w:Nat} (h:Nw w) (h2:2≤fld w):fop .quo .f64 w 4611686018427387904=w - 4503599627370496:=by
 have hr:=X1R h
 have h2r:=X1R (w:=4611686018427387904) ⟨by decide,by decide⟩
 have hf:fld w≤2046:=by unfold fld;have:=h.2;omega
 show ((double.div w 4611686018427387904).getD (Xj .f64))=_
 unfold Format.div
 rw [hr,h2r]
 simp only [Datum.quotient]
 rw [show (4503599627370496 + 4611686018427387904 % 4503599627370496)=4503599627370496 from by decide]
 rw [if_neg (by decide)]
 have hm:w % 4503599627370496 < 4503599627370496:=Nat.mod_lt _ (by decide)
 have hl:(4503599627370496 + w % 4503599627370496).log2=52:=by
  have:=X1Z (M:=4503599627370496 + w % 4503599627370496) (d:=0) (by omega) (by omega)
  simpa using this
 have hl2:Nat.log2 4503599627370496=52:=by decide +kernel
 rw [hl,hl2,show double.fractionBits + 2 + 52 - 52=54 from rfl]
 have hd:(4503599627370496 + w % 4503599627370496) <<< 54=((4503599627370496 + w % 4503599627370496) * 4) * 4503599627370496:=by
  rw [Nat.shiftLeft_eq,Nat.mul_assoc]
 rw [hd,Nat.mul_div_cancel _ (by decide),Nat.mul_mod_left]
 simp only [Option.map_some,Option.getD_some,Format.write]
 have e:2 * ((4503599627370496 + w % 4503599627370496) * 4) + ((0:Nat) != 0).toNat=(4503599627370496 + w % 4503599627370496) * 2 ^ 3:=by
  simp;omega
 rw [e,show (false ^^ false)=false from rfl]
 rw [X3d (E:=fld w - 2) (by omega) (by omega) (by omega) (by
  rw [show fld 4611686018427387904=1024 from by decide];omega)]
 have:=Nat.div_add_mod w 4503599627370496
 unfold fld at *
 omega
theorem X6s {X E:Nat} {p:Int} (h1:4503599627370496≤X) (h2:X < 9007199254740992) (hE:E≤2045) (hp:p=-1074 + (E:Int) - 52):double.write (.number false (X * 2 ^ 52) p)=E * 4503599627370496 + X :=
 X3d (M:=X) (d:=52) (E:=E) h1 h2 hE hp
theorem X6P (X:Nat) (p q:Int):Datum.product (.number false X p) (.number false (2 ^ 52) q)=some (.number false (X * 2 ^ 52) (p + q)):=by
 unfold Datum.product;rfl
theorem X6Q:double.read 4611686018427387904 = .number false (2 ^ 52) (-51):=by decide +kernel
theorem X7i (x y:Nat):fop .mul .f64 x y=(((double.read x).product (double.read y)).map double.write).getD (Xj .f64):=rfl
theorem X15 {w:Nat} (h:Nw w) (h2:fld w≤2045):fop .mul .f64 w 4611686018427387904=w + 4503599627370496:=by
 have hf:1≤fld w:=by unfold fld;have:=h.1;omega
 have hm:w % 4503599627370496 < 4503599627370496:=Nat.mod_lt _ (by decide)
 rw [X7i,X1R h,X6Q,X6P,Option.map_some,Option.getD_some,X6s (E:=fld w) (by omega) (by omega) (by omega) (by omega)]
 have:=Nat.div_add_mod w 4503599627370496
 unfold fld at *
 omega
theorem X47 (m n:Nat) (i j:Int):Datum.order (.number false m i) (.number false n j)=some (compare ((m <<< (i - min i j).toNat:Nat):Int) ((n <<< (j - min i j).toNat:Nat):Int)):=by
 unfold Datum.order signed;rfl
theorem X6R:double.read 4609434218613702656 = .number false 6755399441055744 (-52):=by decide +kernel
theorem X6t:double.read 4604930618986332160 = .number false 6755399441055744 (-53):=by decide +kernel
theorem X6u {k:Nat} (h:1≤k):2≤2 ^ k:=by
 have:2 ^ 1≤2 ^ k:=Nat.pow_le_pow_right (by omega) h
 omega
theorem XQ {w:Nat} (h:Nw w) (hg:fcmp .geq .f64 w 4609434218613702656=true):1023≤fld w:=by
 refine Nat.not_lt.1 fun hlt => ?_
 have hf:1≤fld w:=by unfold fld;have:=h.1;omega
 have hm:w % 4503599627370496 < 4503599627370496:=Nat.mod_lt _ (by decide)
 have ho:FloatKind.f64.format.order w 4609434218613702656=some .lt:=by
  show (double.read w).order (double.read 4609434218613702656)=_
  rw [X1R h,X6R,X47]
  congr 1
  rw [Int.compare_eq_lt]
  have e1:min (-1074 + ((fld w - 1:Nat):Int)) (-52)=-1074 + ((fld w - 1:Nat):Int):=by omega
  rw [e1,show (-1074 + ((fld w - 1:Nat):Int) - (-1074 + ((fld w - 1:Nat):Int))).toNat=0 from by omega,Nat.shiftLeft_zero,Nat.shiftLeft_eq]
  have h2:=X6u (k:=(-52 - (-1074 + ((fld w - 1:Nat):Int))).toNat) (by omega)
  have h3:6755399441055744 * 2≤6755399441055744 * 2 ^ (-52 - (-1074 + ((fld w - 1:Nat):Int))).toNat:=Nat.mul_le_mul_left _ h2
  generalize 6755399441055744 * 2 ^ (-52 - (-1074 + ((fld w - 1:Nat):Int))).toNat=y at *
  omega
 have:fcmp .geq .f64 w 4609434218613702656=false:=by
  unfold fcmp
  simp only [ho]
  rfl
 rw [this] at hg;cases hg
theorem XR {w:Nat} (h:Nw w) (hg:fcmp .lss .f64 w 4604930618986332160=true):fld w≤1022:=by
 refine Nat.not_lt.1 fun hlt => ?_
 have hm:w % 4503599627370496 < 4503599627370496:=Nat.mod_lt _ (by decide)
 have ho:FloatKind.f64.format.order w 4604930618986332160=some .gt:=by
  show (double.read w).order (double.read 4604930618986332160)=_
  rw [X1R h,X6t,X47]
  congr 1
  rw [Int.compare_eq_gt]
  have e1:min (-1074 + ((fld w - 1:Nat):Int)) (-53)=-53:=by omega
  rw [e1,show (-53 - (-53:Int)).toNat=0 from by omega,Nat.shiftLeft_zero,Nat.shiftLeft_eq]
  have h2:=X6u (k:=(-1074 + ((fld w - 1:Nat):Int) - -53).toNat) (by omega)
  have h3:(4503599627370496 + w % 4503599627370496) * 2≤(4503599627370496 + w % 4503599627370496) * 2 ^ (-1074 + ((fld w - 1:Nat):Int) - -53).toNat:=Nat.mul_le_mul_left _ h2
  generalize (4503599627370496 + w % 4503599627370496) * 2 ^ (-1074 + ((fld w - 1:Nat):Int) - -53).toNat=y at *
  omega
 have:fcmp .lss .f64 w 4604930618986332160=false:=by
  unfold fcmp
  simp only [ho]
  rfl
 rw [this] at hg;cases hg
theorem XS {w:Nat} (h:Nw w) (h2:1023≤fld w):Nw (w - 4503599627370496)∧fld (w - 4503599627370496)=fld w - 1:=by
 obtain ⟨a,b⟩:=h
 unfold fld Nw at *
 omega
theorem X16 {w:Nat} (h:Nw w) (h2:fld w≤1022):Nw (w + 4503599627370496)∧fld (w + 4503599627370496)=fld w + 1:=by
 obtain ⟨a,b⟩:=h
 unfold fld Nw at *
 omega
theorem X64:∀ n:Nat,n < 1100→fop .add .f64 (X5 .f64 (n:Int)) 4607182418800017408=X5 .f64 ((n:Int) + 1):=by
 have h:(List.range 1100).all (fun n=>fop .add .f64 (X5 .f64 (n:Int)) 4607182418800017408 == X5 .f64 ((n:Int) + 1))=true:=by decide +kernel
 intro n hn
 have:=(List.all_eq_true.1 h) n (List.mem_range.2 hn)
 exact eq_of_beq this
theorem X65:∀ n:Nat,n < 2200→fop .sub .f64 (X5 .f64 (1100 - (n:Int))) 4607182418800017408=X5 .f64 (1099 - (n:Int)):=by
 have h:(List.range 2200).all (fun n=>fop .sub .f64 (X5 .f64 (1100 - (n:Int))) 4607182418800017408 == X5 .f64 (1099 - (n:Int)))=true:=by decide +kernel
 intro n hn
 have:=(List.all_eq_true.1 h) n (List.mem_range.2 hn)
 exact eq_of_beq this
end Go.Ab
