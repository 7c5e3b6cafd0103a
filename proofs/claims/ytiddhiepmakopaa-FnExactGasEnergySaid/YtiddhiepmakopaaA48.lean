/- The natural logarithm of double: pieces of its value. -/
import Derived.Test.YtiddhiepmakopaaA47
set_option linter.unusedVariables false
set_option linter.unusedSimpArgs false
namespace Go.Ab
open Ieee
theorem X2c {w:Nat} (h:Nw w):Vl .f64 w (((4503599627370496 + w % 4503599627370496:Nat):Rat) * (2:Rat)^(-1074 + ((fld w - 1:Nat):Int))):=by
 show vl (double.read w)=_
 rw [X1R h]
 simp [vl,sg]
theorem X67 {w:Nat} (h:Nw w) {v:Rat} (hv:Vl .f64 w v) (E:Int) (hE:E≤(fld w:Int) - 1023):(2:Rat)^E≤v:=by
 have e:=X2c h
 unfold Vl at *
 rw [e,Option.some.injEq] at hv
 have hf:1≤fld w:=by unfold fld;have:=h.1;omega
 have h1:((2 ^ 52:Nat):Rat)≤((4503599627370496 + w % 4503599627370496:Nat):Rat):=Rat.natCast_le_natCast.2 (by simp only [Nat.reducePow];omega)
 have h2:=Rat.mul_le_mul_of_nonneg_right h1 (Rat.le_of_lt (Xi (-1074 + ((fld w - 1:Nat):Int))))
 rw [← X17,← Xf] at h2
 have h3:=X37 (a:=E) (b:=((52:Nat):Int) + (-1074 + ((fld w - 1:Nat):Int))) (by omega)
 grind
theorem X73 {w:Nat} (h:Nw w) {v:Rat} (hv:Vl .f64 w v) (E:Int) (hE:(fld w:Int) - 1022≤E):v < (2:Rat)^E:=by
 have e:=X2c h
 unfold Vl at *
 rw [e,Option.some.injEq] at hv
 have hf:1≤fld w:=by unfold fld;have:=h.1;omega
 have h1:((4503599627370496 + w % 4503599627370496:Nat):Rat) < ((2 ^ 53:Nat):Rat):=Rat.natCast_lt_natCast.2 (by simp only [Nat.reducePow];have:=Nat.mod_lt w (show 0 < 4503599627370496 by omega);omega)
 have h2:=Rat.mul_lt_mul_of_pos_right h1 (Xi (-1074 + ((fld w - 1:Nat):Int)))
 rw [← X17,← Xf] at h2
 have h3:=X37 (a:=((53:Nat):Int) + (-1074 + ((fld w - 1:Nat):Int))) (b:=E) (by omega)
 grind
theorem c075:Vl .f64 4604930618986332160 (3/4):=by unfold Vl;decide +kernel
theorem c150:Vl .f64 4609434218613702656 (3/2):=by unfold Vl;decide +kernel
theorem cOne:Vl .f64 4607182418800017408 1:=by unfold Vl;decide +kernel
theorem cTwo:Vl .f64 4611686018427387904 2:=by unfold Vl;decide +kernel
theorem cLn2:Vl .f64 4604418534313441775 (6243314768165359/9007199254740992):=by unfold Vl;decide +kernel
theorem X6Y {w:Nat} (h:Nw w) (hg:fcmp .geq .f64 w 4609434218613702656=false):fld w≤1023:=by
 refine Nat.not_lt.1 fun hlt => ?_
 have h1:=X67 h (X2c h) 1 (by omega)
 rw [geqV (X2c h) c150] at hg
 have:=of_decide_eq_false hg
 rw [Rat.zpow_one] at h1
 grind
theorem X6Z {w:Nat} (h:Nw w) (hg:fcmp .lss .f64 w 4604930618986332160=false):1022≤fld w:=by
 refine Nat.not_lt.1 fun hlt => ?_
 have h1:=X73 h (X2c h) (-1) (by omega)
 rw [lssV (X2c h) c075] at hg
 have:=of_decide_eq_false hg
 have e:(2:Rat)^(-1:Int)=1/2:=by decide +kernel
 rw [e] at h1
 grind
theorem X70:∀ e:Int,-600≤e→e≤600→Vl .f64 (X5 .f64 e) (e:Rat):=by
 have h:(List.range 1201).all (fun n=>decide (vl (double.read (X5 .f64 ((n:Int) - 600)))=some (((n:Int) - 600:Int):Rat)))=true:=by decide +kernel
 intro e h1 h2
 have:=(List.all_eq_true.1 h) (e + 600).toNat (List.mem_range.2 (by omega))
 have q:=of_decide_eq_true this
 rw [show (((e + 600).toNat:Nat):Int) - 600=e from by omega] at q
 exact q
theorem X6x:∀ e:Int,1≤e→e≤25→∃ r,Vl .f64 (fop .quo .f64 4607182418800017408 (X5 .f64 e)) r∧0≤r∧r≤1:=by
 have h:(List.range 26).all (fun n=>n == 0 || match vl (double.read (fop .quo .f64 4607182418800017408 (X5 .f64 (n:Int)))) with | some r=>decide (0≤r) && decide (r≤1) | none=>false)=true:=by decide +kernel
 intro e h1 h2
 have:=(List.all_eq_true.1 h) e.toNat (List.mem_range.2 (by omega))
 rw [show ((e.toNat:Nat):Int)=e from by omega,show (e.toNat == 0)=false from by rw [beq_eq_false_iff_ne];omega,Bool.false_or] at this
 unfold Vl
 cases hq:vl (double.read (fop .quo .f64 4607182418800017408 (X5 .f64 e))) with
 | none=>rw [hq] at this;cases this
 | some r =>
  rw [hq] at this
  simp only [Bool.and_eq_true,decide_eq_true_eq] at this
  exact ⟨r,hq,this.1,this.2⟩
theorem u64:uK .f64=1 / 9007199254740992:=rfl
theorem t64:tK .f64≤1 / 1000000000000000000000000000000:=X7J _
theorem t64p:0 < tK .f64:=X5f _
theorem X1D {x:Rat} (h:x≤1000000000000):x < (2:Rat)^(topE .f64):=by
 have e:(1000000000000:Rat) < (2:Rat)^(topE .f64):=by decide +kernel
 grind
theorem mul_le_mul' {a b A B:Rat} (h1:-A≤a) (h2:a≤A) (h3:-B≤b) (h4:b≤B):-(A * B)≤a * b∧a * b≤A * B:=by
 have p1:=Rat.mul_nonneg (show 0≤A - a by grind) (show 0≤B + b by grind)
 have p2:=Rat.mul_nonneg (show 0≤A + a by grind) (show 0≤B - b by grind)
 have p3:=Rat.mul_nonneg (show 0≤A - a by grind) (show 0≤B - b by grind)
 have p4:=Rat.mul_nonneg (show 0≤A + a by grind) (show 0≤B + b by grind)
 constructor<;>grind
theorem X71 {u q:Nat} {a b:Rat} {k:Int} (hu:Vl .f64 u a) (a1:-(1/2)≤a) (a2:a≤1/2) (hq:Vl .f64 q b) (b1:-3≤b) (b2:b≤3) (k1:1≤k) (k2:k≤25) :
  ∃ r,Vl .f64 (fop .add .f64 (fop .quo .f64 4607182418800017408 (X5 .f64 k)) (fop .mul .f64 u q)) r∧-3≤r∧r≤3:=by
 obtain ⟨i,i1,i2,i3⟩:=X6x k k1 k2
 obtain ⟨m1,m2⟩:=mul_le_mul' a1 a2 b1 b2
 obtain ⟨p,p1,p2⟩:=mulV hu hq (B:=1/2*3) m1 m2 (X1D (by decide +kernel))
 have:=t64;have:=t64p
 unfold Nr at p2
 rw [u64] at p2
 obtain ⟨r,r1,r2⟩:=addV i1 p1 (B:=2.75) (by grind) (by grind) (X1D (by decide +kernel))
 unfold Nr at r2
 rw [u64] at r2
 exact ⟨r,r1,by grind,by grind⟩
theorem X74 {y:Nat} (h:Nw y) (h1:1022≤fld y) (h2:fld y≤1023):∃ a,Vl .f64 (fop .quo .f64 (fop .sub .f64 y 4607182418800017408) (fop .add .f64 y 4607182418800017408)) a∧-(7/10)≤a∧a≤7/10:=by
 have hv:=X2c h
 have l:=X67 h hv (-1) (by omega)
 have g:=X73 h hv 1 (by omega)
 have e:(2:Rat)^(-1:Int)=1/2:=by decide +kernel
 rw [e] at l
 rw [Rat.zpow_one] at g
 generalize (((4503599627370496 + y % 4503599627370496:Nat):Rat) * (2:Rat)^(-1074 + ((fld y - 1:Nat):Int)))=v at *
 have:=t64;have:=t64p
 obtain ⟨a,a1,a2⟩:=subV hv cOne (B:=1) (by grind) (by grind) (X1D (by decide +kernel))
 obtain ⟨b,b1,b2⟩:=addV hv cOne (B:=3) (by grind) (by grind) (X1D (by decide +kernel))
 unfold Nr at a2 b2
 rw [u64] at a2 b2
 have b0:b≠0:=by grind
 have hw:a / b * b=a:=Rat.div_mul_cancel b0
 have w1:a / b≤69/100:=by
  refine Rat.not_lt.1 fun hc => ?_
  have:=Rat.mul_lt_mul_of_pos_right hc (show 0 < b by grind)
  grind
 have w2:-(69/100)≤a / b:=by
  refine Rat.not_lt.1 fun hc => ?_
  have:=Rat.mul_lt_mul_of_pos_right hc (show 0 < b by grind)
  grind
 obtain ⟨q,q1,q2⟩:=quoV a1 b1 b0 hw w2 w1 (X1D (by decide +kernel))
 unfold Nr at q2
 rw [u64] at q2
 exact ⟨q,q1,by grind,by grind⟩
theorem X7K {s:Nat} {a:Rat} (h:Vl .f64 s a) (h1:-(7/10)≤a) (h2:a≤7/10):∃ r,Vl .f64 (fop .mul .f64 s s) r∧-(1/2)≤r∧r≤1/2:=by
 obtain ⟨m1,m2⟩:=mul_le_mul' h1 h2 h1 h2
 obtain ⟨p,p1,p2⟩:=mulV h h (B:=7/10*(7/10)) m1 m2 (X1D (by decide +kernel))
 have:=t64;have:=t64p
 unfold Nr at p2
 rw [u64] at p2
 exact ⟨p,p1,by grind,by grind⟩
theorem X7m {s q:Nat} {a b:Rat} {e:Int} (hs:Vl .f64 s a) (a1:-(7/10)≤a) (a2:a≤7/10) (hq:Vl .f64 q b) (b1:-3≤b) (b2:b≤3) (e1:-230≤e) (e2:e≤230) :
  ∃ r,Vl .f64 (fop .add .f64 (fop .mul .f64 4611686018427387904 (fop .mul .f64 s q)) (fop .mul .f64 (X5 .f64 e) 4604418534313441775)) r∧-165≤r∧r≤165:=by
 have:=t64;have:=t64p
 obtain ⟨m1,m2⟩:=mul_le_mul' a1 a2 b1 b2
 obtain ⟨p,p1,p2⟩:=mulV hs hq (B:=7/10*3) m1 m2 (X1D (by decide +kernel))
 unfold Nr at p2
 rw [u64] at p2
 obtain ⟨m,m1,m2⟩:=mulV cTwo p1 (B:=4.3) (by grind) (by grind) (X1D (by decide +kernel))
 unfold Nr at m2
 rw [u64] at m2
 have he1:((-230:Int):Rat)≤(e:Rat):=Rat.intCast_le_intCast.2 e1
 have he2:(e:Rat)≤((230:Int):Rat):=Rat.intCast_le_intCast.2 e2
 have x1:((-230:Int):Rat)=-230:=rfl
 have x2:((230:Int):Rat)=230:=rfl
 rw [x1] at he1
 rw [x2] at he2
 obtain ⟨n,n1,n2⟩:=mulV (X70 e (by omega) (by omega)) cLn2 (B:=160) (by grind) (by grind) (X1D (by decide +kernel))
 unfold Nr at n2
 rw [u64] at n2
 obtain ⟨r,r1,r2⟩:=addV m1 n1 (B:=164.5) (by grind) (by grind) (X1D (by decide +kernel))
 unfold Nr at r2
 rw [u64] at r2
 exact ⟨r,r1,by grind,by grind⟩
theorem X5g {x:Nat} (h1:fcmp .neq .f64 (fcv .f32 .f64 x) (fcv .f32 .f64 x)=false) (h2:fcmp .lss .f64 (fcv .f32 .f64 x) 0=false) (h3:fcmp .eql .f64 (fcv .f32 .f64 x) 0=false) (h4:fcmp .gtr .f64 (fcv .f32 .f64 x) 9218868437227405311=false) :
  Nw (fcv .f32 .f64 x)∧800≤fld (fcv .f32 .f64 x)∧fld (fcv .f32 .f64 x)≤1200:=by
 have hf:=X1Y x
 cases hr:single.read x with
 | nan s t =>
  exfalso
  rw [hr] at hf
  have:fcv .f32 .f64 x=Xj .f64:=hf
  rw [this] at h1
  revert h1;decide +kernel
 | infinity s =>
  exfalso
  rw [hr] at hf
  cases s with
  | false =>
   have:fcv .f32 .f64 x=9218868437227405312:=hf
   rw [this] at h4
   revert h4;decide +kernel
  | true =>
   have:fcv .f32 .f64 x=18442240474082181120:=hf
   rw [this] at h2
   revert h2;decide +kernel
 | number s m e =>
  rw [hr] at hf
  have hf:fcv .f32 .f64 x=double.nearest s m e:=hf
  obtain ⟨p1,p2,p3⟩:=X1v (x:=x) hr
  have z64:Vl .f64 0 0:=by unfold Vl;decide +kernel
  by_cases m0:m=0
  ·exfalso
   subst m0
   have:fcv .f32 .f64 x=double.word s 0:=by rw [hf];unfold Format.nearest;rw [if_pos rfl]
   rw [this] at h3
   cases s<;>(revert h3;decide +kernel)
  have hl:m.log2≤23:=X1K p1 m0
  cases s with
  | false =>
   rw [hf]
   obtain ⟨q1,q2⟩:=X3k (p:=e) m0 (by omega) (by omega) (by omega)
   exact ⟨q1,by omega,by omega⟩
  | true =>
   exfalso
   have hn:double.nearest true m e=double.signWeight + double.nearest false m e:=by
    unfold Format.nearest
    rw [if_neg m0,if_neg m0]
    unfold Format.word
    simp only [if_true,Bool.false_eq_true,if_false]
    rfl
   obtain ⟨q1,q2⟩:=X3k (p:=e) m0 (by omega) (by omega) (by omega)
   have hr2:double.read (double.nearest true m e)=(double.read (double.nearest false m e)).opposite:=by
    rw [hn]
    generalize double.nearest false m e=w at *
    obtain ⟨a,b⟩:=q1
    have hs:double.signWeight=9223372036854775808:=by decide +kernel
    unfold Format.read
    rw [hs,show (9223372036854775808 + w) % 9223372036854775808=w from by omega,show (9223372036854775808 + w) / 9223372036854775808=1 from by omega,show w % 9223372036854775808=w from by omega,show w / 9223372036854775808=0 from by omega]
    simp only [Datum.opposite]
    split
    ·rfl
    ·split
     ·rfl
     ·split<;>rfl
   have hv:=X2c q1
   have hv2:Vl .f64 (fcv .f32 .f64 x) (-(((4503599627370496 + double.nearest false m e % 4503599627370496:Nat):Rat) * (2:Rat)^(-1074 + ((fld (double.nearest false m e) - 1:Nat):Int)))):=by
    rw [hf]
    show vl (double.read (double.nearest true m e))=_
    rw [hr2]
    exact X3S hv
   rw [lssV hv2 z64] at h2
   have h2:=of_decide_eq_false h2
   have:=X67 q1 hv ((fld (double.nearest false m e):Int) - 1023) (by omega)
   have:=Xi ((fld (double.nearest false m e):Int) - 1023)
   grind
theorem X5h (a b:Int):0≤bitsOf .andNot .u64 a b∧bitsOf .andNot .u64 a b < 18446744073709551616:=by
 show 0≤IntKind.wrap .u64 _∧IntKind.wrap .u64 _ < _
 unfold IntKind.wrap
 rw [show IntKind.u64.bits=64 from rfl]
 have c:IntKind.u64.signed=false:=rfl
 simp only [c,Bool.false_and,Bool.false_eq_true,if_false]
 omega
theorem X68 {x:Nat} (h:fcmp .neq .f64 x x=false):X7 .f64 x=false:=by
 have h':((double.read x).order (double.read x) != some .eq)=false:=h
 show (double.read x).isNaN=false
 cases hr:double.read x with
 | nan s t=>rw [hr] at h';cases h'
 | infinity s=>rfl
 | number s m e=>rfl
theorem X7n {d:Datum} {s:Bool} {t:Nat} (hr:d = .nan s t):d.sum d.opposite=none:=by
 rw [hr];rfl
theorem X4a {x:Nat} (h:(FloatKind.f32.format.read x).sum (FloatKind.f32.format.read x).opposite=none):fop .sub .f32 x x=Xj .f32:=by
 rw [X3T,h];rfl
theorem X6y {x:Nat} (h3:fcmp .eql .f32 (fop .sub .f32 x x) 0=true) (hs:fop .sub .f32 x x=Xj .f32):False:=by
 rw [hs] at h3
 revert h3;decide +kernel
theorem X20 {x:Nat} (h1:fcmp .eql .f32 x 0=false) (h2:fcmp .lss .f32 x 0=false) (h3:fcmp .eql .f32 (fop .sub .f32 x x) 0=true):fcmp .gtr .f32 x 0=true:=by
 have r0:FloatKind.f32.format.read 0 = .number false 0 (-149):=by decide +kernel
 have h1:((FloatKind.f32.format.read x).order (FloatKind.f32.format.read 0) == some .eq)=false:=h1
 have h2:((FloatKind.f32.format.read x).order (FloatKind.f32.format.read 0) == some .lt)=false:=h2
 show ((FloatKind.f32.format.read x).order (FloatKind.f32.format.read 0) == some .gt)=true
 rw [r0] at h1 h2 ⊢
 cases hr:FloatKind.f32.format.read x with
 | nan s t =>
  exact (X6y h3 (X4a (X7n hr))).elim
 | infinity s =>
  rw [hr] at h2
  cases s with
  | true=>cases h2
  | false=>rfl
 | number s m e =>
  rw [hr] at h1 h2
  generalize hc:(Datum.number s m e).order (.number false 0 (-149))=c at *
  have:∃ o,c=some o:=⟨_,hc.symm⟩
  obtain ⟨o,rfl⟩:=this
  cases o
  ·cases h2
  ·cases h1
  ·rfl
end Go.Ab
