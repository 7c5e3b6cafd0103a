/- The functions of this seat as plain Lean, and that the program's are these. Printed by a program of the prover's own. -/
import Derived.Test.YtiddhiepmakopaaB0
set_option linter.unusedVariables false
set_option linter.unusedSimpArgs false
set_option maxRecDepth 100000
namespace Go.Ab
open Go.RowKit Go.Proofs.Try
def Zm (Y1:Nat):Bool:=(fcmp .eql .f32 (fop .sub .f32 Y1 Y1) 0)
theorem ZZ (Y1:Nat)   : Fn prog 44 [.f .f32 Y1] (.b (Zm Y1)) []:=by
 refine fnS E0Ok Z9 (c:=X1 f44) [] (.b (fcmp .eql .f32 (fop .sub .f32 Y1 Y1) 0)) [] func44 (sK [] sN) rfl (by kernel_rfl) (by kernel_rfl) rfl ?_ ?_
 · rfl
 · rfl
def Zo (Y3:Nat) (Y2:Nat):Bool:=(cond (Zm Y3)
  (cond (Zm Y2)
    (fcmp .gtr .f32 Y2 0)
    false)
  false)
theorem Z1n (Y3:Nat) (Y2:Nat)   : Fn prog 33 [.f .f32 Y3, .f .f32 Y2] (.b (Zo Y3 Y2)) []:=by
 have p {a C} (s:Scr a C):=sF (ZZ Y3)<|s
 cases h0:(Zm Y3) with
 | true =>
  have q {a C} (s:Scr a C):=p (sB h0<|sB h0<|sF (ZZ Y2)<|sB h0<|s)
  clear p
  cases h1:(Zm Y2) with
  | true =>
   refine fnS E0Ok Z9 (c:=X1 f33) [] (.b (fcmp .gtr .f32 Y2 0)) [] func33 (q (sB h1<|sB h1<|sB h1<|sK [] sN)) rfl (by kernel_rfl) (by kernel_rfl) rfl ?_ ?_
   · simp only [Zo,h0,h1,cond_true]
   · rfl
  | false =>
   refine fnS E0Ok Z9 (c:=X1 f33) [] (.b false) [] func33 (q (sB h1<|sB h1<|sB h1<|sK [] sN)) rfl (by kernel_rfl) (by kernel_rfl) rfl ?_ ?_
   · simp only [Zo,h0,h1,cond_true,cond_false]
   · rfl
 | false =>
  refine fnS E0Ok Z9 (c:=X1 f33) [] (.b false) [] func33 (p (sB h0<|sB h0<|sB h0<|sB (show false=false from rfl)<|sB (show false=false from rfl)<|sB (show false=false from rfl)<|sK [] sN)) rfl (by kernel_rfl) (by kernel_rfl) rfl ?_ ?_
  · simp only [Zo,h0,cond_false]
  · rfl
def Zd  : Nat:=(cn .f64 (Int.toNat 9221120237041090561))
theorem ZY    : Fn prog 88 [] (.f .f64 (Zd)) []:=by
 have y0:Int.toNat 9221120237041090561 < 2 ^ 64:=(by omega)
 refine fnS E0Ok Z9 (c:=X1 f88) [] (.f .f64 (cn .f64 (Int.toNat 9221120237041090561))) [] func88 (sC y0<|sK [] sN) rfl (by kernel_rfl) (by kernel_rfl) rfl ?_ ?_
 · rfl
 · rfl
def Zn (Yd:Int):Nat:=(cond (decide (Yd ≥ 0))
  (cn .f64 (Int.toNat 9218868437227405312))
  (cn .f64 (Int.toNat 18442240474082181120)))
theorem Z1u (Yd:Int)   : Fn prog 87 [.i .i64 Yd] (.f .f64 (Zn Yd)) []:=by
 cases h0:(decide (Yd ≥ 0)) with
 | true =>
  have gh0:=odt h0
  have y0:Int.toNat 9218868437227405312 < 2 ^ 64:=(by omega)
  refine fnS E0Ok Z9 (c:=X1 f87) [] (.f .f64 (cn .f64 (Int.toNat 9218868437227405312))) [] func87 (sB h0<|sC y0<|sK [] sN) rfl (by kernel_rfl) (by kernel_rfl) rfl ?_ ?_
  · simp only [Zn,h0,cond_true]
  · rfl
 | false =>
  have gh0:=odf h0
  have y0:Int.toNat 18442240474082181120 < 2 ^ 64:=(by omega)
  refine fnS E0Ok Z9 (c:=X1 f87) [] (.f .f64 (cn .f64 (Int.toNat 18442240474082181120))) [] func87 (sB h0<|sC y0<|sK [] sN) rfl (by kernel_rfl) (by kernel_rfl) rfl ?_ ?_
  · simp only [Zn,h0,cond_false]
  · rfl
def Z15 (Y1:Nat):Nat:=(cn .f64 (Int.toNat (bitsOf .andNot .u64 ((Y1:Nat):Int) 9223372036854775808)))
theorem Z1F (Y1:Nat) (hp0:X7 .f64 Y1=false)  : Fn prog 126 [.f .f64 Y1] (.f .f64 (Z15 Y1)) []:=by
 have y0:Int.toNat (bitsOf .andNot .u64 ((Y1:Nat):Int) 9223372036854775808) < 2 ^ 64:=(by (have q:=X5h ((Y1:Nat):Int) 9223372036854775808;omega))
 refine fnS E0Ok Z9 (c:=X1 f126) [] (.f .f64 (cn .f64 (Int.toNat (bitsOf .andNot .u64 ((Y1:Nat):Int) 9223372036854775808)))) [] func126 (sC (show X7 .f64 Y1=false from (by assumption))<|sQ (bitsOf .andNot .u64 ((Y1:Nat):Int) 9223372036854775808)<|sC y0<|sK [] sN) rfl (by kernel_rfl) (by kernel_rfl) rfl ?_ ?_
 · rfl
 · rfl
def Zb (Yg:Nat) (Yc:Int):Bool:=(cond (Yc == 0)
  (fcmp .gtr .f64 (Z15 Yg) 9218868437227405311)
  (cond (decide (Yc < 0))
    (fcmp .gtr .f64 (fneg .f64 Yg) 9218868437227405311)
    (fcmp .gtr .f64 Yg 9218868437227405311)))
theorem Z1y (Yg:Nat) (Yc:Int) (hp0:X7 .f64 Yg=false)  : Fn prog 116 [.f .f64 Yg, .i .i64 Yc] (.b (Zb Yg Yc)) []:=by
 cases h0:(Yc == 0) with
 | true =>
  have gh0:=eq_of_beq h0
  refine fnS E0Ok Z9 (c:=X1 f116) [] (.b (fcmp .gtr .f64 (Z15 Yg) 9218868437227405311)) [] func116 (sB h0<|sF (Z1F Yg hp0)<|sK [] sN) rfl (by kernel_rfl) (by kernel_rfl) rfl ?_ ?_
  · simp only [Zb,h0,cond_true]
  · rfl
 | false =>
  have gh0:=ne_of_beq_false h0
  have p {a C} (s:Scr a C):=sB h0<|s
  cases h1:(decide (Yc < 0)) with
  | true =>
   have gh1:=odt h1
   refine fnS E0Ok Z9 (c:=X1 f116) [] (.b (fcmp .gtr .f64 (fneg .f64 Yg) 9218868437227405311)) [] func116 (p (sB h1<|sK [] sN)) rfl (by kernel_rfl) (by kernel_rfl) rfl ?_ ?_
   · simp only [Zb,h0,h1,cond_true,cond_false]
   · rfl
  | false =>
   have gh1:=odf h1
   refine fnS E0Ok Z9 (c:=X1 f116) [] (.b (fcmp .gtr .f64 Yg 9218868437227405311)) [] func116 (p (sB h1<|sK [] sN)) rfl (by kernel_rfl) (by kernel_rfl) rfl ?_ ?_
   · simp only [Zb,h0,h1,cond_false]
   · rfl
def Z4 (Y0:Nat):Nat→Nat→Int→Nat × Int
  | 0,_,_=>default
  | k + 1,Y9,Y4=>(cond (fcmp .geq .f64 Y9 4609434218613702656)
    (Z4 Y0 k (fop .quo .f64 Y9 4611686018427387904) (Y4 + 1))
    (Y9,Y4))
def Zt (Y0:Nat) (r:Nat × Int):Ex × St:=((.exit 1),⟨.f .f64 r.1 :: .any :: .f .f64 0 :: .i .i64 r.2 :: an 4 (.b (fcmp .lss .f64 Y0 0) :: .f .f64 Y0 :: .f .f64 Y0 :: .b (fcmp .neq .f64 Y0 Y0) :: .b (fcmp .neq .f64 Y0 Y0) :: .f .f64 Y0 :: .b (fcmp .lss .f64 Y0 0) :: .b (fcmp .lss .f64 Y0 0) :: .any :: .b (fcmp .eql .f64 Y0 0) :: .f .f64 Y0 :: .b (fcmp .eql .f64 Y0 0) :: .any :: .b (Zb Y0 1) :: .f .f64 Y0 :: .b (Zb Y0 1) :: an 40 []),[]⟩)
def Z16 (Y0:Nat) (Y9:Nat) (Y4:Int):St:=⟨.f .f64 Y9 :: .any :: .f .f64 0 :: .i .i64 Y4 :: an 4 (.b (fcmp .lss .f64 Y0 0) :: .f .f64 Y0 :: .f .f64 Y0 :: .b (fcmp .neq .f64 Y0 Y0) :: .b (fcmp .neq .f64 Y0 Y0) :: .f .f64 Y0 :: .b (fcmp .lss .f64 Y0 0) :: .b (fcmp .lss .f64 Y0 0) :: .any :: .b (fcmp .eql .f64 Y0 0) :: .f .f64 Y0 :: .b (fcmp .eql .f64 Y0 0) :: .any :: .b (Zb Y0 1) :: .f .f64 Y0 :: .b (Zb Y0 1) :: an 40 []),[]⟩
def Zr:List Bool:=(mR false [0,1,1,2,4,8,1,3,1,3,40])
theorem Z17 (Y0:Nat) (hp0:∃ x:Nat,Y0=fcv .f32 .f64 x):∀ (k:Nat) (Y9:Nat) (Y4:Int) (ZC:0≤Y4) (ZD:Nw Y9) (ZE:Y4 + (fld Y9:Int)=(fld Y0:Int)) (ZF:800≤fld Y0) (ZG:fld Y0≤1200) (hk:fld Y9 < k),Lp prog 0 (sub (X1 f86) [1,1,1,0,0,0]) (Z16 Y0 Y9 Y4) (Zt Y0 (Z4 Y0 k Y9 Y4)).1 (Zt Y0 (Z4 Y0 k Y9 Y4)).2:=by
 intro k
 induction k with
 | zero=>intro Y9 Y4 ZC ZD ZE ZF ZG hk;exact absurd hk (Nat.not_lt_zero _)
 | succ k ih =>
  intro Y9 Y4 ZC ZD ZE ZF ZG hk
  cases Yb:(fcmp .geq .f64 Y9 4609434218613702656) with
  | true =>
   have Yh:(-9223372036854775808:Int)≤(Y4 + 1):=(by omega)
   have Yi:(Y4 + 1)≤(9223372036854775807:Int):=(by omega)
   have e:Z4 Y0 (k + 1) Y9 Y4=(Z4 Y0 k (fop .quo .f64 Y9 4611686018427387904) (Y4 + 1)):=by simp only [Z4,Yb,cond_true]
   rw [e]
   exact X36 E0Ok Z9 [] Zr [] (ih (fop .quo .f64 Y9 4611686018427387904) (Y4 + 1) (show 0≤(Y4 + 1) from (by omega)) (show Nw (fop .quo .f64 Y9 4611686018427387904) from (by have g:=XQ (by assumption) Yb;have w:=XS (by assumption) g;rw [XP (by assumption) (by omega)];exact w.1)) (show (Y4 + 1) + (fld (fop .quo .f64 Y9 4611686018427387904):Int)=(fld Y0:Int) from (by have g:=XQ (by assumption) Yb;have w:=XS (by assumption) g;rw [XP (by assumption) (by omega)];(rw [w.2];omega))) (show 800≤fld Y0 from (by assumption)) (show fld Y0≤1200 from (by assumption)) (by have g:=XQ (by assumption) Yb;have w:=XS (by assumption) g;rw [XP (by assumption) (by omega)];(rw [w.2];omega))) (sB Yb<|sI (Y4 + 1) Yh Yi<|sN) (by kernel_rfl)
  | false =>
   have e:Z4 Y0 (k + 1) Y9 Y4=(Y9,Y4):=by simp only [Z4,Yb,cond_false]
   rw [e]
   exact outR (e:=(.exit 1)) E0Ok Z9 [] Zr [] (sB Yb<|sN) (by kernel_rfl) (by intro h;cases h)
def Z3 (Y0:Nat):Nat × Int:=(Z4 Y0 (fld Y0 + 1) Y0 0)
theorem ZA {y:Nat} (h:∃ x,y=fcv .f32 .f64 x) (h0:fcmp .neq .f64 y y=false) (h1:fcmp .lss .f64 y 0=false) (h2:fcmp .eql .f64 y 0=false) (h3:Zb y 1=false):Nw y∧800≤fld y∧fld y≤1200:=by
  obtain ⟨x,rfl⟩:=h
  exact X5g h0 h1 h2 h3
theorem Z1L (y0:Nat):∀ (k y:Nat) (e:Int),fld y < k→Nw y→Nw (Z4 y0 k y e).1∧(Z4 y0 k y e).2 + (fld (Z4 y0 k y e).1:Int)=e + (fld y:Int)∧fld (Z4 y0 k y e).1≤1023:=by
  intro k
  induction k with
  | zero=>intro y e hk;exact absurd hk (Nat.not_lt_zero _)
  | succ k ih =>
    intro y e hk hw
    rw [Z4]
    cases h:fcmp .geq .f64 y 4609434218613702656 with
    | false=>rw [cond_false];exact ⟨hw,rfl,X6Y hw h⟩
    | true =>
      have g:=XQ hw h
      have w:=XS hw g
      rw [cond_true,XP hw (by omega)]
      obtain ⟨a,b,c⟩:=ih (y - 4503599627370496) (e + 1) (by omega) w.1
      exact ⟨a,by omega,c⟩
theorem Z13 (y:Nat) (hw:Nw y):Nw (Z3 y).1∧(Z3 y).2 + (fld (Z3 y).1:Int)=(fld y:Int)∧fld (Z3 y).1≤1023:=by
  obtain ⟨a,b,c⟩:=Z1L y (fld y + 1) y 0 (Nat.lt_succ_self _) hw
  rw [Int.zero_add] at b
  exact ⟨a,b,c⟩
def Z6 (Y0:Nat):Nat→Nat→Int→Nat × Int
  | 0,_,_=>default
  | k + 1,Y9,Y4=>(cond (fcmp .lss .f64 Y9 4604930618986332160)
    (Z6 Y0 k (fop .mul .f64 Y9 4611686018427387904) (Y4 - 1))
    (Y9,Y4))
def Zu (Y0:Nat) (r:Nat × Int):Ex × St:=((.exit 3),⟨.f .f64 r.1 :: .any :: .f .f64 0 :: .i .i64 r.2 :: an 4 (.b (fcmp .lss .f64 Y0 0) :: .f .f64 Y0 :: .f .f64 Y0 :: .b (fcmp .neq .f64 Y0 Y0) :: .b (fcmp .neq .f64 Y0 Y0) :: .f .f64 Y0 :: .b (fcmp .lss .f64 Y0 0) :: .b (fcmp .lss .f64 Y0 0) :: .any :: .b (fcmp .eql .f64 Y0 0) :: .f .f64 Y0 :: .b (fcmp .eql .f64 Y0 0) :: .any :: .b (Zb Y0 1) :: .f .f64 Y0 :: .b (Zb Y0 1) :: an 40 []),[]⟩)
def Z18 (Y0:Nat) (Y9:Nat) (Y4:Int):St:=⟨.f .f64 Y9 :: .any :: .f .f64 0 :: .i .i64 Y4 :: an 4 (.b (fcmp .lss .f64 Y0 0) :: .f .f64 Y0 :: .f .f64 Y0 :: .b (fcmp .neq .f64 Y0 Y0) :: .b (fcmp .neq .f64 Y0 Y0) :: .f .f64 Y0 :: .b (fcmp .lss .f64 Y0 0) :: .b (fcmp .lss .f64 Y0 0) :: .any :: .b (fcmp .eql .f64 Y0 0) :: .f .f64 Y0 :: .b (fcmp .eql .f64 Y0 0) :: .any :: .b (Zb Y0 1) :: .f .f64 Y0 :: .b (Zb Y0 1) :: an 40 []),[]⟩
def Zs:List Bool:=(mR false [0,1,1,2,4,8,1,3,1,3,40])
theorem Z19 (Y0:Nat) (hp0:∃ x:Nat,Y0=fcv .f32 .f64 x):∀ (k:Nat) (Y9:Nat) (Y4:Int) (ZH:Nw Y9) (ZI:Y4 + (fld Y9:Int)=(fld Y0:Int)) (ZJ:800≤fld Y0) (ZK:fld Y0≤1200) (ZL:fld Y9≤1023) (hk:(1023 - fld Y9:Nat) < k),Lp prog 0 (sub (X1 f86) [1,1,1,1,0,0,0]) (Z18 Y0 Y9 Y4) (Zu Y0 (Z6 Y0 k Y9 Y4)).1 (Zu Y0 (Z6 Y0 k Y9 Y4)).2:=by
 intro k
 induction k with
 | zero=>intro Y9 Y4 ZH ZI ZJ ZK ZL hk;exact absurd hk (Nat.not_lt_zero _)
 | succ k ih =>
  intro Y9 Y4 ZH ZI ZJ ZK ZL hk
  cases Yb:(fcmp .lss .f64 Y9 4604930618986332160) with
  | true =>
   have Yh:(-9223372036854775808:Int)≤(Y4 - 1):=(by omega)
   have Yi:(Y4 - 1)≤(9223372036854775807:Int):=(by omega)
   have e:Z6 Y0 (k + 1) Y9 Y4=(Z6 Y0 k (fop .mul .f64 Y9 4611686018427387904) (Y4 - 1)):=by simp only [Z6,Yb,cond_true]
   rw [e]
   exact X36 E0Ok Z9 [] Zs [] (ih (fop .mul .f64 Y9 4611686018427387904) (Y4 - 1) (show Nw (fop .mul .f64 Y9 4611686018427387904) from (by have g:=XR (by assumption) Yb;have w:=X16 (by assumption) g;rw [X15 (by assumption) (by omega)];exact w.1)) (show (Y4 - 1) + (fld (fop .mul .f64 Y9 4611686018427387904):Int)=(fld Y0:Int) from (by have g:=XR (by assumption) Yb;have w:=X16 (by assumption) g;rw [X15 (by assumption) (by omega)];(rw [w.2];omega))) (show 800≤fld Y0 from (by assumption)) (show fld Y0≤1200 from (by assumption)) (show fld (fop .mul .f64 Y9 4611686018427387904)≤1023 from (by have g:=XR (by assumption) Yb;have w:=X16 (by assumption) g;rw [X15 (by assumption) (by omega)];(rw [w.2];omega))) (by have g:=XR (by assumption) Yb;have w:=X16 (by assumption) g;rw [X15 (by assumption) (by omega)];(rw [w.2];omega))) (sB Yb<|sI (Y4 - 1) Yh Yi<|sN) (by kernel_rfl)
  | false =>
   have e:Z6 Y0 (k + 1) Y9 Y4=(Y9,Y4):=by simp only [Z6,Yb,cond_false]
   rw [e]
   exact outR (e:=(.exit 3)) E0Ok Z9 [] Zs [] (sB Yb<|sN) (by kernel_rfl) (by intro h;cases h)
def Z0 (Y0:Nat):Nat × Int:=(Z6 Y0 ((1023 - fld ((Z3 Y0).1):Nat) + 1) ((Z3 Y0).1) ((Z3 Y0).2))
theorem Z1M (y0:Nat):∀ (k y:Nat) (e:Int),1023 - fld y < k→Nw y→fld y≤1023→Nw (Z6 y0 k y e).1∧(Z6 y0 k y e).2 + (fld (Z6 y0 k y e).1:Int)=e + (fld y:Int)∧1022≤fld (Z6 y0 k y e).1∧fld (Z6 y0 k y e).1≤1023:=by
  intro k
  induction k with
  | zero=>intro y e hk;exact absurd hk (Nat.not_lt_zero _)
  | succ k ih =>
    intro y e hk hw hl
    rw [Z6]
    cases h:fcmp .lss .f64 y 4604930618986332160 with
    | false=>rw [cond_false];exact ⟨hw,rfl,X6Z hw h,hl⟩
    | true =>
      have g:=XR hw h
      have w:=X16 hw g
      rw [cond_true,X15 hw (by omega)]
      obtain ⟨a,b,c⟩:=ih (y + 4503599627370496) (e - 1) (by omega) w.1 (by omega)
      exact ⟨a,by omega,c⟩
theorem Z1D (y:Nat) (hw:Nw y):Nw (Z0 y).1∧(Z0 y).2 + (fld (Z0 y).1:Int)=(fld y:Int)∧1022≤fld (Z0 y).1∧fld (Z0 y).1≤1023:=by
  obtain ⟨a,b,c⟩:=Z13 y hw
  obtain ⟨d,e,f⟩:=Z1M y (1023 - fld (Z3 y).1 + 1) (Z3 y).1 (Z3 y).2 (Nat.lt_succ_self _) a c
  rw [b] at e
  exact ⟨d,e,f⟩
def Za (Y0:Nat):Nat→Nat→Int→Nat
  | 0,_,_=>default
  | k + 1,Ya,Y8=>(cond (decide (Y8 ≥ 1))
    (Za Y0 k (fop .add .f64 (fop .quo .f64 4607182418800017408 (X5 .f64 Y8)) (fop .mul .f64 (fop .mul .f64 (fop .quo .f64 (fop .sub .f64 ((Z0 Y0).1) 4607182418800017408) (fop .add .f64 ((Z0 Y0).1) 4607182418800017408)) (fop .quo .f64 (fop .sub .f64 ((Z0 Y0).1) 4607182418800017408) (fop .add .f64 ((Z0 Y0).1) 4607182418800017408))) Ya)) (Y8 - 2))
    Ya)
def Zv (Y0:Nat) (r:Nat):Ex × St:=((.exit 5),⟨.f .f64 ((Z0 Y0).1) :: .any :: .f .f64 0 :: .i .i64 ((Z0 Y0).2) :: .f .f64 (fop .quo .f64 (fop .sub .f64 ((Z0 Y0).1) 4607182418800017408) (fop .add .f64 ((Z0 Y0).1) 4607182418800017408)) :: .any :: .f .f64 r :: .any :: .b (fcmp .lss .f64 Y0 0) :: .f .f64 Y0 :: .f .f64 Y0 :: .b (fcmp .neq .f64 Y0 Y0) :: .b (fcmp .neq .f64 Y0 Y0) :: .f .f64 Y0 :: .b (fcmp .lss .f64 Y0 0) :: .b (fcmp .lss .f64 Y0 0) :: .any :: .b (fcmp .eql .f64 Y0 0) :: .f .f64 Y0 :: .b (fcmp .eql .f64 Y0 0) :: .any :: .b (Zb Y0 1) :: .f .f64 Y0 :: .b (Zb Y0 1) :: an 13 (.f .f64 ((Z0 Y0).1) :: .f .f64 (fop .sub .f64 ((Z0 Y0).1) 4607182418800017408) :: .f .f64 ((Z0 Y0).1) :: .f .f64 (fop .add .f64 ((Z0 Y0).1) 4607182418800017408) :: .f .f64 (fop .quo .f64 (fop .sub .f64 ((Z0 Y0).1) 4607182418800017408) (fop .add .f64 ((Z0 Y0).1) 4607182418800017408)) :: .f .f64 (fop .quo .f64 (fop .sub .f64 ((Z0 Y0).1) 4607182418800017408) (fop .add .f64 ((Z0 Y0).1) 4607182418800017408)) :: .f .f64 (fop .quo .f64 (fop .sub .f64 ((Z0 Y0).1) 4607182418800017408) (fop .add .f64 ((Z0 Y0).1) 4607182418800017408)) :: .f .f64 (fop .mul .f64 (fop .quo .f64 (fop .sub .f64 ((Z0 Y0).1) 4607182418800017408) (fop .add .f64 ((Z0 Y0).1) 4607182418800017408)) (fop .quo .f64 (fop .sub .f64 ((Z0 Y0).1) 4607182418800017408) (fop .add .f64 ((Z0 Y0).1) 4607182418800017408))) :: an 19 []),[]⟩)
def Z1a (Y0:Nat) (Ya:Nat) (Y8:Int):St:=⟨.f .f64 ((Z0 Y0).1) :: .any :: .f .f64 0 :: .i .i64 ((Z0 Y0).2) :: .f .f64 (fop .quo .f64 (fop .sub .f64 ((Z0 Y0).1) 4607182418800017408) (fop .add .f64 ((Z0 Y0).1) 4607182418800017408)) :: .f .f64 (fop .mul .f64 (fop .quo .f64 (fop .sub .f64 ((Z0 Y0).1) 4607182418800017408) (fop .add .f64 ((Z0 Y0).1) 4607182418800017408)) (fop .quo .f64 (fop .sub .f64 ((Z0 Y0).1) 4607182418800017408) (fop .add .f64 ((Z0 Y0).1) 4607182418800017408))) :: .f .f64 Ya :: .i .i64 Y8 :: .b (fcmp .lss .f64 Y0 0) :: .f .f64 Y0 :: .f .f64 Y0 :: .b (fcmp .neq .f64 Y0 Y0) :: .b (fcmp .neq .f64 Y0 Y0) :: .f .f64 Y0 :: .b (fcmp .lss .f64 Y0 0) :: .b (fcmp .lss .f64 Y0 0) :: .any :: .b (fcmp .eql .f64 Y0 0) :: .f .f64 Y0 :: .b (fcmp .eql .f64 Y0 0) :: .any :: .b (Zb Y0 1) :: .f .f64 Y0 :: .b (Zb Y0 1) :: an 13 (.f .f64 ((Z0 Y0).1) :: .f .f64 (fop .sub .f64 ((Z0 Y0).1) 4607182418800017408) :: .f .f64 ((Z0 Y0).1) :: .f .f64 (fop .add .f64 ((Z0 Y0).1) 4607182418800017408) :: .f .f64 (fop .quo .f64 (fop .sub .f64 ((Z0 Y0).1) 4607182418800017408) (fop .add .f64 ((Z0 Y0).1) 4607182418800017408)) :: .f .f64 (fop .quo .f64 (fop .sub .f64 ((Z0 Y0).1) 4607182418800017408) (fop .add .f64 ((Z0 Y0).1) 4607182418800017408)) :: .f .f64 (fop .quo .f64 (fop .sub .f64 ((Z0 Y0).1) 4607182418800017408) (fop .add .f64 ((Z0 Y0).1) 4607182418800017408)) :: .f .f64 (fop .mul .f64 (fop .quo .f64 (fop .sub .f64 ((Z0 Y0).1) 4607182418800017408) (fop .add .f64 ((Z0 Y0).1) 4607182418800017408)) (fop .quo .f64 (fop .sub .f64 ((Z0 Y0).1) 4607182418800017408) (fop .add .f64 ((Z0 Y0).1) 4607182418800017408))) :: an 19 []),[]⟩
def ZM:List Bool:=(mR false [0,1,1,14,1,3,1,3,13,8,19])
def Z11:List Bool:=(mR false [0,1,1,3,1,1,1,8,1,3,1,3,13,8,19])
theorem Z1b (Y0:Nat) (hp0:∃ x:Nat,Y0=fcv .f32 .f64 x):∀ (k:Nat) (Ya:Nat) (Y8:Int) (ZN:-1≤Y8) (ZO:Y8≤25) (hk:(Y8 + 1:Int).toNat + Y0 < k),Lp prog 0 (sub (X1 f86) [1,1,1,1,1,1,1,1,0,1,0,0]) (Z1a Y0 Ya Y8) (Zv Y0 (Za Y0 k Ya Y8)).1 (Zv Y0 (Za Y0 k Ya Y8)).2:=by
 intro k
 induction k with
 | zero=>intro Ya Y8 ZN ZO hk;exact absurd hk (Nat.not_lt_zero _)
 | succ k ih =>
  intro Ya Y8 ZN ZO hk
  cases Yb:(decide (Y8 ≥ 1)) with
  | true =>
   have gh_0:=odt Yb
   have Yh:(-9223372036854775808:Int)≤(Y8 - 2):=(by omega)
   have Yi:(Y8 - 2)≤(9223372036854775807:Int):=(by omega)
   have e:Za Y0 (k + 1) Ya Y8=(Za Y0 k (fop .add .f64 (fop .quo .f64 4607182418800017408 (X5 .f64 Y8)) (fop .mul .f64 (fop .mul .f64 (fop .quo .f64 (fop .sub .f64 ((Z0 Y0).1) 4607182418800017408) (fop .add .f64 ((Z0 Y0).1) 4607182418800017408)) (fop .quo .f64 (fop .sub .f64 ((Z0 Y0).1) 4607182418800017408) (fop .add .f64 ((Z0 Y0).1) 4607182418800017408))) Ya)) (Y8 - 2)):=by simp only [Za,Yb,cond_true]
   rw [e]
   exact X36 E0Ok Z9 [] ZM [] (ih (fop .add .f64 (fop .quo .f64 4607182418800017408 (X5 .f64 Y8)) (fop .mul .f64 (fop .mul .f64 (fop .quo .f64 (fop .sub .f64 ((Z0 Y0).1) 4607182418800017408) (fop .add .f64 ((Z0 Y0).1) 4607182418800017408)) (fop .quo .f64 (fop .sub .f64 ((Z0 Y0).1) 4607182418800017408) (fop .add .f64 ((Z0 Y0).1) 4607182418800017408))) Ya)) (Y8 - 2) (show -1≤(Y8 - 2) from (by omega)) (show (Y8 - 2)≤25 from (by omega)) (by omega)) (sB Yb<|sI (Y8 - 2) Yh Yi<|sN) (by kernel_rfl)
  | false =>
   have gh_0:=odf Yb
   have e:Za Y0 (k + 1) Ya Y8=Ya:=by simp only [Za,Yb,cond_false]
   rw [e]
   exact outR (e:=(.exit 5)) E0Ok Z9 [] Z11 [] (sB Yb<|sN) (by kernel_rfl) (by intro h;cases h)
def Zh (Y0:Nat):Nat:=(Za Y0 ((25 + 1:Int).toNat + Y0 + 1) 0 25)
def Z2 (Y0:Nat):Nat:=(cond (fcmp .neq .f64 Y0 Y0)
  (Zd)
  (cond (fcmp .lss .f64 Y0 0)
    (Zd)
    (cond (fcmp .eql .f64 Y0 0)
      (Zn (-1))
      (cond (Zb Y0 1)
        Y0
        (fop .add .f64 (fop .mul .f64 4611686018427387904 (fop .mul .f64 (fop .quo .f64 (fop .sub .f64 ((Z0 Y0).1) 4607182418800017408) (fop .add .f64 ((Z0 Y0).1) 4607182418800017408)) (Zh Y0))) (fop .mul .f64 (X5 .f64 ((Z0 Y0).2)) 4604418534313441775))))))
theorem Z1j (Y0:Nat) (hp0:∃ x:Nat,Y0=fcv .f32 .f64 x)  : Fn prog 86 [.f .f64 Y0] (.f .f64 (Z2 Y0)) []:=by
 cases h0:(fcmp .neq .f64 Y0 Y0) with
 | true =>
  have hv:Z2 Y0=(Zd):=by unfold Z2;rw [h0,cond_true]
  refine fnS E0Ok Z9 (c:=X1 f86) [] (.f .f64 (Zd)) [] func86 (sB h0<|sB h0<|sB h0<|sB (show true=true from rfl)<|sF (ZY )<|sK [] sN) rfl (by kernel_rfl) (by kernel_rfl) rfl ?_ ?_
  · rw [hv]
  · rfl
 | false =>
  have p {a C} (s:Scr a C):=sB h0<|sB h0<|sB h0<|s
  cases h1:(fcmp .lss .f64 Y0 0) with
  | true =>
   have hv:Z2 Y0=(Zd):=by unfold Z2;rw [h0,cond_false,h1,cond_true]
   refine fnS E0Ok Z9 (c:=X1 f86) [] (.f .f64 (Zd)) [] func86 (p (sB h1<|sF (ZY )<|sK [] sN)) rfl (by kernel_rfl) (by kernel_rfl) rfl ?_ ?_
   · rw [hv]
   · rfl
  | false =>
   have q {a C} (s:Scr a C):=p (sB h1<|s)
   clear p
   cases h2:(fcmp .eql .f64 Y0 0) with
   | true =>
    have hv:Z2 Y0=(Zn (-1)):=by unfold Z2;rw [h0,cond_false,h1,cond_false,h2,cond_true]
    refine fnS E0Ok Z9 (c:=X1 f86) [] (.f .f64 (Zn (-1))) [] func86 (q (sB h2<|sF (Z1u (-1))<|sK [] sN)) rfl (by kernel_rfl) (by kernel_rfl) rfl ?_ ?_
    · rw [hv]
    · rfl
   | false =>
    have yf0:X7 .f64 Y0=false:=by clear q;exact (by exact X68 h0)
    have p {a C} (s:Scr a C):=q (sB h2<|sF (Z1y Y0 1 yf0)<|s)
    clear q
    cases h3:(Zb Y0 1) with
    | true =>
     have hv:Z2 Y0=Y0:=by unfold Z2;rw [h0,cond_false,h1,cond_false,h2,cond_false,h3,cond_true]
     refine fnS E0Ok Z9 (c:=X1 f86) [] (.f .f64 Y0) [] func86 (p (sB h3<|sK [] sN)) rfl (by kernel_rfl) (by kernel_rfl) rfl ?_ ?_
     · rw [hv]
     · rfl
    | false =>
     have hv:Z2 Y0=(fop .add .f64 (fop .mul .f64 4611686018427387904 (fop .mul .f64 (fop .quo .f64 (fop .sub .f64 ((Z0 Y0).1) 4607182418800017408) (fop .add .f64 ((Z0 Y0).1) 4607182418800017408)) (Zh Y0))) (fop .mul .f64 (X5 .f64 ((Z0 Y0).2)) 4604418534313441775)):=by unfold Z2;rw [h0,cond_false,h1,cond_false,h2,cond_false,h3,cond_false]
     refine fnS E0Ok Z9 (c:=X1 f86) [] (.f .f64 (fop .add .f64 (fop .mul .f64 4611686018427387904 (fop .mul .f64 (fop .quo .f64 (fop .sub .f64 ((Z0 Y0).1) 4607182418800017408) (fop .add .f64 ((Z0 Y0).1) 4607182418800017408)) (Zh Y0))) (fop .mul .f64 (X5 .f64 ((Z0 Y0).2)) 4604418534313441775))) [] func86 (p (sB h3<|sL Zr 0 (X2n (Zt Y0) (x:=(Z3 Y0)) (Z17 Y0 hp0 (fld Y0 + 1) Y0 0 (show 0≤0 from (by have lp_:=ZA hp0 h0 h1 h2 h3;omega)) (show Nw Y0 from (by have lp_:=ZA hp0 h0 h1 h2 h3;exact lp_.1)) (show 0 + (fld Y0:Int)=(fld Y0:Int) from (by have lp_:=ZA hp0 h0 h1 h2 h3;omega)) (show 800≤fld Y0 from (by have lp_:=ZA hp0 h0 h1 h2 h3;exact lp_.2.1)) (show fld Y0≤1200 from (by have lp_:=ZA hp0 h0 h1 h2 h3;exact lp_.2.2)) (Nat.lt_succ_self _)) rfl)<|sL Zs 0 (X2n (Zu Y0) (x:=(Z0 Y0)) (Z19 Y0 hp0 ((1023 - fld ((Z3 Y0).1):Nat) + 1) ((Z3 Y0).1) ((Z3 Y0).2) (show Nw ((Z3 Y0).1) from (by have lp_:=ZA hp0 h0 h1 h2 h3;exact (Z13 Y0 lp_.1).1)) (show ((Z3 Y0).2) + (fld ((Z3 Y0).1):Int)=(fld Y0:Int) from (by have lp_:=ZA hp0 h0 h1 h2 h3;exact (Z13 Y0 lp_.1).2.1)) (show 800≤fld Y0 from (by have lp_:=ZA hp0 h0 h1 h2 h3;exact lp_.2.1)) (show fld Y0≤1200 from (by have lp_:=ZA hp0 h0 h1 h2 h3;exact lp_.2.2)) (show fld ((Z3 Y0).1)≤1023 from (by have lp_:=ZA hp0 h0 h1 h2 h3;exact (Z13 Y0 lp_.1).2.2)) (Nat.lt_succ_self _)) rfl)<|sL ZM 0 (X2n (Zv Y0) (x:=(Zh Y0)) (Z1b Y0 hp0 ((25 + 1:Int).toNat + Y0 + 1) 0 25 (show -1≤25 from (by have lp_:=ZA hp0 h0 h1 h2 h3;omega)) (show 25≤25 from (by have lp_:=ZA hp0 h0 h1 h2 h3;omega)) (Nat.lt_succ_self _)) rfl)<|sK [] sN)) rfl (by kernel_rfl) (by kernel_rfl) rfl ?_ ?_
     · rw [hv]
     · rfl
theorem Z1N (y:Nat) (hw:Nw y):∀ (n q:Nat) (b:Rat) (k:Int),Vl .f64 q b→-3≤b→b≤3→k≤25→∃ r,Vl .f64 (Za y n q k) r∧-3≤r∧r≤3:=by
  obtain ⟨a1,-,a3,a4⟩:=Z1D y hw
  obtain ⟨s,s1,s2,s3⟩:=X74 a1 a3 a4
  obtain ⟨u,u1,u2,u3⟩:=X7K s1 s2 s3
  intro n
  induction n with
  | zero=>intro q b k hq h1 h2 hk;exact ⟨0,by show Vl .f64 0 0;unfold Vl;decide +kernel,by decide,by decide⟩
  | succ n ih =>
    intro q b k hq h1 h2 hk
    rw [Za]
    cases h:decide (k ≥ 1) with
    | false=>exact ⟨b,hq,h1,h2⟩
    | true =>
      have h:=odt h
      obtain ⟨r,r1,r2,r3⟩:=X71 u1 u2 u3 hq h1 h2 h hk
      rw [cond_true]
      exact ih _ _ _ r1 r2 r3 (by omega)
theorem Z1E (y:Nat) (hw:Nw y) (hl:800≤fld y) (hu:fld y≤1200):∃ r,Vl .f64 (fop .add .f64 (fop .mul .f64 4611686018427387904 (fop .mul .f64 (fop .quo .f64 (fop .sub .f64 ((Z0 y).1) 4607182418800017408) (fop .add .f64 ((Z0 y).1) 4607182418800017408)) (Zh y))) (fop .mul .f64 (X5 .f64 ((Z0 y).2)) 4604418534313441775)) r∧-165≤r∧r≤165:=by
  obtain ⟨a1,a2,a3,a4⟩:=Z1D y hw
  obtain ⟨s,s1,s2,s3⟩:=X74 a1 a3 a4
  have z:Vl .f64 0 0:=by unfold Vl;decide +kernel
  obtain ⟨b,b1,b2,b3⟩:=Z1N y hw ((25 + 1:Int).toNat + y + 1) 0 0 25 z (by decide) (by decide) (by omega)
  exact X7m s1 s2 s3 b1 b2 b3 (by omega) (by omega)
theorem Z1l {y:Nat} (h0:fcmp .neq .f64 y y=false) (h1:fcmp .lss .f64 y 0=false) (h2:fcmp .eql .f64 y 0=false) (h3:Zb y 1=false):Z2 y=fop .add .f64 (fop .mul .f64 4611686018427387904 (fop .mul .f64 (fop .quo .f64 (fop .sub .f64 ((Z0 y).1) 4607182418800017408) (fop .add .f64 ((Z0 y).1) 4607182418800017408)) (Zh y))) (fop .mul .f64 (X5 .f64 ((Z0 y).2)) 4604418534313441775):=by
  unfold Z2
  rw [h0,cond_false,h1,cond_false,h2,cond_false,h3,cond_false]
theorem Z1C (x:Nat):XB .f64 .f32 (Z2 (fcv .f32 .f64 x))=true:=by
  cases h0:fcmp .neq .f64 (fcv .f32 .f64 x) (fcv .f32 .f64 x) with
  | true =>
    have e:Z2 (fcv .f32 .f64 x)=Zd:=by unfold Z2;rw [h0,cond_true]
    rw [e];decide +kernel
  | false =>
    cases h1:fcmp .lss .f64 (fcv .f32 .f64 x) 0 with
    | true =>
      have e:Z2 (fcv .f32 .f64 x)=Zd:=by unfold Z2;rw [h0,cond_false,h1,cond_true]
      rw [e];decide +kernel
    | false =>
      cases h2:fcmp .eql .f64 (fcv .f32 .f64 x) 0 with
      | true =>
        have e:Z2 (fcv .f32 .f64 x)=Zn (-1):=by unfold Z2;rw [h0,cond_false,h1,cond_false,h2,cond_true]
        rw [e];decide +kernel
      | false =>
        cases h3:Zb (fcv .f32 .f64 x) 1 with
        | true =>
          have e:Z2 (fcv .f32 .f64 x)=fcv .f32 .f64 x:=by unfold Z2;rw [h0,cond_false,h1,cond_false,h2,cond_false,h3,cond_true]
          rw [e,(X5i h3).1];decide +kernel
        | false =>
          obtain ⟨a,b,c⟩:=X5g h0 h1 h2 h3
          obtain ⟨r,r1,r2,r3⟩:=Z1E _ a b c
          rw [Z1l h0 h1 h2 h3]
          exact X5D r1 (by grind) (by grind)
def Zw (Y1:Nat):Nat:=(fcv .f64 .f32 Y1)
theorem Z1o (Y1:Nat) (hp0:XB .f64 .f32 Y1=true)  : Fn prog 85 [.f .f64 Y1] (.f .f32 (Zw Y1)) []:=by
 refine fnS E0Ok Z9 (c:=X1 f85) [] (.f .f32 (fcv .f64 .f32 Y1)) [] func85 (sC hp0<|sK [] sN) rfl (by kernel_rfl) (by kernel_rfl) rfl ?_ ?_
 · rfl
 · rfl
def ZB (Y1:Nat):Nat:=(Zw (Z2 (fcv .f32 .f64 Y1)))
theorem Z1w (Y1:Nat)   : Fn prog 34 [.f .f32 Y1] (.f .f32 (ZB Y1)) []:=by
 have y0:∃ x:Nat,(fcv .f32 .f64 Y1)=fcv .f32 .f64 x:=(by exact ⟨Y1,rfl⟩)
 have y1:XB .f64 .f32 (Z2 (fcv .f32 .f64 Y1))=true:=(by exact Z1C Y1)
 refine fnS E0Ok Z9 (c:=X1 f34) [] (.f .f32 (Zw (Z2 (fcv .f32 .f64 Y1)))) [] func34 (sC (X35 Y1)<|sF (Z1j (fcv .f32 .f64 Y1) y0)<|sF (Z1o (Z2 (fcv .f32 .f64 Y1)) y1)<|sK [] sN) rfl (by kernel_rfl) (by kernel_rfl) rfl ?_ ?_
 · rfl
 · rfl
def Zg (Y3:Nat) (Y2:Nat):Nat × Bool:=(cond (Zo Y3 Y2)
  ((fneg .f32 (fop .mul .f32 Y3 (ZB Y2))),true)
  (0,false))
theorem Z1p (Y3:Nat) (Y2:Nat)   : Fn prog 9 [.f .f32 Y3, .f .f32 Y2] (.tup [.f .f32 ((Zg Y3 Y2).1), .b ((Zg Y3 Y2).2)]) []:=by
 have p {a C} (s:Scr a C):=sF (Z1n Y3 Y2)<|s
 cases h0:(Zo Y3 Y2) with
 | true =>
  refine fnS E0Ok Z9 (c:=X1 f9) [] (.tup [.f .f32 (fneg .f32 (fop .mul .f32 Y3 (ZB Y2))), .b true]) [] func9 (p (sB' h0<|sF (Z1w Y2)<|sK [] sN)) rfl (by kernel_rfl) (by kernel_rfl) rfl ?_ ?_
  · simp only [Zg,h0,cond_true]
  · rfl
 | false =>
  refine fnS E0Ok Z9 (c:=X1 f9) [] (.tup [.f .f32 0, .b false]) [] func9 (p (sB' h0<|sK [] sN)) rfl (by kernel_rfl) (by kernel_rfl) rfl ?_ ?_
  · simp only [Zg,h0,cond_false]
  · rfl
def Zi (Y1:Nat):Bool:=(fcmp .eql .f32 (fop .sub .f32 Y1 Y1) 0)
theorem ZW (Y1:Nat)   : Fn prog 35 [.f .f32 Y1] (.b (Zi Y1)) []:=by
 refine fnS E0Ok Z9 (c:=X1 f35) [] (.b (fcmp .eql .f32 (fop .sub .f32 Y1 Y1) 0)) [] func35 (sK [] sN) rfl (by kernel_rfl) (by kernel_rfl) rfl ?_ ?_
 · rfl
 · rfl
def Zq (Y1:Nat):Bool:=(cond (Zi Y1)
  (fcmp .gtr .f32 Y1 0)
  false)
theorem Z1x (Y1:Nat)   : Fn prog 36 [.f .f32 Y1] (.b (Zq Y1)) []:=by
 have p {a C} (s:Scr a C):=sF (ZW Y1)<|s
 cases h0:(Zi Y1) with
 | true =>
  refine fnS E0Ok Z9 (c:=X1 f36) [] (.b (fcmp .gtr .f32 Y1 0)) [] func36 (p (sB h0<|sB h0<|sB h0<|sK [] sN)) rfl (by kernel_rfl) (by kernel_rfl) rfl ?_ ?_
  · simp only [Zq,h0,cond_true]
  · rfl
 | false =>
  refine fnS E0Ok Z9 (c:=X1 f36) [] (.b false) [] func36 (p (sB h0<|sB h0<|sB h0<|sK [] sN)) rfl (by kernel_rfl) (by kernel_rfl) rfl ?_ ?_
  · simp only [Zq,h0,cond_false]
  · rfl
def Z14:List Nat:=[4627730092099895296,4627167142146473984,4626604192193052672,4626041242239631360,4625478292286210048,4624633867356078080,4623507967449235456,4622382067542392832,4621256167635550208,4619567317775286272,4617315517961601024,4613937818241073152,4607182418800017408,13830554455654793216]
def kIx (w:Nat):Nat:=if w=4627730092099895296 then 13 else if w=4627167142146473984 then 12 else if w=4626604192193052672 then 11 else if w=4626041242239631360 then 10 else if w=4625478292286210048 then 9 else if w=4624633867356078080 then 8 else if w=4623507967449235456 then 7 else if w=4622382067542392832 then 6 else if w=4621256167635550208 then 5 else if w=4619567317775286272 then 4 else if w=4617315517961601024 then 3 else if w=4613937818241073152 then 2 else if w=4607182418800017408 then 1 else if w=13830554455654793216 then 0 else 0
theorem Z1m (w:Nat) (h:w∈Z14) (g:fcmp .geq .f64 w 4607182418800017408=true):fop .sub .f64 w 4611686018427387904∈Z14∧kIx (fop .sub .f64 w 4611686018427387904) < kIx w:=by
  simp only [Z14,List.mem_cons,List.not_mem_nil,or_false] at h
  rcases h with rfl | rfl | rfl | rfl | rfl | rfl | rfl | rfl | rfl | rfl | rfl | rfl | rfl | rfl
  all_goals first | exact ⟨by decide +kernel,by decide +kernel⟩ | exact absurd g (by decide +kernel)
def Z8 (Y1:Nat):Nat→Nat→Nat→Nat × Nat
  | 0,_,_=>default
  | k + 1,Y7,Y4=>(cond (fcmp .geq .f64 Y7 4609434218613702656)
    (Z8 Y1 k (fop .quo .f64 Y7 4611686018427387904) (fop .add .f64 Y4 4607182418800017408))
    (Y7,Y4))
def Zx (Y1:Nat) (r:Nat × Nat):Ex × St:=((.exit 0),⟨.f .f64 r.1 :: .any :: .f .f64 0 :: .f .f64 r.2 :: an 41 [],[]⟩)
def Z1c (Y1:Nat) (Y7:Nat) (Y4:Nat):St:=⟨.f .f64 Y7 :: .any :: .f .f64 0 :: .f .f64 Y4 :: an 41 [],[]⟩
theorem Z1d (Y1:Nat) (hp0:Nw Y1) (hp1:800≤fld Y1) (hp2:fld Y1≤1200):∀ (k:Nat) (Y7:Nat) (Y4:Nat) (ZP:Nw Y7) (ZQ:800≤fld Y7) (ZR:fld Y7≤1200) (hk:fld Y7 < k),Lp prog 0 (sub (X1 f89) [1,1,0,0,0]) (Z1c Y1 Y7 Y4) (Zx Y1 (Z8 Y1 k Y7 Y4)).1 (Zx Y1 (Z8 Y1 k Y7 Y4)).2:=by
 intro k
 induction k with
 | zero=>intro Y7 Y4 ZP ZQ ZR hk;exact absurd hk (Nat.not_lt_zero _)
 | succ k ih =>
  intro Y7 Y4 ZP ZQ ZR hk
  cases Yb:(fcmp .geq .f64 Y7 4609434218613702656) with
  | true =>
   have e:Z8 Y1 (k + 1) Y7 Y4=(Z8 Y1 k (fop .quo .f64 Y7 4611686018427387904) (fop .add .f64 Y4 4607182418800017408)):=by simp only [Z8,Yb,cond_true]
   rw [e]
   exact X36 E0Ok Z9 [] (mR false [0,1,1,2,41]) [] (ih (fop .quo .f64 Y7 4611686018427387904) (fop .add .f64 Y4 4607182418800017408) (show Nw (fop .quo .f64 Y7 4611686018427387904) from (by have g:=XQ (by assumption) Yb;have w:=XS (by assumption) g;rw [XP (by assumption) (by omega)];exact w.1)) (show 800≤fld (fop .quo .f64 Y7 4611686018427387904) from (by have g:=XQ (by assumption) Yb;have w:=XS (by assumption) g;rw [XP (by assumption) (by omega)];(rw [w.2];omega))) (show fld (fop .quo .f64 Y7 4611686018427387904)≤1200 from (by have g:=XQ (by assumption) Yb;have w:=XS (by assumption) g;rw [XP (by assumption) (by omega)];(rw [w.2];omega))) (by have g:=XQ (by assumption) Yb;have w:=XS (by assumption) g;rw [XP (by assumption) (by omega)];(rw [w.2];omega))) (sB Yb<|sN) (by kernel_rfl)
  | false =>
   have e:Z8 Y1 (k + 1) Y7 Y4=(Y7,Y4):=by simp only [Z8,Yb,cond_false]
   rw [e]
   exact outR (e:=(.exit 0)) E0Ok Z9 [] (mR false [0,1,1,2,41]) [] (sB Yb<|sN) (by kernel_rfl) (by intro h;cases h)
def Z7 (Y1:Nat):Nat × Nat:=(Z8 Y1 (fld Y1 + 1) Y1 0)
theorem Z1I (x0:Nat):∀ (k x:Nat) (e:Nat),fld x < k→Nw x→800≤fld x→fld x≤1200→Nw (Z8 x0 k x e).1∧800≤fld (Z8 x0 k x e).1∧fld (Z8 x0 k x e).1≤1200:=by
  intro k
  induction k with
  | zero=>intro x e hk;exact absurd hk (Nat.not_lt_zero _)
  | succ k ih =>
    intro x e hk hw hl hu
    rw [Z8]
    cases h:fcmp .geq .f64 x 4609434218613702656 with
    | false=>rw [cond_false];exact ⟨hw,hl,hu⟩
    | true =>
      have g:=XQ hw h
      have w:=XS hw g
      rw [cond_true,XP hw (by omega)]
      exact ih _ _ (by omega) w.1 (by omega) (by omega)
theorem Z1q (x:Nat) (hw:Nw x) (hl:800≤fld x) (hu:fld x≤1200):Nw (Z7 x).1∧800≤fld (Z7 x).1∧fld (Z7 x).1≤1200 :=
  Z1I x _ _ _ (Nat.lt_succ_self _) hw hl hu
def Ze (Y1:Nat):Nat→Nat→Nat→Nat × Nat
  | 0,_,_=>default
  | k + 1,Y7,Y4=>(cond (fcmp .lss .f64 Y7 4604930618986332160)
    (Ze Y1 k (fop .mul .f64 Y7 4611686018427387904) (fop .sub .f64 Y4 4607182418800017408))
    (Y7,Y4))
def Zy (Y1:Nat) (r:Nat × Nat):Ex × St:=((.exit 2),⟨.f .f64 r.1 :: .any :: .f .f64 0 :: .f .f64 r.2 :: an 41 [],[]⟩)
def Z1e (Y1:Nat) (Y7:Nat) (Y4:Nat):St:=⟨.f .f64 Y7 :: .any :: .f .f64 0 :: .f .f64 Y4 :: an 41 [],[]⟩
theorem Z1f (Y1:Nat) (hp0:Nw Y1) (hp1:800≤fld Y1) (hp2:fld Y1≤1200):∀ (k:Nat) (Y7:Nat) (Y4:Nat) (ZS:Nw Y7) (ZT:800≤fld Y7) (ZU:fld Y7≤1200) (hk:(1023 - fld Y7:Nat) < k),Lp prog 0 (sub (X1 f89) [1,1,1,0,0,0]) (Z1e Y1 Y7 Y4) (Zy Y1 (Ze Y1 k Y7 Y4)).1 (Zy Y1 (Ze Y1 k Y7 Y4)).2:=by
 intro k
 induction k with
 | zero=>intro Y7 Y4 ZS ZT ZU hk;exact absurd hk (Nat.not_lt_zero _)
 | succ k ih =>
  intro Y7 Y4 ZS ZT ZU hk
  cases Yb:(fcmp .lss .f64 Y7 4604930618986332160) with
  | true =>
   have e:Ze Y1 (k + 1) Y7 Y4=(Ze Y1 k (fop .mul .f64 Y7 4611686018427387904) (fop .sub .f64 Y4 4607182418800017408)):=by simp only [Ze,Yb,cond_true]
   rw [e]
   exact X36 E0Ok Z9 [] (mR false [0,1,1,2,41]) [] (ih (fop .mul .f64 Y7 4611686018427387904) (fop .sub .f64 Y4 4607182418800017408) (show Nw (fop .mul .f64 Y7 4611686018427387904) from (by have g:=XR (by assumption) Yb;have w:=X16 (by assumption) g;rw [X15 (by assumption) (by omega)];exact w.1)) (show 800≤fld (fop .mul .f64 Y7 4611686018427387904) from (by have g:=XR (by assumption) Yb;have w:=X16 (by assumption) g;rw [X15 (by assumption) (by omega)];(rw [w.2];omega))) (show fld (fop .mul .f64 Y7 4611686018427387904)≤1200 from (by have g:=XR (by assumption) Yb;have w:=X16 (by assumption) g;rw [X15 (by assumption) (by omega)];(rw [w.2];omega))) (by have g:=XR (by assumption) Yb;have w:=X16 (by assumption) g;rw [X15 (by assumption) (by omega)];(rw [w.2];omega))) (sB Yb<|sN) (by kernel_rfl)
  | false =>
   have e:Ze Y1 (k + 1) Y7 Y4=(Y7,Y4):=by simp only [Ze,Yb,cond_false]
   rw [e]
   exact outR (e:=(.exit 2)) E0Ok Z9 [] (mR false [0,1,1,2,41]) [] (sB Yb<|sN) (by kernel_rfl) (by intro h;cases h)
def Z1 (Y1:Nat):Nat × Nat:=(Ze Y1 ((1023 - fld ((Z7 Y1).1):Nat) + 1) ((Z7 Y1).1) ((Z7 Y1).2))
def Zc (Y1:Nat):Nat→Nat→Nat→Nat
  | 0,_,_=>default
  | k + 1,Ya,Y8=>(cond (fcmp .geq .f64 Y8 4607182418800017408)
    (Zc Y1 k (fop .add .f64 (fop .quo .f64 4607182418800017408 Y8) (fop .mul .f64 (fop .mul .f64 (fop .quo .f64 (fop .sub .f64 ((Z1 Y1).1) 4607182418800017408) (fop .add .f64 ((Z1 Y1).1) 4607182418800017408)) (fop .quo .f64 (fop .sub .f64 ((Z1 Y1).1) 4607182418800017408) (fop .add .f64 ((Z1 Y1).1) 4607182418800017408))) Ya)) (fop .sub .f64 Y8 4611686018427387904))
    Ya)
def Zz (Y1:Nat) (r:Nat):Ex × St:=((.exit 4),⟨.f .f64 ((Z1 Y1).1) :: .any :: .f .f64 0 :: .f .f64 ((Z1 Y1).2) :: .f .f64 (fop .quo .f64 (fop .sub .f64 ((Z1 Y1).1) 4607182418800017408) (fop .add .f64 ((Z1 Y1).1) 4607182418800017408)) :: .any :: .f .f64 r :: an 13 (.f .f64 ((Z1 Y1).1) :: .f .f64 (fop .sub .f64 ((Z1 Y1).1) 4607182418800017408) :: .f .f64 ((Z1 Y1).1) :: .f .f64 (fop .add .f64 ((Z1 Y1).1) 4607182418800017408) :: .f .f64 (fop .quo .f64 (fop .sub .f64 ((Z1 Y1).1) 4607182418800017408) (fop .add .f64 ((Z1 Y1).1) 4607182418800017408)) :: .f .f64 (fop .quo .f64 (fop .sub .f64 ((Z1 Y1).1) 4607182418800017408) (fop .add .f64 ((Z1 Y1).1) 4607182418800017408)) :: .f .f64 (fop .quo .f64 (fop .sub .f64 ((Z1 Y1).1) 4607182418800017408) (fop .add .f64 ((Z1 Y1).1) 4607182418800017408)) :: .f .f64 (fop .mul .f64 (fop .quo .f64 (fop .sub .f64 ((Z1 Y1).1) 4607182418800017408) (fop .add .f64 ((Z1 Y1).1) 4607182418800017408)) (fop .quo .f64 (fop .sub .f64 ((Z1 Y1).1) 4607182418800017408) (fop .add .f64 ((Z1 Y1).1) 4607182418800017408))) :: an 17 []),[]⟩)
def Z1g (Y1:Nat) (Ya:Nat) (Y8:Nat):St:=⟨.f .f64 ((Z1 Y1).1) :: .any :: .f .f64 0 :: .f .f64 ((Z1 Y1).2) :: .f .f64 (fop .quo .f64 (fop .sub .f64 ((Z1 Y1).1) 4607182418800017408) (fop .add .f64 ((Z1 Y1).1) 4607182418800017408)) :: .f .f64 (fop .mul .f64 (fop .quo .f64 (fop .sub .f64 ((Z1 Y1).1) 4607182418800017408) (fop .add .f64 ((Z1 Y1).1) 4607182418800017408)) (fop .quo .f64 (fop .sub .f64 ((Z1 Y1).1) 4607182418800017408) (fop .add .f64 ((Z1 Y1).1) 4607182418800017408))) :: .f .f64 Ya :: .f .f64 Y8 :: an 12 (.f .f64 ((Z1 Y1).1) :: .f .f64 (fop .sub .f64 ((Z1 Y1).1) 4607182418800017408) :: .f .f64 ((Z1 Y1).1) :: .f .f64 (fop .add .f64 ((Z1 Y1).1) 4607182418800017408) :: .f .f64 (fop .quo .f64 (fop .sub .f64 ((Z1 Y1).1) 4607182418800017408) (fop .add .f64 ((Z1 Y1).1) 4607182418800017408)) :: .f .f64 (fop .quo .f64 (fop .sub .f64 ((Z1 Y1).1) 4607182418800017408) (fop .add .f64 ((Z1 Y1).1) 4607182418800017408)) :: .f .f64 (fop .quo .f64 (fop .sub .f64 ((Z1 Y1).1) 4607182418800017408) (fop .add .f64 ((Z1 Y1).1) 4607182418800017408)) :: .f .f64 (fop .mul .f64 (fop .quo .f64 (fop .sub .f64 ((Z1 Y1).1) 4607182418800017408) (fop .add .f64 ((Z1 Y1).1) 4607182418800017408)) (fop .quo .f64 (fop .sub .f64 ((Z1 Y1).1) 4607182418800017408) (fop .add .f64 ((Z1 Y1).1) 4607182418800017408))) :: an 17 []),[]⟩
def Z12:List Bool:=(mR false [0,1,1,3,1,1,13,8,17])
theorem Z1h (Y1:Nat) (hp0:Nw Y1) (hp1:800≤fld Y1) (hp2:fld Y1≤1200):∀ (k:Nat) (Ya:Nat) (Y8:Nat) (ZV:Y8∈Z14) (hk:kIx Y8 + Y1 < k),Lp prog 0 (sub (X1 f89) [1,1,1,1,1,1,1,0,1,0,0]) (Z1g Y1 Ya Y8) (Zz Y1 (Zc Y1 k Ya Y8)).1 (Zz Y1 (Zc Y1 k Ya Y8)).2:=by
 intro k
 induction k with
 | zero=>intro Ya Y8 ZV hk;exact absurd hk (Nat.not_lt_zero _)
 | succ k ih =>
  intro Ya Y8 ZV hk
  cases Yb:(fcmp .geq .f64 Y8 4607182418800017408) with
  | true =>
   have e:Zc Y1 (k + 1) Ya Y8=(Zc Y1 k (fop .add .f64 (fop .quo .f64 4607182418800017408 Y8) (fop .mul .f64 (fop .mul .f64 (fop .quo .f64 (fop .sub .f64 ((Z1 Y1).1) 4607182418800017408) (fop .add .f64 ((Z1 Y1).1) 4607182418800017408)) (fop .quo .f64 (fop .sub .f64 ((Z1 Y1).1) 4607182418800017408) (fop .add .f64 ((Z1 Y1).1) 4607182418800017408))) Ya)) (fop .sub .f64 Y8 4611686018427387904)):=by simp only [Zc,Yb,cond_true]
   rw [e]
   exact X36 E0Ok Z9 [] (mR false [0,1,1,6,12,8,17]) [] (ih (fop .add .f64 (fop .quo .f64 4607182418800017408 Y8) (fop .mul .f64 (fop .mul .f64 (fop .quo .f64 (fop .sub .f64 ((Z1 Y1).1) 4607182418800017408) (fop .add .f64 ((Z1 Y1).1) 4607182418800017408)) (fop .quo .f64 (fop .sub .f64 ((Z1 Y1).1) 4607182418800017408) (fop .add .f64 ((Z1 Y1).1) 4607182418800017408))) Ya)) (fop .sub .f64 Y8 4611686018427387904) (show (fop .sub .f64 Y8 4611686018427387904)∈Z14 from (by exact (Z1m _ (by assumption) Yb).1)) (by (have q:=(Z1m _ (by assumption) Yb).2;omega))) (sB Yb<|sN) (by kernel_rfl)
  | false =>
   have e:Zc Y1 (k + 1) Ya Y8=Ya:=by simp only [Zc,Yb,cond_false]
   rw [e]
   exact outR (e:=(.exit 4)) E0Ok Z9 [] Z12 [] (sB Yb<|sN) (by kernel_rfl) (by intro h;cases h)
def Zp (Y1:Nat):Nat:=(Zc Y1 (kIx 4627730092099895296 + Y1 + 1) 0 4627730092099895296)
def Zk (Y1:Nat):Nat:=(fop .add .f64 (fop .mul .f64 4611686018427387904 (fop .mul .f64 (fop .quo .f64 (fop .sub .f64 ((Z1 Y1).1) 4607182418800017408) (fop .add .f64 ((Z1 Y1).1) 4607182418800017408)) (Zp Y1))) (fop .mul .f64 ((Z1 Y1).2) 4604418534313441775))
theorem Z1k (Y1:Nat) (hp0:Nw Y1) (hp1:800≤fld Y1) (hp2:fld Y1≤1200)  : Fn prog 89 [.f .f64 Y1] (.f .f64 (Zk Y1)) []:=by
 refine fnS E0Ok Z9 (c:=X1 f89) [] (.f .f64 (fop .add .f64 (fop .mul .f64 4611686018427387904 (fop .mul .f64 (fop .quo .f64 (fop .sub .f64 ((Z1 Y1).1) 4607182418800017408) (fop .add .f64 ((Z1 Y1).1) 4607182418800017408)) (Zp Y1))) (fop .mul .f64 ((Z1 Y1).2) 4604418534313441775))) [] func89 (sL (mR false [0,1,1,2,41]) 0 (X2n (Zx Y1) (x:=(Z7 Y1)) (Z1d Y1 hp0 hp1 hp2 (fld Y1 + 1) Y1 0 (show Nw Y1 from (by assumption)) (show 800≤fld Y1 from (by assumption)) (show fld Y1≤1200 from (by assumption)) (Nat.lt_succ_self _)) rfl)<|sL (mR false [0,1,1,2,41]) 0 (X2n (Zy Y1) (x:=(Z1 Y1)) (Z1f Y1 hp0 hp1 hp2 ((1023 - fld ((Z7 Y1).1):Nat) + 1) ((Z7 Y1).1) ((Z7 Y1).2) (show Nw ((Z7 Y1).1) from (by exact (Z1q Y1 (by assumption) (by assumption) (by assumption)).1)) (show 800≤fld ((Z7 Y1).1) from (by exact (Z1q Y1 (by assumption) (by assumption) (by assumption)).2.1)) (show fld ((Z7 Y1).1)≤1200 from (by exact (Z1q Y1 (by assumption) (by assumption) (by assumption)).2.2)) (Nat.lt_succ_self _)) rfl)<|sL (mR false [0,1,1,6,12,8,17]) 0 (X2n (Zz Y1) (x:=(Zp Y1)) (Z1h Y1 hp0 hp1 hp2 (kIx 4627730092099895296 + Y1 + 1) 0 4627730092099895296 (show 4627730092099895296∈Z14 from (by decide)) (Nat.lt_succ_self _)) rfl)<|sK [] sN) rfl (by kernel_rfl) (by kernel_rfl) rfl ?_ ?_
 · rfl
 · rfl
theorem Z1O (x0 y0:Nat):∀ (k y:Nat) (e:Int),fld y < k→Nw y→0≤e→e + (fld y:Int)≤1200→800≤fld y→Z8 x0 k y (X5 .f64 e)=((Z4 y0 k y e).1,X5 .f64 (Z4 y0 k y e).2)∧0≤(Z4 y0 k y e).2∧(Z4 y0 k y e).2≤400:=by
  intro k
  induction k with
  | zero=>intro y e hk;exact absurd hk (Nat.not_lt_zero _)
  | succ k ih =>
    intro y e hk hw he hu hf
    rw [Z4,Z8]
    cases h:fcmp .geq .f64 y 4609434218613702656 with
    | false=>rw [cond_false,cond_false];exact ⟨rfl,he,by simp only;omega⟩
    | true =>
      have g:=XQ hw h
      have w:=XS hw g
      have o:=X64 e.toNat (by omega)
      rw [show ((e.toNat:Nat):Int)=e from by omega] at o
      rw [cond_true,cond_true,XP hw (by omega),o]
      exact ih _ _ (by omega) w.1 (by omega) (by omega) (by omega)
theorem Z1P (x0 y0:Nat):∀ (k y:Nat) (e:Int),1023 - fld y < k→Nw y→fld y≤1023→e≤1100→800≤e + (fld y:Int)→Ze x0 k y (X5 .f64 e)=((Z6 y0 k y e).1,X5 .f64 (Z6 y0 k y e).2):=by
  intro k
  induction k with
  | zero=>intro y e hk;exact absurd hk (Nat.not_lt_zero _)
  | succ k ih =>
    intro y e hk hw hl hu hb
    rw [Z6,Ze]
    cases h:fcmp .lss .f64 y 4604930618986332160 with
    | false=>rw [cond_false,cond_false]
    | true =>
      have g:=XR hw h
      have w:=X16 hw g
      have o:=X65 (1100 - e).toNat (by omega)
      rw [show 1100 - (((1100 - e).toNat:Nat):Int)=e from by omega,show 1099 - (((1100 - e).toNat:Nat):Int)=e - 1 from by omega] at o
      rw [cond_true,cond_true,X15 hw (by omega),o]
      exact ih _ _ (by omega) w.1 (by omega) (by omega) (by omega)
theorem Z1J (y:Nat) (hw:Nw y) (hl:800≤fld y) (hu:fld y≤1200):Z7 y=((Z3 y).1,X5 .f64 (Z3 y).2)∧0≤(Z3 y).2∧(Z3 y).2≤400:=by
  have h:=Z1O y y (fld y + 1) y 0 (Nat.lt_succ_self _) hw (Int.le_refl 0) (by omega) hl
  rw [show X5 .f64 0=0 from by decide +kernel] at h
  exact h
theorem Z1z (y:Nat) (hw:Nw y) (hl:800≤fld y) (hu:fld y≤1200):Z1 y=((Z0 y).1,X5 .f64 (Z0 y).2):=by
  obtain ⟨h1,h2,h3⟩:=Z1J y hw hl hu
  obtain ⟨a,b,c⟩:=Z13 y hw
  unfold Z1
  rw [h1]
  exact Z1P y y (1023 - fld (Z3 y).1 + 1) (Z3 y).1 (Z3 y).2 (Nat.lt_succ_self _) a c (by omega) (by omega)
theorem Z1G:∀ j:Nat,j < 14→fcmp .geq .f64 (X5 .f64 (2 * (j:Int) - 1)) 4607182418800017408=decide (2 * (j:Int) - 1 ≥ 1)∧(0 < j→fop .sub .f64 (X5 .f64 (2 * (j:Int) - 1)) 4611686018427387904=X5 .f64 (2 * ((j - 1:Nat):Int) - 1)):=by
  have h:(List.range 14).all (fun j=>(fcmp .geq .f64 (X5 .f64 (2 * (j:Int) - 1)) 4607182418800017408 == decide (2 * (j:Int) - 1 ≥ 1)) && (j == 0 || fop .sub .f64 (X5 .f64 (2 * (j:Int) - 1)) 4611686018427387904 == X5 .f64 (2 * ((j - 1:Nat):Int) - 1)))=true:=by decide +kernel
  intro j hj
  have q:=(List.all_eq_true.1 h) j (List.mem_range.2 hj)
  rw [Bool.and_eq_true,Bool.or_eq_true,beq_iff_eq,beq_iff_eq,beq_iff_eq] at q
  exact ⟨q.1,fun h0=>q.2.resolve_left (by omega)⟩
theorem Z1Q (y:Nat) (hw:Nw y) (hl:800≤fld y) (hu:fld y≤1200):∀ (j:Nat),j < 14→∀ (m n q:Nat),j < m→j < n→Zc y m q (X5 .f64 (2 * (j:Int) - 1))=Za y n q (2 * (j:Int) - 1):=by
  have e2:(Z1 y).1=(Z0 y).1:=by rw [Z1z y hw hl hu]
  intro j
  induction j with
  | zero =>
    intro hj m n q hm hn
    obtain ⟨m,rfl⟩:∃ k,m=k + 1:=⟨m - 1,by omega⟩
    obtain ⟨n,rfl⟩:∃ k,n=k + 1:=⟨n - 1,by omega⟩
    rw [Zc,Za,(Z1G 0 hj).1,decide_eq_false (by omega),cond_false,cond_false]
  | succ j ih =>
    intro hj m n q hm hn
    obtain ⟨m,rfl⟩:∃ k,m=k + 1:=⟨m - 1,by omega⟩
    obtain ⟨n,rfl⟩:∃ k,n=k + 1:=⟨n - 1,by omega⟩
    have g:=Z1G (j + 1) hj
    have g2:=g.2 (by omega)
    rw [Nat.add_sub_cancel] at g2
    rw [Zc,Za,g.1,decide_eq_true (by omega),cond_true,cond_true,g2,e2,show 2 * (((j + 1:Nat)):Int) - 1 - 2=2 * (j:Int) - 1 from by omega]
    exact ih (by omega) m n _ (by omega) (by omega)
theorem Z1K (y:Nat) (hw:Nw y) (hl:800≤fld y) (hu:fld y≤1200):Zp y=Zh y:=by
  have h:=Z1Q y hw hl hu 13 (by omega) (kIx 4627730092099895296 + y + 1) ((25 + 1:Int).toNat + y + 1) 0 (by rw [show kIx 4627730092099895296=13 from by decide];omega) (by omega)
  rw [show X5 .f64 (2 * ((13:Nat):Int) - 1)=4627730092099895296 from by decide +kernel] at h
  exact h
theorem Z1i (y:Nat) (hw:Nw y) (hl:800≤fld y) (hu:fld y≤1200):Zk y=fop .add .f64 (fop .mul .f64 4611686018427387904 (fop .mul .f64 (fop .quo .f64 (fop .sub .f64 ((Z0 y).1) 4607182418800017408) (fop .add .f64 ((Z0 y).1) 4607182418800017408)) (Zh y))) (fop .mul .f64 (X5 .f64 ((Z0 y).2)) 4604418534313441775):=by
  unfold Zk
  rw [Z1K y hw hl hu,Z1z y hw hl hu]
theorem Z1v {x:Nat} (h0:fcmp .eql .f32 x 0=false) (h1:fcmp .lss .f32 x 0=false) (h3:fcmp .eql .f32 (fop .sub .f32 x x) 0=true):XB .f64 .f32 (Zk (fcv .f32 .f64 x))=true:=by
  obtain ⟨a,b,c⟩:=X3B (X20 h0 h1 h3) h3
  obtain ⟨r,r1,r2,r3⟩:=Z1E _ a b c
  rw [Z1i _ a b c]
  exact X5D r1 (by grind) (by grind)
def Z5 (Y1:Nat):Nat:=(cond (fcmp .eql .f32 Y1 0)
  (fcv .f64 .f32 (Zn (-1)))
  (cond (fcmp .lss .f32 Y1 0)
    (fcv .f64 .f32 (Zd))
    (cond (fcmp .neq .f32 Y1 Y1)
      (fcv .f64 .f32 (Zd))
      (cond (Zi Y1)
        (fcv .f64 .f32 (Zk (fcv .f32 .f64 Y1)))
        Y1))))
theorem Z1r (Y1:Nat)   : Fn prog 37 [.f .f32 Y1] (.f .f32 (Z5 Y1)) []:=by
 cases h0:(fcmp .eql .f32 Y1 0) with
 | true =>
  have y0:XB .f64 .f32 (Zn (-1))=true:=(by decide +kernel)
  have hv:Z5 Y1=(fcv .f64 .f32 (Zn (-1))):=by unfold Z5;rw [h0,cond_true]
  refine fnS E0Ok Z9 (c:=X1 f37) [] (.f .f32 (fcv .f64 .f32 (Zn (-1)))) [] func37 (sB h0<|sF (Z1u (-1))<|sC y0<|sK [] sN) rfl (by kernel_rfl) (by kernel_rfl) rfl ?_ ?_
  · rw [hv]
  · rfl
 | false =>
  have p {a C} (s:Scr a C):=sB h0<|s
  cases h1:(fcmp .lss .f32 Y1 0) with
  | true =>
   have y0:XB .f64 .f32 (Zd)=true:=by clear p;exact (by decide +kernel)
   have hv:Z5 Y1=(fcv .f64 .f32 (Zd)):=by unfold Z5;rw [h0,cond_false,h1,cond_true]
   refine fnS E0Ok Z9 (c:=X1 f37) [] (.f .f32 (fcv .f64 .f32 (Zd))) [] func37 (p (sB h1<|sB h1<|sB h1<|sB h1<|sB (show true=true from rfl)<|sF (ZY )<|sC y0<|sK [] sN)) rfl (by kernel_rfl) (by kernel_rfl) rfl ?_ ?_
   · rw [hv]
   · rfl
  | false =>
   have q {a C} (s:Scr a C):=p (sB h1<|sB h1<|sB h1<|sB h1<|s)
   clear p
   cases h2:(fcmp .neq .f32 Y1 Y1) with
   | true =>
    have y0:XB .f64 .f32 (Zd)=true:=by clear q;exact (by decide +kernel)
    have hv:Z5 Y1=(fcv .f64 .f32 (Zd)):=by unfold Z5;rw [h0,cond_false,h1,cond_false,h2,cond_true]
    refine fnS E0Ok Z9 (c:=X1 f37) [] (.f .f32 (fcv .f64 .f32 (Zd))) [] func37 (q (sB h2<|sF (ZY )<|sC y0<|sK [] sN)) rfl (by kernel_rfl) (by kernel_rfl) rfl ?_ ?_
    · rw [hv]
    · rfl
   | false =>
    have p {a C} (s:Scr a C):=q (sB h2<|sF (ZW Y1)<|s)
    clear q
    cases h3:(Zi Y1) with
    | true =>
     have y0:Nw (fcv .f32 .f64 Y1):=by clear p;exact (by exact (X3B (X20 h0 h1 h3) h3).1)
     have y1:800≤fld (fcv .f32 .f64 Y1):=by clear p;exact (by exact (X3B (X20 h0 h1 h3) h3).2.1)
     have y2:fld (fcv .f32 .f64 Y1)≤1200:=by clear p;exact (by exact (X3B (X20 h0 h1 h3) h3).2.2)
     have y3:XB .f64 .f32 (Zk (fcv .f32 .f64 Y1))=true:=by clear p;exact (by exact Z1v h0 h1 h3)
     have hv:Z5 Y1=(fcv .f64 .f32 (Zk (fcv .f32 .f64 Y1))):=by unfold Z5;rw [h0,cond_false,h1,cond_false,h2,cond_false,h3,cond_true]
     refine fnS E0Ok Z9 (c:=X1 f37) [] (.f .f32 (fcv .f64 .f32 (Zk (fcv .f32 .f64 Y1)))) [] func37 (p (sB' h3<|sC (X35 Y1)<|sF (Z1k (fcv .f32 .f64 Y1) y0 y1 y2)<|sC y3<|sK [] sN)) rfl (by kernel_rfl) (by kernel_rfl) rfl ?_ ?_
     · rw [hv]
     · rfl
    | false =>
     have hv:Z5 Y1=Y1:=by unfold Z5;rw [h0,cond_false,h1,cond_false,h2,cond_false,h3,cond_false]
     refine fnS E0Ok Z9 (c:=X1 f37) [] (.f .f32 Y1) [] func37 (p (sB' h3<|sK [] sN)) rfl (by kernel_rfl) (by kernel_rfl) rfl ?_ ?_
     · rw [hv]
     · rfl
theorem Z1A (x:Nat) (hx:x < 4294967296∨Zi x=true):Z5 x=ZB x:=by
  unfold ZB Zw
  have hf:=X1Y x
  have r0:FloatKind.f32.format.read 0 = .number false 0 (-149):=by decide +kernel
  cases hr:Ieee.single.read x with
  | nan s t =>
    rw [hr] at hf
    have hf:fcv .f32 .f64 x=Xj .f64:=hf
    have a0:fcmp .eql .f32 x 0=false:=by show ((Ieee.single.read x).order (FloatKind.f32.format.read 0) == some .eq)=false;rw [hr];rfl
    have a1:fcmp .lss .f32 x 0=false:=by show ((Ieee.single.read x).order (FloatKind.f32.format.read 0) == some .lt)=false;rw [hr];rfl
    have a2:fcmp .neq .f32 x x=true:=by show ((Ieee.single.read x).order (Ieee.single.read x) != some .eq)=true;rw [hr];rfl
    have e:Z5 x=fcv .f64 .f32 Zd:=by unfold Z5;rw [a0,cond_false,a1,cond_false,a2,cond_true]
    have e2:Z2 (fcv .f32 .f64 x)=Zd:=by
      unfold Z2
      rw [hf,show fcmp .neq .f64 (Xj .f64) (Xj .f64)=true from by decide +kernel,cond_true]
    rw [e,e2]
  | infinity s =>
    rw [hr] at hf
    cases s with
    | true =>
      have hf:fcv .f32 .f64 x=18442240474082181120:=hf
      have a0:fcmp .eql .f32 x 0=false:=by show ((Ieee.single.read x).order (FloatKind.f32.format.read 0) == some .eq)=false;rw [hr,r0];rfl
      have a1:fcmp .lss .f32 x 0=true:=by show ((Ieee.single.read x).order (FloatKind.f32.format.read 0) == some .lt)=true;rw [hr,r0];rfl
      have e:Z5 x=fcv .f64 .f32 Zd:=by unfold Z5;rw [a0,cond_false,a1,cond_true]
      have e2:Z2 (fcv .f32 .f64 x)=Zd:=by
        unfold Z2
        rw [hf,show fcmp .neq .f64 18442240474082181120 18442240474082181120=false from by decide +kernel,cond_false,show fcmp .lss .f64 18442240474082181120 0=true from by decide +kernel,cond_true]
      rw [e,e2]
    | false =>
      have hf:fcv .f32 .f64 x=9218868437227405312:=hf
      have hx:x < 4294967296:=by
        refine hx.elim id fun hx => ?_
        exfalso
        have hs:(FloatKind.f32.format.read x).sum (FloatKind.f32.format.read x).opposite=none:=by
          have hr':FloatKind.f32.format.read x = .infinity false:=hr
          rw [hr'];rfl
        exact X6y hx (X4a hs)
      have hxe:x=2139095040:=by
        have hs:Ieee.single.signWeight=2147483648:=by decide +kernel
        have hb:Ieee.single.binade=8388608:=by decide +kernel
        have hi:Ieee.single.infRung=2139095040:=by decide +kernel
        unfold Ieee.Format.read at hr
        rw [hs,hb,hi] at hr
        simp only at hr
        split at hr
        · cases hr
        · split at hr
          · cases hr
          · split at hr
            · rename_i q
              simp only [Ieee.Datum.infinity.injEq,beq_eq_false_iff_ne] at hr
              omega
            · cases hr
      subst hxe
      decide +kernel
  | number s m e =>
    have hv:Vl .f32 x (sg s * ((m:Rat) * (2:Rat) ^ e)):=by show vl (Ieee.single.read x)=_;rw [hr];rfl
    generalize sg s * ((m:Rat) * (2:Rat) ^ e)=v at hv
    have z:Vl .f32 0 0:=by unfold Vl;decide +kernel
    have z6:Vl .f64 0 0:=by unfold Vl;decide +kernel
    have hw:=X6z hv
    have n0:fcmp .neq .f64 (fcv .f32 .f64 x) (fcv .f32 .f64 x)=false:=by
      have e:fcmp .neq .f64 (fcv .f32 .f64 x) (fcv .f32 .f64 x)=!(fcmp .eql .f64 (fcv .f32 .f64 x) (fcv .f32 .f64 x)):=rfl
      rw [e,eqlV hw hw,decide_eq_true rfl];rfl
    have n2:fcmp .neq .f32 x x=false:=by
      have e:fcmp .neq .f32 x x=!(fcmp .eql .f32 x x):=rfl
      rw [e,eqlV hv hv,decide_eq_true rfl];rfl
    have i3:Zi x=true:=by
      unfold Zi
      rw [eqlV (X6A hv) z];rfl
    have tri:v < 0∨v=0∨0 < v:=by grind
    rcases tri with h | h | h
    · have a0:fcmp .eql .f32 x 0=false:=by rw [eqlV hv z];exact decide_eq_false (by grind)
      have a1:fcmp .lss .f32 x 0=true:=by rw [lssV hv z];exact decide_eq_true h
      have b1:fcmp .lss .f64 (fcv .f32 .f64 x) 0=true:=by rw [lssV hw z6];exact decide_eq_true h
      have e:Z5 x=fcv .f64 .f32 Zd:=by unfold Z5;rw [a0,cond_false,a1,cond_true]
      have e2:Z2 (fcv .f32 .f64 x)=Zd:=by unfold Z2;rw [n0,cond_false,b1,cond_true]
      rw [e,e2]
    · have a0:fcmp .eql .f32 x 0=true:=by rw [eqlV hv z];exact decide_eq_true h
      have b1:fcmp .lss .f64 (fcv .f32 .f64 x) 0=false:=by rw [lssV hw z6];exact decide_eq_false (by grind)
      have b2:fcmp .eql .f64 (fcv .f32 .f64 x) 0=true:=by rw [eqlV hw z6];exact decide_eq_true h
      have e:Z5 x=fcv .f64 .f32 (Zn (-1)):=by unfold Z5;rw [a0,cond_true]
      have e2:Z2 (fcv .f32 .f64 x)=Zn (-1):=by unfold Z2;rw [n0,cond_false,b1,cond_false,b2,cond_true]
      rw [e,e2]
    · have a0:fcmp .eql .f32 x 0=false:=by rw [eqlV hv z];exact decide_eq_false (by grind)
      have a1:fcmp .lss .f32 x 0=false:=by rw [lssV hv z];exact decide_eq_false (by grind)
      have b1:fcmp .lss .f64 (fcv .f32 .f64 x) 0=false:=by rw [lssV hw z6];exact decide_eq_false (by grind)
      have b2:fcmp .eql .f64 (fcv .f32 .f64 x) 0=false:=by rw [eqlV hw z6];exact decide_eq_false (by grind)
      have b3:Zb (fcv .f32 .f64 x) 1=false:=by
        refine Bool.eq_false_iff.2 fun hc => ?_
        have:=(X5i hc).2
        rw [hr] at this;cases this
      obtain ⟨c1,c2,c3⟩:=X3B (X20 a0 a1 i3) i3
      have e:Z5 x=fcv .f64 .f32 (Zk (fcv .f32 .f64 x)):=by unfold Z5;rw [a0,cond_false,a1,cond_false,n2,cond_false,i3,cond_true]
      rw [e,Z1l n0 b1 b2 b3,Z1i _ c1 c2 c3]
def Zf (Y3:Nat) (Y2:Nat):Nat × Bool:=(cond (Zi Y3)
  (cond (Zq Y2)
    ((fneg .f32 (fop .mul .f32 Y3 (Z5 Y2))),true)
    (0,false))
  (0,false))
theorem Z1s (Y3:Nat) (Y2:Nat)   : Fn prog 10 [.f .f32 Y3, .f .f32 Y2] (.tup [.f .f32 ((Zf Y3 Y2).1), .b ((Zf Y3 Y2).2)]) []:=by
 have p {a C} (s:Scr a C):=sF (ZW Y3)<|s
 cases h0:(Zi Y3) with
 | true =>
  have q {a C} (s:Scr a C):=p (sB' h0<|sB' h0<|sF (Z1x Y2)<|sB' h0<|sB' h0<|s)
  clear p
  cases h1:(Zq Y2) with
  | true =>
   refine fnS E0Ok Z9 (c:=X1 f10) [] (.tup [.f .f32 (fneg .f32 (fop .mul .f32 Y3 (Z5 Y2))), .b true]) [] func10 (q (sB' h1<|sF (Z1r Y2)<|sK [] sN)) rfl (by kernel_rfl) (by kernel_rfl) rfl ?_ ?_
   · simp only [Zf,h0,h1,cond_true]
   · rfl
  | false =>
   refine fnS E0Ok Z9 (c:=X1 f10) [] (.tup [.f .f32 0, .b false]) [] func10 (q (sB' h1<|sK [] sN)) rfl (by kernel_rfl) (by kernel_rfl) rfl ?_ ?_
   · simp only [Zf,h0,h1,cond_true,cond_false]
   · rfl
 | false =>
  refine fnS E0Ok Z9 (c:=X1 f10) [] (.tup [.f .f32 0, .b false]) [] func10 (p (sB' h0<|sB' h0<|sB' h0<|sB' h0<|sB (show true=true from rfl)<|sK [] sN)) rfl (by kernel_rfl) (by kernel_rfl) rfl ?_ ?_
  · simp only [Zf,h0,cond_false]
  · rfl
theorem Z1B (a v:Nat):Zf a v=Zg a v:=by
  unfold Zf Zg Zo Zq
  have e:∀ x,Zi x=Zm x:=fun x=>rfl
  rw [e a,e v]
  cases ha:Zm a with
  | false=>rfl
  | true =>
    cases hv:Zm v with
    | false=>rfl
    | true =>
      cases hg:fcmp .gtr .f32 v 0 with
      | false=>rfl
      | true=>rw [Z1A v (.inr hv)];rfl
def Zj (Yf:Nat) (Ye:Nat):Bool:=(cond (fcmp .neq .f64 Yf Yf)
  (fcmp .neq .f64 Ye Ye)
  (cond (fcmp .neq .f64 Ye Ye)
    false
    (cond (fcmp .eql .f64 Yf 0)
      (cond (fcmp .eql .f64 Ye 0)
        ((fcmp .gtr .f64 (fop .quo .f64 4607182418800017408 Yf) 0) == (fcmp .gtr .f64 (fop .quo .f64 4607182418800017408 Ye) 0))
        (fcmp .eql .f64 Yf Ye))
      (fcmp .eql .f64 Yf Ye))))
theorem Z1t (Yf:Nat) (Ye:Nat)   : Fn prog 11 [.f .f64 Yf, .f .f64 Ye] (.b (Zj Yf Ye)) []:=by
 cases h0:(fcmp .neq .f64 Yf Yf) with
 | true =>
  refine fnS E0Ok Z9 (c:=X1 f11) [] (.b (fcmp .neq .f64 Ye Ye)) [] func11 (sB h0<|sB h0<|sB h0<|sB h0<|sB (show true=true from rfl)<|sB h0<|sB h0<|sB h0<|sB h0<|sK [] sN) rfl (by kernel_rfl) (by kernel_rfl) rfl ?_ ?_
  · simp only [Zj,h0,cond_true]
  · rfl
 | false =>
  have p {a C} (s:Scr a C):=sB h0<|sB h0<|sB h0<|sB h0<|s
  cases h1:(fcmp .neq .f64 Ye Ye) with
  | true =>
   refine fnS E0Ok Z9 (c:=X1 f11) [] (.b false) [] func11 (p (sB h1<|sB h0<|sB h0<|sB h0<|sB h0<|sK [] sN)) rfl (by kernel_rfl) (by kernel_rfl) rfl ?_ ?_
   · simp only [Zj,h0,h1,cond_true,cond_false]
   · rfl
  | false =>
   have q {a C} (s:Scr a C):=p (sB h1<|s)
   clear p
   cases h2:(fcmp .eql .f64 Yf 0) with
   | true =>
    have p {a C} (s:Scr a C):=q (sB h2<|sB h2<|sB h2<|s)
    clear q
    cases h3:(fcmp .eql .f64 Ye 0) with
    | true =>
     refine fnS E0Ok Z9 (c:=X1 f11) [] (.b ((fcmp .gtr .f64 (fop .quo .f64 4607182418800017408 Yf) 0) == (fcmp .gtr .f64 (fop .quo .f64 4607182418800017408 Ye) 0))) [] func11 (p (sB h3<|sK [] sN)) rfl (by kernel_rfl) (by kernel_rfl) rfl ?_ ?_
     · simp only [Zj,h0,h1,h2,h3,cond_true,cond_false]
     · rfl
    | false =>
     refine fnS E0Ok Z9 (c:=X1 f11) [] (.b (fcmp .eql .f64 Yf Ye)) [] func11 (p (sB h3<|sK [] sN)) rfl (by kernel_rfl) (by kernel_rfl) rfl ?_ ?_
     · simp only [Zj,h0,h1,h2,h3,cond_true,cond_false]
     · rfl
   | false =>
    refine fnS E0Ok Z9 (c:=X1 f11) [] (.b (fcmp .eql .f64 Yf Ye)) [] func11 (q (sB h2<|sB h2<|sB h2<|sB (show false=false from rfl)<|sK [] sN)) rfl (by kernel_rfl) (by kernel_rfl) rfl ?_ ?_
    · simp only [Zj,h0,h1,h2,cond_false]
    · rfl
theorem Z1H (x:Nat):Zj x x=true:=by
  unfold Zj
  cases h:fcmp .neq .f64 x x
  · simp only [cond_false]
    have h2:fcmp .eql .f64 x x=true:=by
      unfold fcmp at h ⊢
      simpa using h
    cases fcmp .eql .f64 x 0<;>simp [h2]
  · rfl
def Zl (Y5:Nat) (Y6:Nat):Bool:=(cond (Zj (fcv .f32 .f64 ((Zf Y5 Y6).1)) (fcv .f32 .f64 ((Zg Y5 Y6).1)))
  (cond ((Zf Y5 Y6).2 == (Zg Y5 Y6).2)
    true
    false)
  false)
set_option maxHeartbeats 1000000 in
theorem Z10 (Y5:Nat) (Y6:Nat)   : Fn prog 3 [.f .f32 Y5, .f .f32 Y6] (.b (Zl Y5 Y6)) []:=by
 have p {a C} (s:Scr a C):=sF (Z1p Y5 Y6)<|sF (Z1s Y5 Y6)<|sC (X35 ((Zf Y5 Y6).1))<|sC (X35 ((Zg Y5 Y6).1))<|sF (Z1t (fcv .f32 .f64 ((Zf Y5 Y6).1)) (fcv .f32 .f64 ((Zg Y5 Y6).1)))<|s
 cases h0:(Zj (fcv .f32 .f64 ((Zf Y5 Y6).1)) (fcv .f32 .f64 ((Zg Y5 Y6).1))) with
 | true =>
  have q {a C} (s:Scr a C):=p (sB' h0<|sB' h0<|sB' h0<|sB' h0<|s)
  clear p
  cases h1:((Zf Y5 Y6).2 == (Zg Y5 Y6).2) with
  | true =>
   have gh1:=eq_of_beq h1
   refine fnS E0Ok Z9 (c:=X1 f3) [] (.b true) [] func3 (q (sB' h1<|sK [] sN)) rfl (by kernel_rfl) (by kernel_rfl) rfl ?_ ?_
   · simp only [Zl,h0,h1,cond_true]
   · rfl
  | false =>
   have gh1:=ne_of_beq_false h1
   refine fnS E0Ok Z9 (c:=X1 f3) [] (.b false) [] func3 (q (sB' h1<|sK [] sN)) rfl (by kernel_rfl) (by kernel_rfl) rfl ?_ ?_
   · simp only [Zl,h0,h1,cond_true,cond_false]
   · rfl
 | false =>
  refine fnS E0Ok Z9 (c:=X1 f3) [] (.b false) [] func3 (p (sB' h0<|sB' h0<|sB' h0<|sB' h0<|sB (show true=true from rfl)<|sK [] sN)) rfl (by kernel_rfl) (by kernel_rfl) rfl ?_ ?_
  · simp only [Zl,h0,cond_false]
  · rfl
theorem ZX (a v:Nat):Zl a v=true:=by
  unfold Zl
  rw [Z1B,Z1H]
  simp
end Go.Ab
