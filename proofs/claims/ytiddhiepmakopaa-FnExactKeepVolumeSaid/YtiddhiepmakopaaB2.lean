/- The functions of this seat as plain Lean, and that the program's are these. Printed by a program of the prover's own. -/
import Derived.Test.YtiddhiepmakopaaB1
set_option linter.unusedVariables false
set_option linter.unusedSimpArgs false
set_option maxRecDepth 100000
namespace Go.Ab
open Go.RowKit Go.Proofs.Try
def Z1D (Yb:Nat):Nat:=(fcv .f64 .f32 Yb)
theorem Z4W (Yb:Nat) (hp0:Xu .f64 .f32 Yb=true)  : Fn prog 85 [.f .f64 Yb] (.f .f32 (Z1D Yb)) []:=by
 refine fnS E0Ok Z1 (c:=X0 f85) [] (.f .f32 (fcv .f64 .f32 Yb)) [] func85 (sC hp0<|sK [] sN) rfl (by kernel_rfl) (by kernel_rfl) rfl ?_ ?_
 · rfl
 · rfl
def Zf (Yb:Nat):Nat:=(Z1D (Z7 (fcv .f32 .f64 Yb)))
theorem Z7x (Yb:Nat)   : Fn prog 34 [.f .f32 Yb] (.f .f32 (Zf Yb)) []:=by
 have y0:∃ x:Nat,(fcv .f32 .f64 Yb)=fcv .f32 .f64 x:=(by exact ⟨Yb,rfl⟩)
 have y1:Xu .f64 .f32 (Z7 (fcv .f32 .f64 Yb))=true:=(by exact Z7S Yb)
 refine fnS E0Ok Z1 (c:=X0 f34) [] (.f .f32 (Z1D (Z7 (fcv .f32 .f64 Yb)))) [] func34 (sC (XU Yb)<|sF (Z6m (fcv .f32 .f64 Yb) y0)<|sF (Z4W (Z7 (fcv .f32 .f64 Yb)) y1)<|sK [] sN) rfl (by kernel_rfl) (by kernel_rfl) rfl ?_ ?_
 · rfl
 · rfl
def ZB (Y9:Nat):Nat→Nat→Int→Nat
  | 0,_,_=>default
  | k + 1,Yn,Yg=>(cond (decide (Yg ≥ 1))
    (ZB Y9 k (fop .add .f64 4607182418800017408 (fop .quo .f64 (fop .mul .f64 (fop .quo .f64 Y9 4643211215818981376) Yn) (X1 .f64 Yg))) (Yg - 1))
    Yn)
def Z2J (Y9:Nat) (r:Nat):Ex × St:=((.exit 0),⟨.f .f64 Y9 :: .any :: .f .f64 0 :: .any :: .f .f64 r :: .any :: .any :: .f .f64 Y9 :: .f .f64 Y9 :: .b (fcmp .neq .f64 Y9 Y9) :: .any :: .f .f64 Y9 :: .b (fcmp .gtr .f64 Y9 4641240890982006784) :: .any :: .f .f64 Y9 :: .b (fcmp .lss .f64 Y9 13864612927836782592) :: .f .f64 Y9 :: .f .f64 (fop .quo .f64 Y9 4643211215818981376) :: an 19 [],[]⟩)
def Z5D (Y9:Nat) (Yn:Nat) (Yg:Int):St:=⟨.f .f64 Y9 :: .any :: .f .f64 0 :: .f .f64 (fop .quo .f64 Y9 4643211215818981376) :: .f .f64 Yn :: .i .i64 Yg :: .any :: .f .f64 Y9 :: .f .f64 Y9 :: .b (fcmp .neq .f64 Y9 Y9) :: .any :: .f .f64 Y9 :: .b (fcmp .gtr .f64 Y9 4641240890982006784) :: .any :: .f .f64 Y9 :: .b (fcmp .lss .f64 Y9 13864612927836782592) :: .f .f64 Y9 :: .f .f64 (fop .quo .f64 Y9 4643211215818981376) :: an 19 [],[]⟩
def Z3A:List Bool:=(mR false [0,1,1,4,1,3,1,2,1,4,19])
def Z5e:List Bool:=(mR false [0,1,1,1,1,1,2,3,1,2,1,4,19])
theorem Z5E (Y9:Nat)  : ∀ (k:Nat) (Yn:Nat) (Yg:Int) (Z3B:0≤Yg) (Z3C:Yg≤12) (hk:(Yg:Int).toNat + Y9 < k),Lp prog 0 (sub (X0 f94) [1,1,1,1,1,1,0,1,0,0]) (Z5D Y9 Yn Yg) (Z2J Y9 (ZB Y9 k Yn Yg)).1 (Z2J Y9 (ZB Y9 k Yn Yg)).2:=by
 intro k
 induction k with
 | zero=>intro Yn Yg Z3B Z3C hk;exact absurd hk (Nat.not_lt_zero _)
 | succ k ih =>
  intro Yn Yg Z3B Z3C hk
  cases Ye:(decide (Yg ≥ 1)) with
  | true =>
   have Yt:=odt Ye
   have YO:(-9223372036854775808:Int)≤(Yg - 1):=(by omega)
   have YP:(Yg - 1)≤(9223372036854775807:Int):=(by omega)
   have e:ZB Y9 (k + 1) Yn Yg=(ZB Y9 k (fop .add .f64 4607182418800017408 (fop .quo .f64 (fop .mul .f64 (fop .quo .f64 Y9 4643211215818981376) Yn) (X1 .f64 Yg))) (Yg - 1)):=by simp only [ZB,Ye,cond_true]
   rw [e]
   exact Xo E0Ok Z1 [] Z3A [] (ih (fop .add .f64 4607182418800017408 (fop .quo .f64 (fop .mul .f64 (fop .quo .f64 Y9 4643211215818981376) Yn) (X1 .f64 Yg))) (Yg - 1) (show 0≤(Yg - 1) from (by omega)) (show (Yg - 1)≤12 from (by omega)) (by omega)) (sB Ye<|sI (Yg - 1) YO YP<|sN) (by kernel_rfl)
  | false =>
   have Yt:=odf Ye
   have e:ZB Y9 (k + 1) Yn Yg=Yn:=by simp only [ZB,Ye,cond_false]
   rw [e]
   exact outR (e:=(.exit 0)) E0Ok Z1 [] Z5e [] (sB Ye<|sN) (by kernel_rfl) (by intro h;cases h)
def Z23 (Y9:Nat):Nat:=(ZB Y9 ((12:Int).toNat + Y9 + 1) 4607182418800017408 12)
def ZJ (Y9:Nat):Nat→Nat→Int→Nat
  | 0,_,_=>default
  | k + 1,Yn,Yg=>(cond (decide (Yg < 8))
    (ZJ Y9 k (fop .mul .f64 Yn Yn) (Yg + 1))
    Yn)
def Z2K (Y9:Nat) (r:Nat):Ex × St:=((.exit 2),⟨.f .f64 Y9 :: .any :: .f .f64 0 :: .any :: .f .f64 r :: .any :: .any :: .f .f64 Y9 :: .f .f64 Y9 :: .b (fcmp .neq .f64 Y9 Y9) :: .any :: .f .f64 Y9 :: .b (fcmp .gtr .f64 Y9 4641240890982006784) :: .any :: .f .f64 Y9 :: .b (fcmp .lss .f64 Y9 13864612927836782592) :: .f .f64 Y9 :: .f .f64 (fop .quo .f64 Y9 4643211215818981376) :: an 19 [],[]⟩)
def Z5F (Y9:Nat) (Yn:Nat) (Yg:Int):St:=⟨.f .f64 Y9 :: .any :: .f .f64 0 :: .any :: .f .f64 Yn :: .any :: .i .i64 Yg :: .f .f64 Y9 :: .f .f64 Y9 :: .b (fcmp .neq .f64 Y9 Y9) :: .any :: .f .f64 Y9 :: .b (fcmp .gtr .f64 Y9 4641240890982006784) :: .any :: .f .f64 Y9 :: .b (fcmp .lss .f64 Y9 13864612927836782592) :: .f .f64 Y9 :: .f .f64 (fop .quo .f64 Y9 4643211215818981376) :: an 19 [],[]⟩
def Z3D:List Bool:=(mR false [0,1,1,1,1,1,1,4,1,2,1,4,19])
def Z5f:List Bool:=(mR false [0,1,1,1,1,1,2,3,1,2,1,4,19])
theorem Z5G (Y9:Nat)  : ∀ (k:Nat) (Yn:Nat) (Yg:Int) (Z3E:0≤Yg) (Z3F:0≤Yg) (Z3G:Yg≤8) (hk:(8 - Yg:Int).toNat + Y9 < k),Lp prog 0 (sub (X0 f94) [1,1,1,1,1,1,1,0,1,0,0]) (Z5F Y9 Yn Yg) (Z2K Y9 (ZJ Y9 k Yn Yg)).1 (Z2K Y9 (ZJ Y9 k Yn Yg)).2:=by
 intro k
 induction k with
 | zero=>intro Yn Yg Z3E Z3F Z3G hk;exact absurd hk (Nat.not_lt_zero _)
 | succ k ih =>
  intro Yn Yg Z3E Z3F Z3G hk
  cases Ye:(decide (Yg < 8)) with
  | true =>
   have Yt:=odt Ye
   have YO:(-9223372036854775808:Int)≤(Yg + 1):=(by omega)
   have YP:(Yg + 1)≤(9223372036854775807:Int):=(by omega)
   have e:ZJ Y9 (k + 1) Yn Yg=(ZJ Y9 k (fop .mul .f64 Yn Yn) (Yg + 1)):=by simp only [ZJ,Ye,cond_true]
   rw [e]
   exact Xo E0Ok Z1 [] Z3D [] (ih (fop .mul .f64 Yn Yn) (Yg + 1) (show 0≤(Yg + 1) from (by omega)) (show 0≤(Yg + 1) from (by omega)) (show (Yg + 1)≤8 from (by assumption)) (by omega)) (sB Ye<|sI (Yg + 1) YO YP<|sN) (by kernel_rfl)
  | false =>
   have Yt:=odf Ye
   have e:ZJ Y9 (k + 1) Yn Yg=Yn:=by simp only [ZJ,Ye,cond_false]
   rw [e]
   exact outR (e:=(.exit 2)) E0Ok Z1 [] Z5f [] (sB Ye<|sN) (by kernel_rfl) (by intro h;cases h)
def Z1r (Y9:Nat):Nat:=(ZJ Y9 ((8 - 0:Int).toNat + Y9 + 1) (Z23 Y9) 0)
def Zz (Y9:Nat):Nat:=(cond (fcmp .neq .f64 Y9 Y9)
  Y9
  (cond (fcmp .gtr .f64 Y9 4641240890982006784)
    (Z1a 1)
    (cond (fcmp .lss .f64 Y9 13864612927836782592)
      0
      (Z1r Y9))))
theorem Z6n (Y9:Nat)   : Fn prog 94 [.f .f64 Y9] (.f .f64 (Zz Y9)) []:=by
 cases h0:(fcmp .neq .f64 Y9 Y9) with
 | true =>
  have hv:Zz Y9=Y9:=by unfold Zz;rw [h0,cond_true]
  refine fnS E0Ok Z1 (c:=X0 f94) [] (.f .f64 Y9) [] func94 (sB h0<|sK [] sN) rfl (by kernel_rfl) (by kernel_rfl) rfl ?_ ?_
  · rw [hv]
  · rfl
 | false =>
  have p {a C} (s:Scr a C):=sB h0<|s
  cases h1:(fcmp .gtr .f64 Y9 4641240890982006784) with
  | true =>
   have hv:Zz Y9=(Z1a 1):=by unfold Zz;rw [h0,cond_false,h1,cond_true]
   refine fnS E0Ok Z1 (c:=X0 f94) [] (.f .f64 (Z1a 1)) [] func94 (p (sB h1<|sF (Z4O 1)<|sK [] sN)) rfl (by kernel_rfl) (by kernel_rfl) rfl ?_ ?_
   · rw [hv]
   · rfl
  | false =>
   have q {a C} (s:Scr a C):=p (sB h1<|s)
   clear p
   cases h2:(fcmp .lss .f64 Y9 13864612927836782592) with
   | true =>
    have hv:Zz Y9=0:=by unfold Zz;rw [h0,cond_false,h1,cond_false,h2,cond_true]
    refine fnS E0Ok Z1 (c:=X0 f94) [] (.f .f64 0) [] func94 (q (sB h2<|sK [] sN)) rfl (by kernel_rfl) (by kernel_rfl) rfl ?_ ?_
    · rw [hv]
    · rfl
   | false =>
    have hv:Zz Y9=(Z1r Y9):=by unfold Zz;rw [h0,cond_false,h1,cond_false,h2,cond_false]
    refine fnS E0Ok Z1 (c:=X0 f94) [] (.f .f64 (Z1r Y9)) [] func94 (q (sB h2<|sL Z3A 0 (X4 (Z2J Y9) (x:=(Z23 Y9)) (Z5E Y9 ((12:Int).toNat + Y9 + 1) 4607182418800017408 12 (show 0≤12 from (by decide)) (show 12≤12 from (by decide)) (Nat.lt_succ_self _)) rfl)<|sL Z3D 0 (X4 (Z2K Y9) (x:=(Z1r Y9)) (Z5G Y9 ((8 - 0:Int).toNat + Y9 + 1) (Z23 Y9) 0 (show 0≤0 from (by decide)) (show 0≤0 from (by decide)) (show 0≤8 from (by decide)) (Nat.lt_succ_self _)) rfl)<|sK [] sN)) rfl (by kernel_rfl) (by kernel_rfl) rfl ?_ ?_
    · rw [hv]
    · rfl
theorem Z8o {y a:Nat} {r:Rat} (h:Vl .f64 y r) (h1:-60≤r) (h2:r≤60):∀ (n p:Nat) (b:Rat) (k:Int),Vl .f64 p b→-(33/25)≤b→b≤33/25→k≤12→∃ q,Vl .f64 (ZB y n p k) q∧-(33/25)≤q∧q≤33/25:=by
  obtain ⟨t,t1,t2,t3⟩:=X8F h h1 h2
  intro n
  induction n with
  | zero=>intro p b k hp b1 b2 hk;exact ⟨0,by show Vl .f64 0 0;unfold Vl;decide +kernel,by decide +kernel,by decide +kernel⟩
  | succ n ih =>
    intro p b k hp b1 b2 hk
    rw [ZB]
    cases hc:decide (k ≥ 1) with
    | false=>exact ⟨b,hp,b1,b2⟩
    | true =>
      have hc:=odt hc
      obtain ⟨q,q1,q2,q3⟩:=X7O t1 t2 t3 hp b1 b2 hc hk
      rw [cond_true]
      exact ih _ _ _ q1 q2 q3 (by omega)
theorem Z8p (y:Nat):∀ (n p:Nat) (b:Rat) (k:Nat),k≤8→Vl .f64 p b→-expB k≤b→b≤expB k→∃ q,Vl .f64 (ZJ y n p (k:Int)) q∧-50000000000000000000000000000000≤q∧q≤50000000000000000000000000000000:=by
  intro n
  induction n with
  | zero=>intro p b k hk hp b1 b2;exact ⟨0,by show Vl .f64 0 0;unfold Vl;decide +kernel,by decide +kernel,by decide +kernel⟩
  | succ n ih =>
    intro p b k hk hp b1 b2
    rw [ZJ]
    cases hc:decide ((k:Int) < 8) with
    | false =>
      have:=(X6i k (by omega)).1
      exact ⟨b,hp,by grind,by grind⟩
    | true =>
      have hc:=odt hc
      obtain ⟨q,q1,q2,q3⟩:=X8y (by omega) hp b1 b2
      rw [cond_true]
      exact ih _ _ (k + 1) (by omega) q1 q2 q3
theorem Z7L {y:Nat} {r:Rat} (h:Vl .f64 y r) (h1:-60≤r) (h2:r≤60):fcmp .neq .f64 y y=false∧fcmp .gtr .f64 y 4641240890982006784=false∧fcmp .lss .f64 y 13864612927836782592=false:=by
  refine ⟨?_,?_,?_⟩
  · have e:fcmp .neq .f64 y y=!(fcmp .eql .f64 y y):=rfl
    rw [e,eqlV h h,decide_eq_true rfl];rfl
  · rw [gtrV h c200];exact decide_eq_false (by grind)
  · rw [lssV h X8G];exact decide_eq_false (by grind)
theorem Z6v {y:Nat} {r:Rat} (h:Vl .f64 y r) (h1:-60≤r) (h2:r≤60):Zz y=Z1r y∧∃ q,Vl .f64 (Z1r y) q∧-50000000000000000000000000000000≤q∧q≤50000000000000000000000000000000:=by
  obtain ⟨c1,c2,c3⟩:=Z7L h h1 h2
  refine ⟨by unfold Zz;rw [c1,cond_false,c2,cond_false,c3,cond_false],?_⟩
  obtain ⟨q,q1,q2,q3⟩:=Z8o (a:=0) h h1 h2 ((12:Int).toNat + y + 1) 4607182418800017408 1 12 cOne (by decide +kernel) (by decide +kernel) (by omega)
  exact Z8p y _ _ q 0 (by omega) q1 q2 q3
theorem Z6w {x:Nat} (h:X1f x):Xu .f64 .f32 (Zz (fcv .f32 .f64 x))=true:=by
  rcases h with ⟨r,h,h1,h2⟩ | rfl | rfl | rfl
  · obtain ⟨e,q,q1,q2,q3⟩:=Z6v (X3f h) h1 h2
    rw [e]
    exact X4r q1 (by grind) (by grind)
  · decide +kernel
  · decide +kernel
  · decide +kernel
def Zp (Yb:Nat):Nat:=(Z1D (Zz (fcv .f32 .f64 Yb)))
theorem Z7y (Yb:Nat) (hp0:X1f Yb)  : Fn prog 43 [.f .f32 Yb] (.f .f32 (Zp Yb)) []:=by
 have y0:Xu .f64 .f32 (Zz (fcv .f32 .f64 Yb))=true:=(by exact Z6w hp0)
 refine fnS E0Ok Z1 (c:=X0 f43) [] (.f .f32 (Z1D (Zz (fcv .f32 .f64 Yb)))) [] func43 (sC (XU Yb)<|sF (Z6n (fcv .f32 .f64 Yb))<|sF (Z4W (Zz (fcv .f32 .f64 Yb)) y0)<|sK [] sN) rfl (by kernel_rfl) (by kernel_rfl) rfl ?_ ?_
 · rfl
 · rfl
def ZH (Y1:Gv) (Yc:Gv):Gv:=(⟨(fop .add .f32 Y1.X Yc.X),(fop .add .f32 Y1.Y Yc.Y),(fop .add .f32 Y1.Z Yc.Z)⟩:Gv)
theorem Z5Q (Y1:Gv) (Yc:Gv)   : Fn prog 47 [.agg [.f .f32 Y1.X, .f .f32 Y1.Y, .f .f32 Y1.Z], .agg [.f .f32 Yc.X, .f .f32 Yc.Y, .f .f32 Yc.Z]] (.agg [.f .f32 ((ZH Y1 Yc).X), .f .f32 ((ZH Y1 Yc).Y), .f .f32 ((ZH Y1 Yc).Z)]) []:=by
 refine fnS E0Ok Z1 (c:=X0 f47) [] (.agg [.f .f32 (fop .add .f32 Y1.X Yc.X), .f .f32 (fop .add .f32 Y1.Y Yc.Y), .f .f32 (fop .add .f32 Y1.Z Yc.Z)]) [] func47 (sK [] sN) rfl (by kernel_rfl) (by kernel_rfl) rfl ?_ ?_
 · rfl
 · rfl
def Z1m (Y8:(List Gv)):Nat→Int→Nat→Nat→Nat→Nat × Nat × Nat
  | 0,_,_,_,_=>default
  | k + 1,Y2,Yo,Yp,Yq=>(cond (decide (Y2 < (Y8.length:Int)))
    (Z1m Y8 k (Y2 + 1) ((ZH (⟨Yo,Yp,Yq⟩:Gv) (Y8.getD Y2.toNat default)).X) ((ZH (⟨Yo,Yp,Yq⟩:Gv) (Y8.getD Y2.toNat default)).Y) ((ZH (⟨Yo,Yp,Yq⟩:Gv) (Y8.getD Y2.toNat default)).Z))
    (Yo,Yp,Yq))
def Z3W (Y8:(List Gv)) (r:Nat × Nat × Nat):Ex × St:=((.exit 0),⟨.any :: .any :: .ptr 0 0 0 :: .ptr 1 0 0 :: .any :: .agg [.f .f32 0, .f .f32 0, .f .f32 0] :: an 13 [],[.box 62 [.f .f32 0, .f .f32 0, .f .f32 0], .box 62 [.f .f32 r.1, .f .f32 r.2.1, .f .f32 r.2.2]]⟩)
def Z6K (Y8:(List Gv)) (Y2:Int) (Yo:Nat) (Yp:Nat) (Yq:Nat):St:=⟨.sl (Y8.map Gv.c) :: .any :: .ptr 0 0 0 :: .ptr 1 0 0 :: .i .i64 Y2 :: .agg [.f .f32 0, .f .f32 0, .f .f32 0] :: an 13 [],[.box 62 [.f .f32 0, .f .f32 0, .f .f32 0], .box 62 [.f .f32 Yo, .f .f32 Yp, .f .f32 Yq]]⟩
theorem Z6L (Y8:(List Gv)) (hp0:Y8.length≤1073741824):∀ (k:Nat) (Y2:Int) (Yo:Nat) (Yp:Nat) (Yq:Nat) (Z4v:0≤Y2) (hk:((Y8.length:Int) - Y2).toNat < k),Lp prog 0 (sub (X0 f95) [1,1,0,1,0,0]) (Z6K Y8 Y2 Yo Yp Yq) (Z3W Y8 (Z1m Y8 k Y2 Yo Yp Yq)).1 (Z3W Y8 (Z1m Y8 k Y2 Yo Yp Yq)).2:=by
 intro k
 induction k with
 | zero=>intro Y2 Yo Yp Yq Z4v hk;exact absurd hk (Nat.not_lt_zero _)
 | succ k ih =>
  intro Y2 Yo Yp Yq Z4v hk
  have p {a C} (s:Scr a C):=sZ Gv.c Y8<|s
  cases Ye:(decide (Y2 < (Y8.length:Int))) with
  | true =>
   have Yt:=odt Ye
   have Y9:(0:Int)≤Y2:=by clear p;exact (by assumption)
   have Yz:Y2 < (Y8.length:Int):=by clear p;exact (by assumption)
   have YA:(-9223372036854775808:Int)≤(Y2 + 1):=by clear p;exact (by omega)
   have YD:(Y2 + 1)≤(9223372036854775807:Int):=by clear p;exact (by omega)
   have e:Z1m Y8 (k + 1) Y2 Yo Yp Yq=(Z1m Y8 k (Y2 + 1) ((ZH (⟨Yo,Yp,Yq⟩:Gv) (Y8.getD Y2.toNat default)).X) ((ZH (⟨Yo,Yp,Yq⟩:Gv) (Y8.getD Y2.toNat default)).Y) ((ZH (⟨Yo,Yp,Yq⟩:Gv) (Y8.getD Y2.toNat default)).Z)):=by simp only [Z1m,Ye,cond_true]
   rw [e]
   exact Xo E0Ok Z1 [] (mR false [0,1,1,4,13]) [0,1] (ih (Y2 + 1) ((ZH (⟨Yo,Yp,Yq⟩:Gv) (Y8.getD Y2.toNat default)).X) ((ZH (⟨Yo,Yp,Yq⟩:Gv) (Y8.getD Y2.toNat default)).Y) ((ZH (⟨Yo,Yp,Yq⟩:Gv) (Y8.getD Y2.toNat default)).Z) (show 0≤(Y2 + 1) from (by omega)) (by omega)) (p (sB Ye<|sK [5,5]<|sG Gv.c Y8 Y2 Y9 Yz<|sF (Z5Q (⟨Yo,Yp,Yq⟩:Gv) (Y8.getD Y2.toNat default))<|sI (Y2 + 1) YA YD<|sN)) (by kernel_rfl)
  | false =>
   have Yt:=odf Ye
   have e:Z1m Y8 (k + 1) Y2 Yo Yp Yq=(Yo,Yp,Yq):=by simp only [Z1m,Ye,cond_false]
   rw [e]
   exact outR (e:=(.exit 0)) E0Ok Z1 [] (mR false [2,2,1,1,13]) [0,1] (p (sB Ye<|sN)) (by kernel_rfl) (by intro h;cases h)
def Z1y (Y8:(List Gv)):Nat × Nat × Nat:=(Z1m Y8 (((Y8.length:Int) - 0).toNat + 1) 0 0 0 0)
def Z1G (Y8:(List Gv)):Gv:=(⟨(Z1y Y8).1,(Z1y Y8).2.1,(Z1y Y8).2.2⟩:Gv)
theorem Z7z (Y8:(List Gv)) (hp0:Y8.length≤1073741824)  : Fn prog 95 [.sl (Y8.map Gv.c)] (.agg [.f .f32 ((Z1G Y8).X), .f .f32 ((Z1G Y8).Y), .f .f32 ((Z1G Y8).Z)]) []:=by
 refine fnS E0Ok Z1 (c:=X0 f95) [] (.agg [.f .f32 ((Z1y Y8).1), .f .f32 ((Z1y Y8).2.1), .f .f32 ((Z1y Y8).2.2)]) [] func95 (sL (mR false [0,1,1,4,13]) 2 (X4 (Z3W Y8) (x:=(Z1y Y8)) (Z6L Y8 hp0 (((Y8.length:Int) - 0).toNat + 1) 0 0 0 0 (show 0≤0 from (by omega)) (Nat.lt_succ_self _)) rfl)<|sK [] sN) rfl (by kernel_rfl) (by kernel_rfl) rfl ?_ ?_
 · rfl
 · rfl
def Z1L (YE:Gv) (YC:Nat):Gv:=(⟨(fop .mul .f32 YE.X YC),(fop .mul .f32 YE.Y YC),(fop .mul .f32 YE.Z YC)⟩:Gv)
theorem Z57 (YE:Gv) (YC:Nat)   : Fn prog 48 [.agg [.f .f32 YE.X, .f .f32 YE.Y, .f .f32 YE.Z], .f .f32 YC] (.agg [.f .f32 ((Z1L YE YC).X), .f .f32 ((Z1L YE YC).Y), .f .f32 ((Z1L YE YC).Z)]) []:=by
 refine fnS E0Ok Z1 (c:=X0 f48) [] (.agg [.f .f32 (fop .mul .f32 YE.X YC), .f .f32 (fop .mul .f32 YE.Y YC), .f .f32 (fop .mul .f32 YE.Z YC)]) [] func48 (sK [] sN) rfl (by kernel_rfl) (by kernel_rfl) rfl ?_ ?_
 · rfl
 · rfl
def Za (Y0:Gm):Gv:=(Z1L (Z1G Y0.Pq) (fop .quo .f32 1065353216 (X1 .f32 (Y0.Pq.length:Int))))
theorem Z6M (Y0:Gm) (hp0:Y0.Pq.length≤1073741824) (hp1:Y0.Tr.length≤1073741824) (hp2:∀ t∈Y0.Tr,t.length≤1073741824)  : Fn prog 45 [.ref (Gm.c Y0) 0] (.agg [.f .f32 ((Za Y0).X), .f .f32 ((Za Y0).Y), .f .f32 ((Za Y0).Z)]) []:=by
 refine fnS E0Ok Z1 (c:=X0 f45) [] (.agg [.f .f32 ((Z1L (Z1G Y0.Pq) (fop .quo .f32 1065353216 (X1 .f32 (Y0.Pq.length:Int)))).X), .f .f32 ((Z1L (Z1G Y0.Pq) (fop .quo .f32 1065353216 (X1 .f32 (Y0.Pq.length:Int)))).Y), .f .f32 ((Z1L (Z1G Y0.Pq) (fop .quo .f32 1065353216 (X1 .f32 (Y0.Pq.length:Int)))).Z)]) [] func45 (sK [12,12]<|sF (Z7z Y0.Pq hp0)<|sZ Gv.c Y0.Pq<|sF (Z57 (Z1G Y0.Pq) (fop .quo .f32 1065353216 (X1 .f32 (Y0.Pq.length:Int))))<|sK [] sN) rfl (by kernel_rfl) (by kernel_rfl) rfl ?_ ?_
 · rfl
 · rfl
def Z3U (Y8:(List Int)):(List Int):=(([]:List Int) ++ Y8)
theorem Z7A (Y8:(List Int)) (hp0:Y8.length≤1073741824)  : Fn prog 96 [.sl (Y8.map (cI .i64))] (.own 0) [.vec 2 1 ((Z3U Y8).map (cI .i64)) false]:=by
 have y0:([]:List Int).length + Y8.length≤1073741824:=(by simp_all<;>omega)
 refine fnS E0Ok Z1 (c:=X0 f96) [] (.own 0) [.vec 2 1 (([]:List (List AV)) ++ (Y8.map (cI .i64))) false] func96 (sC (show ([]:List (List AV)).length + (Y8.map (cI .i64)).length≤1073741824 from (by simpa using y0))<|sC (show (Y8.map (cI .i64)).all (fun cs=>cs.length == 1 && cs.all isS)=true from (X3Y (fun _=>rfl)))<|sK [0] sN) rfl (by kernel_rfl) (by kernel_rfl) rfl ?_ ?_
 · rfl
 · simp [Z3U,cI]
@[simp] theorem Z8a (l:List Int):Z3U l=l:=by simp [Z3U]
theorem Z7B (Y8:(List Int)) (hp0:Y8.length≤1073741824):Fn prog 96 [.sl (Y8.map (cI .i64))] (.own 0) [.vec 2 1 (Y8.map (cI .i64)) false]:=by
 simpa only [Z8a] using Z7A  Y8 hp0
def Z1s (Y0:Gm):Nat→Int→(List (List Int))→(List (List Int))
  | 0,_,_=>default
  | k + 1,Y2,Yj=>(cond (decide (Y2 < (Y0.Tr.length:Int)))
    (Z1s Y0 k (Y2 + 1) (Yj ++ [(Y0.Tr.getD Y2.toNat default)]))
    Yj)
def Z3X (Y0:Gm) (r:(List (List Int))):Ex × St:=((.exit 0),⟨.ref (Gm.c Y0) 0 :: .any :: .ptr 0 0 0 :: .ptr 1 0 0 :: .any :: .any :: .ref (Gm.c Y0) 0 :: .ref (Gm.c Y0) 0 :: .ref (Gm.c Y0) 0 :: .sl (Y0.Pq.map Gv.c) :: .own 2 :: an 25 [],[.box 35 [.nils, .nils], .box 35 [.own 2, .own 3], .vec 62 3 (([]:List (List AV)) ++ (Y0.Pq.map Gv.c)) false, .nest 79 (r.map fun l=>l.map (cI .i64)) false]⟩)
def Z3Y (Y0:Gm) (Y2:Int) (Yj:(List (List Int))):St:=⟨.ref (Gm.c Y0) 0 :: .any :: .ptr 0 0 0 :: .ptr 3 0 0 :: .i .i64 Y2 :: .any :: .ref (Gm.c Y0) 0 :: .ref (Gm.c Y0) 0 :: .ref (Gm.c Y0) 0 :: .sl (Y0.Pq.map Gv.c) :: .own 1 :: an 25 [],[.box 35 [.nils, .nils], .vec 62 3 (([]:List (List AV)) ++ (Y0.Pq.map Gv.c)) false, .nest 79 (Yj.map fun l=>l.map (cI .i64)) false, .box 35 [.own 1, .own 2]]⟩
theorem Z6N (Y0:Gm) (hp0:Y0.Pq.length≤1073741824) (hp1:Y0.Tr.length≤1073741824) (hp2:∀ t∈Y0.Tr,t.length≤1073741824):∀ (k:Nat) (Y2:Int) (Yj:(List (List Int))) (Z4w:0≤Y2) (Z4x:(Yj.length:Int)=Y2) (hk:((Y0.Tr.length:Int) - Y2).toNat < k),Lp prog 0 (sub (X0 f46) [1,1,0,1,0,0]) (Z3Y Y0 Y2 Yj) (Z3X Y0 (Z1s Y0 k Y2 Yj)).1 (Z3X Y0 (Z1s Y0 k Y2 Yj)).2:=by
 intro k
 induction k with
 | zero=>intro Y2 Yj Z4w Z4x hk;exact absurd hk (Nat.not_lt_zero _)
 | succ k ih =>
  intro Y2 Yj Z4w Z4x hk
  have p {a C} (s:Scr a C):=sZ (cL (cI .i64)) Y0.Tr<|s
  cases Ye:(decide (Y2 < (Y0.Tr.length:Int))) with
  | true =>
   have Yt:=odt Ye
   have Y9:(0:Int)≤Y2:=by clear p;exact (by assumption)
   have Yz:Y2 < (Y0.Tr.length:Int):=by clear p;exact (by assumption)
   have YA:(Y0.Tr.getD Y2.toNat default).length≤1073741824:=by clear p;exact (by simp_all<;>omega)
   have YD:Yj.length + [(Y0.Tr.getD Y2.toNat default)].length≤1073741824:=by clear p;exact (by simp_all<;>omega)
   have YG:(-9223372036854775808:Int)≤(Y2 + 1):=by clear p;exact (by omega)
   have YM:(Y2 + 1)≤(9223372036854775807:Int):=by clear p;exact (by omega)
   have e:Z1s Y0 (k + 1) Y2 Yj=(Z1s Y0 k (Y2 + 1) (Yj ++ [(Y0.Tr.getD Y2.toNat default)])):=by simp only [Z1s,Ye,cond_true]
   rw [e]
   exact X1O E0Ok Z1 [] (mR false [0,1,1,3,1,5,25]) [0,1,2,3] (⟨.ref (Gm.c Y0) 0 :: .any :: .ptr 0 0 0 :: .ptr 3 0 0 :: .i .i64 (Y2 + 1) :: .any :: .ref (Gm.c Y0) 0 :: .ref (Gm.c Y0) 0 :: .ref (Gm.c Y0) 0 :: .sl (Y0.Pq.map Gv.c) :: .own 1 :: an 25 [],[.box 35 [.nils, .nils], .vec 62 3 (([]:List (List AV)) ++ (Y0.Pq.map Gv.c)) false, .nest 79 ((Yj.map fun l=>l.map (cI .i64)) ++ [((Y0.Tr.getD Y2.toNat default).map (cI .i64))]) false, .box 35 [.own 1, .own 2]]⟩) (p (sB Ye<|sK [11,11]<|sG (cL (cI .i64)) Y0.Tr Y2 Y9 Yz<|sF (Z7B (Y0.Tr.getD Y2.toNat default) YA)<|sC (show (Yj.map fun l=>l.map (cI .i64)).length + [((Y0.Tr.getD Y2.toNat default).map (cI .i64))].length≤1073741824 from (by simpa using YD))<|sI (Y2 + 1) YG YM<|sN)) (by kernel_rfl) (by simp [Z3Y,Gv.c,cL,cI]) (ih (Y2 + 1) (Yj ++ [(Y0.Tr.getD Y2.toNat default)]) (show 0≤(Y2 + 1) from (by omega)) (show ((Yj ++ [(Y0.Tr.getD Y2.toNat default)]).length:Int)=(Y2 + 1) from (by simp_all<;>omega)) (by omega))
  | false =>
   have Yt:=odf Ye
   have e:Z1s Y0 (k + 1) Y2 Yj=Yj:=by simp only [Z1s,Ye,cond_false]
   rw [e]
   exact outR (e:=(.exit 0)) E0Ok Z1 [] (mR false [0,1,1,2,2,5,25]) [0,3,1,2] (p (sB Ye<|sN)) (by kernel_rfl) (by intro h;cases h)
def Z2o (Y0:Gm):(List (List Int)):=(Z1s Y0 (((Y0.Tr.length:Int) - 0).toNat + 1) 0 ([]:List (List Int)))
def Z2S (Y0:Gm):Gm:=(⟨(([]:List Gv) ++ Y0.Pq),(Z2o Y0)⟩:Gm)
theorem Z7C (Y0:Gm) (hp0:Y0.Pq.length≤1073741824) (hp1:Y0.Tr.length≤1073741824) (hp2:∀ t∈Y0.Tr,t.length≤1073741824)  : Fn prog 46 [.ref (Gm.c Y0) 0] (.agg [.own 0, .own 1]) [.vec 62 3 (((Z2S Y0).Pq).map Gv.c) false, .nest 79 (((Z2S Y0).Tr).map fun l=>l.map (cI .i64)) false]:=by
 have y0:([]:List Gv).length + Y0.Pq.length≤1073741824:=(by simp_all<;>omega)
 refine fnS E0Ok Z1 (c:=X0 f46) [] (.agg [.own 0, .own 1]) [.vec 62 3 (([]:List (List AV)) ++ (Y0.Pq.map Gv.c)) false, .nest 79 ((Z2o Y0).map fun l=>l.map (cI .i64)) false] func46 (sC (show ([]:List (List AV)).length + (Y0.Pq.map Gv.c).length≤1073741824 from (by simpa using y0))<|sC (show (Y0.Pq.map Gv.c).all (fun cs=>cs.length == 3 && cs.all isS)=true from (X3Y (fun _=>rfl)))<|sL (mR false [0,1,1,3,1,5,25]) 4 (X2y (st2:=⟨.ref (Gm.c Y0) 0 :: .any :: .ptr 0 0 0 :: .ptr 3 0 0 :: .i .i64 0 :: .any :: .ref (Gm.c Y0) 0 :: .ref (Gm.c Y0) 0 :: .ref (Gm.c Y0) 0 :: .sl (Y0.Pq.map Gv.c) :: .own 1 :: an 25 [],[.box 35 [.nils, .nils], .vec 62 3 (([]:List (List AV)) ++ (Y0.Pq.map Gv.c)) false, .nest 79 [] false, .box 35 [.own 1, .own 2]]⟩) (X4 (Z3X Y0) (x:=(Z2o Y0)) (Z6N Y0 hp0 hp1 hp2 (((Y0.Tr.length:Int) - 0).toNat + 1) 0 ([]:List (List Int)) (show 0≤0 from (by omega)) (show (([]:List (List Int)).length:Int)=0 from (by simp)) (Nat.lt_succ_self _)) rfl) (by simp [Z3Y,Gv.c,cL,cI]))<|sK [2,3] sN) rfl (by kernel_rfl) (by kernel_rfl) rfl ?_ ?_
 · rfl
 · simp [Z2S,Gv.c]
@[simp] theorem Z8b (m:Gm):Z2S m=m:=by
  unfold Z2S Z2o
  rw [X5M (f:=fun i=>(m.Tr.getD i.toNat default)) (n:=(m.Tr.length:Int)) (lo:=Z1s m) (fun k i r=>rfl) _ _ _ (Nat.lt_succ_self _)]
  simp [X3t]
theorem Z7D (Y0:Gm) (hp0:Y0.Pq.length≤1073741824) (hp1:Y0.Tr.length≤1073741824) (hp2:∀ t∈Y0.Tr,t.length≤1073741824):Fn prog 46 [.ref (Gm.c Y0) 0] (.agg [.own 0, .own 1]) [.vec 62 3 (Y0.Pq.map Gv.c) false, .nest 79 (Y0.Tr.map fun l=>l.map (cI .i64)) false]:=by
 simpa only [Z8b] using Z7C  Y0 hp0 hp1 hp2
def Z2v (Y1:Gv) (Yc:Gv):Gv:=(⟨(fop .sub .f32 Y1.X Yc.X),(fop .sub .f32 Y1.Y Yc.Y),(fop .sub .f32 Y1.Z Yc.Z)⟩:Gv)
theorem Z7h (Y1:Gv) (Yc:Gv)   : Fn prog 49 [.agg [.f .f32 Y1.X, .f .f32 Y1.Y, .f .f32 Y1.Z], .agg [.f .f32 Yc.X, .f .f32 Yc.Y, .f .f32 Yc.Z]] (.agg [.f .f32 ((Z2v Y1 Yc).X), .f .f32 ((Z2v Y1 Yc).Y), .f .f32 ((Z2v Y1 Yc).Z)]) []:=by
 refine fnS E0Ok Z1 (c:=X0 f49) [] (.agg [.f .f32 (fop .sub .f32 Y1.X Yc.X), .f .f32 (fop .sub .f32 Y1.Y Yc.Y), .f .f32 (fop .sub .f32 Y1.Z Yc.Z)]) [] func49 (sK [] sN) rfl (by kernel_rfl) (by kernel_rfl) rfl ?_ ?_
 · rfl
 · rfl
theorem Z4P (x:Nat):X1f (fop .quo .f32 (Zf x) 1077936128):=by
  unfold Zf Z1D
  cases h0:fcmp .neq .f64 (fcv .f32 .f64 x) (fcv .f32 .f64 x) with
  | true =>
    have e:Z7 (fcv .f32 .f64 x)=ZN:=by unfold Z7;rw [h0,cond_true]
    rw [e];exact .inr (.inr (.inr (by decide +kernel)))
  | false =>
    cases h1:fcmp .lss .f64 (fcv .f32 .f64 x) 0 with
    | true =>
      have e:Z7 (fcv .f32 .f64 x)=ZN:=by unfold Z7;rw [h0,cond_false,h1,cond_true]
      rw [e];exact .inr (.inr (.inr (by decide +kernel)))
    | false =>
      cases h2:fcmp .eql .f64 (fcv .f32 .f64 x) 0 with
      | true =>
        have e:Z7 (fcv .f32 .f64 x)=Z1a (-1):=by unfold Z7;rw [h0,cond_false,h1,cond_false,h2,cond_true]
        rw [e];exact .inr (.inr (.inl (by decide +kernel)))
      | false =>
        cases h3:ZF (fcv .f32 .f64 x) 1 with
        | true =>
          have e:Z7 (fcv .f32 .f64 x)=fcv .f32 .f64 x:=by unfold Z7;rw [h0,cond_false,h1,cond_false,h2,cond_false,h3,cond_true]
          rw [e,(X3J h3).1];exact .inr (.inl (by decide +kernel))
        | false =>
          obtain ⟨a,b,c⟩:=X3I h0 h1 h2 h3
          obtain ⟨r,r1,r2,r3⟩:=Z7g _ a b c
          rw [Z5d h0 h1 h2 h3]
          obtain ⟨q,q1,q2,q3⟩:=X5T r1 r2 r3
          exact .inl (X8I q1 q2 q3)
def Z16 (Y0:Gm) (Y4:Nat) (Y2:Int) (Yk:(List Gv)):Gv:=(Z1L (Z2v (Yk.getD Y2.toNat default) (Za Y0)) (Zp (fop .quo .f32 (Zf (fop .quo .f32 Y4 (Z4 Y0))) 1077936128)))
def Zs (Y0:Gm) (Y4:Nat):Nat→Int→(List Gv)→(List Gv)
  | 0,_,_=>default
  | k + 1,Y2,Yk=>(cond (decide (Y2 < (Yk.length:Int)))
    (Zs Y0 Y4 k (Y2 + 1) (Yk.set Y2.toNat (ZH (Za Y0) (Z16 Y0 Y4 Y2 Yk))))
    Yk)
def Z2L (Y0:Gm) (Y4:Nat) (r:(List Gv)):Ex × St:=((.exit 0),⟨.agg [.sl (Y0.Pq.map Gv.c), .sl (Y0.Tr.map (cL (cI .i64)))] :: .f .f32 Y4 :: .ptr 0 0 0 :: .any :: .ptr 1 0 0 :: .b false :: .f .f32 (Zp (fop .quo .f32 (Zf (fop .quo .f32 Y4 (Z4 Y0))) 1077936128)) :: .ptr 2 0 0 :: .ptr 3 0 0 :: .any :: .b (Zr Y0) :: .b (!(Zr Y0)) :: .b (!(Zr Y0)) :: .f .f32 Y4 :: .b (Zc Y4) :: .b (!(Zc Y4)) :: .b (!(Zc Y4)) :: .b (!(Zc Y4)) :: .f .f32 (Z4 Y0) :: .b (Zc (Z4 Y0)) :: .b (!(Zc (Z4 Y0))) :: .b (!(Zc (Z4 Y0))) :: .any :: .f .f32 Y4 :: .f .f32 (Z4 Y0) :: .f .f32 (fop .quo .f32 Y4 (Z4 Y0)) :: .f .f32 (Zf (fop .quo .f32 Y4 (Z4 Y0))) :: .f .f32 (fop .quo .f32 (Zf (fop .quo .f32 Y4 (Z4 Y0))) 1077936128) :: .f .f32 (Zp (fop .quo .f32 (Zf (fop .quo .f32 Y4 (Z4 Y0))) 1077936128)) :: .f .f32 (Zp (fop .quo .f32 (Zf (fop .quo .f32 Y4 (Z4 Y0))) 1077936128)) :: .b (ZL (Zp (fop .quo .f32 (Zf (fop .quo .f32 Y4 (Z4 Y0))) 1077936128))) :: .b (!(ZL (Zp (fop .quo .f32 (Zf (fop .quo .f32 Y4 (Z4 Y0))) 1077936128)))) :: .any :: .agg [.f .f32 ((Za Y0).X), .f .f32 ((Za Y0).Y), .f .f32 ((Za Y0).Z)] :: .agg [.own 4, .own 5] :: an 23 [],[.box 35 [.sl (Y0.Pq.map Gv.c), .sl (Y0.Tr.map (cL (cI .i64)))], .box 35 [.nils, .nils], .box 62 [.f .f32 ((Za Y0).X), .f .f32 ((Za Y0).Y), .f .f32 ((Za Y0).Z)], .box 35 [.own 4, .own 5], .vec 62 3 (r.map Gv.c) false, .nest 79 (Y0.Tr.map fun l=>l.map (cI .i64)) false]⟩)
def Z4c (Y0:Gm) (Y4:Nat) (Y2:Int) (Yk:(List Gv)):St:=⟨.agg [.sl (Y0.Pq.map Gv.c), .sl (Y0.Tr.map (cL (cI .i64)))] :: .f .f32 Y4 :: .ptr 0 0 0 :: .any :: .ptr 1 0 0 :: .b false :: .f .f32 (Zp (fop .quo .f32 (Zf (fop .quo .f32 Y4 (Z4 Y0))) 1077936128)) :: .ptr 2 0 0 :: .ptr 5 0 0 :: .i .i64 Y2 :: .b (Zr Y0) :: .b (!(Zr Y0)) :: .b (!(Zr Y0)) :: .f .f32 Y4 :: .b (Zc Y4) :: .b (!(Zc Y4)) :: .b (!(Zc Y4)) :: .b (!(Zc Y4)) :: .f .f32 (Z4 Y0) :: .b (Zc (Z4 Y0)) :: .b (!(Zc (Z4 Y0))) :: .b (!(Zc (Z4 Y0))) :: .any :: .f .f32 Y4 :: .f .f32 (Z4 Y0) :: .f .f32 (fop .quo .f32 Y4 (Z4 Y0)) :: .f .f32 (Zf (fop .quo .f32 Y4 (Z4 Y0))) :: .f .f32 (fop .quo .f32 (Zf (fop .quo .f32 Y4 (Z4 Y0))) 1077936128) :: .f .f32 (Zp (fop .quo .f32 (Zf (fop .quo .f32 Y4 (Z4 Y0))) 1077936128)) :: .f .f32 (Zp (fop .quo .f32 (Zf (fop .quo .f32 Y4 (Z4 Y0))) 1077936128)) :: .b (ZL (Zp (fop .quo .f32 (Zf (fop .quo .f32 Y4 (Z4 Y0))) 1077936128))) :: .b (!(ZL (Zp (fop .quo .f32 (Zf (fop .quo .f32 Y4 (Z4 Y0))) 1077936128)))) :: .any :: .agg [.f .f32 ((Za Y0).X), .f .f32 ((Za Y0).Y), .f .f32 ((Za Y0).Z)] :: .agg [.own 3, .own 4] :: an 23 [],[.box 35 [.sl (Y0.Pq.map Gv.c), .sl (Y0.Tr.map (cL (cI .i64)))], .box 35 [.nils, .nils], .box 62 [.f .f32 ((Za Y0).X), .f .f32 ((Za Y0).Y), .f .f32 ((Za Y0).Z)], .vec 62 3 (Yk.map Gv.c) false, .nest 79 (Y0.Tr.map fun l=>l.map (cI .i64)) false, .box 35 [.own 3, .own 4]]⟩
def Z3H:List Bool:=(mR false [0,3,1,18,1,9,1,2,23])
def Z5g:List Bool:=(mR false [0,3,1,5,1,12,1,9,1,2,23])
theorem Z5H (Y0:Gm) (Y4:Nat) (hp0:Y0.Pq.length≤1073741824) (hp1:Y0.Tr.length≤1073741824) (hp2:∀ t∈Y0.Tr,t.length≤1073741824) (Z7T:(Zr Y0)=true):∀ (k:Nat) (Y2:Int) (Yk:(List Gv)) (Z3I:0≤Y2) (Z3J:Yk.length=Y0.Pq.length) (hk:((Y0.Pq.length:Int) - Y2).toNat < k),Lp prog 0 (sub (X0 f13) [1,1,1,1,1,1,0,1,0,0]) (Z4c Y0 Y4 Y2 Yk) (Z2L Y0 Y4 (Zs Y0 Y4 k Y2 Yk)).1 (Z2L Y0 Y4 (Zs Y0 Y4 k Y2 Yk)).2:=by
 intro k
 induction k with
 | zero=>intro Y2 Yk Z3I Z3J hk;exact absurd hk (Nat.not_lt_zero _)
 | succ k ih =>
  intro Y2 Yk Z3I Z3J hk
  have p {a C} (s:Scr a C):=sZ Gv.c Yk<|s
  cases Ye:(decide (Y2 < (Yk.length:Int))) with
  | true =>
   have Yt:=odt Ye
   have Y9:(0:Int)≤Y2:=by clear p;exact (by assumption)
   have Yz:Y2 < (Yk.length:Int):=by clear p;exact (by assumption)
   have YA:Y2.toNat < Yk.length:=by clear p;exact (by omega)
   have YD:(-9223372036854775808:Int)≤(Y2 + 1):=by clear p;exact (by omega)
   have YG:(Y2 + 1)≤(9223372036854775807:Int):=by clear p;exact (by omega)
   have e:Zs Y0 Y4 (k + 1) Y2 Yk=(Zs Y0 Y4 k (Y2 + 1) (Yk.set Y2.toNat (ZH (Za Y0) (Z16 Y0 Y4 Y2 Yk)))):=by simp only [Zs,Ye,cond_true]
   rw [e]
   exact X1O E0Ok Z1 [] Z3H [0,1,2,3,4,5] (⟨.agg [.sl (Y0.Pq.map Gv.c), .sl (Y0.Tr.map (cL (cI .i64)))] :: .f .f32 Y4 :: .ptr 0 0 0 :: .any :: .ptr 1 0 0 :: .b false :: .f .f32 (Zp (fop .quo .f32 (Zf (fop .quo .f32 Y4 (Z4 Y0))) 1077936128)) :: .ptr 2 0 0 :: .ptr 5 0 0 :: .i .i64 (Y2 + 1) :: .b (Zr Y0) :: .b (!(Zr Y0)) :: .b (!(Zr Y0)) :: .f .f32 Y4 :: .b (Zc Y4) :: .b (!(Zc Y4)) :: .b (!(Zc Y4)) :: .b (!(Zc Y4)) :: .f .f32 (Z4 Y0) :: .b (Zc (Z4 Y0)) :: .b (!(Zc (Z4 Y0))) :: .b (!(Zc (Z4 Y0))) :: .any :: .f .f32 Y4 :: .f .f32 (Z4 Y0) :: .f .f32 (fop .quo .f32 Y4 (Z4 Y0)) :: .f .f32 (Zf (fop .quo .f32 Y4 (Z4 Y0))) :: .f .f32 (fop .quo .f32 (Zf (fop .quo .f32 Y4 (Z4 Y0))) 1077936128) :: .f .f32 (Zp (fop .quo .f32 (Zf (fop .quo .f32 Y4 (Z4 Y0))) 1077936128)) :: .f .f32 (Zp (fop .quo .f32 (Zf (fop .quo .f32 Y4 (Z4 Y0))) 1077936128)) :: .b (ZL (Zp (fop .quo .f32 (Zf (fop .quo .f32 Y4 (Z4 Y0))) 1077936128))) :: .b (!(ZL (Zp (fop .quo .f32 (Zf (fop .quo .f32 Y4 (Z4 Y0))) 1077936128)))) :: .any :: .agg [.f .f32 ((Za Y0).X), .f .f32 ((Za Y0).Y), .f .f32 ((Za Y0).Z)] :: .agg [.own 3, .own 4] :: an 23 [],[.box 35 [.sl (Y0.Pq.map Gv.c), .sl (Y0.Tr.map (cL (cI .i64)))], .box 35 [.nils, .nils], .box 62 [.f .f32 ((Za Y0).X), .f .f32 ((Za Y0).Y), .f .f32 ((Za Y0).Z)], .vec 62 3 ((Yk.map Gv.c).set Y2.toNat [.f .f32 ((ZH (Za Y0) (Z16 Y0 Y4 Y2 Yk)).X), .f .f32 ((ZH (Za Y0) (Z16 Y0 Y4 Y2 Yk)).Y), .f .f32 ((ZH (Za Y0) (Z16 Y0 Y4 Y2 Yk)).Z)]) false, .nest 79 (Y0.Tr.map fun l=>l.map (cI .i64)) false, .box 35 [.own 3, .own 4]]⟩) (p (sB Ye<|sK [14,14]<|sX Gv.c Yk Y2 Y9 Yz<|sV Gv.c Yk Y2.toNat YA<|sF (Z7h (Yk.getD Y2.toNat default) (Za Y0))<|sF (Z57 (Z2v (Yk.getD Y2.toNat default) (Za Y0)) (Zp (fop .quo .f32 (Zf (fop .quo .f32 Y4 (Z4 Y0))) 1077936128)))<|sF (Z5Q (Za Y0) (Z16 Y0 Y4 Y2 Yk))<|sX Gv.c Yk Y2 Y9 Yz<|sC (X45 (c:=Gv.c) (l:=Yk) YA)<|sI (Y2 + 1) YD YG<|sN)) (by kernel_rfl) (by simp [Z4c,List.map_set,Gv.c]) (ih (Y2 + 1) (Yk.set Y2.toNat (ZH (Za Y0) (Z16 Y0 Y4 Y2 Yk))) (show 0≤(Y2 + 1) from (by omega)) (show (Yk.set Y2.toNat (ZH (Za Y0) (Z16 Y0 Y4 Y2 Yk))).length=Y0.Pq.length from (by simp_all<;>omega)) (by omega))
  | false =>
   have Yt:=odf Ye
   have e:Zs Y0 Y4 (k + 1) Y2 Yk=Yk:=by simp only [Zs,Ye,cond_false]
   rw [e]
   exact outR (e:=(.exit 0)) E0Ok Z1 [] Z5g [0,1,2,5,3,4] (p (sB Ye<|sN)) (by kernel_rfl) (by intro h;cases h)
theorem Z5h (Y0:Gm) (Y4:Nat):∀ (k:Nat) (Y2:Int) (Yk:(List Gv)) (hk:((Yk.length:Int) - Y2).toNat < k),(Zs Y0 Y4 k Y2 Yk).length=Yk.length:=by
  intro k
  induction k with
  | zero=>intro Y2 Yk hk;exact absurd hk (Nat.not_lt_zero _)
  | succ k ih =>
    intro Y2 Yk hk
    cases Ye:(decide (Y2 < (Yk.length:Int))) with
    | true =>
      have e:Zs Y0 Y4 (k + 1) Y2 Yk=(Zs Y0 Y4 k (Y2 + 1) (Yk.set Y2.toNat (ZH (Za Y0) (Z16 Y0 Y4 Y2 Yk)))):=by simp only [Zs,Ye,cond_true]
      rw [e,ih (Y2 + 1) (Yk.set Y2.toNat (ZH (Za Y0) (Z16 Y0 Y4 Y2 Yk))) (by simp_all<;>omega)];simp
    | false =>
      have e:Zs Y0 Y4 (k + 1) Y2 Yk=Yk:=by simp only [Zs,Ye,cond_false]
      first | (rw [e];done) | (rw [e];rfl)
def Z1N (Y0:Gm) (Y4:Nat):(List Gv):=(Zs Y0 Y4 (((Y0.Pq.length:Int) - 0).toNat + 1) 0 Y0.Pq)
@[simp] theorem Z7i (Y0:Gm) (Y4:Nat):(Z1N Y0 Y4).length=(Y0.Pq:(List Gv)).length:=Z5h Y0 Y4 (((Y0.Pq.length:Int) - 0).toNat + 1) 0 Y0.Pq (by exact Nat.lt_succ_self _)
def Z8 (Y0:Gm) (Y4:Nat):Gm × Bool:=(cond (Zr Y0)
  (cond (Zc Y4)
    (cond (Zc (Z4 Y0))
      (cond (ZL (Zp (fop .quo .f32 (Zf (fop .quo .f32 Y4 (Z4 Y0))) 1077936128)))
        ((⟨(Z1N Y0 Y4),Y0.Tr⟩:Gm),true)
        ((⟨([]:List Gv),([]:List (List Int))⟩:Gm),false))
      ((⟨([]:List Gv),([]:List (List Int))⟩:Gm),false))
    ((⟨([]:List Gv),([]:List (List Int))⟩:Gm),false))
  ((⟨([]:List Gv),([]:List (List Int))⟩:Gm),false))
theorem Z5Y (m:Gm) (v:Nat):(Z8 m v).1.Pq.length≤m.Pq.length:=by
  unfold Z8
  cases Zr m<;>cases Zc v<;>cases Zc (Z4 m)<;>(try (simp;done))<;>cases ZL (Zp (fop .quo .f32 (Zf (fop .quo .f32 v (Z4 m))) 1077936128))<;>simp
theorem Z5Z (m:Gm) (v:Nat):(Z8 m v).1.Tr.length≤m.Tr.length:=by
  unfold Z8
  cases Zr m<;>cases Zc v<;>cases Zc (Z4 m)<;>(try (simp;done))<;>cases ZL (Zp (fop .quo .f32 (Zf (fop .quo .f32 v (Z4 m))) 1077936128))<;>simp
theorem Z60 (m:Gm) (v:Nat):∀ t∈(Z8 m v).1.Tr,t∈m.Tr:=by
  unfold Z8
  cases Zr m<;>cases Zc v<;>cases Zc (Z4 m)<;>(try (simp;done))<;>cases ZL (Zp (fop .quo .f32 (Zf (fop .quo .f32 v (Z4 m))) 1077936128))<;>simp
theorem Z6o (Y0:Gm) (Y4:Nat) (hp0:Y0.Pq.length≤1073741824) (hp1:Y0.Tr.length≤1073741824) (hp2:∀ t∈Y0.Tr,t.length≤1073741824)  : Fn prog 13 [.agg [.sl (Y0.Pq.map Gv.c), .sl (Y0.Tr.map (cL (cI .i64)))], .f .f32 Y4] (.tup [.agg [.own 0, .own 1], .b ((Z8 Y0 Y4).2)]) [.vec 62 3 (((Z8 Y0 Y4).1.Pq).map Gv.c) false, .nest 79 (((Z8 Y0 Y4).1.Tr).map fun l=>l.map (cI .i64)) false]:=by
 have p {a C} (s:Scr a C):=sF (Z7J Y0 hp0 hp1 hp2)<|s
 cases h0:(Zr Y0) with
 | true =>
  have q {a C} (s:Scr a C):=p (sB' h0<|sB' h0<|sF (Z5n Y4)<|sB' h0<|sB' h0<|s)
  clear p
  cases h1:(Zc Y4) with
  | true =>
   have y0:X7 Y0.Pq.length Y0.Tr:=by clear q;exact (by exact Z55 _ (by assumption))
   have p {a C} (s:Scr a C):=q (sB' h1<|sF (Z4V Y0 hp0 hp1 hp2 y0)<|sB' h1<|sF (Z5n (Z4 Y0))<|sB' h1<|sB' h1<|s)
   clear q
   cases h2:(Zc (Z4 Y0)) with
   | true =>
    have y1:X1f (fop .quo .f32 (Zf (fop .quo .f32 Y4 (Z4 Y0))) 1077936128):=by clear p;exact (by exact Z4P _)
    have q {a C} (s:Scr a C):=p (sB' h2<|sF (Z4V Y0 hp0 hp1 hp2 y0)<|sF (Z7x (fop .quo .f32 Y4 (Z4 Y0)))<|sF (Z7y (fop .quo .f32 (Zf (fop .quo .f32 Y4 (Z4 Y0))) 1077936128) y1)<|sF (Z4U (Zp (fop .quo .f32 (Zf (fop .quo .f32 Y4 (Z4 Y0))) 1077936128)))<|s)
    clear p
    cases h3:(ZL (Zp (fop .quo .f32 (Zf (fop .quo .f32 Y4 (Z4 Y0))) 1077936128))) with
    | true =>
     refine fnS E0Ok Z1 (c:=X0 f13) [] (.tup [.agg [.own 0, .own 1], .b true]) [.vec 62 3 ((Z1N Y0 Y4).map Gv.c) false, .nest 79 (Y0.Tr.map fun l=>l.map (cI .i64)) false] func13 (q (sB' h3<|sF (Z6M Y0 hp0 hp1 hp2)<|sF (Z7D Y0 hp0 hp1 hp2)<|sL Z3H 6 (X4 (Z2L Y0 Y4) (x:=(Z1N Y0 Y4)) (Z5H Y0 Y4 hp0 hp1 hp2 h0 (((Y0.Pq.length:Int) - 0).toNat + 1) 0 Y0.Pq (show 0≤0 from (by omega)) (show Y0.Pq.length=Y0.Pq.length from (by simp)) (Nat.lt_succ_self _)) rfl)<|sK [4,5] sN)) rfl (by kernel_rfl) (by kernel_rfl) rfl ?_ ?_
     · simp only [Z8,h0,h1,h2,h3,cond_true]
     · simp [Z8,h0,h1,h2,h3]
    | false =>
     refine fnS E0Ok Z1 (c:=X0 f13) [(.row 1 0, .vec 62 3 [] false),(.row 1 1, .nest 79 [] false)] (.tup [.agg [.own 0, .own 1], .b false]) [.vec 62 3 [] false, .nest 79 [] false] func13 (q (sB' h3<|sK [2,3] sN)) rfl (by kernel_rfl) (by kernel_rfl) rfl ?_ ?_
     · simp only [Z8,h0,h1,h2,h3,cond_true,cond_false]
     · simp [Z8,h0,h1,h2,h3,Gv.c,cL,cI]
   | false =>
    refine fnS E0Ok Z1 (c:=X0 f13) [(.row 1 0, .vec 62 3 [] false),(.row 1 1, .nest 79 [] false)] (.tup [.agg [.own 0, .own 1], .b false]) [.vec 62 3 [] false, .nest 79 [] false] func13 (p (sB' h2<|sK [2,3] sN)) rfl (by kernel_rfl) (by kernel_rfl) rfl ?_ ?_
    · simp only [Z8,h0,h1,h2,cond_true,cond_false]
    · simp [Z8,h0,h1,h2,Gv.c,cL,cI]
  | false =>
   refine fnS E0Ok Z1 (c:=X0 f13) [(.row 1 0, .vec 62 3 [] false),(.row 1 1, .nest 79 [] false)] (.tup [.agg [.own 0, .own 1], .b false]) [.vec 62 3 [] false, .nest 79 [] false] func13 (q (sB' h1<|sB' h1<|sB' h1<|sB' h1<|sB (show true=true from rfl)<|sK [2,3] sN)) rfl (by kernel_rfl) (by kernel_rfl) rfl ?_ ?_
   · simp only [Z8,h0,h1,cond_true,cond_false]
   · simp [Z8,h0,h1,Gv.c,cL,cI]
 | false =>
  refine fnS E0Ok Z1 (c:=X0 f13) [(.row 1 0, .vec 62 3 [] false),(.row 1 1, .nest 79 [] false)] (.tup [.agg [.own 0, .own 1], .b false]) [.vec 62 3 [] false, .nest 79 [] false] func13 (p (sB' h0<|sB' h0<|sB' h0<|sB' h0<|sB (show true=true from rfl)<|sB (show true=true from rfl)<|sB (show true=true from rfl)<|sB (show true=true from rfl)<|sB (show true=true from rfl)<|sK [2,3] sN)) rfl (by kernel_rfl) (by kernel_rfl) rfl ?_ ?_
  · simp only [Z8,h0,cond_false]
  · simp [Z8,h0,Gv.c,cL,cI]
def Z1H (YR:Int) (YH:Int) (YB:Int):Bool:=(cond (decide (YR ≥ YH))
  (decide (YR≤YB))
  false)
theorem Z7E (YR:Int) (YH:Int) (YB:Int)   : Fn prog 75 [.i .i64 YR, .i .i64 YH, .i .i64 YB] (.b (Z1H YR YH YB)) []:=by
 cases h0:(decide (YR ≥ YH)) with
 | true =>
  have gh0:=odt h0
  refine fnS E0Ok Z1 (c:=X0 f75) [] (.b (decide (YR≤YB))) [] func75 (sB h0<|sB h0<|sB h0<|sB h0<|sK [] sN) rfl (by kernel_rfl) (by kernel_rfl) rfl ?_ ?_
  · simp only [Z1H,h0,cond_true]
  · rfl
 | false =>
  have gh0:=odf h0
  refine fnS E0Ok Z1 (c:=X0 f75) [] (.b false) [] func75 (sB h0<|sB h0<|sB h0<|sB h0<|sK [] sN) rfl (by kernel_rfl) (by kernel_rfl) rfl ?_ ?_
  · simp only [Z1H,h0,cond_false]
  · rfl
def ZT (Y0:Gm) (Y5:Int):Nat→Int→(Unit) ⊕ (Unit)
  | 0,_ => .inl default
  | k + 1,Ys=>(cond (decide (Ys < ((Y0.Tr.getD Y5.toNat default).length:Int)))
    (cond (Z1H ((Y0.Tr.getD Y5.toNat default).getD Ys.toNat default) 0 (IntKind.wrap .i64 ((Y0.Pq.length:Int) - 1)))
      (ZT Y0 Y5 k (Ys + 1))
      (.inl ()))
    (.inr ()))
def Z2j (Y0:Gm) (Y5:Int):(Unit) ⊕ (Unit)→Ex × St
  | .inl r=>(.ret,⟨.any :: .any :: .b false :: an 66 [],[]⟩)
  | .inr r=>((.exit 2),⟨.agg [.sl (Y0.Pq.map Gv.c), .sl (Y0.Tr.map (cL (cI .i64)))] :: .ptr 0 0 0 :: .any :: .i .i64 (Y0.Pq.length:Int) :: .any :: .sl ((Y0.Tr.getD Y5.toNat default).map (cI .i64)) :: .any :: .any :: .ptr 0 0 0 :: .sl (Y0.Pq.map Gv.c) :: .i .i64 (Y0.Pq.length:Int) :: .i .i64 (Y0.Pq.length:Int) :: .b (decide ((Y0.Pq.length:Int) > 64)) :: .b (decide ((Y0.Pq.length:Int) > 64)) :: .ptr 0 0 1 :: .sl (Y0.Tr.map (cL (cI .i64))) :: .i .i64 (Y0.Tr.length:Int) :: .b (decide ((Y0.Tr.length:Int) > 128)) :: .b (decide ((Y0.Tr.length:Int) > 128)) :: .ptr 0 0 1 :: .sl (Y0.Tr.map (cL (cI .i64))) :: .i .i64 (Y0.Tr.length:Int) :: .i .i64 Y5 :: .b (decide (Y5 < (Y0.Tr.length:Int))) :: .ref [.sl ((Y0.Tr.getD Y5.toNat default).map (cI .i64))] 0 :: .sl ((Y0.Tr.getD Y5.toNat default).map (cI .i64)) :: .sl ((Y0.Tr.getD Y5.toNat default).map (cI .i64)) :: .i .i64 ((Y0.Tr.getD Y5.toNat default).length:Int) :: .b (((Y0.Tr.getD Y5.toNat default).length:Int) != 3) :: .b (((Y0.Tr.getD Y5.toNat default).length:Int) != 3) :: .sl ((Y0.Tr.getD Y5.toNat default).map (cI .i64)) :: .ref [.i .i64 ((Y0.Tr.getD Y5.toNat default).getD 0 default)] 0 :: .i .i64 ((Y0.Tr.getD Y5.toNat default).getD 0 default) :: .sl ((Y0.Tr.getD Y5.toNat default).map (cI .i64)) :: .ref [.i .i64 ((Y0.Tr.getD Y5.toNat default).getD 1 default)] 0 :: .i .i64 ((Y0.Tr.getD Y5.toNat default).getD 1 default) :: .b (((Y0.Tr.getD Y5.toNat default).getD 0 default) == ((Y0.Tr.getD Y5.toNat default).getD 1 default)) :: .b (((Y0.Tr.getD Y5.toNat default).getD 0 default) == ((Y0.Tr.getD Y5.toNat default).getD 1 default)) :: .b (((Y0.Tr.getD Y5.toNat default).getD 0 default) == ((Y0.Tr.getD Y5.toNat default).getD 1 default)) :: .sl ((Y0.Tr.getD Y5.toNat default).map (cI .i64)) :: .ref [.i .i64 ((Y0.Tr.getD Y5.toNat default).getD 1 default)] 0 :: .i .i64 ((Y0.Tr.getD Y5.toNat default).getD 1 default) :: .sl ((Y0.Tr.getD Y5.toNat default).map (cI .i64)) :: .ref [.i .i64 ((Y0.Tr.getD Y5.toNat default).getD 2 default)] 0 :: .i .i64 ((Y0.Tr.getD Y5.toNat default).getD 2 default) :: .b (((Y0.Tr.getD Y5.toNat default).getD 1 default) == ((Y0.Tr.getD Y5.toNat default).getD 2 default)) :: .b (((Y0.Tr.getD Y5.toNat default).getD 1 default) == ((Y0.Tr.getD Y5.toNat default).getD 2 default)) :: .b (((Y0.Tr.getD Y5.toNat default).getD 1 default) == ((Y0.Tr.getD Y5.toNat default).getD 2 default)) :: .sl ((Y0.Tr.getD Y5.toNat default).map (cI .i64)) :: .ref [.i .i64 ((Y0.Tr.getD Y5.toNat default).getD 0 default)] 0 :: .i .i64 ((Y0.Tr.getD Y5.toNat default).getD 0 default) :: .sl ((Y0.Tr.getD Y5.toNat default).map (cI .i64)) :: .ref [.i .i64 ((Y0.Tr.getD Y5.toNat default).getD 2 default)] 0 :: .i .i64 ((Y0.Tr.getD Y5.toNat default).getD 2 default) :: .b (((Y0.Tr.getD Y5.toNat default).getD 0 default) == ((Y0.Tr.getD Y5.toNat default).getD 2 default)) :: .b (((Y0.Tr.getD Y5.toNat default).getD 0 default) == ((Y0.Tr.getD Y5.toNat default).getD 2 default)) :: .sl ((Y0.Tr.getD Y5.toNat default).map (cI .i64)) :: .i .i64 ((Y0.Tr.getD Y5.toNat default).length:Int) :: an 11 [],[.box 35 [.sl (Y0.Pq.map Gv.c), .sl (Y0.Tr.map (cL (cI .i64)))]]⟩)
def Z61 (Y0:Gm) (Y5:Int) (Ys:Int):St:=⟨.agg [.sl (Y0.Pq.map Gv.c), .sl (Y0.Tr.map (cL (cI .i64)))] :: .ptr 0 0 0 :: .any :: .i .i64 (Y0.Pq.length:Int) :: .any :: .sl ((Y0.Tr.getD Y5.toNat default).map (cI .i64)) :: .any :: .any :: .ptr 0 0 0 :: .sl (Y0.Pq.map Gv.c) :: .i .i64 (Y0.Pq.length:Int) :: .i .i64 (Y0.Pq.length:Int) :: .b (decide ((Y0.Pq.length:Int) > 64)) :: .b (decide ((Y0.Pq.length:Int) > 64)) :: .ptr 0 0 1 :: .sl (Y0.Tr.map (cL (cI .i64))) :: .i .i64 (Y0.Tr.length:Int) :: .b (decide ((Y0.Tr.length:Int) > 128)) :: .b (decide ((Y0.Tr.length:Int) > 128)) :: .ptr 0 0 1 :: .sl (Y0.Tr.map (cL (cI .i64))) :: .i .i64 (Y0.Tr.length:Int) :: .i .i64 Y5 :: .b (decide (Y5 < (Y0.Tr.length:Int))) :: .ref [.sl ((Y0.Tr.getD Y5.toNat default).map (cI .i64))] 0 :: .sl ((Y0.Tr.getD Y5.toNat default).map (cI .i64)) :: .sl ((Y0.Tr.getD Y5.toNat default).map (cI .i64)) :: .i .i64 ((Y0.Tr.getD Y5.toNat default).length:Int) :: .b (((Y0.Tr.getD Y5.toNat default).length:Int) != 3) :: .b (((Y0.Tr.getD Y5.toNat default).length:Int) != 3) :: .sl ((Y0.Tr.getD Y5.toNat default).map (cI .i64)) :: .ref [.i .i64 ((Y0.Tr.getD Y5.toNat default).getD 0 default)] 0 :: .i .i64 ((Y0.Tr.getD Y5.toNat default).getD 0 default) :: .sl ((Y0.Tr.getD Y5.toNat default).map (cI .i64)) :: .ref [.i .i64 ((Y0.Tr.getD Y5.toNat default).getD 1 default)] 0 :: .i .i64 ((Y0.Tr.getD Y5.toNat default).getD 1 default) :: .b (((Y0.Tr.getD Y5.toNat default).getD 0 default) == ((Y0.Tr.getD Y5.toNat default).getD 1 default)) :: .b (((Y0.Tr.getD Y5.toNat default).getD 0 default) == ((Y0.Tr.getD Y5.toNat default).getD 1 default)) :: .b (((Y0.Tr.getD Y5.toNat default).getD 0 default) == ((Y0.Tr.getD Y5.toNat default).getD 1 default)) :: .sl ((Y0.Tr.getD Y5.toNat default).map (cI .i64)) :: .ref [.i .i64 ((Y0.Tr.getD Y5.toNat default).getD 1 default)] 0 :: .i .i64 ((Y0.Tr.getD Y5.toNat default).getD 1 default) :: .sl ((Y0.Tr.getD Y5.toNat default).map (cI .i64)) :: .ref [.i .i64 ((Y0.Tr.getD Y5.toNat default).getD 2 default)] 0 :: .i .i64 ((Y0.Tr.getD Y5.toNat default).getD 2 default) :: .b (((Y0.Tr.getD Y5.toNat default).getD 1 default) == ((Y0.Tr.getD Y5.toNat default).getD 2 default)) :: .b (((Y0.Tr.getD Y5.toNat default).getD 1 default) == ((Y0.Tr.getD Y5.toNat default).getD 2 default)) :: .b (((Y0.Tr.getD Y5.toNat default).getD 1 default) == ((Y0.Tr.getD Y5.toNat default).getD 2 default)) :: .sl ((Y0.Tr.getD Y5.toNat default).map (cI .i64)) :: .ref [.i .i64 ((Y0.Tr.getD Y5.toNat default).getD 0 default)] 0 :: .i .i64 ((Y0.Tr.getD Y5.toNat default).getD 0 default) :: .sl ((Y0.Tr.getD Y5.toNat default).map (cI .i64)) :: .ref [.i .i64 ((Y0.Tr.getD Y5.toNat default).getD 2 default)] 0 :: .i .i64 ((Y0.Tr.getD Y5.toNat default).getD 2 default) :: .b (((Y0.Tr.getD Y5.toNat default).getD 0 default) == ((Y0.Tr.getD Y5.toNat default).getD 2 default)) :: .b (((Y0.Tr.getD Y5.toNat default).getD 0 default) == ((Y0.Tr.getD Y5.toNat default).getD 2 default)) :: .sl ((Y0.Tr.getD Y5.toNat default).map (cI .i64)) :: .i .i64 ((Y0.Tr.getD Y5.toNat default).length:Int) :: .i .i64 Ys :: an 10 [],[.box 35 [.sl (Y0.Pq.map Gv.c), .sl (Y0.Tr.map (cL (cI .i64)))]]⟩
def Z2w:List Bool:=(mR false [0,2,1,1,1,1,2,51,10])
def Z5p:List Bool:=(mR false [0,2,1,1,1,1,2,50,11])
theorem Z4k (Y0:Gm) (Y5:Int) (hp0:Y0.Pq.length≤1073741824) (hp1:Y0.Tr.length≤1073741824) (hp2:∀ t∈Y0.Tr,t.length≤1073741824) (Z1U:(decide ((Y0.Pq.length:Int) > 64))=false) (Z1V:(decide ((Y0.Tr.length:Int) > 128))=false) (Z1W:0≤Y5) (Z80:(((Y0.Tr.getD Y5.toNat default).length:Int) != 3)=false) (Z81:(decide ((Y0.Pq.length:Int) > 64))=false) (Z82:(decide ((Y0.Tr.length:Int) > 128))=false) (Z83:(decide (Y5 < (Y0.Tr.length:Int)))=true):∀ (k:Nat) (Ys:Int) (Z45:0≤Ys) (hk:(((Y0.Tr.getD Y5.toNat default).length:Int) - Ys).toNat < k),Lp prog 0 (sub (X0 f68) [1,1,1,0,1,0,0,1,1,0,0,1,1,1,0,0]) (Z61 Y0 Y5 Ys) (Z2j Y0 Y5 (ZT Y0 Y5 k Ys)).1 (Z2j Y0 Y5 (ZT Y0 Y5 k Ys)).2:=by
 intro k
 induction k with
 | zero=>intro Ys Z45 hk;exact absurd hk (Nat.not_lt_zero _)
 | succ k ih =>
  intro Ys Z45 hk
  cases YT:(decide (Ys < ((Y0.Tr.getD Y5.toNat default).length:Int))) with
  | true =>
   have gh__0:=odt YT
   have y__0:(0:Int)≤Ys:=(by assumption)
   have y__1:Ys < ((Y0.Tr.getD Y5.toNat default).length:Int):=(by assumption)
   have p {a C} (s:Scr a C):=sB YT<|sG (cI .i64) (Y0.Tr.getD Y5.toNat default) Ys y__0 y__1<|sW .i64 ((Y0.Pq.length:Int) - 1)<|sF (Z7E ((Y0.Tr.getD Y5.toNat default).getD Ys.toNat default) 0 (IntKind.wrap .i64 ((Y0.Pq.length:Int) - 1)))<|s
   cases YY:(Z1H ((Y0.Tr.getD Y5.toNat default).getD Ys.toNat default) 0 (IntKind.wrap .i64 ((Y0.Pq.length:Int) - 1))) with
   | true =>
    have y__2:(-9223372036854775808:Int)≤(Ys + 1):=by clear p;exact (by omega)
    have y__3:(Ys + 1)≤(9223372036854775807:Int):=by clear p;exact (by simp_all<;>omega)
    have e:ZT Y0 Y5 (k + 1) Ys=(ZT Y0 Y5 k (Ys + 1)):=by simp only [ZT,YT,YY,cond_true]
    rw [e]
    exact Xo E0Ok Z1 [] Z2w [0] (ih (Ys + 1) (show 0≤(Ys + 1) from (by omega)) (by omega)) (p (sB' YY<|sI (Ys + 1) y__2 y__3<|sN)) (by kernel_rfl)
   | false =>
    have e:ZT Y0 Y5 (k + 1) Ys=(.inl ()):=by simp only [ZT,YT,YY,cond_true,cond_false]
    rw [e]
    exact outR (e := .ret) E0Ok Z1 [] (mR false [2,1,66]) [] (p (sB' YY<|sN)) (by kernel_rfl) (by intro h;cases h)
  | false =>
   have gh__0:=odf YT
   have e:ZT Y0 Y5 (k + 1) Ys=(.inr ()):=by simp only [ZT,YT,cond_false]
   rw [e]
   exact outR (e:=(.exit 2)) E0Ok Z1 [] Z5p [0] (sB YT<|sN) (by kernel_rfl) (by intro h;cases h)
def Z1C (Y0:Gm) (Y5:Int):(Unit) ⊕ (Unit):=(ZT Y0 Y5 ((((Y0.Tr.getD Y5.toNat default).length:Int) - 0).toNat + 1) 0)
def Zh (Y0:Gm):Nat→Int→(Unit) ⊕ (Unit)
  | 0,_ => .inl default
  | k + 1,Y5=>(cond (decide (Y5 < (Y0.Tr.length:Int)))
    (cond (((Y0.Tr.getD Y5.toNat default).length:Int) != 3)
      (.inl ())
      (cond (((Y0.Tr.getD Y5.toNat default).getD 0 default) == ((Y0.Tr.getD Y5.toNat default).getD 1 default))
        (.inl ())
        (cond (((Y0.Tr.getD Y5.toNat default).getD 1 default) == ((Y0.Tr.getD Y5.toNat default).getD 2 default))
          (.inl ())
          (cond (((Y0.Tr.getD Y5.toNat default).getD 0 default) == ((Y0.Tr.getD Y5.toNat default).getD 2 default))
            (.inl ())
            (match (Z1C Y0 Y5) with
              | .inl r_6=>(.inl ())
              | .inr r_6=>(Zh Y0 k (Y5 + 1)))))))
    (.inr ()))
def Z2k (Y0:Gm):(Unit) ⊕ (Unit)→Ex × St
  | .inl r=>(.ret,⟨.any :: .any :: .b false :: an 66 [],[]⟩)
  | .inr r=>((.exit 0),⟨.agg [.sl (Y0.Pq.map Gv.c), .sl (Y0.Tr.map (cL (cI .i64)))] :: .ptr 0 0 0 :: .any :: .i .i64 (Y0.Pq.length:Int) :: an 4 (.ptr 0 0 0 :: .sl (Y0.Pq.map Gv.c) :: .i .i64 (Y0.Pq.length:Int) :: .i .i64 (Y0.Pq.length:Int) :: .b (decide ((Y0.Pq.length:Int) > 64)) :: .b (decide ((Y0.Pq.length:Int) > 64)) :: .ptr 0 0 1 :: .sl (Y0.Tr.map (cL (cI .i64))) :: .i .i64 (Y0.Tr.length:Int) :: .b (decide ((Y0.Tr.length:Int) > 128)) :: .b (decide ((Y0.Tr.length:Int) > 128)) :: .ptr 0 0 1 :: .sl (Y0.Tr.map (cL (cI .i64))) :: an 48 []),[.box 35 [.sl (Y0.Pq.map Gv.c), .sl (Y0.Tr.map (cL (cI .i64)))]]⟩)
def Z62 (Y0:Gm) (Y5:Int):St:=⟨.agg [.sl (Y0.Pq.map Gv.c), .sl (Y0.Tr.map (cL (cI .i64)))] :: .ptr 0 0 0 :: .any :: .i .i64 (Y0.Pq.length:Int) :: an 4 (.ptr 0 0 0 :: .sl (Y0.Pq.map Gv.c) :: .i .i64 (Y0.Pq.length:Int) :: .i .i64 (Y0.Pq.length:Int) :: .b (decide ((Y0.Pq.length:Int) > 64)) :: .b (decide ((Y0.Pq.length:Int) > 64)) :: .ptr 0 0 1 :: .sl (Y0.Tr.map (cL (cI .i64))) :: .i .i64 (Y0.Tr.length:Int) :: .b (decide ((Y0.Tr.length:Int) > 128)) :: .b (decide ((Y0.Tr.length:Int) > 128)) :: .ptr 0 0 1 :: .sl (Y0.Tr.map (cL (cI .i64))) :: .i .i64 (Y0.Tr.length:Int) :: .i .i64 Y5 :: an 46 []),[.box 35 [.sl (Y0.Pq.map Gv.c), .sl (Y0.Tr.map (cL (cI .i64)))]]⟩
theorem Z4l (Y0:Gm) (hp0:Y0.Pq.length≤1073741824) (hp1:Y0.Tr.length≤1073741824) (hp2:∀ t∈Y0.Tr,t.length≤1073741824) (Z1U:(decide ((Y0.Pq.length:Int) > 64))=false) (Z1V:(decide ((Y0.Tr.length:Int) > 128))=false):∀ (k:Nat) (Y5:Int) (Z1W:0≤Y5) (hk:((Y0.Tr.length:Int) - Y5).toNat < k),Lp prog 0 (sub (X0 f68) [1,1,1,0,1,0,0]) (Z62 Y0 Y5) (Z2k Y0 (Zh Y0 k Y5)).1 (Z2k Y0 (Zh Y0 k Y5)).2:=by
 intro k
 induction k with
 | zero=>intro Y5 Z1W hk;exact absurd hk (Nat.not_lt_zero _)
 | succ k ih =>
  intro Y5 Z1W hk
  cases Ye:(decide (Y5 < (Y0.Tr.length:Int))) with
  | true =>
   have Yt:=odt Ye
   have Y9:(0:Int)≤Y5:=(by assumption)
   have Yz:Y5 < (Y0.Tr.length:Int):=(by assumption)
   have p {a C} (s:Scr a C):=sB Ye<|sG (cL (cI .i64)) Y0.Tr Y5 Y9 Yz<|sK [28,28]<|sZ (cI .i64) (Y0.Tr.getD Y5.toNat default)<|s
   cases Yw:(((Y0.Tr.getD Y5.toNat default).length:Int) != 3) with
   | true =>
    have YN:=bne_iff_ne.1 Yw
    have e:Zh Y0 (k + 1) Y5=(.inl ()):=by simp only [Zh,Ye,Yw,cond_true]
    rw [e]
    exact outR (e := .ret) E0Ok Z1 [] (mR false [2,1,66]) [] (p (sB Yw<|sB Yw<|sB Yw<|sB Yw<|sB Yw<|sB Yw<|sB Yw<|sB Yw<|sB (show true=true from rfl)<|sB (show true=true from rfl)<|sB (show true=true from rfl)<|sB (show true=true from rfl)<|sB (show true=true from rfl)<|sB (show true=true from rfl)<|sB (show true=true from rfl)<|sB (show true=true from rfl)<|sB (show true=true from rfl)<|sB (show true=true from rfl)<|sB (show true=true from rfl)<|sB (show true=true from rfl)<|sB (show true=true from rfl)<|sB (show true=true from rfl)<|sB (show true=true from rfl)<|sB (show true=true from rfl)<|sB (show true=true from rfl)<|sN)) (by kernel_rfl) (by intro h;cases h)
   | false =>
    have YN:=bne_eq_false_iff_eq.1 Yw
    have YA:(0:Int)≤0:=by clear p;exact (by omega)
    have YD:0 < ((Y0.Tr.getD Y5.toNat default).length:Int):=by clear p;exact (by omega)
    have YG:(0:Int)≤1:=by clear p;exact (by omega)
    have YM:1 < ((Y0.Tr.getD Y5.toNat default).length:Int):=by clear p;exact (by omega)
    have q {a C} (s:Scr a C):=p (sB Yw<|sB Yw<|sG (cI .i64) (Y0.Tr.getD Y5.toNat default) 0 YA YD<|sB Yw<|sB Yw<|sB Yw<|sG (cI .i64) (Y0.Tr.getD Y5.toNat default) 1 YG YM<|sB Yw<|sB Yw<|sB Yw<|s)
    clear p
    cases YJ:(((Y0.Tr.getD Y5.toNat default).getD 0 default) == ((Y0.Tr.getD Y5.toNat default).getD 1 default)) with
    | true =>
     have gh_2:=eq_of_beq YJ
     have e:Zh Y0 (k + 1) Y5=(.inl ()):=by simp only [Zh,Ye,Yw,YJ,cond_true,cond_false]
     rw [e]
     exact outR (e := .ret) E0Ok Z1 [] (mR false [2,1,66]) [] (q (sB YJ<|sB YJ<|sB YJ<|sB YJ<|sB YJ<|sB YJ<|sB YJ<|sB YJ<|sB (show true=true from rfl)<|sB (show true=true from rfl)<|sB (show true=true from rfl)<|sB (show true=true from rfl)<|sB (show true=true from rfl)<|sB (show true=true from rfl)<|sB (show true=true from rfl)<|sB (show true=true from rfl)<|sB (show true=true from rfl)<|sN)) (by kernel_rfl) (by intro h;cases h)
    | false =>
     have gh_2:=ne_of_beq_false YJ
     have YU:(0:Int)≤2:=by clear q;exact (by omega)
     have y_7:2 < ((Y0.Tr.getD Y5.toNat default).length:Int):=by clear q;exact (by omega)
     have p {a C} (s:Scr a C):=q (sB YJ<|sB YJ<|sG (cI .i64) (Y0.Tr.getD Y5.toNat default) 1 YG YM<|sB YJ<|sB YJ<|sB YJ<|sG (cI .i64) (Y0.Tr.getD Y5.toNat default) 2 YU y_7<|sB YJ<|sB YJ<|sB YJ<|s)
     clear q
     cases YK:(((Y0.Tr.getD Y5.toNat default).getD 1 default) == ((Y0.Tr.getD Y5.toNat default).getD 2 default)) with
     | true =>
      have gh_3:=eq_of_beq YK
      have e:Zh Y0 (k + 1) Y5=(.inl ()):=by simp only [Zh,Ye,Yw,YJ,YK,cond_true,cond_false]
      rw [e]
      exact outR (e := .ret) E0Ok Z1 [] (mR false [2,1,66]) [] (p (sB YK<|sB YK<|sB YK<|sB YK<|sB YK<|sB YK<|sB YK<|sB YK<|sB (show true=true from rfl)<|sN)) (by kernel_rfl) (by intro h;cases h)
     | false =>
      have gh_3:=ne_of_beq_false YK
      have q {a C} (s:Scr a C):=p (sB YK<|sB YK<|sG (cI .i64) (Y0.Tr.getD Y5.toNat default) 0 YA YD<|sB YK<|sB YK<|sB YK<|sG (cI .i64) (Y0.Tr.getD Y5.toNat default) 2 YU y_7<|sB YK<|sB YK<|sB YK<|s)
      clear p
      cases h_4:(((Y0.Tr.getD Y5.toNat default).getD 0 default) == ((Y0.Tr.getD Y5.toNat default).getD 2 default)) with
      | true =>
       have gh_4:=eq_of_beq h_4
       have e:Zh Y0 (k + 1) Y5=(.inl ()):=by simp only [Zh,Ye,Yw,YJ,YK,h_4,cond_true,cond_false]
       rw [e]
       exact outR (e := .ret) E0Ok Z1 [] (mR false [2,1,66]) [] (q (sB h_4<|sN)) (by kernel_rfl) (by intro h;cases h)
      | false =>
       have gh_4:=ne_of_beq_false h_4
       have p {a C} (s:Scr a C):=q (sB h_4<|sZ (cI .i64) (Y0.Tr.getD Y5.toNat default)<|s)
       clear q
       cases h_5:(Z1C Y0 Y5) with
       | inl r_6 =>
        have e:Zh Y0 (k + 1) Y5=(.inl ()):=by simp only [Zh,Ye,Yw,YJ,YK,h_4,h_5,cond_true,cond_false]
        rw [e]
        exact outR (e := .ret) E0Ok Z1 [] (mR false [2,1,66]) [] (p (sL Z2w 1 (X4 (Z2j Y0 Y5) (x:=(Z1C Y0 Y5)) (Z4k Y0 Y5 hp0 hp1 hp2 Z1U Z1V Z1W Yw Z1U Z1V Ye ((((Y0.Tr.getD Y5.toNat default).length:Int) - 0).toNat + 1) 0 (show 0≤0 from (by assumption)) (Nat.lt_succ_self _)) h_5)<|sN)) (by kernel_rfl) (by intro h;cases h)
       | inr r_6 =>
        have y_8:(-9223372036854775808:Int)≤(Y5 + 1):=by clear p;exact (by omega)
        have y_9:(Y5 + 1)≤(9223372036854775807:Int):=by clear p;exact (by omega)
        have e:Zh Y0 (k + 1) Y5=(Zh Y0 k (Y5 + 1)):=by simp only [Zh,Ye,Yw,YJ,YK,h_4,h_5,cond_true,cond_false]
        rw [e]
        exact Xo E0Ok Z1 [] (mR false [0,2,1,1,4,15,46]) [0] (ih (Y5 + 1) (show 0≤(Y5 + 1) from (by omega)) (by omega)) (p (sL Z2w 1 (X4 (Z2j Y0 Y5) (x:=(Z1C Y0 Y5)) (Z4k Y0 Y5 hp0 hp1 hp2 Z1U Z1V Z1W Yw Z1U Z1V Ye ((((Y0.Tr.getD Y5.toNat default).length:Int) - 0).toNat + 1) 0 (show 0≤0 from (by assumption)) (Nat.lt_succ_self _)) h_5)<|sI (Y5 + 1) y_8 y_9<|sN)) (by kernel_rfl)
  | false =>
   have Yt:=odf Ye
   have e:Zh Y0 (k + 1) Y5=(.inr ()):=by simp only [Zh,Ye,cond_false]
   rw [e]
   exact outR (e:=(.exit 0)) E0Ok Z1 [] (mR false [0,2,1,1,4,13,48]) [0] (sB Ye<|sN) (by kernel_rfl) (by intro h;cases h)
def Z1X (Y0:Gm):(Unit) ⊕ (Unit):=(Zh Y0 (((Y0.Tr.length:Int) - 0).toNat + 1) 0)
def Zt (Y0:Gm):Bool:=(cond (decide ((Y0.Pq.length:Int) > 64))
  false
  (cond (decide ((Y0.Tr.length:Int) > 128))
    false
    (match (Z1X Y0) with
      | .inl r3=>false
      | .inr r3=>true)))
theorem Z4X (Y0:Gm) (hp0:Y0.Pq.length≤1073741824) (hp1:Y0.Tr.length≤1073741824) (hp2:∀ t∈Y0.Tr,t.length≤1073741824)  : Fn prog 68 [.agg [.sl (Y0.Pq.map Gv.c), .sl (Y0.Tr.map (cL (cI .i64)))]] (.b (Zt Y0)) []:=by
 have p {a C} (s:Scr a C):=sZ Gv.c Y0.Pq<|s
 cases h0:(decide ((Y0.Pq.length:Int) > 64)) with
 | true =>
  have gh0:=odt h0
  refine fnS E0Ok Z1 (c:=X0 f68) [] (.b false) [] func68 (p (sB h0<|sB h0<|sB h0<|sB h0<|sB h0<|sB (show true=true from rfl)<|sK [] sN)) rfl (by kernel_rfl) (by kernel_rfl) rfl ?_ ?_
  · simp only [Zt,h0,cond_true]
  · rfl
 | false =>
  have gh0:=odf h0
  have q {a C} (s:Scr a C):=p (sB h0<|sB h0<|sB h0<|sZ (cL (cI .i64)) Y0.Tr<|sB h0<|sB h0<|s)
  clear p
  cases h1:(decide ((Y0.Tr.length:Int) > 128)) with
  | true =>
   have gh1:=odt h1
   refine fnS E0Ok Z1 (c:=X0 f68) [] (.b false) [] func68 (q (sB h1<|sK [] sN)) rfl (by kernel_rfl) (by kernel_rfl) rfl ?_ ?_
   · simp only [Zt,h0,h1,cond_true,cond_false]
   · rfl
  | false =>
   have gh1:=odf h1
   have p {a C} (s:Scr a C):=q (sB h1<|sZ (cL (cI .i64)) Y0.Tr<|s)
   clear q
   cases h2:(Z1X Y0) with
   | inl r3 =>
    refine fnS E0Ok Z1 (c:=X0 f68) [] (.b false) [] func68 (p (sL (mR false [0,2,1,1,4,15,46]) 1 (X4 (Z2k Y0) (x:=(Z1X Y0)) (Z4l Y0 hp0 hp1 hp2 h0 h1 (((Y0.Tr.length:Int) - 0).toNat + 1) 0 (show 0≤0 from (by omega)) (Nat.lt_succ_self _)) h2)<|sK [] sN)) rfl (by kernel_rfl) (by kernel_rfl) rfl ?_ ?_
    · simp only [Zt,h0,h1,h2,cond_false]
    · rfl
   | inr r3 =>
    refine fnS E0Ok Z1 (c:=X0 f68) [] (.b true) [] func68 (p (sL (mR false [0,2,1,1,4,15,46]) 1 (X4 (Z2k Y0) (x:=(Z1X Y0)) (Z4l Y0 hp0 hp1 hp2 h0 h1 (((Y0.Tr.length:Int) - 0).toNat + 1) 0 (show 0≤0 from (by omega)) (Nat.lt_succ_self _)) h2)<|sK [] sN)) rfl (by kernel_rfl) (by kernel_rfl) rfl ?_ ?_
    · simp only [Zt,h0,h1,h2,cond_false]
    · rfl
theorem triB (t:List Int) (n:Int):(!((t.length:Int) != 3) && (!(t.getD 0 default == t.getD 1 default) && (!(t.getD 1 default == t.getD 2 default) && (!(t.getD 0 default == t.getD 2 default) && t.all fun x=>Z1H x 0 (IntKind.wrap .i64 (n - 1))))))=Zm t n:=by
  unfold Zm
  cases hl:((t.length:Int) != 3) with
  | true=>rfl
  | false =>
    have hl3:t.length=3:=by simp at hl;omega
    match t,hl3 with
    | [a,b,c],_ =>
      simp only [List.getD_cons_zero,List.getD_cons_succ,List.all_cons,List.all_nil,Bool.and_true]
      rw [show Z1H=Z1o from rfl]
      cases (a == b)<;>cases (b == c)<;>cases (a == c)<;>cases Z1o a 0 (IntKind.wrap .i64 (n - 1))<;>cases Z1o b 0 (IntKind.wrap .i64 (n - 1))<;>cases Z1o c 0 (IntKind.wrap .i64 (n - 1))<;>rfl
theorem Z7M (m:Gm) (k:Nat) (i:Int):Zh m (k + 1) i=cond (decide (i < (m.Tr.length:Int))) (cond (Zm (m.Tr.getD i.toNat default) (m.Pq.length:Int)) (Zh m k (i + 1)) (.inl ())) (.inr ()):=by
  rw [Zh,← triB]
  have hin:Z1C m i=cond ((m.Tr.getD i.toNat default).all fun x=>Z1H x 0 (IntKind.wrap .i64 ((m.Pq.length:Int) - 1))) (.inr ()) (.inl ()):=by
    unfold Z1C
    exact X2c (a:=m.Tr.getD i.toNat default) (p:=fun x=>Z1H x 0 (IntKind.wrap .i64 ((m.Pq.length:Int) - 1))) (lo:=ZT m i) (x:=()) (y:=()) (fun k i=>rfl)
  rw [hin]
  generalize m.Tr.getD i.toNat default=t
  generalize (t.all fun x=>Z1H x 0 (IntKind.wrap .i64 ((m.Pq.length:Int) - 1)))=q
  cases ((t.length:Int) != 3)<;>cases (t.getD 0 default == t.getD 1 default)<;>cases (t.getD 1 default == t.getD 2 default)<;>cases (t.getD 0 default == t.getD 2 default)<;>cases q<;>rfl
theorem Z2x (m:Gm):Zt m=Zr m:=by
  rw [Z6J]
  unfold Zt Z1X
  rw [X2c (a:=m.Tr) (p:=fun t=>Zm t (m.Pq.length:Int)) (lo:=Zh m) (x:=()) (y:=()) (Z7M m)]
  cases (m.Tr.all fun t=>Zm t (m.Pq.length:Int))<;>rfl
def ZD (Y1:Gv) (Yc:Gv):Gv:=(⟨(fop .add .f32 Y1.X Yc.X),(fop .add .f32 Y1.Y Yc.Y),(fop .add .f32 Y1.Z Yc.Z)⟩:Gv)
theorem Z4J (Y1:Gv) (Yc:Gv)   : Fn prog 57 [.agg [.f .f32 Y1.X, .f .f32 Y1.Y, .f .f32 Y1.Z], .agg [.f .f32 Yc.X, .f .f32 Yc.Y, .f .f32 Yc.Z]] (.agg [.f .f32 ((ZD Y1 Yc).X), .f .f32 ((ZD Y1 Yc).Y), .f .f32 ((ZD Y1 Yc).Z)]) []:=by
 refine fnS E0Ok Z1 (c:=X0 f57) [] (.agg [.f .f32 (fop .add .f32 Y1.X Yc.X), .f .f32 (fop .add .f32 Y1.Y Yc.Y), .f .f32 (fop .add .f32 Y1.Z Yc.Z)]) [] func57 (sK [] sN) rfl (by kernel_rfl) (by kernel_rfl) rfl ?_ ?_
 · rfl
 · rfl
def Z1p (Y8:(List Gv)):Nat→Int→Nat→Nat→Nat→Nat × Nat × Nat
  | 0,_,_,_,_=>default
  | k + 1,Y5,Yo,Yp,Yq=>(cond (decide (Y5 < (Y8.length:Int)))
    (Z1p Y8 k (Y5 + 1) ((ZD (⟨Yo,Yp,Yq⟩:Gv) (Y8.getD Y5.toNat default)).X) ((ZD (⟨Yo,Yp,Yq⟩:Gv) (Y8.getD Y5.toNat default)).Y) ((ZD (⟨Yo,Yp,Yq⟩:Gv) (Y8.getD Y5.toNat default)).Z))
    (Yo,Yp,Yq))
def Z4d (Y8:(List Gv)) (r:Nat × Nat × Nat):Ex × St:=((.exit 0),⟨.sl (Y8.map Gv.c) :: .any :: .ptr 0 0 0 :: .ptr 1 0 0 :: .any :: .any :: .agg [.f .f32 0, .f .f32 0, .f .f32 0] :: .sl (Y8.map Gv.c) :: an 10 [],[.box 62 [.f .f32 0, .f .f32 0, .f .f32 0], .box 62 [.f .f32 r.1, .f .f32 r.2.1, .f .f32 r.2.2]]⟩)
def Z76 (Y8:(List Gv)) (Y5:Int) (Yo:Nat) (Yp:Nat) (Yq:Nat):St:=⟨.sl (Y8.map Gv.c) :: .any :: .ptr 0 0 0 :: .ptr 1 0 0 :: .any :: .any :: .agg [.f .f32 0, .f .f32 0, .f .f32 0] :: .sl (Y8.map Gv.c) :: .i .i64 (Y8.length:Int) :: .i .i64 Y5 :: an 8 [],[.box 62 [.f .f32 0, .f .f32 0, .f .f32 0], .box 62 [.f .f32 Yo, .f .f32 Yp, .f .f32 Yq]]⟩
theorem Z77 (Y8:(List Gv)) (hp0:Y8.length≤1073741824):∀ (k:Nat) (Y5:Int) (Yo:Nat) (Yp:Nat) (Yq:Nat) (Z4K:0≤Y5) (hk:((Y8.length:Int) - Y5).toNat < k),Lp prog 0 (sub (X0 f99) [1,1,0,1,0,0]) (Z76 Y8 Y5 Yo Yp Yq) (Z4d Y8 (Z1p Y8 k Y5 Yo Yp Yq)).1 (Z4d Y8 (Z1p Y8 k Y5 Yo Yp Yq)).2:=by
 intro k
 induction k with
 | zero=>intro Y5 Yo Yp Yq Z4K hk;exact absurd hk (Nat.not_lt_zero _)
 | succ k ih =>
  intro Y5 Yo Yp Yq Z4K hk
  cases Ye:(decide (Y5 < (Y8.length:Int))) with
  | true =>
   have Yt:=odt Ye
   have Y9:(0:Int)≤Y5:=(by assumption)
   have Yz:Y5 < (Y8.length:Int):=(by assumption)
   have YA:(-9223372036854775808:Int)≤(Y5 + 1):=(by omega)
   have YD:(Y5 + 1)≤(9223372036854775807:Int):=(by omega)
   have e:Z1p Y8 (k + 1) Y5 Yo Yp Yq=(Z1p Y8 k (Y5 + 1) ((ZD (⟨Yo,Yp,Yq⟩:Gv) (Y8.getD Y5.toNat default)).X) ((ZD (⟨Yo,Yp,Yq⟩:Gv) (Y8.getD Y5.toNat default)).Y) ((ZD (⟨Yo,Yp,Yq⟩:Gv) (Y8.getD Y5.toNat default)).Z)):=by simp only [Z1p,Ye,cond_true]
   rw [e]
   exact Xo E0Ok Z1 [] (mR false [0,1,1,2,2,4,8]) [0,1] (ih (Y5 + 1) ((ZD (⟨Yo,Yp,Yq⟩:Gv) (Y8.getD Y5.toNat default)).X) ((ZD (⟨Yo,Yp,Yq⟩:Gv) (Y8.getD Y5.toNat default)).Y) ((ZD (⟨Yo,Yp,Yq⟩:Gv) (Y8.getD Y5.toNat default)).Z) (show 0≤(Y5 + 1) from (by omega)) (by omega)) (sB Ye<|sG Gv.c Y8 Y5 Y9 Yz<|sF (Z4J (⟨Yo,Yp,Yq⟩:Gv) (Y8.getD Y5.toNat default))<|sI (Y5 + 1) YA YD<|sN) (by kernel_rfl)
  | false =>
   have Yt:=odf Ye
   have e:Z1p Y8 (k + 1) Y5 Yo Yp Yq=(Yo,Yp,Yq):=by simp only [Z1p,Ye,cond_false]
   rw [e]
   exact outR (e:=(.exit 0)) E0Ok Z1 [] (mR false [0,1,1,2,2,2,10]) [0,1] (sB Ye<|sN) (by kernel_rfl) (by intro h;cases h)
def Z1B (Y8:(List Gv)):Nat × Nat × Nat:=(Z1p Y8 (((Y8.length:Int) - 0).toNat + 1) 0 0 0 0)
def Z1O (Y8:(List Gv)):Gv:=(⟨(Z1B Y8).1,(Z1B Y8).2.1,(Z1B Y8).2.2⟩:Gv)
theorem Z7N (Y8:(List Gv)) (hp0:Y8.length≤1073741824)  : Fn prog 99 [.sl (Y8.map Gv.c)] (.agg [.f .f32 ((Z1O Y8).X), .f .f32 ((Z1O Y8).Y), .f .f32 ((Z1O Y8).Z)]) []:=by
 refine fnS E0Ok Z1 (c:=X0 f99) [] (.agg [.f .f32 ((Z1B Y8).1), .f .f32 ((Z1B Y8).2.1), .f .f32 ((Z1B Y8).2.2)]) [] func99 (sZ Gv.c Y8<|sL (mR false [0,1,1,2,2,4,8]) 2 (X4 (Z4d Y8) (x:=(Z1B Y8)) (Z77 Y8 hp0 (((Y8.length:Int) - 0).toNat + 1) 0 0 0 0 (show 0≤0 from (by omega)) (Nat.lt_succ_self _)) rfl)<|sK [] sN) rfl (by kernel_rfl) (by kernel_rfl) rfl ?_ ?_
 · rfl
 · rfl
def Z10 (YE:Gv) (YC:Nat):Gv:=(⟨(fop .mul .f32 YE.X YC),(fop .mul .f32 YE.Y YC),(fop .mul .f32 YE.Z YC)⟩:Gv)
theorem Z4y (YE:Gv) (YC:Nat)   : Fn prog 58 [.agg [.f .f32 YE.X, .f .f32 YE.Y, .f .f32 YE.Z], .f .f32 YC] (.agg [.f .f32 ((Z10 YE YC).X), .f .f32 ((Z10 YE YC).Y), .f .f32 ((Z10 YE YC).Z)]) []:=by
 refine fnS E0Ok Z1 (c:=X0 f58) [] (.agg [.f .f32 (fop .mul .f32 YE.X YC), .f .f32 (fop .mul .f32 YE.Y YC), .f .f32 (fop .mul .f32 YE.Z YC)]) [] func58 (sK [] sN) rfl (by kernel_rfl) (by kernel_rfl) rfl ?_ ?_
 · rfl
 · rfl
def Zu (Y0:Gm):Gv × Bool:=(cond (Zt Y0)
  (cond ((Y0.Pq.length:Int) == 0)
    ((⟨0,0,0⟩:Gv),false)
    ((Z10 (Z1O Y0.Pq) (fop .quo .f32 1065353216 (X1 .f32 (Y0.Pq.length:Int)))),true))
  ((⟨0,0,0⟩:Gv),false))
theorem Z78 (Y0:Gm) (hp0:Y0.Pq.length≤1073741824) (hp1:Y0.Tr.length≤1073741824) (hp2:∀ t∈Y0.Tr,t.length≤1073741824)  : Fn prog 52 [.agg [.sl (Y0.Pq.map Gv.c), .sl (Y0.Tr.map (cL (cI .i64)))]] (.tup [.agg [.f .f32 ((Zu Y0).1.X), .f .f32 ((Zu Y0).1.Y), .f .f32 ((Zu Y0).1.Z)], .b ((Zu Y0).2)]) []:=by
 have p {a C} (s:Scr a C):=sF (Z4X Y0 hp0 hp1 hp2)<|s
 cases h0:(Zt Y0) with
 | true =>
  have q {a C} (s:Scr a C):=p (sB' h0<|sB' h0<|sB' h0<|sZ Gv.c Y0.Pq<|sB' h0<|sB' h0<|s)
  clear p
  cases h1:((Y0.Pq.length:Int) == 0) with
  | true =>
   have gh1:=eq_of_beq h1
   refine fnS E0Ok Z1 (c:=X0 f52) [] (.tup [.agg [.f .f32 0, .f .f32 0, .f .f32 0], .b false]) [] func52 (q (sB h1<|sK [] sN)) rfl (by kernel_rfl) (by kernel_rfl) rfl ?_ ?_
   · simp only [Zu,h0,h1,cond_true]
   · rfl
  | false =>
   have gh1:=ne_of_beq_false h1
   refine fnS E0Ok Z1 (c:=X0 f52) [] (.tup [.agg [.f .f32 ((Z10 (Z1O Y0.Pq) (fop .quo .f32 1065353216 (X1 .f32 (Y0.Pq.length:Int)))).X), .f .f32 ((Z10 (Z1O Y0.Pq) (fop .quo .f32 1065353216 (X1 .f32 (Y0.Pq.length:Int)))).Y), .f .f32 ((Z10 (Z1O Y0.Pq) (fop .quo .f32 1065353216 (X1 .f32 (Y0.Pq.length:Int)))).Z)], .b true]) [] func52 (q (sB h1<|sK [8,8]<|sF (Z7N Y0.Pq hp0)<|sZ Gv.c Y0.Pq<|sF (Z4y (Z1O Y0.Pq) (fop .quo .f32 1065353216 (X1 .f32 (Y0.Pq.length:Int))))<|sK [] sN)) rfl (by kernel_rfl) (by kernel_rfl) rfl ?_ ?_
   · simp only [Zu,h0,h1,cond_true,cond_false]
   · rfl
 | false =>
  refine fnS E0Ok Z1 (c:=X0 f52) [] (.tup [.agg [.f .f32 0, .f .f32 0, .f .f32 0], .b false]) [] func52 (p (sB' h0<|sB' h0<|sB' h0<|sB' h0<|sB' h0<|sB (show true=true from rfl)<|sK [] sN)) rfl (by kernel_rfl) (by kernel_rfl) rfl ?_ ?_
  · simp only [Zu,h0,cond_false]
  · rfl
def Z12 (Yb:Nat):Bool:=(fcmp .eql .f32 (fop .sub .f32 Yb Yb) 0)
theorem Z4e (Yb:Nat)   : Fn prog 35 [.f .f32 Yb] (.b (Z12 Yb)) []:=by
 refine fnS E0Ok Z1 (c:=X0 f35) [] (.b (fcmp .eql .f32 (fop .sub .f32 Yb Yb) 0)) [] func35 (sK [] sN) rfl (by kernel_rfl) (by kernel_rfl) rfl ?_ ?_
 · rfl
 · rfl
def Z1l (Yb:Nat):Bool:=(cond (Z12 Yb)
  (fcmp .gtr .f32 Yb 0)
  false)
theorem Z5R (Yb:Nat)   : Fn prog 36 [.f .f32 Yb] (.b (Z1l Yb)) []:=by
 have p {a C} (s:Scr a C):=sF (Z4e Yb)<|s
 cases h0:(Z12 Yb) with
 | true =>
  refine fnS E0Ok Z1 (c:=X0 f36) [] (.b (fcmp .gtr .f32 Yb 0)) [] func36 (p (sB h0<|sB h0<|sB h0<|sK [] sN)) rfl (by kernel_rfl) (by kernel_rfl) rfl ?_ ?_
  · simp only [Z1l,h0,cond_true]
  · rfl
 | false =>
  refine fnS E0Ok Z1 (c:=X0 f36) [] (.b false) [] func36 (p (sB h0<|sB h0<|sB h0<|sK [] sN)) rfl (by kernel_rfl) (by kernel_rfl) rfl ?_ ?_
  · simp only [Z1l,h0,cond_false]
  · rfl
def Z3i (Y1:Gv) (Yc:Gv):Gv:=(⟨(fop .sub .f32 (fop .mul .f32 Y1.Y Yc.Z) (fop .mul .f32 Y1.Z Yc.Y)),(fop .sub .f32 (fop .mul .f32 Y1.Z Yc.X) (fop .mul .f32 Y1.X Yc.Z)),(fop .sub .f32 (fop .mul .f32 Y1.X Yc.Y) (fop .mul .f32 Y1.Y Yc.X))⟩:Gv)
theorem Z7j (Y1:Gv) (Yc:Gv)   : Fn prog 101 [.agg [.f .f32 Y1.X, .f .f32 Y1.Y, .f .f32 Y1.Z], .agg [.f .f32 Yc.X, .f .f32 Yc.Y, .f .f32 Yc.Z]] (.agg [.f .f32 ((Z3i Y1 Yc).X), .f .f32 ((Z3i Y1 Yc).Y), .f .f32 ((Z3i Y1 Yc).Z)]) []:=by
 refine fnS E0Ok Z1 (c:=X0 f101) [] (.agg [.f .f32 (fop .sub .f32 (fop .mul .f32 Y1.Y Yc.Z) (fop .mul .f32 Y1.Z Yc.Y)), .f .f32 (fop .sub .f32 (fop .mul .f32 Y1.Z Yc.X) (fop .mul .f32 Y1.X Yc.Z)), .f .f32 (fop .sub .f32 (fop .mul .f32 Y1.X Yc.Y) (fop .mul .f32 Y1.Y Yc.X))]) [] func101 (sK [] sN) rfl (by kernel_rfl) (by kernel_rfl) rfl ?_ ?_
 · rfl
 · rfl
def Z5q (Y1:Gv) (Yc:Gv):Nat:=(fop .add .f32 (fop .add .f32 (fop .mul .f32 Y1.X Yc.X) (fop .mul .f32 Y1.Y Yc.Y)) (fop .mul .f32 Y1.Z Yc.Z))
theorem Z7k (Y1:Gv) (Yc:Gv)   : Fn prog 100 [.agg [.f .f32 Y1.X, .f .f32 Y1.Y, .f .f32 Y1.Z], .agg [.f .f32 Yc.X, .f .f32 Yc.Y, .f .f32 Yc.Z]] (.f .f32 (Z5q Y1 Yc)) []:=by
 refine fnS E0Ok Z1 (c:=X0 f100) [] (.f .f32 (fop .add .f32 (fop .add .f32 (fop .mul .f32 Y1.X Yc.X) (fop .mul .f32 Y1.Y Yc.Y)) (fop .mul .f32 Y1.Z Yc.Z))) [] func100 (sK [] sN) rfl (by kernel_rfl) (by kernel_rfl) rfl ?_ ?_
 · rfl
 · rfl
def Z4z (Y0:Gm) (Yl:Int):Gv:=(Z3i (Y0.Pq.getD ((Y0.Tr.getD Yl.toNat default).getD 1 default).toNat default) (Y0.Pq.getD ((Y0.Tr.getD Yl.toNat default).getD 2 default).toNat default))
def Z3c (Y0:Gm) (Yl:Int):Nat:=(fop .quo .f32 (Z5q (Y0.Pq.getD ((Y0.Tr.getD Yl.toNat default).getD 0 default).toNat default) (Z4z Y0 Yl)) 1086324736)
def Z17 (Y0:Gm):Nat→Nat→Int→Nat
  | 0,_,_=>default
  | k + 1,Yr,Yl=>(cond (decide (Yl < (Y0.Tr.length:Int)))
    (Z17 Y0 k (fop .add .f32 Yr (Z3c Y0 Yl)) (Yl + 1))
    Yr)
def Z3d (Y0:Gm) (r:Nat):Ex × St:=((.exit 0),⟨.agg [.sl (Y0.Pq.map Gv.c), .sl (Y0.Tr.map (cL (cI .i64)))] :: .ptr 0 0 0 :: .f .f32 0 :: .f .f32 r :: .any :: .any :: .ptr 0 0 1 :: .sl (Y0.Tr.map (cL (cI .i64))) :: an 33 [],[.box 35 [.sl (Y0.Pq.map Gv.c), .sl (Y0.Tr.map (cL (cI .i64)))]]⟩)
def Z6a (Y0:Gm) (Yr:Nat) (Yl:Int):St:=⟨.agg [.sl (Y0.Pq.map Gv.c), .sl (Y0.Tr.map (cL (cI .i64)))] :: .ptr 0 0 0 :: .f .f32 0 :: .f .f32 Yr :: .any :: .any :: .ptr 0 0 1 :: .sl (Y0.Tr.map (cL (cI .i64))) :: .i .i64 (Y0.Tr.length:Int) :: .i .i64 Yl :: an 31 [],[.box 35 [.sl (Y0.Pq.map Gv.c), .sl (Y0.Tr.map (cL (cI .i64)))]]⟩
theorem Z6b (Y0:Gm) (hp0:Y0.Pq.length≤1073741824) (hp1:Y0.Tr.length≤1073741824) (hp2:∀ t∈Y0.Tr,t.length≤1073741824) (hp3:X7 Y0.Pq.length Y0.Tr):∀ (k:Nat) (Yr:Nat) (Yl:Int) (ZX:0≤Yl) (hk:((Y0.Tr.length:Int) - Yl).toNat < k),Lp prog 0 (sub (X0 f53) [1,1,0,1,0,0]) (Z6a Y0 Yr Yl) (Z3d Y0 (Z17 Y0 k Yr Yl)).1 (Z3d Y0 (Z17 Y0 k Yr Yl)).2:=by
 intro k
 induction k with
 | zero=>intro Yr Yl ZX hk;exact absurd hk (Nat.not_lt_zero _)
 | succ k ih =>
  intro Yr Yl ZX hk
  cases Ye:(decide (Yl < (Y0.Tr.length:Int))) with
  | true =>
   have Yt:=odt Ye
   have Y9:(0:Int)≤Yl:=(by assumption)
   have Yz:Yl < (Y0.Tr.length:Int):=(by assumption)
   have YA:(0:Int)≤0:=(by omega)
   have YD:0 < ((Y0.Tr.getD Yl.toNat default).length:Int):=(by have q:=X7.at hp3 ZX (odt Ye);omega)
   have YG:(0:Int)≤((Y0.Tr.getD Yl.toNat default).getD 0 default):=(by have q:=X7.at hp3 ZX (odt Ye);omega)
   have YM:((Y0.Tr.getD Yl.toNat default).getD 0 default) < (Y0.Pq.length:Int):=(by have q:=X7.at hp3 ZX (odt Ye);omega)
   have YU:(0:Int)≤1:=(by omega)
   have y_7:1 < ((Y0.Tr.getD Yl.toNat default).length:Int):=(by have q:=X7.at hp3 ZX (odt Ye);omega)
   have y_8:(0:Int)≤((Y0.Tr.getD Yl.toNat default).getD 1 default):=(by have q:=X7.at hp3 ZX (odt Ye);omega)
   have y_9:((Y0.Tr.getD Yl.toNat default).getD 1 default) < (Y0.Pq.length:Int):=(by have q:=X7.at hp3 ZX (odt Ye);omega)
   have YZ:(0:Int)≤2:=(by omega)
   have Y10:2 < ((Y0.Tr.getD Yl.toNat default).length:Int):=(by have q:=X7.at hp3 ZX (odt Ye);omega)
   have Y11:(0:Int)≤((Y0.Tr.getD Yl.toNat default).getD 2 default):=(by have q:=X7.at hp3 ZX (odt Ye);omega)
   have Y12:((Y0.Tr.getD Yl.toNat default).getD 2 default) < (Y0.Pq.length:Int):=(by have q:=X7.at hp3 ZX (odt Ye);omega)
   have Y13:(-9223372036854775808:Int)≤(Yl + 1):=(by omega)
   have Y14:(Yl + 1)≤(9223372036854775807:Int):=(by omega)
   have e:Z17 Y0 (k + 1) Yr Yl=(Z17 Y0 k (fop .add .f32 Yr (Z3c Y0 Yl)) (Yl + 1)):=by simp only [Z17,Ye,cond_true]
   rw [e]
   exact Xo E0Ok Z1 [] (mR false [0,4,2,4,31]) [0] (ih (fop .add .f32 Yr (Z3c Y0 Yl)) (Yl + 1) (show 0≤(Yl + 1) from (by omega)) (by omega)) (sB Ye<|sG (cL (cI .i64)) Y0.Tr Yl Y9 Yz<|sK [25,25]<|sG (cI .i64) (Y0.Tr.getD Yl.toNat default) 0 YA YD<|sG Gv.c Y0.Pq ((Y0.Tr.getD Yl.toNat default).getD 0 default) YG YM<|sG (cI .i64) (Y0.Tr.getD Yl.toNat default) 1 YU y_7<|sG Gv.c Y0.Pq ((Y0.Tr.getD Yl.toNat default).getD 1 default) y_8 y_9<|sG (cI .i64) (Y0.Tr.getD Yl.toNat default) 2 YZ Y10<|sG Gv.c Y0.Pq ((Y0.Tr.getD Yl.toNat default).getD 2 default) Y11 Y12<|sF (Z7j (Y0.Pq.getD ((Y0.Tr.getD Yl.toNat default).getD 1 default).toNat default) (Y0.Pq.getD ((Y0.Tr.getD Yl.toNat default).getD 2 default).toNat default))<|sF (Z7k (Y0.Pq.getD ((Y0.Tr.getD Yl.toNat default).getD 0 default).toNat default) (Z4z Y0 Yl))<|sI (Yl + 1) Y13 Y14<|sN) (by kernel_rfl)
  | false =>
   have Yt:=odf Ye
   have e:Z17 Y0 (k + 1) Yr Yl=Yr:=by simp only [Z17,Ye,cond_false]
   rw [e]
   exact outR (e:=(.exit 0)) E0Ok Z1 [] (mR false [0,4,2,2,33]) [0] (sB Ye<|sN) (by kernel_rfl) (by intro h;cases h)
def Z2b (Y0:Gm):Nat:=(Z17 Y0 (((Y0.Tr.length:Int) - 0).toNat + 1) 0 0)
def Zy (Y0:Gm):Nat:=(Z2b Y0)
theorem Z58 (Y0:Gm) (hp0:Y0.Pq.length≤1073741824) (hp1:Y0.Tr.length≤1073741824) (hp2:∀ t∈Y0.Tr,t.length≤1073741824) (hp3:X7 Y0.Pq.length Y0.Tr)  : Fn prog 53 [.agg [.sl (Y0.Pq.map Gv.c), .sl (Y0.Tr.map (cL (cI .i64)))]] (.f .f32 (Zy Y0)) []:=by
 refine fnS E0Ok Z1 (c:=X0 f53) [] (.f .f32 (Z2b Y0)) [] func53 (sZ (cL (cI .i64)) Y0.Tr<|sL (mR false [0,4,2,4,31]) 1 (X4 (Z3d Y0) (x:=(Z2b Y0)) (Z6b Y0 hp0 hp1 hp2 hp3 (((Y0.Tr.length:Int) - 0).toNat + 1) 0 0 (show 0≤0 from (by omega)) (Nat.lt_succ_self _)) rfl)<|sK [] sN) rfl (by kernel_rfl) (by kernel_rfl) rfl ?_ ?_
 · rfl
 · rfl
def Z5r:List Nat:=[4627730092099895296,4627167142146473984,4626604192193052672,4626041242239631360,4625478292286210048,4624633867356078080,4623507967449235456,4622382067542392832,4621256167635550208,4619567317775286272,4617315517961601024,4613937818241073152,4607182418800017408,13830554455654793216]
def kIx (w:Nat):Nat:=if w=4627730092099895296 then 13 else if w=4627167142146473984 then 12 else if w=4626604192193052672 then 11 else if w=4626041242239631360 then 10 else if w=4625478292286210048 then 9 else if w=4624633867356078080 then 8 else if w=4623507967449235456 then 7 else if w=4622382067542392832 then 6 else if w=4621256167635550208 then 5 else if w=4619567317775286272 then 4 else if w=4617315517961601024 then 3 else if w=4613937818241073152 then 2 else if w=4607182418800017408 then 1 else if w=13830554455654793216 then 0 else 0
theorem Z6x (w:Nat) (h:w∈Z5r) (g:fcmp .geq .f64 w 4607182418800017408=true):fop .sub .f64 w 4611686018427387904∈Z5r∧kIx (fop .sub .f64 w 4611686018427387904) < kIx w:=by
  simp only [Z5r,List.mem_cons,List.not_mem_nil,or_false] at h
  rcases h with rfl | rfl | rfl | rfl | rfl | rfl | rfl | rfl | rfl | rfl | rfl | rfl | rfl | rfl
  all_goals first | exact ⟨by decide +kernel,by decide +kernel⟩ | exact absurd g (by decide +kernel)
def Zx (Yb:Nat):Nat→Nat→Nat→Nat × Nat
  | 0,_,_=>default
  | k + 1,Y5,Ym=>(cond (fcmp .geq .f64 Y5 4609434218613702656)
    (Zx Yb k (fop .quo .f64 Y5 4611686018427387904) (fop .add .f64 Ym 4607182418800017408))
    (Y5,Ym))
def Z2M (Yb:Nat) (r:Nat × Nat):Ex × St:=((.exit 0),⟨.f .f64 r.1 :: .any :: .f .f64 0 :: .f .f64 r.2 :: an 41 [],[]⟩)
def Z5I (Yb:Nat) (Y5:Nat) (Ym:Nat):St:=⟨.f .f64 Y5 :: .any :: .f .f64 0 :: .f .f64 Ym :: an 41 [],[]⟩
theorem Z5J (Yb:Nat) (hp0:Nw Yb) (hp1:800≤fld Yb) (hp2:fld Yb≤1200):∀ (k:Nat) (Y5:Nat) (Ym:Nat) (Z3K:Nw Y5) (Z3L:800≤fld Y5) (Z3M:fld Y5≤1200) (hk:fld Y5 < k),Lp prog 0 (sub (X0 f89) [1,1,0,0,0]) (Z5I Yb Y5 Ym) (Z2M Yb (Zx Yb k Y5 Ym)).1 (Z2M Yb (Zx Yb k Y5 Ym)).2:=by
 intro k
 induction k with
 | zero=>intro Y5 Ym Z3K Z3L Z3M hk;exact absurd hk (Nat.not_lt_zero _)
 | succ k ih =>
  intro Y5 Ym Z3K Z3L Z3M hk
  cases Ye:(fcmp .geq .f64 Y5 4609434218613702656) with
  | true =>
   have e:Zx Yb (k + 1) Y5 Ym=(Zx Yb k (fop .quo .f64 Y5 4611686018427387904) (fop .add .f64 Ym 4607182418800017408)):=by simp only [Zx,Ye,cond_true]
   rw [e]
   exact Xo E0Ok Z1 [] (mR false [0,1,1,2,41]) [] (ih (fop .quo .f64 Y5 4611686018427387904) (fop .add .f64 Ym 4607182418800017408) (show Nw (fop .quo .f64 Y5 4611686018427387904) from (by have g:=XW (by assumption) Ye;have w:=XY (by assumption) g;rw [XV (by assumption) (by omega)];exact w.1)) (show 800≤fld (fop .quo .f64 Y5 4611686018427387904) from (by have g:=XW (by assumption) Ye;have w:=XY (by assumption) g;rw [XV (by assumption) (by omega)];(rw [w.2];omega))) (show fld (fop .quo .f64 Y5 4611686018427387904)≤1200 from (by have g:=XW (by assumption) Ye;have w:=XY (by assumption) g;rw [XV (by assumption) (by omega)];(rw [w.2];omega))) (by have g:=XW (by assumption) Ye;have w:=XY (by assumption) g;rw [XV (by assumption) (by omega)];(rw [w.2];omega))) (sB Ye<|sN) (by kernel_rfl)
  | false =>
   have e:Zx Yb (k + 1) Y5 Ym=(Y5,Ym):=by simp only [Zx,Ye,cond_false]
   rw [e]
   exact outR (e:=(.exit 0)) E0Ok Z1 [] (mR false [0,1,1,2,41]) [] (sB Ye<|sN) (by kernel_rfl) (by intro h;cases h)
end Go.Ab
