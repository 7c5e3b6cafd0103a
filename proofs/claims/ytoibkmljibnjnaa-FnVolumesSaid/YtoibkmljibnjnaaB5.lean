/- The functions of this seat as plain Lean, and that the program's are these. Printed by a program of the prover's own. -/
import Derived.Test.YtoibkmljibnjnaaB4
set_option linter.unusedVariables false
set_option linter.unusedSimpArgs false
set_option maxRecDepth 100000
namespace Go.Ab
open Go.RowKit Go.Proofs.Try
def ZM (Y7:Gm) (change_1_c0:Gv) (change_1_c1:Nat):(List Gv):=(Zk Y7 change_1_c0 change_1_c1 (((Y7.Pq.length:Int) - 0).toNat + 1) 0 Y7.Pq)
@[simp] theorem Z4m (Y7:Gm) (change_1_c0:Gv) (change_1_c1:Nat):(ZM Y7 change_1_c0 change_1_c1).length=(Y7.Pq:(List Gv)).length:=Z2w Y7 change_1_c0 change_1_c1 (((Y7.Pq.length:Int) - 0).toNat + 1) 0 Y7.Pq (by exact Nat.lt_succ_self _)
def Zs (Y7:Gm) (change_1_c0:Gv) (change_1_c1:Nat):Gm × Bool:=(cond (Zm Y7)
  ((⟨(ZM Y7 change_1_c0 change_1_c1),Y7.Tr⟩:Gm),true)
  ((⟨([]:List Gv),([]:List (List Int))⟩:Gm),false))
theorem Z2L (Y7:Gm) (change_1_c0:Gv) (change_1_c1:Nat) (hp0:Y7.Pq.length≤1073741824) (hp1:Y7.Tr.length≤1073741824) (hp2:∀ t∈Y7.Tr,t.length≤1073741824)  : Fn prog 75 [.agg [.sl (Y7.Pq.map Gv.c), .sl (Y7.Tr.map (cL (cI .i64)))], .fn 76 [.ref [.f .f32 change_1_c0.X, .f .f32 change_1_c0.Y, .f .f32 change_1_c0.Z] 0, .ref [.f .f32 change_1_c1] 0]] (.tup [.agg [.own 0, .own 1], .b ((Zs Y7 change_1_c0 change_1_c1).2)]) [.vec 32 3 (((Zs Y7 change_1_c0 change_1_c1).1.Pq).map Gv.c) false, .nest 60 (((Zs Y7 change_1_c0 change_1_c1).1.Tr).map fun l=>l.map (cI .i64)) false]:=by
 have p {a C} (s:Scr a C):=sF (Z3t Y7 hp0 hp1 hp2)<|s
 cases h0:(Zm Y7) with
 | true =>
  have y0:Xs Y7.Pq.length Y7.Tr:=by clear p;exact (by exact (Z5H _ (by assumption)).tris)
  refine fnS E0Ok Zc (c:=X5 f75) [] (.tup [.agg [.own 0, .own 1], .b true]) [.vec 32 3 ((ZM Y7 change_1_c0 change_1_c1).map Gv.c) false, .nest 60 (Y7.Tr.map fun l=>l.map (cI .i64)) false] func75 (p (sB' h0<|sF (Z5S Y7 hp0 hp1 hp2 y0)<|sZ Gv.c Y7.Pq<|sL (mR false [0,3,1,3,2,3,1,6,13]) 5 (Xl (Z1v Y7 change_1_c0 change_1_c1) (x:=(ZM Y7 change_1_c0 change_1_c1)) (Z2B Y7 change_1_c0 change_1_c1 hp0 hp1 hp2 h0 (((Y7.Pq.length:Int) - 0).toNat + 1) 0 Y7.Pq (show 0≤0 from (by omega)) (show Y7.Pq.length=Y7.Pq.length from (by simp)) (Nat.lt_succ_self _)) rfl)<|sK [3,4] sN)) rfl (by kernel_rfl) (by kernel_rfl) rfl ?_ ?_
  · simp only [Zs,h0,cond_true]
  · simp [Zs,h0]
 | false =>
  refine fnS E0Ok Zc (c:=X5 f75) [(.row 1 0, .vec 32 3 [] false),(.row 1 1, .nest 60 [] false)] (.tup [.agg [.own 0, .own 1], .b false]) [.vec 32 3 [] false, .nest 60 [] false] func75 (p (sB' h0<|sK [2,3] sN)) rfl (by kernel_rfl) (by kernel_rfl) rfl ?_ ?_
  · simp only [Zs,h0,cond_false]
  · simp [Zs,h0,Gv.c,cL,cI]
theorem Z6T (x:Nat):X1E (fop .quo .f32 (Z3p x) 1077936128):=by
  unfold Z3p Z1V
  cases h0:fcmp .neq .f64 (fcv .f32 .f64 x) (fcv .f32 .f64 x) with
  | true =>
    have e:Zt (fcv .f32 .f64 x)=Z14:=by unfold Zt;rw [h0,cond_true]
    rw [e];exact .inr (.inr (.inr (by decide +kernel)))
  | false =>
    cases h1:fcmp .lss .f64 (fcv .f32 .f64 x) 0 with
    | true =>
      have e:Zt (fcv .f32 .f64 x)=Z14:=by unfold Zt;rw [h0,cond_false,h1,cond_true]
      rw [e];exact .inr (.inr (.inr (by decide +kernel)))
    | false =>
      cases h2:fcmp .eql .f64 (fcv .f32 .f64 x) 0 with
      | true =>
        have e:Zt (fcv .f32 .f64 x)=Z1t (-1):=by unfold Zt;rw [h0,cond_false,h1,cond_false,h2,cond_true]
        rw [e];exact .inr (.inr (.inl (by decide +kernel)))
      | false =>
        cases h3:Z34 (fcv .f32 .f64 x) 1 with
        | true =>
          have e:Zt (fcv .f32 .f64 x)=fcv .f32 .f64 x:=by unfold Zt;rw [h0,cond_false,h1,cond_false,h2,cond_false,h3,cond_true]
          rw [e,(X4F h3).1];exact .inr (.inl (by decide +kernel))
        | false =>
          obtain ⟨a,b,c⟩:=X7n h0 h1 h2 h3
          obtain ⟨r,r1,r2,r3⟩:=Z4D _ a b c
          rw [Z4w h0 h1 h2 h3]
          obtain ⟨q,q1,q2,q3⟩:=X2X r1 r2 r3
          exact .inl (X8D q1 q2 q3)
theorem Z75 (m:Gm) (h:(Zj m).2=true):Zm m=true:=by
  unfold Zj at h
  cases hm:Zm m with
  | true=>rfl
  | false=>rw [hm] at h;cases h
theorem Z6B (a b:Nat):X1E (fop .quo .f32 (Zl (fop .quo .f32 a b)) 1077936128):=by
  rw [Z6m _ (.inl (X9L _ _ _))]
  exact Z6T _
def Z1c (Y7:Gm) (Yg:Nat):Gm × Bool:=(Zs Y7 ((Zj Y7).1) (ZW (fop .quo .f32 (Zl (fop .quo .f32 Yg (Zp Y7))) 1077936128)))
def Zh (Y7:Gm) (Yg:Nat):Gm × Bool:=(cond (Zj Y7).2
  (cond (Zn Yg)
    (cond (Zn (Zp Y7))
      (cond (ZE (ZW (fop .quo .f32 (Zl (fop .quo .f32 Yg (Zp Y7))) 1077936128)))
        ((Z1c Y7 Yg).1,(Z1c Y7 Yg).2)
        ((⟨([]:List Gv),([]:List (List Int))⟩:Gm),false))
      ((⟨([]:List Gv),([]:List (List Int))⟩:Gm),false))
    ((⟨([]:List Gv),([]:List (List Int))⟩:Gm),false))
  ((⟨([]:List Gv),([]:List (List Int))⟩:Gm),false))
theorem Z3T (m:Gm) (v:Nat):(Zh m v).1.Pq.length≤m.Pq.length:=by
  unfold Zh Z1c Zs
  cases (Zj m).2<;>cases Zn v<;>cases Zn (Zp m)<;>(try (simp;done))<;>cases ZE (ZW (fop .quo .f32 (Zl (fop .quo .f32 v (Zp m))) 1077936128))<;>cases Zm m<;>simp
theorem Z3U (m:Gm) (v:Nat):(Zh m v).1.Tr.length≤m.Tr.length:=by
  unfold Zh Z1c Zs
  cases (Zj m).2<;>cases Zn v<;>cases Zn (Zp m)<;>(try (simp;done))<;>cases ZE (ZW (fop .quo .f32 (Zl (fop .quo .f32 v (Zp m))) 1077936128))<;>cases Zm m<;>simp
theorem Z57 (m:Gm) (v:Nat):∀ t∈(Zh m v).1.Tr,t∈m.Tr:=by
  unfold Zh Z1c Zs
  cases (Zj m).2<;>cases Zn v<;>cases Zn (Zp m)<;>(try (simp;done))<;>cases ZE (ZW (fop .quo .f32 (Zl (fop .quo .f32 v (Zp m))) 1077936128))<;>cases Zm m<;>simp
theorem Z5x (Y7:Gm) (Yg:Nat) (hp0:Y7.Pq.length≤1073741824) (hp1:Y7.Tr.length≤1073741824) (hp2:∀ t∈Y7.Tr,t.length≤1073741824)  : Fn prog 22 [.agg [.sl (Y7.Pq.map Gv.c), .sl (Y7.Tr.map (cL (cI .i64)))], .f .f32 Yg] (.tup [.agg [.own 0, .own 1], .b ((Zh Y7 Yg).2)]) [.vec 32 3 (((Zh Y7 Yg).1.Pq).map Gv.c) false, .nest 60 (((Zh Y7 Yg).1.Tr).map fun l=>l.map (cI .i64)) false]:=by
 have p {a C} (s:Scr a C):=sF (Z3C Y7 hp0 hp1 hp2)<|s
 cases h0:(Zj Y7).2 with
 | true =>
  have q {a C} (s:Scr a C):=p (sB' h0<|sB' h0<|sF (Z2J Yg)<|sB' h0<|sB' h0<|s)
  clear p
  cases h1:(Zn Yg) with
  | true =>
   have y0:Xs Y7.Pq.length Y7.Tr:=by clear q;exact (by exact (Z5H _ (Z75 _ (by assumption))).tris)
   have p {a C} (s:Scr a C):=q (sB' h1<|sB' h1<|sF (Z3A Y7 hp0 hp1 hp2 y0)<|sB' h1<|sF (Z2J (Zp Y7))<|sB' h1<|sB' h1<|s)
   clear q
   cases h2:(Zn (Zp Y7)) with
   | true =>
    have y1:X1E (fop .quo .f32 (Zl (fop .quo .f32 Yg (Zp Y7))) 1077936128):=by clear p;exact (by exact Z6B _ _)
    have q {a C} (s:Scr a C):=p (sB' h2<|sF (Z3A Y7 hp0 hp1 hp2 y0)<|sF (Z4t (fop .quo .f32 Yg (Zp Y7)))<|sF (Z5J (fop .quo .f32 (Zl (fop .quo .f32 Yg (Zp Y7))) 1077936128) y1)<|sF (Z2t (ZW (fop .quo .f32 (Zl (fop .quo .f32 Yg (Zp Y7))) 1077936128)))<|s)
    clear p
    cases h3:(ZE (ZW (fop .quo .f32 (Zl (fop .quo .f32 Yg (Zp Y7))) 1077936128))) with
    | true =>
     refine fnS E0Ok Zc (c:=X5 f22) [] (.tup [.agg [.own 0, .own 1], .b ((Z1c Y7 Yg).2)]) [.vec 32 3 (((Z1c Y7 Yg).1.Pq).map Gv.c) false, .nest 60 (((Z1c Y7 Yg).1.Tr).map fun l=>l.map (cI .i64)) false] func22 (q (sB' h3<|sF (Z2L Y7 ((Zj Y7).1) (ZW (fop .quo .f32 (Zl (fop .quo .f32 Yg (Zp Y7))) 1077936128)) hp0 hp1 hp2)<|sK [4,5] sN)) rfl (by kernel_rfl) (by kernel_rfl) rfl ?_ ?_
     · simp only [Zh,h0,h1,h2,h3,cond_true]
     · simp [Zh,h0,h1,h2,h3]
    | false =>
     refine fnS E0Ok Zc (c:=X5 f22) [(.row 1 0, .vec 32 3 [] false),(.row 1 1, .nest 60 [] false)] (.tup [.agg [.own 0, .own 1], .b false]) [.vec 32 3 [] false, .nest 60 [] false] func22 (q (sB' h3<|sK [4,5] sN)) rfl (by kernel_rfl) (by kernel_rfl) rfl ?_ ?_
     · simp only [Zh,h0,h1,h2,h3,cond_true,cond_false]
     · simp [Zh,h0,h1,h2,h3,Gv.c,cL,cI]
   | false =>
    refine fnS E0Ok Zc (c:=X5 f22) [(.row 1 0, .vec 32 3 [] false),(.row 1 1, .nest 60 [] false)] (.tup [.agg [.own 0, .own 1], .b false]) [.vec 32 3 [] false, .nest 60 [] false] func22 (p (sB' h2<|sK [3,4] sN)) rfl (by kernel_rfl) (by kernel_rfl) rfl ?_ ?_
    · simp only [Zh,h0,h1,h2,cond_true,cond_false]
    · simp [Zh,h0,h1,h2,Gv.c,cL,cI]
  | false =>
   refine fnS E0Ok Zc (c:=X5 f22) [(.row 1 0, .vec 32 3 [] false),(.row 1 1, .nest 60 [] false)] (.tup [.agg [.own 0, .own 1], .b false]) [.vec 32 3 [] false, .nest 60 [] false] func22 (q (sB' h1<|sB' h1<|sB' h1<|sB' h1<|sB' h1<|sB (show true=true from rfl)<|sK [3,4] sN)) rfl (by kernel_rfl) (by kernel_rfl) rfl ?_ ?_
   · simp only [Zh,h0,h1,cond_true,cond_false]
   · simp [Zh,h0,h1,Gv.c,cL,cI]
 | false =>
  refine fnS E0Ok Zc (c:=X5 f22) [(.row 1 0, .vec 32 3 [] false),(.row 1 1, .nest 60 [] false)] (.tup [.agg [.own 0, .own 1], .b false]) [.vec 32 3 [] false, .nest 60 [] false] func22 (p (sB' h0<|sB' h0<|sB' h0<|sB' h0<|sB (show true=true from rfl)<|sB (show true=true from rfl)<|sB (show true=true from rfl)<|sB (show true=true from rfl)<|sB (show true=true from rfl)<|sB (show true=true from rfl)<|sK [3,4] sN)) rfl (by kernel_rfl) (by kernel_rfl) rfl ?_ ?_
  · simp only [Zh,h0,cond_false]
  · simp [Zh,h0,Gv.c,cL,cI]
def Z1F (Yq:Nat) (Yr:Nat):Nat:=(fmax .f64 (fop .sub .f64 Yq Yr) (fop .sub .f64 Yr Yq))
theorem Z1R (Yq:Nat) (Yr:Nat)   : Fn prog 24 [.f .f64 Yq, .f .f64 Yr] (.f .f64 (Z1F Yq Yr)) []:=by
 refine fnS E0Ok Zc (c:=X5 f24) [] (.f .f64 (fmax .f64 (fop .sub .f64 Yq Yr) (fop .sub .f64 Yr Yq))) [] func24 (sK [] sN) rfl (by kernel_rfl) (by kernel_rfl) rfl ?_ ?_
 · rfl
 · rfl
def Z3e (Yd:Nat):Nat:=(fcv .f64 .f32 (Z2f (fcv .f32 .f64 Yd)))
theorem Z5y (Yd:Nat)   : Fn prog 98 [.f .f32 Yd] (.f .f32 (Z3e Yd)) []:=by
 have y0:XG .f64 .f32 (Z2f (fcv .f32 .f64 Yd))=true:=(X4p _)
 refine fnS E0Ok Zc (c:=X5 f98) [] (.f .f32 (fcv .f64 .f32 (Z2f (fcv .f32 .f64 Yd)))) [] func98 (sC (Xb Yd)<|sF (Z5B (fcv .f32 .f64 Yd))<|sC y0<|sK [] sN) rfl (by kernel_rfl) (by kernel_rfl) rfl ?_ ?_
 · rfl
 · rfl
def Z2M (YC:Gv):Nat:=(Z3e (Z1W YC YC))
theorem Z6j (YC:Gv)   : Fn prog 52 [.agg [.f .f32 YC.X, .f .f32 YC.Y, .f .f32 YC.Z]] (.f .f32 (Z2M YC)) []:=by
 refine fnS E0Ok Zc (c:=X5 f52) [] (.f .f32 (Z3e (Z1W YC YC))) [] func52 (sF (Z4C YC YC)<|sF (Z5y (Z1W YC YC))<|sK [] sN) rfl (by kernel_rfl) (by kernel_rfl) rfl ?_ ?_
 · rfl
 · rfl
def Z2h (Yq:Gv) (Yr:Gv):Nat:=(fcv .f32 .f64 (Z2M (ZU Yq Yr)))
theorem Z4F (Yq:Gv) (Yr:Gv)   : Fn prog 25 [.agg [.f .f32 Yq.X, .f .f32 Yq.Y, .f .f32 Yq.Z], .agg [.f .f32 Yr.X, .f .f32 Yr.Y, .f .f32 Yr.Z]] (.f .f64 (Z2h Yq Yr)) []:=by
 refine fnS E0Ok Zc (c:=X5 f25) [] (.f .f64 (fcv .f32 .f64 (Z2M (ZU Yq Yr)))) [] func25 (sF (Z4a Yq Yr)<|sF (Z6j (ZU Yq Yr))<|sC (Xb (Z2M (ZU Yq Yr)))<|sK [] sN) rfl (by kernel_rfl) (by kernel_rfl) rfl ?_ ?_
 · rfl
 · rfl
def Z12 (Yc:(List Int)):Nat→Int→(List (List Int))→(List (List Int))
  | 0,_,_=>default
  | k + 1,Y9,Yh=>(cond (decide ((Y9 + 2) < (Yc.length:Int)))
    (Z12 Yc k (Y9 + 3) (Yh ++ [[(Yc.getD Y9.toNat default),(Yc.getD (Y9 + 1).toNat default),(Yc.getD (Y9 + 2).toNat default)]]))
    Yh)
def Z2p (Yc:(List Int)) (r:(List (List Int))):Ex × St:=((.exit 0),⟨.any :: .any :: .nils :: .own 0 :: an 28 [],[.nest 60 (r.map fun l=>l.map (cI .i64)) false]⟩)
def Z2q (Yc:(List Int)) (Y9:Int) (Yh:(List (List Int))):St:=⟨.sl (Yc.map (cI .i64)) :: .any :: .nils :: .own 0 :: .i .i64 Y9 :: an 27 [],[.nest 60 (Yh.map fun l=>l.map (cI .i64)) false]⟩
theorem Z4u (Yc:(List Int)) (hp0:Yc.length≤1073741824) (hp1:Yc.length≤100000):∀ (k:Nat) (Y9:Int) (Yh:(List (List Int))) (Z2S:0≤Y9) (Z2T:Y9≤(Yc.length:Int) + 3) (Z2U:(Yh.length:Int)≤Y9) (hk:((Yc.length:Int) - Y9).toNat < k),Lp prog 0 (sub (X5 f79) [1,1,0,1,0,0]) (Z2q Yc Y9 Yh) (Z2p Yc (Z12 Yc k Y9 Yh)).1 (Z2p Yc (Z12 Yc k Y9 Yh)).2:=by
 intro k
 induction k with
 | zero=>intro Y9 Yh Z2S Z2T Z2U hk;exact absurd hk (Nat.not_lt_zero _)
 | succ k ih =>
  intro Y9 Yh Z2S Z2T Z2U hk
  have Yy:(-9223372036854775808:Int)≤(Y9 + 2):=(by omega)
  have YV:(Y9 + 2)≤(9223372036854775807:Int):=(by omega)
  have p {a C} (s:Scr a C):=sI (Y9 + 2) Yy YV<|sZ (cI .i64) Yc<|s
  cases Yk:(decide ((Y9 + 2) < (Yc.length:Int))) with
  | true =>
   have YL:=odt Yk
   have YZ:(0:Int)≤Y9:=by clear p;exact (by assumption)
   have y_3:Y9 < (Yc.length:Int):=by clear p;exact (by omega)
   have y_4:(-9223372036854775808:Int)≤(Y9 + 1):=by clear p;exact (by omega)
   have y_5:(Y9 + 1)≤(9223372036854775807:Int):=by clear p;exact (by omega)
   have y_6:(0:Int)≤(Y9 + 1):=by clear p;exact (by omega)
   have y_7:(Y9 + 1) < (Yc.length:Int):=by clear p;exact (by omega)
   have y_8:(0:Int)≤(Y9 + 2):=by clear p;exact (by omega)
   have y_9:(Y9 + 2) < (Yc.length:Int):=by clear p;exact (by assumption)
   have Y10:Yh.length + [[(Yc.getD Y9.toNat default),(Yc.getD (Y9 + 1).toNat default),(Yc.getD (Y9 + 2).toNat default)]].length≤1073741824:=by clear p;exact (by (simp only [List.length_append,List.length_cons,List.length_nil];omega))
   have Y11:(-9223372036854775808:Int)≤(Y9 + 3):=by clear p;exact (by omega)
   have Y12:(Y9 + 3)≤(9223372036854775807:Int):=by clear p;exact (by omega)
   have e:Z12 Yc (k + 1) Y9 Yh=(Z12 Yc k (Y9 + 3) (Yh ++ [[(Yc.getD Y9.toNat default),(Yc.getD (Y9 + 1).toNat default),(Yc.getD (Y9 + 2).toNat default)]])):=by simp only [Z12,Yk,cond_true]
   rw [e]
   exact X2D E0Ok Zc [] (mR false [0,1,1,3,27]) [0] (⟨.sl (Yc.map (cI .i64)) :: .any :: .nils :: .own 0 :: .i .i64 (Y9 + 3) :: an 27 [],[.nest 60 ((Yh.map fun l=>l.map (cI .i64)) ++ [([[.i .i64 (Yc.getD Y9.toNat default)],[.i .i64 (Yc.getD (Y9 + 1).toNat default)],[.i .i64 (Yc.getD (Y9 + 2).toNat default)]]:List (List AV))]) false]⟩) (p (sB Yk<|sK [17,17]<|sG (cI .i64) Yc Y9 YZ y_3<|sI (Y9 + 1) y_4 y_5<|sG (cI .i64) Yc (Y9 + 1) y_6 y_7<|sI (Y9 + 2) Yy YV<|sG (cI .i64) Yc (Y9 + 2) y_8 y_9<|sC (show (Yh.map fun l=>l.map (cI .i64)).length + [([[.i .i64 (Yc.getD Y9.toNat default)],[.i .i64 (Yc.getD (Y9 + 1).toNat default)],[.i .i64 (Yc.getD (Y9 + 2).toNat default)]]:List (List AV))].length≤1073741824 from (by simpa using Y10))<|sI (Y9 + 3) Y11 Y12<|sN)) (by kernel_rfl) (by simp [Z2q,cL,cI]) (ih (Y9 + 3) (Yh ++ [[(Yc.getD Y9.toNat default),(Yc.getD (Y9 + 1).toNat default),(Yc.getD (Y9 + 2).toNat default)]]) (show 0≤(Y9 + 3) from (by omega)) (show (Y9 + 3)≤(Yc.length:Int) + 3 from (by omega)) (show ((Yh ++ [[(Yc.getD Y9.toNat default),(Yc.getD (Y9 + 1).toNat default),(Yc.getD (Y9 + 2).toNat default)]]).length:Int)≤(Y9 + 3) from (by simp only [List.length_append,List.length_cons,List.length_nil];omega)) (by omega))
  | false =>
   have YL:=odf Yk
   have e:Z12 Yc (k + 1) Y9 Yh=Yh:=by simp only [Z12,Yk,cond_false]
   rw [e]
   exact outR (e:=(.exit 0)) E0Ok Zc [] (mR false [2,2,28]) [0] (p (sB Yk<|sN)) (by kernel_rfl) (by intro h;cases h)
def Z2e (Yc:(List Int)):(List (List Int)):=(Z12 Yc (((Yc.length:Int) - 0).toNat + 1) 0 ([]:List (List Int)))
def Z1S (Yc:(List Int)):(List (List Int)):=(Z2e Yc)
theorem Z4S (Yc:(List Int)) (hp0:Yc.length≤1073741824) (hp1:Yc.length≤100000)  : Fn prog 79 [.sl (Yc.map (cI .i64))] (.own 0) [.nest 60 ((Z1S Yc).map fun l=>l.map (cI .i64)) false]:=by
 refine fnS E0Ok Zc (c:=X5 f79) [] (.own 0) [.nest 60 ((Z2e Yc).map fun l=>l.map (cI .i64)) false] func79 (sL (mR false [0,1,1,3,27]) 1 (X3l (st2:=⟨.sl (Yc.map (cI .i64)) :: .any :: .nils :: .own 0 :: .i .i64 0 :: an 27 [],[.nest 60 [] false]⟩) (Xl (Z2p Yc) (x:=(Z2e Yc)) (Z4u Yc hp0 hp1 (((Yc.length:Int) - 0).toNat + 1) 0 ([]:List (List Int)) (show 0≤0 from (by omega)) (show 0≤(Yc.length:Int) + 3 from (by omega)) (show (([]:List (List Int)).length:Int)≤0 from (by simp)) (Nat.lt_succ_self _)) rfl) (by simp [Z2q,cL,cI]))<|sK [0] sN) rfl (by kernel_rfl) (by kernel_rfl) rfl ?_ ?_
 · rfl
 · simp [Z1S]
def Z24 (Y0:Nat):Nat→Unit
  | 0=>default
  | k + 1=>()
def Z3f (Y0:Nat) (r:Unit):Ex × St:=((.exit 0),⟨.f .f32 Y0 :: .any :: .ptr 0 0 0 :: .b false :: .ptr 1 0 0 :: .ptr 2 0 0 :: .any :: .f .f32 Y0 :: .b (Zn Y0) :: .b (!(Zn Y0)) :: .any :: .agg [.nils, .nils] :: .f .f32 Y0 :: .agg [.f .f32 0, .f .f32 Y0] :: an 27 [],[.box 27 [.nils, .nils], .box 27 [.own 3, .nils], .box 103 [.f .f32 0, .f .f32 Y0], .vec 32 3 (((((((([[.f .f32 0, .f .f32 0, .f .f32 0]]:List (List AV)) ++ ([[.f .f32 Y0, .f .f32 0, .f .f32 0]]:List (List AV))) ++ ([[.f .f32 0, .f .f32 Y0, .f .f32 0]]:List (List AV))) ++ ([[.f .f32 Y0, .f .f32 Y0, .f .f32 0]]:List (List AV))) ++ ([[.f .f32 0, .f .f32 0, .f .f32 Y0]]:List (List AV))) ++ ([[.f .f32 Y0, .f .f32 0, .f .f32 Y0]]:List (List AV))) ++ ([[.f .f32 0, .f .f32 Y0, .f .f32 Y0]]:List (List AV))) ++ ([[.f .f32 Y0, .f .f32 Y0, .f .f32 Y0]]:List (List AV))) false]⟩)
def Z5z (Y0:Nat)  : St:=⟨.f .f32 Y0 :: .any :: .ptr 0 0 0 :: .b false :: .ptr 1 0 0 :: .ptr 2 0 0 :: .any :: .f .f32 Y0 :: .b (Zn Y0) :: .b (!(Zn Y0)) :: .any :: .agg [.nils, .nils] :: .f .f32 Y0 :: .agg [.f .f32 0, .f .f32 Y0] :: .i .i64 8 :: an 26 [],[.box 27 [.nils, .nils], .box 27 [.own 3, .nils], .box 103 [.f .f32 0, .f .f32 Y0], .vec 32 3 (((((((([[.f .f32 0, .f .f32 0, .f .f32 0]]:List (List AV)) ++ ([[.f .f32 Y0, .f .f32 0, .f .f32 0]]:List (List AV))) ++ ([[.f .f32 0, .f .f32 Y0, .f .f32 0]]:List (List AV))) ++ ([[.f .f32 Y0, .f .f32 Y0, .f .f32 0]]:List (List AV))) ++ ([[.f .f32 0, .f .f32 0, .f .f32 Y0]]:List (List AV))) ++ ([[.f .f32 Y0, .f .f32 0, .f .f32 Y0]]:List (List AV))) ++ ([[.f .f32 0, .f .f32 Y0, .f .f32 Y0]]:List (List AV))) ++ ([[.f .f32 Y0, .f .f32 Y0, .f .f32 Y0]]:List (List AV))) false]⟩
theorem Z5A (Y0:Nat)  : ∀ (k:Nat)   (hk:0 < k),Lp prog 0 (sub (X5 f26) [1,1,1,1,0,1,0,0]) (Z5z Y0) (Z3f Y0 (Z24 Y0 k)).1 (Z3f Y0 (Z24 Y0 k)).2:=by
 intro k
 induction k with
 | zero=>intro hk;exact absurd hk (Nat.not_lt_zero _)
 | succ k ih =>
  intro hk
  have e:Z24 Y0 (k + 1)=():=by simp only [Z24]
  rw [e]
  exact outR (e:=(.exit 0)) E0Ok Zc [] (mR false [0,1,1,4,1,3,1,3,27]) [0,1,2,3] (sB (show (decide (8 < 8))=false from rfl)<|sN) (by kernel_rfl) (by intro h;cases h)
def Z58 (Y0:Nat):Unit:=(Z24 Y0 (0 + 1))
def Zd (Y0:Nat):Gm × Bool:=(cond (Zn Y0)
  ((⟨((((((([(⟨0,0,0⟩:Gv)] ++ [(⟨Y0,0,0⟩:Gv)]) ++ [(⟨0,Y0,0⟩:Gv)]) ++ [(⟨Y0,Y0,0⟩:Gv)]) ++ [(⟨0,0,Y0⟩:Gv)]) ++ [(⟨Y0,0,Y0⟩:Gv)]) ++ [(⟨0,Y0,Y0⟩:Gv)]) ++ [(⟨Y0,Y0,Y0⟩:Gv)]),(Z1S ([0,2,3,0,3,1,4,5,7,4,7,6,0,1,5,0,5,4,2,6,7,2,7,3,0,4,6,0,6,2,1,3,7,1,7,5]))⟩:Gm),true)
  ((⟨([]:List Gv),([]:List (List Int))⟩:Gm),false))
set_option maxHeartbeats 1000000 in
theorem Z37 (Y0:Nat)   : Fn prog 26 [.f .f32 Y0] (.tup [.agg [.own 0, .own 1], .b ((Zd Y0).2)]) [.vec 32 3 (((Zd Y0).1.Pq).map Gv.c) false, .nest 60 (((Zd Y0).1.Tr).map fun l=>l.map (cI .i64)) false]:=by
 have p {a C} (s:Scr a C):=sF (Z2J Y0)<|s
 cases h0:(Zn Y0) with
 | true =>
  have ypp0:([(⟨0,0,0⟩:Gv)]).length + ([(⟨Y0,0,0⟩:Gv)]).length≤1073741824:=by clear p;exact (by simp_all<;>omega)
  have yppp0:([(⟨0,0,0⟩:Gv)] ++ [(⟨Y0,0,0⟩:Gv)]).length + ([(⟨0,Y0,0⟩:Gv)]).length≤1073741824:=by clear p;exact (by simp_all<;>omega)
  have ypppp0:(([(⟨0,0,0⟩:Gv)] ++ [(⟨Y0,0,0⟩:Gv)]) ++ [(⟨0,Y0,0⟩:Gv)]).length + ([(⟨Y0,Y0,0⟩:Gv)]).length≤1073741824:=by clear p;exact (by simp_all<;>omega)
  have yppppp0:((([(⟨0,0,0⟩:Gv)] ++ [(⟨Y0,0,0⟩:Gv)]) ++ [(⟨0,Y0,0⟩:Gv)]) ++ [(⟨Y0,Y0,0⟩:Gv)]).length + ([(⟨0,0,Y0⟩:Gv)]).length≤1073741824:=by clear p;exact (by simp_all<;>omega)
  have ypppppp0:(((([(⟨0,0,0⟩:Gv)] ++ [(⟨Y0,0,0⟩:Gv)]) ++ [(⟨0,Y0,0⟩:Gv)]) ++ [(⟨Y0,Y0,0⟩:Gv)]) ++ [(⟨0,0,Y0⟩:Gv)]).length + ([(⟨Y0,0,Y0⟩:Gv)]).length≤1073741824:=by clear p;exact (by simp_all<;>omega)
  have yppppppp0:((((([(⟨0,0,0⟩:Gv)] ++ [(⟨Y0,0,0⟩:Gv)]) ++ [(⟨0,Y0,0⟩:Gv)]) ++ [(⟨Y0,Y0,0⟩:Gv)]) ++ [(⟨0,0,Y0⟩:Gv)]) ++ [(⟨Y0,0,Y0⟩:Gv)]).length + ([(⟨0,Y0,Y0⟩:Gv)]).length≤1073741824:=by clear p;exact (by simp_all<;>omega)
  have ypppppppp0:(((((([(⟨0,0,0⟩:Gv)] ++ [(⟨Y0,0,0⟩:Gv)]) ++ [(⟨0,Y0,0⟩:Gv)]) ++ [(⟨Y0,Y0,0⟩:Gv)]) ++ [(⟨0,0,Y0⟩:Gv)]) ++ [(⟨Y0,0,Y0⟩:Gv)]) ++ [(⟨0,Y0,Y0⟩:Gv)]).length + ([(⟨Y0,Y0,Y0⟩:Gv)]).length≤1073741824:=by clear p;exact (by simp_all<;>omega)
  have y7:([0,2,3,0,3,1,4,5,7,4,7,6,0,1,5,0,5,4,2,6,7,2,7,3,0,4,6,0,6,2,1,3,7,1,7,5]).length≤1073741824:=by clear p;exact (by simp_all<;>omega)
  have y8:([0,2,3,0,3,1,4,5,7,4,7,6,0,1,5,0,5,4,2,6,7,2,7,3,0,4,6,0,6,2,1,3,7,1,7,5]).length≤100000:=by clear p;exact (by simp_all<;>omega)
  refine fnS E0Ok Zc (c:=X5 f26) [] (.tup [.agg [.own 0, .own 1], .b true]) [.vec 32 3 (((((((([[.f .f32 0, .f .f32 0, .f .f32 0]]:List (List AV)) ++ ([[.f .f32 Y0, .f .f32 0, .f .f32 0]]:List (List AV))) ++ ([[.f .f32 0, .f .f32 Y0, .f .f32 0]]:List (List AV))) ++ ([[.f .f32 Y0, .f .f32 Y0, .f .f32 0]]:List (List AV))) ++ ([[.f .f32 0, .f .f32 0, .f .f32 Y0]]:List (List AV))) ++ ([[.f .f32 Y0, .f .f32 0, .f .f32 Y0]]:List (List AV))) ++ ([[.f .f32 0, .f .f32 Y0, .f .f32 Y0]]:List (List AV))) ++ ([[.f .f32 Y0, .f .f32 Y0, .f .f32 Y0]]:List (List AV))) false, .nest 60 ((Z1S ([0,2,3,0,3,1,4,5,7,4,7,6,0,1,5,0,5,4,2,6,7,2,7,3,0,4,6,0,6,2,1,3,7,1,7,5])).map fun l=>l.map (cI .i64)) false] func26 (p (sB' h0<|sL [] 0 (Xo (st:=⟨.f .f32 Y0 :: .any :: .ptr 0 0 0 :: .b false :: .ptr 1 0 0 :: .ptr 2 0 0 :: .any :: .f .f32 Y0 :: .b (Zn Y0) :: .b (!(Zn Y0)) :: .any :: .agg [.nils, .nils] :: .f .f32 Y0 :: .agg [.f .f32 0, .f .f32 Y0] :: .i .i64 0 :: an 26 [],[.box 27 [.nils, .nils], .box 27 [.nils, .nils], .box 103 [.f .f32 0, .f .f32 Y0]]⟩) E0Ok Zc [] (mR false [0,41]) [0,1,2,3,4] (Xo (st:=⟨.f .f32 Y0 :: .any :: .ptr 0 0 0 :: .b false :: .ptr 1 0 0 :: .ptr 2 0 0 :: .i .i64 0 :: .f .f32 Y0 :: .b (Zn Y0) :: .b (!(Zn Y0)) :: .any :: .agg [.nils, .nils] :: .f .f32 Y0 :: .agg [.f .f32 0, .f .f32 Y0] :: .i .i64 1 :: .b (decide (0 < 8)) :: .i .i64 0 :: .ptr 1 0 0 :: .nils :: .i .i64 0 :: .i .i64 0 :: .ptr 2 0 0 :: .f .f32 0 :: .i .i64 0 :: .i .i64 0 :: .i .i64 0 :: .ptr 2 0 0 :: .f .f32 0 :: .i .i64 0 :: .i .i64 0 :: .ptr 2 0 0 :: .f .f32 0 :: .agg [.f .f32 0, .f .f32 0, .f .f32 0] :: .own 3 :: .own 4 :: .ptr 1 0 0 :: .i .i64 1 :: an 4 [],[.box 27 [.nils, .nils], .box 27 [.own 4, .nils], .box 103 [.f .f32 0, .f .f32 Y0], .vec 32 3 ([[.f .f32 0, .f .f32 0, .f .f32 0]]:List (List AV)) false, .vec 32 3 ([[.f .f32 0, .f .f32 0, .f .f32 0]]:List (List AV)) false]⟩) E0Ok Zc [] (mR false [0,41]) [0,1,2,3,4,5] (Xo (st:=⟨.f .f32 Y0 :: .any :: .ptr 0 0 0 :: .b false :: .ptr 1 0 0 :: .ptr 2 0 0 :: .i .i64 1 :: .f .f32 Y0 :: .b (Zn Y0) :: .b (!(Zn Y0)) :: .any :: .agg [.nils, .nils] :: .f .f32 Y0 :: .agg [.f .f32 0, .f .f32 Y0] :: .i .i64 2 :: .b (decide (1 < 8)) :: .i .i64 1 :: .ptr 1 0 0 :: .any :: .i .i64 1 :: .i .i64 1 :: .ptr 2 0 1 :: .f .f32 Y0 :: .i .i64 1 :: .i .i64 0 :: .i .i64 0 :: .ptr 2 0 0 :: .f .f32 0 :: .i .i64 1 :: .i .i64 0 :: .ptr 2 0 0 :: .f .f32 0 :: .agg [.f .f32 Y0, .f .f32 0, .f .f32 0] :: .own 5 :: .own 4 :: .ptr 1 0 0 :: .i .i64 2 :: an 4 [],[.box 27 [.nils, .nils], .box 27 [.own 4, .nils], .box 103 [.f .f32 0, .f .f32 Y0], .vec 32 3 ([[.f .f32 0, .f .f32 0, .f .f32 0]]:List (List AV)) false, .vec 32 3 (([[.f .f32 0, .f .f32 0, .f .f32 0]]:List (List AV)) ++ ([[.f .f32 Y0, .f .f32 0, .f .f32 0]]:List (List AV))) false, .vec 32 3 ([[.f .f32 Y0, .f .f32 0, .f .f32 0]]:List (List AV)) false]⟩) E0Ok Zc [] (mR false [0,41]) [0,1,2,3,4,5,6] (Xo (st:=⟨.f .f32 Y0 :: .any :: .ptr 0 0 0 :: .b false :: .ptr 1 0 0 :: .ptr 2 0 0 :: .i .i64 2 :: .f .f32 Y0 :: .b (Zn Y0) :: .b (!(Zn Y0)) :: .any :: .agg [.nils, .nils] :: .f .f32 Y0 :: .agg [.f .f32 0, .f .f32 Y0] :: .i .i64 3 :: .b (decide (2 < 8)) :: .i .i64 2 :: .ptr 1 0 0 :: .any :: .i .i64 2 :: .i .i64 0 :: .ptr 2 0 0 :: .f .f32 0 :: .i .i64 2 :: .i .i64 1 :: .i .i64 1 :: .ptr 2 0 1 :: .f .f32 Y0 :: .i .i64 2 :: .i .i64 0 :: .ptr 2 0 0 :: .f .f32 0 :: .agg [.f .f32 0, .f .f32 Y0, .f .f32 0] :: .own 6 :: .own 4 :: .ptr 1 0 0 :: .i .i64 3 :: an 4 [],[.box 27 [.nils, .nils], .box 27 [.own 4, .nils], .box 103 [.f .f32 0, .f .f32 Y0], .vec 32 3 ([[.f .f32 0, .f .f32 0, .f .f32 0]]:List (List AV)) false, .vec 32 3 ((([[.f .f32 0, .f .f32 0, .f .f32 0]]:List (List AV)) ++ ([[.f .f32 Y0, .f .f32 0, .f .f32 0]]:List (List AV))) ++ ([[.f .f32 0, .f .f32 Y0, .f .f32 0]]:List (List AV))) false, .vec 32 3 ([[.f .f32 Y0, .f .f32 0, .f .f32 0]]:List (List AV)) false, .vec 32 3 ([[.f .f32 0, .f .f32 Y0, .f .f32 0]]:List (List AV)) false]⟩) E0Ok Zc [] (mR false [0,41]) [0,1,2,3,4,5,6,7] (Xo (st:=⟨.f .f32 Y0 :: .any :: .ptr 0 0 0 :: .b false :: .ptr 1 0 0 :: .ptr 2 0 0 :: .i .i64 3 :: .f .f32 Y0 :: .b (Zn Y0) :: .b (!(Zn Y0)) :: .any :: .agg [.nils, .nils] :: .f .f32 Y0 :: .agg [.f .f32 0, .f .f32 Y0] :: .i .i64 4 :: .b (decide (3 < 8)) :: .i .i64 3 :: .ptr 1 0 0 :: .any :: .i .i64 3 :: .i .i64 1 :: .ptr 2 0 1 :: .f .f32 Y0 :: .i .i64 3 :: .i .i64 1 :: .i .i64 1 :: .ptr 2 0 1 :: .f .f32 Y0 :: .i .i64 3 :: .i .i64 0 :: .ptr 2 0 0 :: .f .f32 0 :: .agg [.f .f32 Y0, .f .f32 Y0, .f .f32 0] :: .own 7 :: .own 4 :: .ptr 1 0 0 :: .i .i64 4 :: an 4 [],[.box 27 [.nils, .nils], .box 27 [.own 4, .nils], .box 103 [.f .f32 0, .f .f32 Y0], .vec 32 3 ([[.f .f32 0, .f .f32 0, .f .f32 0]]:List (List AV)) false, .vec 32 3 (((([[.f .f32 0, .f .f32 0, .f .f32 0]]:List (List AV)) ++ ([[.f .f32 Y0, .f .f32 0, .f .f32 0]]:List (List AV))) ++ ([[.f .f32 0, .f .f32 Y0, .f .f32 0]]:List (List AV))) ++ ([[.f .f32 Y0, .f .f32 Y0, .f .f32 0]]:List (List AV))) false, .vec 32 3 ([[.f .f32 Y0, .f .f32 0, .f .f32 0]]:List (List AV)) false, .vec 32 3 ([[.f .f32 0, .f .f32 Y0, .f .f32 0]]:List (List AV)) false, .vec 32 3 ([[.f .f32 Y0, .f .f32 Y0, .f .f32 0]]:List (List AV)) false]⟩) E0Ok Zc [] (mR false [0,41]) [0,1,2,3,4,5,6,7,8] (Xo (st:=⟨.f .f32 Y0 :: .any :: .ptr 0 0 0 :: .b false :: .ptr 1 0 0 :: .ptr 2 0 0 :: .i .i64 4 :: .f .f32 Y0 :: .b (Zn Y0) :: .b (!(Zn Y0)) :: .any :: .agg [.nils, .nils] :: .f .f32 Y0 :: .agg [.f .f32 0, .f .f32 Y0] :: .i .i64 5 :: .b (decide (4 < 8)) :: .i .i64 4 :: .ptr 1 0 0 :: .any :: .i .i64 4 :: .i .i64 0 :: .ptr 2 0 0 :: .f .f32 0 :: .i .i64 4 :: .i .i64 2 :: .i .i64 0 :: .ptr 2 0 0 :: .f .f32 0 :: .i .i64 4 :: .i .i64 1 :: .ptr 2 0 1 :: .f .f32 Y0 :: .agg [.f .f32 0, .f .f32 0, .f .f32 Y0] :: .own 8 :: .own 4 :: .ptr 1 0 0 :: .i .i64 5 :: an 4 [],[.box 27 [.nils, .nils], .box 27 [.own 4, .nils], .box 103 [.f .f32 0, .f .f32 Y0], .vec 32 3 ([[.f .f32 0, .f .f32 0, .f .f32 0]]:List (List AV)) false, .vec 32 3 ((((([[.f .f32 0, .f .f32 0, .f .f32 0]]:List (List AV)) ++ ([[.f .f32 Y0, .f .f32 0, .f .f32 0]]:List (List AV))) ++ ([[.f .f32 0, .f .f32 Y0, .f .f32 0]]:List (List AV))) ++ ([[.f .f32 Y0, .f .f32 Y0, .f .f32 0]]:List (List AV))) ++ ([[.f .f32 0, .f .f32 0, .f .f32 Y0]]:List (List AV))) false, .vec 32 3 ([[.f .f32 Y0, .f .f32 0, .f .f32 0]]:List (List AV)) false, .vec 32 3 ([[.f .f32 0, .f .f32 Y0, .f .f32 0]]:List (List AV)) false, .vec 32 3 ([[.f .f32 Y0, .f .f32 Y0, .f .f32 0]]:List (List AV)) false, .vec 32 3 ([[.f .f32 0, .f .f32 0, .f .f32 Y0]]:List (List AV)) false]⟩) E0Ok Zc [] (mR false [0,41]) [0,1,2,3,4,5,6,7,8,9] (Xo (st:=⟨.f .f32 Y0 :: .any :: .ptr 0 0 0 :: .b false :: .ptr 1 0 0 :: .ptr 2 0 0 :: .i .i64 5 :: .f .f32 Y0 :: .b (Zn Y0) :: .b (!(Zn Y0)) :: .any :: .agg [.nils, .nils] :: .f .f32 Y0 :: .agg [.f .f32 0, .f .f32 Y0] :: .i .i64 6 :: .b (decide (5 < 8)) :: .i .i64 5 :: .ptr 1 0 0 :: .any :: .i .i64 5 :: .i .i64 1 :: .ptr 2 0 1 :: .f .f32 Y0 :: .i .i64 5 :: .i .i64 2 :: .i .i64 0 :: .ptr 2 0 0 :: .f .f32 0 :: .i .i64 5 :: .i .i64 1 :: .ptr 2 0 1 :: .f .f32 Y0 :: .agg [.f .f32 Y0, .f .f32 0, .f .f32 Y0] :: .own 9 :: .own 4 :: .ptr 1 0 0 :: .i .i64 6 :: an 4 [],[.box 27 [.nils, .nils], .box 27 [.own 4, .nils], .box 103 [.f .f32 0, .f .f32 Y0], .vec 32 3 ([[.f .f32 0, .f .f32 0, .f .f32 0]]:List (List AV)) false, .vec 32 3 (((((([[.f .f32 0, .f .f32 0, .f .f32 0]]:List (List AV)) ++ ([[.f .f32 Y0, .f .f32 0, .f .f32 0]]:List (List AV))) ++ ([[.f .f32 0, .f .f32 Y0, .f .f32 0]]:List (List AV))) ++ ([[.f .f32 Y0, .f .f32 Y0, .f .f32 0]]:List (List AV))) ++ ([[.f .f32 0, .f .f32 0, .f .f32 Y0]]:List (List AV))) ++ ([[.f .f32 Y0, .f .f32 0, .f .f32 Y0]]:List (List AV))) false, .vec 32 3 ([[.f .f32 Y0, .f .f32 0, .f .f32 0]]:List (List AV)) false, .vec 32 3 ([[.f .f32 0, .f .f32 Y0, .f .f32 0]]:List (List AV)) false, .vec 32 3 ([[.f .f32 Y0, .f .f32 Y0, .f .f32 0]]:List (List AV)) false, .vec 32 3 ([[.f .f32 0, .f .f32 0, .f .f32 Y0]]:List (List AV)) false, .vec 32 3 ([[.f .f32 Y0, .f .f32 0, .f .f32 Y0]]:List (List AV)) false]⟩) E0Ok Zc [] (mR false [0,41]) [0,1,2,3,4,5,6,7,8,9,10] (Xo (st:=⟨.f .f32 Y0 :: .any :: .ptr 0 0 0 :: .b false :: .ptr 1 0 0 :: .ptr 2 0 0 :: .i .i64 6 :: .f .f32 Y0 :: .b (Zn Y0) :: .b (!(Zn Y0)) :: .any :: .agg [.nils, .nils] :: .f .f32 Y0 :: .agg [.f .f32 0, .f .f32 Y0] :: .i .i64 7 :: .b (decide (6 < 8)) :: .i .i64 6 :: .ptr 1 0 0 :: .any :: .i .i64 6 :: .i .i64 0 :: .ptr 2 0 0 :: .f .f32 0 :: .i .i64 6 :: .i .i64 3 :: .i .i64 1 :: .ptr 2 0 1 :: .f .f32 Y0 :: .i .i64 6 :: .i .i64 1 :: .ptr 2 0 1 :: .f .f32 Y0 :: .agg [.f .f32 0, .f .f32 Y0, .f .f32 Y0] :: .own 10 :: .own 4 :: .ptr 1 0 0 :: .i .i64 7 :: an 4 [],[.box 27 [.nils, .nils], .box 27 [.own 4, .nils], .box 103 [.f .f32 0, .f .f32 Y0], .vec 32 3 ([[.f .f32 0, .f .f32 0, .f .f32 0]]:List (List AV)) false, .vec 32 3 ((((((([[.f .f32 0, .f .f32 0, .f .f32 0]]:List (List AV)) ++ ([[.f .f32 Y0, .f .f32 0, .f .f32 0]]:List (List AV))) ++ ([[.f .f32 0, .f .f32 Y0, .f .f32 0]]:List (List AV))) ++ ([[.f .f32 Y0, .f .f32 Y0, .f .f32 0]]:List (List AV))) ++ ([[.f .f32 0, .f .f32 0, .f .f32 Y0]]:List (List AV))) ++ ([[.f .f32 Y0, .f .f32 0, .f .f32 Y0]]:List (List AV))) ++ ([[.f .f32 0, .f .f32 Y0, .f .f32 Y0]]:List (List AV))) false, .vec 32 3 ([[.f .f32 Y0, .f .f32 0, .f .f32 0]]:List (List AV)) false, .vec 32 3 ([[.f .f32 0, .f .f32 Y0, .f .f32 0]]:List (List AV)) false, .vec 32 3 ([[.f .f32 Y0, .f .f32 Y0, .f .f32 0]]:List (List AV)) false, .vec 32 3 ([[.f .f32 0, .f .f32 0, .f .f32 Y0]]:List (List AV)) false, .vec 32 3 ([[.f .f32 Y0, .f .f32 0, .f .f32 Y0]]:List (List AV)) false, .vec 32 3 ([[.f .f32 0, .f .f32 Y0, .f .f32 Y0]]:List (List AV)) false]⟩) E0Ok Zc [] (mR false [0,1,1,4,1,3,1,4,26]) [0,1,2,4] (Xl (Z3f Y0) (x:=(Z58 Y0)) (Z5A Y0 (0 + 1) (Nat.lt_succ_self _)) rfl) (sB (show (decide (7 < 8))=true from rfl)<|sK [17,17]<|sM (show (bitsOf .and .i64 7 1)=1 from (by decide))<|sC (show (0:Int)≤1∧1 < ((2:Nat):Int) from (by decide))<|sC (show (0:Int)≤1 from (by decide))<|sM (show (Int.fdiv 7 (2 ^ (min (Int.toNat 1) (IntKind.bits .i64))))=3 from (by decide))<|sM (show (bitsOf .and .i64 3 1)=1 from (by decide))<|sC (show (0:Int)≤1∧1 < ((2:Nat):Int) from (by decide))<|sC (show (0:Int)≤2 from (by decide))<|sM (show (Int.fdiv 7 (2 ^ (min (Int.toNat 2) (IntKind.bits .i64))))=1 from (by decide))<|sC (show (0:Int)≤1∧1 < ((2:Nat):Int) from (by decide))<|sC (show ((((((([[.f .f32 0, .f .f32 0, .f .f32 0]]:List (List AV)) ++ ([[.f .f32 Y0, .f .f32 0, .f .f32 0]]:List (List AV))) ++ ([[.f .f32 0, .f .f32 Y0, .f .f32 0]]:List (List AV))) ++ ([[.f .f32 Y0, .f .f32 Y0, .f .f32 0]]:List (List AV))) ++ ([[.f .f32 0, .f .f32 0, .f .f32 Y0]]:List (List AV))) ++ ([[.f .f32 Y0, .f .f32 0, .f .f32 Y0]]:List (List AV))) ++ ([[.f .f32 0, .f .f32 Y0, .f .f32 Y0]]:List (List AV))).length + ([[.f .f32 Y0, .f .f32 Y0, .f .f32 Y0]]:List (List AV)).length≤1073741824 from (by simp))<|sM (show IntKind.wrap .i64 (7 + 1)=8 from rfl)<|sN) (by kernel_rfl)) (sB (show (decide (6 < 8))=true from rfl)<|sK [17,17]<|sM (show (bitsOf .and .i64 6 1)=0 from (by decide))<|sC (show (0:Int)≤0∧0 < ((2:Nat):Int) from (by decide))<|sC (show (0:Int)≤1 from (by decide))<|sM (show (Int.fdiv 6 (2 ^ (min (Int.toNat 1) (IntKind.bits .i64))))=3 from (by decide))<|sM (show (bitsOf .and .i64 3 1)=1 from (by decide))<|sC (show (0:Int)≤1∧1 < ((2:Nat):Int) from (by decide))<|sC (show (0:Int)≤2 from (by decide))<|sM (show (Int.fdiv 6 (2 ^ (min (Int.toNat 2) (IntKind.bits .i64))))=1 from (by decide))<|sC (show (0:Int)≤1∧1 < ((2:Nat):Int) from (by decide))<|sC (show (((((([[.f .f32 0, .f .f32 0, .f .f32 0]]:List (List AV)) ++ ([[.f .f32 Y0, .f .f32 0, .f .f32 0]]:List (List AV))) ++ ([[.f .f32 0, .f .f32 Y0, .f .f32 0]]:List (List AV))) ++ ([[.f .f32 Y0, .f .f32 Y0, .f .f32 0]]:List (List AV))) ++ ([[.f .f32 0, .f .f32 0, .f .f32 Y0]]:List (List AV))) ++ ([[.f .f32 Y0, .f .f32 0, .f .f32 Y0]]:List (List AV))).length + ([[.f .f32 0, .f .f32 Y0, .f .f32 Y0]]:List (List AV)).length≤1073741824 from (by simp))<|sM (show IntKind.wrap .i64 (6 + 1)=7 from rfl)<|sN) (by kernel_rfl)) (sB (show (decide (5 < 8))=true from rfl)<|sK [17,17]<|sM (show (bitsOf .and .i64 5 1)=1 from (by decide))<|sC (show (0:Int)≤1∧1 < ((2:Nat):Int) from (by decide))<|sC (show (0:Int)≤1 from (by decide))<|sM (show (Int.fdiv 5 (2 ^ (min (Int.toNat 1) (IntKind.bits .i64))))=2 from (by decide))<|sM (show (bitsOf .and .i64 2 1)=0 from (by decide))<|sC (show (0:Int)≤0∧0 < ((2:Nat):Int) from (by decide))<|sC (show (0:Int)≤2 from (by decide))<|sM (show (Int.fdiv 5 (2 ^ (min (Int.toNat 2) (IntKind.bits .i64))))=1 from (by decide))<|sC (show (0:Int)≤1∧1 < ((2:Nat):Int) from (by decide))<|sC (show ((((([[.f .f32 0, .f .f32 0, .f .f32 0]]:List (List AV)) ++ ([[.f .f32 Y0, .f .f32 0, .f .f32 0]]:List (List AV))) ++ ([[.f .f32 0, .f .f32 Y0, .f .f32 0]]:List (List AV))) ++ ([[.f .f32 Y0, .f .f32 Y0, .f .f32 0]]:List (List AV))) ++ ([[.f .f32 0, .f .f32 0, .f .f32 Y0]]:List (List AV))).length + ([[.f .f32 Y0, .f .f32 0, .f .f32 Y0]]:List (List AV)).length≤1073741824 from (by simp))<|sM (show IntKind.wrap .i64 (5 + 1)=6 from rfl)<|sN) (by kernel_rfl)) (sB (show (decide (4 < 8))=true from rfl)<|sK [17,17]<|sM (show (bitsOf .and .i64 4 1)=0 from (by decide))<|sC (show (0:Int)≤0∧0 < ((2:Nat):Int) from (by decide))<|sC (show (0:Int)≤1 from (by decide))<|sM (show (Int.fdiv 4 (2 ^ (min (Int.toNat 1) (IntKind.bits .i64))))=2 from (by decide))<|sM (show (bitsOf .and .i64 2 1)=0 from (by decide))<|sC (show (0:Int)≤0∧0 < ((2:Nat):Int) from (by decide))<|sC (show (0:Int)≤2 from (by decide))<|sM (show (Int.fdiv 4 (2 ^ (min (Int.toNat 2) (IntKind.bits .i64))))=1 from (by decide))<|sC (show (0:Int)≤1∧1 < ((2:Nat):Int) from (by decide))<|sC (show (((([[.f .f32 0, .f .f32 0, .f .f32 0]]:List (List AV)) ++ ([[.f .f32 Y0, .f .f32 0, .f .f32 0]]:List (List AV))) ++ ([[.f .f32 0, .f .f32 Y0, .f .f32 0]]:List (List AV))) ++ ([[.f .f32 Y0, .f .f32 Y0, .f .f32 0]]:List (List AV))).length + ([[.f .f32 0, .f .f32 0, .f .f32 Y0]]:List (List AV)).length≤1073741824 from (by simp))<|sM (show IntKind.wrap .i64 (4 + 1)=5 from rfl)<|sN) (by kernel_rfl)) (sB (show (decide (3 < 8))=true from rfl)<|sK [17,17]<|sM (show (bitsOf .and .i64 3 1)=1 from (by decide))<|sC (show (0:Int)≤1∧1 < ((2:Nat):Int) from (by decide))<|sC (show (0:Int)≤1 from (by decide))<|sM (show (Int.fdiv 3 (2 ^ (min (Int.toNat 1) (IntKind.bits .i64))))=1 from (by decide))<|sM (show (bitsOf .and .i64 1 1)=1 from (by decide))<|sC (show (0:Int)≤1∧1 < ((2:Nat):Int) from (by decide))<|sC (show (0:Int)≤2 from (by decide))<|sM (show (Int.fdiv 3 (2 ^ (min (Int.toNat 2) (IntKind.bits .i64))))=0 from (by decide))<|sC (show (0:Int)≤0∧0 < ((2:Nat):Int) from (by decide))<|sC (show ((([[.f .f32 0, .f .f32 0, .f .f32 0]]:List (List AV)) ++ ([[.f .f32 Y0, .f .f32 0, .f .f32 0]]:List (List AV))) ++ ([[.f .f32 0, .f .f32 Y0, .f .f32 0]]:List (List AV))).length + ([[.f .f32 Y0, .f .f32 Y0, .f .f32 0]]:List (List AV)).length≤1073741824 from (by simp))<|sM (show IntKind.wrap .i64 (3 + 1)=4 from rfl)<|sN) (by kernel_rfl)) (sB (show (decide (2 < 8))=true from rfl)<|sK [17,17]<|sM (show (bitsOf .and .i64 2 1)=0 from (by decide))<|sC (show (0:Int)≤0∧0 < ((2:Nat):Int) from (by decide))<|sC (show (0:Int)≤1 from (by decide))<|sM (show (Int.fdiv 2 (2 ^ (min (Int.toNat 1) (IntKind.bits .i64))))=1 from (by decide))<|sM (show (bitsOf .and .i64 1 1)=1 from (by decide))<|sC (show (0:Int)≤1∧1 < ((2:Nat):Int) from (by decide))<|sC (show (0:Int)≤2 from (by decide))<|sM (show (Int.fdiv 2 (2 ^ (min (Int.toNat 2) (IntKind.bits .i64))))=0 from (by decide))<|sC (show (0:Int)≤0∧0 < ((2:Nat):Int) from (by decide))<|sC (show (([[.f .f32 0, .f .f32 0, .f .f32 0]]:List (List AV)) ++ ([[.f .f32 Y0, .f .f32 0, .f .f32 0]]:List (List AV))).length + ([[.f .f32 0, .f .f32 Y0, .f .f32 0]]:List (List AV)).length≤1073741824 from (by simp))<|sM (show IntKind.wrap .i64 (2 + 1)=3 from rfl)<|sN) (by kernel_rfl)) (sB (show (decide (1 < 8))=true from rfl)<|sK [17,17]<|sM (show (bitsOf .and .i64 1 1)=1 from (by decide))<|sC (show (0:Int)≤1∧1 < ((2:Nat):Int) from (by decide))<|sC (show (0:Int)≤1 from (by decide))<|sM (show (Int.fdiv 1 (2 ^ (min (Int.toNat 1) (IntKind.bits .i64))))=0 from (by decide))<|sM (show (bitsOf .and .i64 0 1)=0 from (by decide))<|sC (show (0:Int)≤0∧0 < ((2:Nat):Int) from (by decide))<|sC (show (0:Int)≤2 from (by decide))<|sM (show (Int.fdiv 1 (2 ^ (min (Int.toNat 2) (IntKind.bits .i64))))=0 from (by decide))<|sC (show (0:Int)≤0∧0 < ((2:Nat):Int) from (by decide))<|sC (show ([[.f .f32 0, .f .f32 0, .f .f32 0]]:List (List AV)).length + ([[.f .f32 Y0, .f .f32 0, .f .f32 0]]:List (List AV)).length≤1073741824 from (by simp))<|sM (show IntKind.wrap .i64 (1 + 1)=2 from rfl)<|sN) (by kernel_rfl)) (sB (show (decide (0 < 8))=true from rfl)<|sK [17,17]<|sM (show (bitsOf .and .i64 0 1)=0 from (by decide))<|sC (show (0:Int)≤0∧0 < ((2:Nat):Int) from (by decide))<|sC (show (0:Int)≤1 from (by decide))<|sM (show (Int.fdiv 0 (2 ^ (min (Int.toNat 1) (IntKind.bits .i64))))=0 from (by decide))<|sM (show (bitsOf .and .i64 0 1)=0 from (by decide))<|sC (show (0:Int)≤0∧0 < ((2:Nat):Int) from (by decide))<|sC (show (0:Int)≤2 from (by decide))<|sM (show (Int.fdiv 0 (2 ^ (min (Int.toNat 2) (IntKind.bits .i64))))=0 from (by decide))<|sC (show (0:Int)≤0∧0 < ((2:Nat):Int) from (by decide))<|sC (show ([[.f .f32 0, .f .f32 0, .f .f32 0]]:List (List AV))≠[] from (by simp))<|sC (show ([[.f .f32 0, .f .f32 0, .f .f32 0]]:List (List AV)).length≤1073741824 from (by simp))<|sM (show IntKind.wrap .i64 (0 + 1)=1 from rfl)<|sN) (by kernel_rfl))<|sF (Fn.castA (args':=[.sl ([[.i .i64 0],[.i .i64 2],[.i .i64 3],[.i .i64 0],[.i .i64 3],[.i .i64 1],[.i .i64 4],[.i .i64 5],[.i .i64 7],[.i .i64 4],[.i .i64 7],[.i .i64 6],[.i .i64 0],[.i .i64 1],[.i .i64 5],[.i .i64 0],[.i .i64 5],[.i .i64 4],[.i .i64 2],[.i .i64 6],[.i .i64 7],[.i .i64 2],[.i .i64 7],[.i .i64 3],[.i .i64 0],[.i .i64 4],[.i .i64 6],[.i .i64 0],[.i .i64 6],[.i .i64 2],[.i .i64 1],[.i .i64 3],[.i .i64 7],[.i .i64 1],[.i .i64 7],[.i .i64 5]]:List (List AV))]) (Z4S ([0,2,3,0,3,1,4,5,7,4,7,6,0,1,5,0,5,4,2,6,7,2,7,3,0,4,6,0,6,2,1,3,7,1,7,5]) y7 y8) (by simp [cI];done))<|sK [3,5] sN)) rfl (by kernel_rfl) (by kernel_rfl) rfl ?_ ?_
  · simp only [Zd,h0,cond_true]
  · simp [Zd,h0,Gv.c]
 | false =>
  refine fnS E0Ok Zc (c:=X5 f26) [(.row 0 0, .vec 32 3 [] false),(.row 0 1, .nest 60 [] false)] (.tup [.agg [.own 0, .own 1], .b false]) [.vec 32 3 [] false, .nest 60 [] false] func26 (p (sB' h0<|sK [1,2] sN)) rfl (by kernel_rfl) (by kernel_rfl) rfl ?_ ?_
  · simp only [Zd,h0,cond_false]
  · simp [Zd,h0,Gv.c,cL,cI]
def Z1l (Ys:Nat) (Yg:Nat):Nat × Bool:=(cond (ZE Ys)
  (cond (Zn Yg)
    ((fop .quo .f32 Ys Yg),true)
    (0,false))
  (0,false))
theorem Z2y (Ys:Nat) (Yg:Nat)   : Fn prog 27 [.f .f32 Ys, .f .f32 Yg] (.tup [.f .f32 ((Z1l Ys Yg).1), .b ((Z1l Ys Yg).2)]) []:=by
 have p {a C} (s:Scr a C):=sF (Z2t Ys)<|s
 cases h0:(ZE Ys) with
 | true =>
  have q {a C} (s:Scr a C):=p (sB' h0<|sB' h0<|sF (Z2J Yg)<|sB' h0<|sB' h0<|s)
  clear p
  cases h1:(Zn Yg) with
  | true =>
   refine fnS E0Ok Zc (c:=X5 f27) [] (.tup [.f .f32 (fop .quo .f32 Ys Yg), .b true]) [] func27 (q (sB' h1<|sK [] sN)) rfl (by kernel_rfl) (by kernel_rfl) rfl ?_ ?_
   · simp only [Z1l,h0,h1,cond_true]
   · rfl
  | false =>
   refine fnS E0Ok Zc (c:=X5 f27) [] (.tup [.f .f32 0, .b false]) [] func27 (q (sB' h1<|sK [] sN)) rfl (by kernel_rfl) (by kernel_rfl) rfl ?_ ?_
   · simp only [Z1l,h0,h1,cond_true,cond_false]
   · rfl
 | false =>
  refine fnS E0Ok Zc (c:=X5 f27) [] (.tup [.f .f32 0, .b false]) [] func27 (p (sB' h0<|sB' h0<|sB' h0<|sB' h0<|sB (show true=true from rfl)<|sK [] sN)) rfl (by kernel_rfl) (by kernel_rfl) rfl ?_ ?_
  · simp only [Z1l,h0,cond_false]
  · rfl
def Z8 (Ys:Nat) (Yg:Nat):Nat × Bool:=(cond (ZE Ys)
  (cond (Zn Yg)
    ((fneg .f32 (fop .mul .f32 Ys (Zl Yg))),true)
    (0,false))
  (0,false))
theorem Z2H (Ys:Nat) (Yg:Nat)   : Fn prog 28 [.f .f32 Ys, .f .f32 Yg] (.tup [.f .f32 ((Z8 Ys Yg).1), .b ((Z8 Ys Yg).2)]) []:=by
 have p {a C} (s:Scr a C):=sF (Z2t Ys)<|s
 cases h0:(ZE Ys) with
 | true =>
  have q {a C} (s:Scr a C):=p (sB' h0<|sB' h0<|sF (Z2J Yg)<|sB' h0<|sB' h0<|s)
  clear p
  cases h1:(Zn Yg) with
  | true =>
   refine fnS E0Ok Zc (c:=X5 f28) [] (.tup [.f .f32 (fneg .f32 (fop .mul .f32 Ys (Zl Yg))), .b true]) [] func28 (q (sB' h1<|sF (Z4t Yg)<|sK [] sN)) rfl (by kernel_rfl) (by kernel_rfl) rfl ?_ ?_
   · simp only [Z8,h0,h1,cond_true]
   · rfl
  | false =>
   refine fnS E0Ok Zc (c:=X5 f28) [] (.tup [.f .f32 0, .b false]) [] func28 (q (sB' h1<|sK [] sN)) rfl (by kernel_rfl) (by kernel_rfl) rfl ?_ ?_
   · simp only [Z8,h0,h1,cond_true,cond_false]
   · rfl
 | false =>
  refine fnS E0Ok Zc (c:=X5 f28) [] (.tup [.f .f32 0, .b false]) [] func28 (p (sB' h0<|sB' h0<|sB' h0<|sB' h0<|sB (show true=true from rfl)<|sK [] sN)) rfl (by kernel_rfl) (by kernel_rfl) rfl ?_ ?_
  · simp only [Z8,h0,cond_false]
  · rfl
def gmB:Gm:=⟨[⟨0,0,0⟩,⟨1073741824,0,0⟩,⟨0,1073741824,0⟩,⟨1073741824,1073741824,0⟩,⟨0,0,1073741824⟩,⟨1073741824,0,1073741824⟩,⟨0,1073741824,1073741824⟩,⟨1073741824,1073741824,1073741824⟩],[[0,2,3],[0,3,1],[4,5,7],[4,7,6],[0,1,5],[0,5,4],[2,6,7],[2,7,3],[0,4,6],[0,6,2],[1,3,7],[1,7,5]]⟩
def gm0:Gm:=⟨[⟨1073741824,0,0⟩,⟨3221225472,0,0⟩,⟨0,1073741824,0⟩,⟨0,3221225472,0⟩,⟨0,0,1073741824⟩,⟨0,0,3221225472⟩],[[0,2,4],[2,1,4],[1,3,4],[3,0,4],[2,0,5],[1,2,5],[3,1,5],[0,3,5]]⟩
def gm1:Gm:=⟨[⟨1073741824,0,0⟩,⟨3221225472,0,0⟩,⟨0,1073741824,0⟩,⟨0,3221225472,0⟩,⟨0,0,1073741824⟩,⟨0,0,3221225472⟩,⟨1068827891,1068827891,0⟩,⟨1068827891,3216311539,0⟩,⟨1068827891,0,1068827891⟩,⟨1068827891,0,3216311539⟩,⟨3216311539,1068827891,0⟩,⟨3216311539,3216311539,0⟩,⟨3216311539,0,1068827891⟩,⟨3216311539,0,3216311539⟩,⟨0,1068827891,1068827891⟩,⟨0,1068827891,3216311539⟩,⟨0,3216311539,1068827891⟩,⟨0,3216311539,3216311539⟩],[[0,6,8],[6,2,14],[8,14,4],[6,14,8],[2,10,14],[10,1,12],[14,12,4],[10,12,14],[1,11,12],[11,3,16],[12,16,4],[11,16,12],[3,7,16],[7,0,8],[16,8,4],[7,8,16],[2,6,15],[6,0,9],[15,9,5],[6,9,15],[1,10,13],[10,2,15],[13,15,5],[10,15,13],[3,11,17],[11,1,13],[17,13,5],[11,13,17],[0,7,9],[7,3,17],[9,17,5],[7,17,9]]⟩
theorem Z81:Zb 2=gmB:=by kernel_rfl
theorem Z82:Zb 3=gm0:=by kernel_rfl
theorem Z83:Zb 4=gm1:=by kernel_rfl
theorem Z5T {c:List Int} (hc:OkB c):2≤IntKind.wrap .i64 (2 + Z6 c 0 3)∧IntKind.wrap .i64 (2 + Z6 c 0 3)≤4:=by
  have q:=Z5l (k:=0) (n:=3) hc (by omega) (by omega)
  rw [XO (by omega) (by omega)];omega
theorem Z4T {k:Int} (h2:2≤k) (h4:k≤4):Zb k=gmB∨Zb k=gm0∨Zb k=gm1:=by
  have:k=2∨k=3∨k=4:=by omega
  rcases this with rfl | rfl | rfl
  · exact .inl Z81
  · exact .inr (.inl Z82)
  · exact .inr (.inr Z83)
theorem r8F {k:Int} (h2:2≤k) (h4:k≤4):6≤(Zb k).Pq.length∧(Zb k).Pq.length≤18∧(Zb k).Tr.length≤32∧∀ t∈(Zb k).Tr,t.length≤1073741824:=by
  rcases Z4T h2 h4 with e | e | e<;>rw [e]<;>decide +kernel
theorem Z5i (c:List Int) (m:Gm):(Zf c m).Pq.length=m.Pq.length:=Z4l c m
theorem Z6b (c:List Int) (m:Gm):(Zf c m).Tr=m.Tr:=rfl
theorem gasK (a:List Int) {c:List Int} (hc:OkB c):6≤(Zf a (Zb (IntKind.wrap .i64 (2 + Z6 c 0 3)))).Pq.length∧(Zf a (Zb (IntKind.wrap .i64 (2 + Z6 c 0 3)))).Pq.length≤18∧(Zf a (Zb (IntKind.wrap .i64 (2 + Z6 c 0 3)))).Tr.length≤32∧(∀ t∈(Zf a (Zb (IntKind.wrap .i64 (2 + Z6 c 0 3)))).Tr,t.length≤1073741824)
    ∧ 6≤(Zb (IntKind.wrap .i64 (2 + Z6 c 0 3))).Pq.length∧(Zb (IntKind.wrap .i64 (2 + Z6 c 0 3))).Pq.length≤18∧(Zb (IntKind.wrap .i64 (2 + Z6 c 0 3))).Tr.length≤32∧∀ t∈(Zb (IntKind.wrap .i64 (2 + Z6 c 0 3))).Tr,t.length≤1073741824:=by
  have q:=Z5T hc
  have f:=r8F q.1 q.2
  rw [Z5i,Z6b]
  exact ⟨f.1,f.2.1,f.2.2.1,f.2.2.2,f⟩
theorem gasP (a:List Int) {c:List Int} (hc:OkB c):0≤Z6 c 1 ((Zf a (Zb (IntKind.wrap .i64 (2 + Z6 c 0 3)))).Pq.length:Int)∧Z6 c 1 ((Zf a (Zb (IntKind.wrap .i64 (2 + Z6 c 0 3)))).Pq.length:Int) < ((Zf a (Zb (IntKind.wrap .i64 (2 + Z6 c 0 3)))).Pq.length:Int):=by
  have f:=gasK a hc
  exact Z5l hc (by omega) (by omega)
theorem Z8C (a:List Int) {c:List Int} (hc:OkB c) (w:Nat):(Zh (Zf a (Zb (IntKind.wrap .i64 (2 + Z6 c 0 3)))) w).1.Pq.length≤1073741824∧(Zh (Zf a (Zb (IntKind.wrap .i64 (2 + Z6 c 0 3)))) w).1.Tr.length≤1073741824∧∀ t∈(Zh (Zf a (Zb (IntKind.wrap .i64 (2 + Z6 c 0 3)))) w).1.Tr,t.length≤1073741824:=by
  obtain ⟨q1,q2,q3,q4,_⟩:=gasK a hc
  have h1:=Z3T (Zf a (Zb (IntKind.wrap .i64 (2 + Z6 c 0 3)))) w
  have h2:=Z3U (Zf a (Zb (IntKind.wrap .i64 (2 + Z6 c 0 3)))) w
  exact ⟨by omega,by omega,fun t ht=>q4 t (Z57 _ w t ht)⟩
theorem boxT:Z1S ([0,2,3,0,3,1,4,5,7,4,7,6,0,1,5,0,5,4,2,6,7,2,7,3,0,4,6,0,6,2,1,3,7,1,7,5])=gmB.Tr:=by kernel_rfl
theorem Z8D:gmB.Tr.length≤1073741824∧∀ t∈gmB.Tr,t.length≤1073741824:=by decide
theorem vbox (s:Nat):(Zd s).1.Pq.length≤1073741824∧(Zd s).1.Tr.length≤1073741824∧∀ t∈(Zd s).1.Tr,t.length≤1073741824:=by
  unfold Zd
  cases Zn s with
  | true =>
    rw [cond_true,boxT]
    exact ⟨by show 8≤1073741824;omega,Z8D⟩
  | false =>
    rw [cond_false]
    exact ⟨by decide,by decide,by decide⟩
def szw (n:Nat):Nat:=fop .quo .f32 (X4 .f32 (n:Int)) 1082130432
def wtw (n:Nat):Nat:=fop .quo .f32 (X4 .f32 (n:Int)) 1073741824
def SZ (c:List Int):Nat:=fop .quo .f32 (X4 .f32 (IntKind.wrap .i64 (1 + (Z6 c 2 12)))) 1082130432
def WT (c:List Int):Nat:=fop .quo .f32 (X4 .f32 (IntKind.wrap .i64 (1 + (Z6 c 1 16)))) 1073741824
theorem Z7o {c:List Int} (hc:OkB c):∃ n,n < 12∧SZ c=szw (n + 1):=by
  have q:=Z5l (k:=2) (n:=12) hc (by omega) (by omega)
  refine ⟨(Z6 c 2 12).toNat,by omega,?_⟩
  unfold SZ szw
  rw [XO (by omega) (by omega),show (((Z6 c 2 12).toNat + 1:Nat):Int)=1 + Z6 c 2 12 from by omega]
theorem Z6U {c:List Int} (hc:OkB c):∃ n,n < 16∧WT c=wtw (n + 1):=by
  have q:=Z5l (k:=1) (n:=16) hc (by omega) (by omega)
  refine ⟨(Z6 c 1 16).toNat,by omega,?_⟩
  unfold WT wtw
  rw [XO (by omega) (by omega),show (((Z6 c 1 16).toNat + 1:Nat):Int)=1 + Z6 c 1 16 from by omega]
def bx3 (s:Nat):Bool:=fcmp .lss .f64 (Z1F (fcv .f32 .f64 ((Zg ((Zd s).1)).1)) (fop .mul .f64 (fop .mul .f64 (fcv .f32 .f64 s) (fcv .f32 .f64 s)) (fcv .f32 .f64 s))) (fop .mul .f64 4562254508917369340 (fop .add .f64 4607182418800017408 (fcv .f32 .f64 ((Zg ((Zd s).1)).1))))
theorem Z7z:((List.range 12).all fun n=>(Zd (szw (n + 1))).2 && ((Zg ((Zd (szw (n + 1))).1)).2 && bx3 (szw (n + 1))))=true:=by decide +kernel
theorem Z7A:((List.range 16).all fun w=>(List.range 12).all fun n=>(Z1l (wtw (w + 1)) (szw (n + 1))).2 && fcmp .eql .f32 (Z1l (wtw (w + 1)) (szw (n + 1))).1 (fop .quo .f32 (wtw (w + 1)) (szw (n + 1))))=true:=by decide +kernel
theorem Z7B:Zl 1065353216=0:=by decide +kernel
theorem Z84:((List.range 16).all fun w=>ZE (wtw (w + 1)) && (Zn 1065353216 && (Zn (wtw (w + 1)) && fcmp .lss .f64 (Z1F (fcv .f32 .f64 (fneg .f32 (fop .mul .f32 (wtw (w + 1)) 0))) 0) 4547007122018943789)))=true:=by decide +kernel
theorem kb {c:List Int} (hc:OkB c):(Zd (SZ c)).2=true∧(Zg ((Zd (SZ c)).1)).2=true∧bx3 (SZ c)=true:=by
  obtain ⟨n,hn,e⟩:=Z7o hc
  have h:=List.all_eq_true.1 Z7z n (List.mem_range.2 hn)
  simp only [Bool.and_eq_true] at h
  rw [e];exact h
theorem kp {c:List Int} (hc:OkB c):(Z1l (WT c) (SZ c)).2=true∧fcmp .eql .f32 (Z1l (WT c) (SZ c)).1 (fop .quo .f32 (WT c) (SZ c))=true:=by
  obtain ⟨n,hn,e⟩:=Z7o hc
  obtain ⟨w,hw,e2⟩:=Z6U hc
  have h:=List.all_eq_true.1 (List.all_eq_true.1 Z7A w (List.mem_range.2 hw)) n (List.mem_range.2 hn)
  simp only [Bool.and_eq_true] at h
  rw [e,e2];exact h
theorem ke {c:List Int} (hc:OkB c):(Z8 (WT c) 1065353216).2=true∧fcmp .lss .f64 (Z1F (fcv .f32 .f64 ((Z8 (WT c) 1065353216).1)) 0) 4547007122018943789=true:=by
  obtain ⟨w,hw,e⟩:=Z6U hc
  have h:=List.all_eq_true.1 Z84 w (List.mem_range.2 hw)
  simp only [Bool.and_eq_true] at h
  have e1:Z8 (WT c) 1065353216=(fneg .f32 (fop .mul .f32 (WT c) 0),true):=by
    unfold Z8
    rw [e,h.1,cond_true,h.2.1,cond_true,Z7B]
  rw [e1,e];exact ⟨rfl,h.2.2.2⟩
theorem Z40 {m m':Gm} (h:m.Pq.length=m'.Pq.length) (h2:m.Tr=m'.Tr):Zm m=Zm m':=by
  rw [Z5G,Z5G,h,h2]
theorem Z2O:Zm gmB=true∧Zm gm0=true∧Zm gm1=true:=by decide +kernel
theorem Z5j (a:List Int) {c:List Int} (hc:OkB c):Zm (Zf a (Zb (IntKind.wrap .i64 (2 + Z6 c 0 3))))=true:=by
  have q:=Z5T hc
  rw [Z40 (m':=Zb (IntKind.wrap .i64 (2 + Z6 c 0 3))) (Z5i _ _) (Z6b _ _)]
  rcases Z4T q.1 q.2 with e | e | e<;>rw [e]
  · exact Z2O.1
  · exact Z2O.2.1
  · exact Z2O.2.2
theorem kv (a:List Int) {c:List Int} (hc:OkB c):(Zg (Zf a (Zb (IntKind.wrap .i64 (2 + Z6 c 0 3))))).2=true:=by
  unfold Zg;rw [Z5j a hc];rfl
theorem kc (a:List Int) {c:List Int} (hc:OkB c):(Zj (Zf a (Zb (IntKind.wrap .i64 (2 + Z6 c 0 3))))).2=true:=by
  have f:=gasK a hc
  unfold Zj
  rw [Z5j a hc,cond_true,show (((Zf a (Zb (IntKind.wrap .i64 (2 + Z6 c 0 3)))).Pq.length:Int) == 0)=false from by rw [beq_eq_false_iff_ne];omega]
  rfl
theorem Z7C (m:Gm) (c:Gv) (s:Nat):∀ (k:Nat) (i:Int) (r:List Gv),0≤i→r.length=m.Pq.length→((m.Pq.length:Int) - i).toNat < k →
    ∀ j:Nat,(Zk m c s k i r)[j]? = if (j:Int) < i then r[j]? else (r[j]?).map fun v=>ZG v c s:=by
  intro k
  induction k with
  | zero=>intro i r _ _ hk;exact absurd hk (Nat.not_lt_zero _)
  | succ k ih =>
    intro i r h0 hr hk j
    rw [Zk]
    by_cases hi:i < (m.Pq.length:Int)
    · rw [decide_eq_true hi,cond_true,ih (i + 1) _ (by omega) (by rw [List.length_set];exact hr) (by omega)]
      by_cases h1:j=i.toNat
      · subst h1
        rw [if_pos (by omega),if_neg (by omega),List.getElem?_set_self (by omega),List.getD_eq_getElem?_getD,List.getElem?_eq_getElem (show i.toNat < r.length by omega)]
        rfl
      · rw [List.getElem?_set_ne (fun h=>h1 h.symm)]
        by_cases h2:(j:Int) < i
        · rw [if_pos (by omega),if_pos h2]
        · rw [if_neg (by omega),if_neg h2]
    · rw [decide_eq_false hi,cond_false]
      by_cases h2:(j:Int) < i
      · rw [if_pos h2]
      · rw [if_neg h2,List.getElem?_eq_none (by omega)];rfl
theorem Z85 (m:Gm) (c:Gv) (s:Nat):ZM m c s=m.Pq.map fun v=>ZG v c s:=by
  apply List.ext_getElem?
  intro j
  unfold ZM
  rw [Z7C m c s _ 0 m.Pq (Int.le_refl 0) rfl (by omega) j,if_neg (by omega),List.getElem?_map]
def scN (m:Gm) (w:Nat):Nat:=ZW (fop .quo .f32 (Zl (fop .quo .f32 w (Zp m))) 1077936128)
theorem Z6I (m:Gm) (w:Nat) (hv:Zm m=true):Zh m w=cond (Zj m).2 (cond (Zn w) (cond (Zn (Zp m)) (cond (ZE (scN m w)) (⟨m.Pq.map fun v=>ZG v (Zj m).1 (scN m w),m.Tr⟩,true) (⟨[],[]⟩,false)) (⟨[],[]⟩,false)) (⟨[],[]⟩,false)) (⟨[],[]⟩,false):=by
  unfold Zh Z1c Zs
  rw [hv,cond_true,Z85]
  rfl
theorem Z6p {m:Gm} {w:Nat} (hv:Zm m=true) (h:(Zh m w).2=true):(Zh m w).1=⟨m.Pq.map fun v=>ZG v (Zj m).1 (scN m w),m.Tr⟩:=by
  rw [Z6I m w hv] at h ⊢
  revert h
  cases (Zj m).2<;>cases Zn w<;>cases Zn (Zp m)<;>cases ZE (scN m w)<;>intro h<;>first | rfl | cases h
theorem Z4n {m:Gm} {w:Nat} (hv:Zm m=true) (h:(Zh m w).2=true):Zm (Zh m w).1=true∧(Zh m w).1.Pq.length=m.Pq.length:=by
  have e:=Z6p hv h
  have h1:(Zh m w).1.Pq.length=m.Pq.length:=by rw [e];exact List.length_map _
  have h2:(Zh m w).1.Tr=m.Tr:=by rw [e]
  exact ⟨by rw [Z40 h1 h2];exact hv,h1⟩
theorem kkv (a:List Int) {c:List Int} (hc:OkB c) {w:Nat} (h:(Zh (Zf a (Zb (IntKind.wrap .i64 (2 + Z6 c 0 3)))) w).2=true):(Zg (Zh (Zf a (Zb (IntKind.wrap .i64 (2 + Z6 c 0 3)))) w).1).2=true:=by
  unfold Zg
  rw [(Z4n (Z5j a hc) h).1];rfl
theorem kkc (a:List Int) {c:List Int} (hc:OkB c) {w:Nat} (h:(Zh (Zf a (Zb (IntKind.wrap .i64 (2 + Z6 c 0 3)))) w).2=true):(Zj (Zh (Zf a (Zb (IntKind.wrap .i64 (2 + Z6 c 0 3)))) w).1).2=true:=by
  have f:=gasK a hc
  have k:=Z4n (Z5j a hc) h
  unfold Zj
  rw [k.1,cond_true,k.2,show (((Zf a (Zb (IntKind.wrap .i64 (2 + Z6 c 0 3)))).Pq.length:Int) == 0)=false from by rw [beq_eq_false_iff_ne];omega]
  rfl
def Zi (Ya:(List Int)) (Y5:(List Int)):Gm × Bool:=(Zh (Zf Ya (Zb (IntKind.wrap .i64 (2 + (Z6 Y5 0 3))))) (fop .quo .f32 (X4 .f32 (IntKind.wrap .i64 (1 + (Z6 Y5 1 16)))) 1073741824))
def Z2m (Ya:(List Int)) (Y5:(List Int)):Bool:=(!((Zi Ya Y5).2 == (fcmp .gtr .f32 ((Zg (Zf Ya (Zb (IntKind.wrap .i64 (2 + (Z6 Y5 0 3)))))).1) 0)))
def Z2n (Ya:(List Int)) (Y5:(List Int)):Bool:=(fcmp .gtr .f64 (fcv .f32 .f64 ((Zg (Zf Ya (Zb (IntKind.wrap .i64 (2 + (Z6 Y5 0 3)))))).1)) 4602678819172646912)
def Z3V (Ya:(List Int)) (Y5:(List Int)):Nat:=(Z1F (fcv .f32 .f64 ((Zg ((Zi Ya Y5).1)).1)) (fcv .f32 .f64 (fop .quo .f32 (X4 .f32 (IntKind.wrap .i64 (1 + (Z6 Y5 1 16)))) 1073741824)))
def Z2o (Ya:(List Int)) (Y5:(List Int)):Bool:=(fcmp .gtr .f64 (Z3V Ya Y5) (fop .mul .f64 4576918229304087675 (fcv .f32 .f64 (fop .quo .f32 (X4 .f32 (IntKind.wrap .i64 (1 + (Z6 Y5 1 16)))) 1073741824))))
def Z1C (Ya:(List Int)) (Y5:(List Int)):Nat:=(Z2h ((Zj (Zf Ya (Zb (IntKind.wrap .i64 (2 + (Z6 Y5 0 3)))))).1) ((Zj ((Zi Ya Y5).1)).1))
def Zo (Y5:(List Int)):Nat × Bool:=(Z1l (fop .quo .f32 (X4 .f32 (IntKind.wrap .i64 (1 + (Z6 Y5 1 16)))) 1073741824) (fop .quo .f32 (X4 .f32 (IntKind.wrap .i64 (1 + (Z6 Y5 2 12)))) 1082130432))
def Z1H (Y5:(List Int)):Nat:=(fop .mul .f64 (fcv .f32 .f64 (fop .quo .f32 (X4 .f32 (IntKind.wrap .i64 (1 + (Z6 Y5 2 12)))) 1082130432)) (fcv .f32 .f64 (fop .quo .f32 (X4 .f32 (IntKind.wrap .i64 (1 + (Z6 Y5 2 12)))) 1082130432)))
def Zq (Y5:(List Int)):Nat:=(Z1F (fcv .f32 .f64 ((Zg ((Zd (fop .quo .f32 (X4 .f32 (IntKind.wrap .i64 (1 + (Z6 Y5 2 12)))) 1082130432)).1)).1)) (fop .mul .f64 (Z1H Y5) (fcv .f32 .f64 (fop .quo .f32 (X4 .f32 (IntKind.wrap .i64 (1 + (Z6 Y5 2 12)))) 1082130432))))
def Zr (Y5:(List Int)):Nat:=(fop .add .f64 4607182418800017408 (fcv .f32 .f64 ((Zg ((Zd (fop .quo .f32 (X4 .f32 (IntKind.wrap .i64 (1 + (Z6 Y5 2 12)))) 1082130432)).1)).1)))
def Zw (Y5:(List Int)):Nat:=(fop .quo .f32 (fop .quo .f32 (X4 .f32 (IntKind.wrap .i64 (1 + (Z6 Y5 1 16)))) 1073741824) (fop .quo .f32 (X4 .f32 (IntKind.wrap .i64 (1 + (Z6 Y5 2 12)))) 1082130432))
def Z15 (Y5:(List Int)):Bool:=(fcmp .lss .f64 (Z1F (fcv .f32 .f64 ((Z8 (fop .quo .f32 (X4 .f32 (IntKind.wrap .i64 (1 + (Z6 Y5 1 16)))) 1073741824) 1065353216).1)) 0) 4547007122018943789)
def Z1i (Ya:(List Int)) (Y5:(List Int)):Bool:=(cond (Z1U Ya Y5)
  true
  (cond (Z2m Ya Y5)
    false
    (cond (Zi Ya Y5).2
      (cond (Z2n Ya Y5)
        (cond (Z2o Ya Y5)
          false
          (cond (fcmp .gtr .f64 (Z1C Ya Y5) 4576918229304087675)
            false
            (Z15 Y5)))
        (cond (fcmp .gtr .f64 (Z1C Ya Y5) 4576918229304087675)
          (Z15 Y5)
          (Z15 Y5)))
      (Z15 Y5))))
theorem vk1 {Y5:List Int} (h:OkB Y5):(Zd (fop .quo .f32 (X4 .f32 (IntKind.wrap .i64 (1 + (Z6 Y5 2 12)))) 1082130432)).2=true:=(kb h).1
theorem vk2 {Y5:List Int} (h:OkB Y5):(Zg ((Zd (fop .quo .f32 (X4 .f32 (IntKind.wrap .i64 (1 + (Z6 Y5 2 12)))) 1082130432)).1)).2=true:=(kb h).2.1
theorem vk3 {Y5:List Int} (h:OkB Y5):(Zo Y5).2=true:=(kp h).1
theorem vk4 {Y5:List Int} (h:OkB Y5):(Z8 (fop .quo .f32 (X4 .f32 (IntKind.wrap .i64 (1 + (Z6 Y5 1 16)))) 1073741824) 1065353216).2=true:=(ke h).1
theorem vk5 {Y5:List Int} (h:OkB Y5):(fcmp .lss .f64 (Zq Y5) (fop .mul .f64 4562254508917369340 (Zr Y5)))=true:=by
  have q:=(kb h).2.2
  unfold bx3 SZ at q
  unfold Zq Zr Z1H
  exact q
theorem vk6 {Y5:List Int} (h:OkB Y5):(fcmp .eql .f32 ((Zo Y5).1) (Zw Y5))=true:=by
  have q:=(kp h).2
  unfold WT SZ at q
  unfold Zo Zw
  exact q
theorem vk7 {Y5:List Int} (Ya:List Int) (h:OkB Y5):(Zg (Zf Ya (Zb (IntKind.wrap .i64 (2 + (Z6 Y5 0 3)))))).2=true:=kv Ya h
theorem vk8 {Y5:List Int} (Ya:List Int) (h:OkB Y5):(Zj (Zf Ya (Zb (IntKind.wrap .i64 (2 + (Z6 Y5 0 3)))))).2=true:=kc Ya h
theorem vk9 {Y5:List Int} (Ya:List Int) (h:OkB Y5) (h2:(Zi Ya Y5).2=true):(Zg ((Zi Ya Y5).1)).2=true:=kkv Ya h h2
theorem vk10 {Y5:List Int} (Ya:List Int) (h:OkB Y5) (h2:(Zi Ya Y5).2=true):(Zj ((Zi Ya Y5).1)).2=true:=kkc Ya h h2
theorem vk11 {Y5:List Int} (Ya:List Int) (h:OkB Y5):(Zi Ya Y5).1.Pq.length≤1073741824∧(Zi Ya Y5).1.Tr.length≤1073741824∧∀ t∈(Zi Ya Y5).1.Tr,t.length≤1073741824:=Z8C Ya h _
set_option maxHeartbeats 1000000 in
theorem Z5K (Ya:(List Int)) (Y5:(List Int)) (hp0:Ya.length≤9223372036854775807) (hp1:Y5.length≤9223372036854775807) (hp2:OkB Ya) (hp3:OkB Y5)  : Fn prog 4 [.sl (Ya.map (cI .u8)), .sl (Y5.map (cI .u8))] (.b (Z1i Ya Y5)) []:=by
 have p {a C} (s:Scr a C):=sF (Z6d Ya Y5 hp0 hp1)<|s
 cases h0:(Z1U Ya Y5) with
 | true =>
  refine fnS E0Ok Zc (c:=X5 f4) [] (.b true) [] func4 (p (sB h0<|sK [] sN)) rfl (by kernel_rfl) (by kernel_rfl) rfl ?_ ?_
  · simp only [Z1i,h0,cond_true]
  · rfl
 | false =>
  have y0:Y5.length≤1073741824:=by clear p;exact (by have q:=Z6a h0;omega)
  have y1:(0:Int)≤0:=by clear p;exact (by omega)
  have y2:(2:Int)≤(IntKind.wrap .i64 (2 + (Z6 Y5 0 3))):=by clear p;exact (by exact (Z5T hp3).1)
  have y3:(IntKind.wrap .i64 (2 + (Z6 Y5 0 3)))≤4:=by clear p;exact (by exact (Z5T hp3).2)
  have y4:Ya.length≤1073741824:=by clear p;exact (by have q:=Z6a h0;omega)
  have y5:(Zb (IntKind.wrap .i64 (2 + (Z6 Y5 0 3)))).Pq.length≤1073741824:=by clear p;exact (by obtain ⟨q1,q2,q3,_,q5,q6,q7,_⟩:=gasK Ya hp3;omega)
  have y6:(Zb (IntKind.wrap .i64 (2 + (Z6 Y5 0 3)))).Tr.length≤1073741824:=by clear p;exact (by obtain ⟨q1,q2,q3,_,q5,q6,q7,_⟩:=gasK Ya hp3;omega)
  have y7:∀ t∈(Zb (IntKind.wrap .i64 (2 + (Z6 Y5 0 3)))).Tr,t.length≤1073741824:=by clear p;exact (by obtain ⟨q1,q2,q3,_,q5,q6,q7,_⟩:=gasK Ya hp3;omega)
  have y8:(0:Int)≤1:=by clear p;exact (by omega)
  have y9:(Zf Ya (Zb (IntKind.wrap .i64 (2 + (Z6 Y5 0 3))))).Pq.length≤1073741824:=by clear p;exact (by obtain ⟨q1,q2,q3,_,q5,q6,q7,_⟩:=gasK Ya hp3;omega)
  have y10:(Zf Ya (Zb (IntKind.wrap .i64 (2 + (Z6 Y5 0 3))))).Tr.length≤1073741824:=by clear p;exact (by obtain ⟨q1,q2,q3,_,q5,q6,q7,_⟩:=gasK Ya hp3;omega)
  have y11:∀ t∈(Zf Ya (Zb (IntKind.wrap .i64 (2 + (Z6 Y5 0 3))))).Tr,t.length≤1073741824:=by clear p;exact (by obtain ⟨q1,q2,q3,_,q5,q6,q7,_⟩:=gasK Ya hp3;omega)
  have l1:=(Z3T (Zf Ya (Zb (IntKind.wrap .i64 (2 + (Z6 Y5 0 3))))) (fop .quo .f32 (X4 .f32 (IntKind.wrap .i64 (1 + (Z6 Y5 1 16)))) 1073741824))
  have l2:=(Z3U (Zf Ya (Zb (IntKind.wrap .i64 (2 + (Z6 Y5 0 3))))) (fop .quo .f32 (X4 .f32 (IntKind.wrap .i64 (1 + (Z6 Y5 1 16)))) 1073741824))
  have q {a C} (s:Scr a C):=p (sB h0<|sF (Z2N Y5 0 3 y0 y1)<|sW .i64 (2 + (Z6 Y5 0 3))<|sF (Z6h (IntKind.wrap .i64 (2 + (Z6 Y5 0 3))) y2 y3)<|sF (Fn.castA (args':=[.sl (Ya.map (cI .u8)), .agg [.sl (((Zb (IntKind.wrap .i64 (2 + (Z6 Y5 0 3)))).Pq).map Gv.c), .sl ((((Zb (IntKind.wrap .i64 (2 + (Z6 Y5 0 3)))).Tr).map fun l=>l.map (cI .i64)).map fun l => [.sl l])]]) (Z60 Ya (Zb (IntKind.wrap .i64 (2 + (Z6 Y5 0 3)))) y4 y5 y6 y7) (by simp [cL,Function.comp_def];done))<|sF (Z2N Y5 1 16 y0 y8)<|sW .i64 (1 + (Z6 Y5 1 16))<|sF (Fn.castA (args':=[.agg [.sl (((Zf Ya (Zb (IntKind.wrap .i64 (2 + (Z6 Y5 0 3))))).Pq).map Gv.c), .sl ((((Zf Ya (Zb (IntKind.wrap .i64 (2 + (Z6 Y5 0 3))))).Tr).map fun l=>l.map (cI .i64)).map fun l => [.sl l])]]) (Z22 (Zf Ya (Zb (IntKind.wrap .i64 (2 + (Z6 Y5 0 3))))) y9 y10 y11) (by simp [cL,Function.comp_def];done))<|sF (Fn.castA (args':=[.agg [.sl (((Zf Ya (Zb (IntKind.wrap .i64 (2 + (Z6 Y5 0 3))))).Pq).map Gv.c), .sl ((((Zf Ya (Zb (IntKind.wrap .i64 (2 + (Z6 Y5 0 3))))).Tr).map fun l=>l.map (cI .i64)).map fun l => [.sl l])], .f .f32 (fop .quo .f32 (X4 .f32 (IntKind.wrap .i64 (1 + (Z6 Y5 1 16)))) 1073741824)]) (Z5x (Zf Ya (Zb (IntKind.wrap .i64 (2 + (Z6 Y5 0 3))))) (fop .quo .f32 (X4 .f32 (IntKind.wrap .i64 (1 + (Z6 Y5 1 16)))) 1073741824) y9 y10 y11) (by simp [cL,Function.comp_def];done))<|sB (show (!(Zg (Zf Ya (Zb (IntKind.wrap .i64 (2 + (Z6 Y5 0 3)))))).2)=false from (congrArg not (vk7 Ya hp3)))<|sB (show (!(Zg (Zf Ya (Zb (IntKind.wrap .i64 (2 + (Z6 Y5 0 3)))))).2)=false from (congrArg not (vk7 Ya hp3)))<|sB (show (!(Zg (Zf Ya (Zb (IntKind.wrap .i64 (2 + (Z6 Y5 0 3)))))).2)=false from (congrArg not (vk7 Ya hp3)))<|sB (show (!(Zg (Zf Ya (Zb (IntKind.wrap .i64 (2 + (Z6 Y5 0 3)))))).2)=false from (congrArg not (vk7 Ya hp3)))<|sB (show (!(Zg (Zf Ya (Zb (IntKind.wrap .i64 (2 + (Z6 Y5 0 3)))))).2)=false from (congrArg not (vk7 Ya hp3)))<|s)
  clear p
  cases h1:(Z2m Ya Y5) with
  | true =>
   refine fnS E0Ok Zc (c:=X5 f4) [] (.b false) [] func4 (q (sB h1<|sK [] sN)) rfl (by kernel_rfl) (by kernel_rfl) rfl ?_ ?_
   · simp only [Z1i,h0,h1,cond_true,cond_false]
   · rfl
  | false =>
   have p {a C} (s:Scr a C):=q (sB h1<|s)
   clear q
   cases h2:(Zi Ya Y5).2 with
   | true =>
    have y12:((Zi Ya Y5).1).Pq.length≤1073741824:=by clear p;exact (by with_reducible exact (vk11 Ya hp3).1)
    have y13:((Zi Ya Y5).1).Tr.length≤1073741824:=by clear p;exact (by with_reducible exact (vk11 Ya hp3).2.1)
    have y14:∀ t∈((Zi Ya Y5).1).Tr,t.length≤1073741824:=by clear p;exact (by with_reducible exact (vk11 Ya hp3).2.2)
    have q {a C} (s:Scr a C):=p (sB h2<|sF (Fn.castA (args':=[.agg [.sl (((Zi Ya Y5).1.Pq).map Gv.c), .sl ((((Zi Ya Y5).1.Tr).map fun l=>l.map (cI .i64)).map fun l => [.sl l])]]) (Z22 ((Zi Ya Y5).1) y12 y13 y14) (by simp [cL,Function.comp_def];done))<|sF (Fn.castA (args':=[.agg [.sl (((Zf Ya (Zb (IntKind.wrap .i64 (2 + (Z6 Y5 0 3))))).Pq).map Gv.c), .sl ((((Zf Ya (Zb (IntKind.wrap .i64 (2 + (Z6 Y5 0 3))))).Tr).map fun l=>l.map (cI .i64)).map fun l => [.sl l])]]) (Z3C (Zf Ya (Zb (IntKind.wrap .i64 (2 + (Z6 Y5 0 3))))) y9 y10 y11) (by simp [cL,Function.comp_def];done))<|sF (Fn.castA (args':=[.agg [.sl (((Zi Ya Y5).1.Pq).map Gv.c), .sl ((((Zi Ya Y5).1.Tr).map fun l=>l.map (cI .i64)).map fun l => [.sl l])]]) (Z3C ((Zi Ya Y5).1) y12 y13 y14) (by simp [cL,Function.comp_def];done))<|sB (show (!(Zg ((Zi Ya Y5).1)).2)=false from (congrArg not (vk9 Ya hp3 h2)))<|sB (show (!(Zg ((Zi Ya Y5).1)).2)=false from (congrArg not (vk9 Ya hp3 h2)))<|sB (show (!(Zg ((Zi Ya Y5).1)).2)=false from (congrArg not (vk9 Ya hp3 h2)))<|sB (show (!(Zj (Zf Ya (Zb (IntKind.wrap .i64 (2 + (Z6 Y5 0 3)))))).2)=false from (congrArg not (vk8 Ya hp3)))<|sB (show (!(Zj (Zf Ya (Zb (IntKind.wrap .i64 (2 + (Z6 Y5 0 3)))))).2)=false from (congrArg not (vk8 Ya hp3)))<|sB (show (!(Zj (Zf Ya (Zb (IntKind.wrap .i64 (2 + (Z6 Y5 0 3)))))).2)=false from (congrArg not (vk8 Ya hp3)))<|sB (show (!(Zj ((Zi Ya Y5).1)).2)=false from (congrArg not (vk10 Ya hp3 h2)))<|sB (show (!(Zj ((Zi Ya Y5).1)).2)=false from (congrArg not (vk10 Ya hp3 h2)))<|sC (Xb ((Zg (Zf Ya (Zb (IntKind.wrap .i64 (2 + (Z6 Y5 0 3)))))).1))<|sB (show (!(Zj ((Zi Ya Y5).1)).2)=false from (congrArg not (vk10 Ya hp3 h2)))<|sB (show (!(Zj ((Zi Ya Y5).1)).2)=false from (congrArg not (vk10 Ya hp3 h2)))<|s)
    clear p
    cases h3:(Z2n Ya Y5) with
    | true =>
     have p {a C} (s:Scr a C):=q (sB h3<|sB h3<|sC (Xb ((Zg ((Zi Ya Y5).1)).1))<|sB h3<|sB h3<|sC (Xb (fop .quo .f32 (X4 .f32 (IntKind.wrap .i64 (1 + (Z6 Y5 1 16)))) 1073741824))<|sB h3<|sF (Z1R (fcv .f32 .f64 ((Zg ((Zi Ya Y5).1)).1)) (fcv .f32 .f64 (fop .quo .f32 (X4 .f32 (IntKind.wrap .i64 (1 + (Z6 Y5 1 16)))) 1073741824)))<|sB h3<|sB h3<|sC (Xb (fop .quo .f32 (X4 .f32 (IntKind.wrap .i64 (1 + (Z6 Y5 1 16)))) 1073741824))<|sB h3<|sB h3<|sB (show (!(Zj ((Zi Ya Y5).1)).2)=false from (congrArg not (vk10 Ya hp3 h2)))<|sB h3<|sB (show (!(Zj ((Zi Ya Y5).1)).2)=false from (congrArg not (vk10 Ya hp3 h2)))<|s)
     clear q
     cases h4:(Z2o Ya Y5) with
     | true =>
      refine fnS E0Ok Zc (c:=X5 f4) [] (.b false) [] func4 (p (sB h4<|sB h4<|sB h4<|sB h4<|sB h4<|sB h4<|sB h4<|sB (show true=true from rfl)<|sK [] sN)) rfl (by kernel_rfl) (by kernel_rfl) rfl ?_ ?_
      · simp only [Z1i,h0,h1,h2,h3,h4,cond_true,cond_false]
      · rfl
     | false =>
      have q {a C} (s:Scr a C):=p (sB h4<|sB h4<|sB h4<|sF (Z4F ((Zj (Zf Ya (Zb (IntKind.wrap .i64 (2 + (Z6 Y5 0 3)))))).1) ((Zj ((Zi Ya Y5).1)).1))<|sB h4<|sB h4<|s)
      clear p
      cases h5:(fcmp .gtr .f64 (Z1C Ya Y5) 4576918229304087675) with
      | true =>
       refine fnS E0Ok Zc (c:=X5 f4) [] (.b false) [] func4 (q (sB h5<|sB h5<|sC (Xb ((Zg (Zf Ya (Zb (IntKind.wrap .i64 (2 + (Z6 Y5 0 3)))))).1))<|sB h5<|sB h4<|sB h5<|sB h4<|sB h3<|sK [] sN)) rfl (by kernel_rfl) (by kernel_rfl) rfl ?_ ?_
       · simp only [Z1i,h0,h1,h2,h3,h4,h5,cond_true,cond_false]
       · rfl
      | false =>
       have y15:(0:Int)≤2:=by clear q;exact (by omega)
       have y16:((Zd (fop .quo .f32 (X4 .f32 (IntKind.wrap .i64 (1 + (Z6 Y5 2 12)))) 1082130432)).1).Pq.length≤1073741824:=by clear q;exact (by with_reducible exact (vbox _).1)
       have y17:((Zd (fop .quo .f32 (X4 .f32 (IntKind.wrap .i64 (1 + (Z6 Y5 2 12)))) 1082130432)).1).Tr.length≤1073741824:=by clear q;exact (by with_reducible exact (vbox _).2.1)
       have y18:∀ t∈((Zd (fop .quo .f32 (X4 .f32 (IntKind.wrap .i64 (1 + (Z6 Y5 2 12)))) 1082130432)).1).Tr,t.length≤1073741824:=by clear q;exact (by with_reducible exact (vbox _).2.2)
       refine fnS E0Ok Zc (c:=X5 f4) [] (.b (Z15 Y5)) [] func4 (q (sB h5<|sB h5<|sB h5<|sB h4<|sB h5<|sB h4<|sB (show false=false from rfl)<|sF (Z2N Y5 2 12 y0 y15)<|sW .i64 (1 + (Z6 Y5 2 12))<|sF (Z37 (fop .quo .f32 (X4 .f32 (IntKind.wrap .i64 (1 + (Z6 Y5 2 12)))) 1082130432))<|sF (Fn.castA (args':=[.agg [.sl (((Zd (fop .quo .f32 (X4 .f32 (IntKind.wrap .i64 (1 + (Z6 Y5 2 12)))) 1082130432)).1.Pq).map Gv.c), .sl ((((Zd (fop .quo .f32 (X4 .f32 (IntKind.wrap .i64 (1 + (Z6 Y5 2 12)))) 1082130432)).1.Tr).map fun l=>l.map (cI .i64)).map fun l => [.sl l])]]) (Z22 ((Zd (fop .quo .f32 (X4 .f32 (IntKind.wrap .i64 (1 + (Z6 Y5 2 12)))) 1082130432)).1) y16 y17 y18) (by simp [cL,Function.comp_def];done))<|sF (Z2y (fop .quo .f32 (X4 .f32 (IntKind.wrap .i64 (1 + (Z6 Y5 1 16)))) 1073741824) (fop .quo .f32 (X4 .f32 (IntKind.wrap .i64 (1 + (Z6 Y5 2 12)))) 1082130432))<|sF (Z2H (fop .quo .f32 (X4 .f32 (IntKind.wrap .i64 (1 + (Z6 Y5 1 16)))) 1073741824) 1065353216)<|sB (show (Zd (fop .quo .f32 (X4 .f32 (IntKind.wrap .i64 (1 + (Z6 Y5 2 12)))) 1082130432)).2=true from (vk1 hp3))<|sB (show (Zd (fop .quo .f32 (X4 .f32 (IntKind.wrap .i64 (1 + (Z6 Y5 2 12)))) 1082130432)).2=true from (vk1 hp3))<|sB (show (Zg ((Zd (fop .quo .f32 (X4 .f32 (IntKind.wrap .i64 (1 + (Z6 Y5 2 12)))) 1082130432)).1)).2=true from (vk2 hp3))<|sB (show (Zg ((Zd (fop .quo .f32 (X4 .f32 (IntKind.wrap .i64 (1 + (Z6 Y5 2 12)))) 1082130432)).1)).2=true from (vk2 hp3))<|sB (show (Zo Y5).2=true from (vk3 hp3))<|sB (show (Zo Y5).2=true from (vk3 hp3))<|sB (show (Z8 (fop .quo .f32 (X4 .f32 (IntKind.wrap .i64 (1 + (Z6 Y5 1 16)))) 1073741824) 1065353216).2=true from (vk4 hp3))<|sB (show (Z8 (fop .quo .f32 (X4 .f32 (IntKind.wrap .i64 (1 + (Z6 Y5 1 16)))) 1073741824) 1065353216).2=true from (vk4 hp3))<|sC (Xb ((Zg ((Zd (fop .quo .f32 (X4 .f32 (IntKind.wrap .i64 (1 + (Z6 Y5 2 12)))) 1082130432)).1)).1))<|sB (show (Z8 (fop .quo .f32 (X4 .f32 (IntKind.wrap .i64 (1 + (Z6 Y5 1 16)))) 1073741824) 1065353216).2=true from (vk4 hp3))<|sB (show (Z8 (fop .quo .f32 (X4 .f32 (IntKind.wrap .i64 (1 + (Z6 Y5 1 16)))) 1073741824) 1065353216).2=true from (vk4 hp3))<|sC (Xb (fop .quo .f32 (X4 .f32 (IntKind.wrap .i64 (1 + (Z6 Y5 2 12)))) 1082130432))<|sB (show (Z8 (fop .quo .f32 (X4 .f32 (IntKind.wrap .i64 (1 + (Z6 Y5 1 16)))) 1073741824) 1065353216).2=true from (vk4 hp3))<|sB (show (Z8 (fop .quo .f32 (X4 .f32 (IntKind.wrap .i64 (1 + (Z6 Y5 1 16)))) 1073741824) 1065353216).2=true from (vk4 hp3))<|sC (Xb (fop .quo .f32 (X4 .f32 (IntKind.wrap .i64 (1 + (Z6 Y5 2 12)))) 1082130432))<|sB (show (Z8 (fop .quo .f32 (X4 .f32 (IntKind.wrap .i64 (1 + (Z6 Y5 1 16)))) 1073741824) 1065353216).2=true from (vk4 hp3))<|sB (show (Z8 (fop .quo .f32 (X4 .f32 (IntKind.wrap .i64 (1 + (Z6 Y5 1 16)))) 1073741824) 1065353216).2=true from (vk4 hp3))<|sB (show (Z8 (fop .quo .f32 (X4 .f32 (IntKind.wrap .i64 (1 + (Z6 Y5 1 16)))) 1073741824) 1065353216).2=true from (vk4 hp3))<|sC (Xb (fop .quo .f32 (X4 .f32 (IntKind.wrap .i64 (1 + (Z6 Y5 2 12)))) 1082130432))<|sB (show (Z8 (fop .quo .f32 (X4 .f32 (IntKind.wrap .i64 (1 + (Z6 Y5 1 16)))) 1073741824) 1065353216).2=true from (vk4 hp3))<|sB (show (Z8 (fop .quo .f32 (X4 .f32 (IntKind.wrap .i64 (1 + (Z6 Y5 1 16)))) 1073741824) 1065353216).2=true from (vk4 hp3))<|sF (Z1R (fcv .f32 .f64 ((Zg ((Zd (fop .quo .f32 (X4 .f32 (IntKind.wrap .i64 (1 + (Z6 Y5 2 12)))) 1082130432)).1)).1)) (fop .mul .f64 (Z1H Y5) (fcv .f32 .f64 (fop .quo .f32 (X4 .f32 (IntKind.wrap .i64 (1 + (Z6 Y5 2 12)))) 1082130432))))<|sB (show (Z8 (fop .quo .f32 (X4 .f32 (IntKind.wrap .i64 (1 + (Z6 Y5 1 16)))) 1073741824) 1065353216).2=true from (vk4 hp3))<|sB (show (Z8 (fop .quo .f32 (X4 .f32 (IntKind.wrap .i64 (1 + (Z6 Y5 1 16)))) 1073741824) 1065353216).2=true from (vk4 hp3))<|sC (Xb ((Zg ((Zd (fop .quo .f32 (X4 .f32 (IntKind.wrap .i64 (1 + (Z6 Y5 2 12)))) 1082130432)).1)).1))<|sB (show (Z8 (fop .quo .f32 (X4 .f32 (IntKind.wrap .i64 (1 + (Z6 Y5 1 16)))) 1073741824) 1065353216).2=true from (vk4 hp3))<|sB (show (Z8 (fop .quo .f32 (X4 .f32 (IntKind.wrap .i64 (1 + (Z6 Y5 1 16)))) 1073741824) 1065353216).2=true from (vk4 hp3))<|sB (show (Z8 (fop .quo .f32 (X4 .f32 (IntKind.wrap .i64 (1 + (Z6 Y5 1 16)))) 1073741824) 1065353216).2=true from (vk4 hp3))<|sB (show (Z8 (fop .quo .f32 (X4 .f32 (IntKind.wrap .i64 (1 + (Z6 Y5 1 16)))) 1073741824) 1065353216).2=true from (vk4 hp3))<|sB (show (fcmp .lss .f64 (Zq Y5) (fop .mul .f64 4562254508917369340 (Zr Y5)))=true from (vk5 hp3))<|sB (show (fcmp .lss .f64 (Zq Y5) (fop .mul .f64 4562254508917369340 (Zr Y5)))=true from (vk5 hp3))<|sB (show (fcmp .lss .f64 (Zq Y5) (fop .mul .f64 4562254508917369340 (Zr Y5)))=true from (vk5 hp3))<|sB (show (fcmp .lss .f64 (Zq Y5) (fop .mul .f64 4562254508917369340 (Zr Y5)))=true from (vk5 hp3))<|sB (show (fcmp .lss .f64 (Zq Y5) (fop .mul .f64 4562254508917369340 (Zr Y5)))=true from (vk5 hp3))<|sB (show (fcmp .lss .f64 (Zq Y5) (fop .mul .f64 4562254508917369340 (Zr Y5)))=true from (vk5 hp3))<|sB (show (fcmp .eql .f32 ((Zo Y5).1) (Zw Y5))=true from (vk6 hp3))<|sB (show (fcmp .eql .f32 ((Zo Y5).1) (Zw Y5))=true from (vk6 hp3))<|sC (Xb ((Z8 (fop .quo .f32 (X4 .f32 (IntKind.wrap .i64 (1 + (Z6 Y5 1 16)))) 1073741824) 1065353216).1))<|sB (show (fcmp .eql .f32 ((Zo Y5).1) (Zw Y5))=true from (vk6 hp3))<|sF (Z1R (fcv .f32 .f64 ((Z8 (fop .quo .f32 (X4 .f32 (IntKind.wrap .i64 (1 + (Z6 Y5 1 16)))) 1073741824) 1065353216).1)) 0)<|sB (show (fcmp .eql .f32 ((Zo Y5).1) (Zw Y5))=true from (vk6 hp3))<|sB (show (fcmp .eql .f32 ((Zo Y5).1) (Zw Y5))=true from (vk6 hp3))<|sK [] sN)) rfl (by kernel_rfl) (by kernel_rfl) rfl ?_ ?_
       · simp only [Z1i,h0,h1,h2,h3,h4,h5,cond_true,cond_false]
       · rfl
    | false =>
     have p {a C} (s:Scr a C):=q (sB h3<|sB h3<|sB h3<|sB h3<|sB h3<|sB h3<|sB h3<|sB h3<|sB h3<|sB (show (!(Zj ((Zi Ya Y5).1)).2)=false from (congrArg not (vk10 Ya hp3 h2)))<|sB h3<|sB (show (!(Zj ((Zi Ya Y5).1)).2)=false from (congrArg not (vk10 Ya hp3 h2)))<|sB (show false=false from rfl)<|sB (show false=false from rfl)<|sB (show false=false from rfl)<|sF (Z4F ((Zj (Zf Ya (Zb (IntKind.wrap .i64 (2 + (Z6 Y5 0 3)))))).1) ((Zj ((Zi Ya Y5).1)).1))<|sB (show false=false from rfl)<|sB (show false=false from rfl)<|s)
     clear q
     cases h4:(fcmp .gtr .f64 (Z1C Ya Y5) 4576918229304087675) with
     | true =>
      have y15:(0:Int)≤2:=by clear p;exact (by omega)
      have y16:((Zd (fop .quo .f32 (X4 .f32 (IntKind.wrap .i64 (1 + (Z6 Y5 2 12)))) 1082130432)).1).Pq.length≤1073741824:=by clear p;exact (by with_reducible exact (vbox _).1)
      have y17:((Zd (fop .quo .f32 (X4 .f32 (IntKind.wrap .i64 (1 + (Z6 Y5 2 12)))) 1082130432)).1).Tr.length≤1073741824:=by clear p;exact (by with_reducible exact (vbox _).2.1)
      have y18:∀ t∈((Zd (fop .quo .f32 (X4 .f32 (IntKind.wrap .i64 (1 + (Z6 Y5 2 12)))) 1082130432)).1).Tr,t.length≤1073741824:=by clear p;exact (by with_reducible exact (vbox _).2.2)
      refine fnS E0Ok Zc (c:=X5 f4) [] (.b (Z15 Y5)) [] func4 (p (sB h4<|sB h4<|sC (Xb ((Zg (Zf Ya (Zb (IntKind.wrap .i64 (2 + (Z6 Y5 0 3)))))).1))<|sB h4<|sB (show false=false from rfl)<|sB h4<|sB (show false=false from rfl)<|sB h3<|sF (Z2N Y5 2 12 y0 y15)<|sW .i64 (1 + (Z6 Y5 2 12))<|sF (Z37 (fop .quo .f32 (X4 .f32 (IntKind.wrap .i64 (1 + (Z6 Y5 2 12)))) 1082130432))<|sF (Fn.castA (args':=[.agg [.sl (((Zd (fop .quo .f32 (X4 .f32 (IntKind.wrap .i64 (1 + (Z6 Y5 2 12)))) 1082130432)).1.Pq).map Gv.c), .sl ((((Zd (fop .quo .f32 (X4 .f32 (IntKind.wrap .i64 (1 + (Z6 Y5 2 12)))) 1082130432)).1.Tr).map fun l=>l.map (cI .i64)).map fun l => [.sl l])]]) (Z22 ((Zd (fop .quo .f32 (X4 .f32 (IntKind.wrap .i64 (1 + (Z6 Y5 2 12)))) 1082130432)).1) y16 y17 y18) (by simp [cL,Function.comp_def];done))<|sF (Z2y (fop .quo .f32 (X4 .f32 (IntKind.wrap .i64 (1 + (Z6 Y5 1 16)))) 1073741824) (fop .quo .f32 (X4 .f32 (IntKind.wrap .i64 (1 + (Z6 Y5 2 12)))) 1082130432))<|sF (Z2H (fop .quo .f32 (X4 .f32 (IntKind.wrap .i64 (1 + (Z6 Y5 1 16)))) 1073741824) 1065353216)<|sB (show (Zd (fop .quo .f32 (X4 .f32 (IntKind.wrap .i64 (1 + (Z6 Y5 2 12)))) 1082130432)).2=true from (vk1 hp3))<|sB (show (Zd (fop .quo .f32 (X4 .f32 (IntKind.wrap .i64 (1 + (Z6 Y5 2 12)))) 1082130432)).2=true from (vk1 hp3))<|sB (show (Zg ((Zd (fop .quo .f32 (X4 .f32 (IntKind.wrap .i64 (1 + (Z6 Y5 2 12)))) 1082130432)).1)).2=true from (vk2 hp3))<|sB (show (Zg ((Zd (fop .quo .f32 (X4 .f32 (IntKind.wrap .i64 (1 + (Z6 Y5 2 12)))) 1082130432)).1)).2=true from (vk2 hp3))<|sB (show (Zo Y5).2=true from (vk3 hp3))<|sB (show (Zo Y5).2=true from (vk3 hp3))<|sB (show (Z8 (fop .quo .f32 (X4 .f32 (IntKind.wrap .i64 (1 + (Z6 Y5 1 16)))) 1073741824) 1065353216).2=true from (vk4 hp3))<|sB (show (Z8 (fop .quo .f32 (X4 .f32 (IntKind.wrap .i64 (1 + (Z6 Y5 1 16)))) 1073741824) 1065353216).2=true from (vk4 hp3))<|sC (Xb ((Zg ((Zd (fop .quo .f32 (X4 .f32 (IntKind.wrap .i64 (1 + (Z6 Y5 2 12)))) 1082130432)).1)).1))<|sB (show (Z8 (fop .quo .f32 (X4 .f32 (IntKind.wrap .i64 (1 + (Z6 Y5 1 16)))) 1073741824) 1065353216).2=true from (vk4 hp3))<|sB (show (Z8 (fop .quo .f32 (X4 .f32 (IntKind.wrap .i64 (1 + (Z6 Y5 1 16)))) 1073741824) 1065353216).2=true from (vk4 hp3))<|sC (Xb (fop .quo .f32 (X4 .f32 (IntKind.wrap .i64 (1 + (Z6 Y5 2 12)))) 1082130432))<|sB (show (Z8 (fop .quo .f32 (X4 .f32 (IntKind.wrap .i64 (1 + (Z6 Y5 1 16)))) 1073741824) 1065353216).2=true from (vk4 hp3))<|sB (show (Z8 (fop .quo .f32 (X4 .f32 (IntKind.wrap .i64 (1 + (Z6 Y5 1 16)))) 1073741824) 1065353216).2=true from (vk4 hp3))<|sC (Xb (fop .quo .f32 (X4 .f32 (IntKind.wrap .i64 (1 + (Z6 Y5 2 12)))) 1082130432))<|sB (show (Z8 (fop .quo .f32 (X4 .f32 (IntKind.wrap .i64 (1 + (Z6 Y5 1 16)))) 1073741824) 1065353216).2=true from (vk4 hp3))<|sB (show (Z8 (fop .quo .f32 (X4 .f32 (IntKind.wrap .i64 (1 + (Z6 Y5 1 16)))) 1073741824) 1065353216).2=true from (vk4 hp3))<|sB (show (Z8 (fop .quo .f32 (X4 .f32 (IntKind.wrap .i64 (1 + (Z6 Y5 1 16)))) 1073741824) 1065353216).2=true from (vk4 hp3))<|sC (Xb (fop .quo .f32 (X4 .f32 (IntKind.wrap .i64 (1 + (Z6 Y5 2 12)))) 1082130432))<|sB (show (Z8 (fop .quo .f32 (X4 .f32 (IntKind.wrap .i64 (1 + (Z6 Y5 1 16)))) 1073741824) 1065353216).2=true from (vk4 hp3))<|sB (show (Z8 (fop .quo .f32 (X4 .f32 (IntKind.wrap .i64 (1 + (Z6 Y5 1 16)))) 1073741824) 1065353216).2=true from (vk4 hp3))<|sF (Z1R (fcv .f32 .f64 ((Zg ((Zd (fop .quo .f32 (X4 .f32 (IntKind.wrap .i64 (1 + (Z6 Y5 2 12)))) 1082130432)).1)).1)) (fop .mul .f64 (Z1H Y5) (fcv .f32 .f64 (fop .quo .f32 (X4 .f32 (IntKind.wrap .i64 (1 + (Z6 Y5 2 12)))) 1082130432))))<|sB (show (Z8 (fop .quo .f32 (X4 .f32 (IntKind.wrap .i64 (1 + (Z6 Y5 1 16)))) 1073741824) 1065353216).2=true from (vk4 hp3))<|sB (show (Z8 (fop .quo .f32 (X4 .f32 (IntKind.wrap .i64 (1 + (Z6 Y5 1 16)))) 1073741824) 1065353216).2=true from (vk4 hp3))<|sC (Xb ((Zg ((Zd (fop .quo .f32 (X4 .f32 (IntKind.wrap .i64 (1 + (Z6 Y5 2 12)))) 1082130432)).1)).1))<|sB (show (Z8 (fop .quo .f32 (X4 .f32 (IntKind.wrap .i64 (1 + (Z6 Y5 1 16)))) 1073741824) 1065353216).2=true from (vk4 hp3))<|sB (show (Z8 (fop .quo .f32 (X4 .f32 (IntKind.wrap .i64 (1 + (Z6 Y5 1 16)))) 1073741824) 1065353216).2=true from (vk4 hp3))<|sB (show (Z8 (fop .quo .f32 (X4 .f32 (IntKind.wrap .i64 (1 + (Z6 Y5 1 16)))) 1073741824) 1065353216).2=true from (vk4 hp3))<|sB (show (Z8 (fop .quo .f32 (X4 .f32 (IntKind.wrap .i64 (1 + (Z6 Y5 1 16)))) 1073741824) 1065353216).2=true from (vk4 hp3))<|sB (show (fcmp .lss .f64 (Zq Y5) (fop .mul .f64 4562254508917369340 (Zr Y5)))=true from (vk5 hp3))<|sB (show (fcmp .lss .f64 (Zq Y5) (fop .mul .f64 4562254508917369340 (Zr Y5)))=true from (vk5 hp3))<|sB (show (fcmp .lss .f64 (Zq Y5) (fop .mul .f64 4562254508917369340 (Zr Y5)))=true from (vk5 hp3))<|sB (show (fcmp .lss .f64 (Zq Y5) (fop .mul .f64 4562254508917369340 (Zr Y5)))=true from (vk5 hp3))<|sB (show (fcmp .lss .f64 (Zq Y5) (fop .mul .f64 4562254508917369340 (Zr Y5)))=true from (vk5 hp3))<|sB (show (fcmp .lss .f64 (Zq Y5) (fop .mul .f64 4562254508917369340 (Zr Y5)))=true from (vk5 hp3))<|sB (show (fcmp .eql .f32 ((Zo Y5).1) (Zw Y5))=true from (vk6 hp3))<|sB (show (fcmp .eql .f32 ((Zo Y5).1) (Zw Y5))=true from (vk6 hp3))<|sC (Xb ((Z8 (fop .quo .f32 (X4 .f32 (IntKind.wrap .i64 (1 + (Z6 Y5 1 16)))) 1073741824) 1065353216).1))<|sB (show (fcmp .eql .f32 ((Zo Y5).1) (Zw Y5))=true from (vk6 hp3))<|sF (Z1R (fcv .f32 .f64 ((Z8 (fop .quo .f32 (X4 .f32 (IntKind.wrap .i64 (1 + (Z6 Y5 1 16)))) 1073741824) 1065353216).1)) 0)<|sB (show (fcmp .eql .f32 ((Zo Y5).1) (Zw Y5))=true from (vk6 hp3))<|sB (show (fcmp .eql .f32 ((Zo Y5).1) (Zw Y5))=true from (vk6 hp3))<|sK [] sN)) rfl (by kernel_rfl) (by kernel_rfl) rfl ?_ ?_
      · simp only [Z1i,h0,h1,h2,h3,h4,cond_true,cond_false]
      · rfl
     | false =>
      have y15:(0:Int)≤2:=by clear p;exact (by omega)
      have y16:((Zd (fop .quo .f32 (X4 .f32 (IntKind.wrap .i64 (1 + (Z6 Y5 2 12)))) 1082130432)).1).Pq.length≤1073741824:=by clear p;exact (by with_reducible exact (vbox _).1)
      have y17:((Zd (fop .quo .f32 (X4 .f32 (IntKind.wrap .i64 (1 + (Z6 Y5 2 12)))) 1082130432)).1).Tr.length≤1073741824:=by clear p;exact (by with_reducible exact (vbox _).2.1)
      have y18:∀ t∈((Zd (fop .quo .f32 (X4 .f32 (IntKind.wrap .i64 (1 + (Z6 Y5 2 12)))) 1082130432)).1).Tr,t.length≤1073741824:=by clear p;exact (by with_reducible exact (vbox _).2.2)
      refine fnS E0Ok Zc (c:=X5 f4) [] (.b (Z15 Y5)) [] func4 (p (sB h4<|sB h4<|sB h4<|sB (show false=false from rfl)<|sB h4<|sB (show false=false from rfl)<|sB (show false=false from rfl)<|sF (Z2N Y5 2 12 y0 y15)<|sW .i64 (1 + (Z6 Y5 2 12))<|sF (Z37 (fop .quo .f32 (X4 .f32 (IntKind.wrap .i64 (1 + (Z6 Y5 2 12)))) 1082130432))<|sF (Fn.castA (args':=[.agg [.sl (((Zd (fop .quo .f32 (X4 .f32 (IntKind.wrap .i64 (1 + (Z6 Y5 2 12)))) 1082130432)).1.Pq).map Gv.c), .sl ((((Zd (fop .quo .f32 (X4 .f32 (IntKind.wrap .i64 (1 + (Z6 Y5 2 12)))) 1082130432)).1.Tr).map fun l=>l.map (cI .i64)).map fun l => [.sl l])]]) (Z22 ((Zd (fop .quo .f32 (X4 .f32 (IntKind.wrap .i64 (1 + (Z6 Y5 2 12)))) 1082130432)).1) y16 y17 y18) (by simp [cL,Function.comp_def];done))<|sF (Z2y (fop .quo .f32 (X4 .f32 (IntKind.wrap .i64 (1 + (Z6 Y5 1 16)))) 1073741824) (fop .quo .f32 (X4 .f32 (IntKind.wrap .i64 (1 + (Z6 Y5 2 12)))) 1082130432))<|sF (Z2H (fop .quo .f32 (X4 .f32 (IntKind.wrap .i64 (1 + (Z6 Y5 1 16)))) 1073741824) 1065353216)<|sB (show (Zd (fop .quo .f32 (X4 .f32 (IntKind.wrap .i64 (1 + (Z6 Y5 2 12)))) 1082130432)).2=true from (vk1 hp3))<|sB (show (Zd (fop .quo .f32 (X4 .f32 (IntKind.wrap .i64 (1 + (Z6 Y5 2 12)))) 1082130432)).2=true from (vk1 hp3))<|sB (show (Zg ((Zd (fop .quo .f32 (X4 .f32 (IntKind.wrap .i64 (1 + (Z6 Y5 2 12)))) 1082130432)).1)).2=true from (vk2 hp3))<|sB (show (Zg ((Zd (fop .quo .f32 (X4 .f32 (IntKind.wrap .i64 (1 + (Z6 Y5 2 12)))) 1082130432)).1)).2=true from (vk2 hp3))<|sB (show (Zo Y5).2=true from (vk3 hp3))<|sB (show (Zo Y5).2=true from (vk3 hp3))<|sB (show (Z8 (fop .quo .f32 (X4 .f32 (IntKind.wrap .i64 (1 + (Z6 Y5 1 16)))) 1073741824) 1065353216).2=true from (vk4 hp3))<|sB (show (Z8 (fop .quo .f32 (X4 .f32 (IntKind.wrap .i64 (1 + (Z6 Y5 1 16)))) 1073741824) 1065353216).2=true from (vk4 hp3))<|sC (Xb ((Zg ((Zd (fop .quo .f32 (X4 .f32 (IntKind.wrap .i64 (1 + (Z6 Y5 2 12)))) 1082130432)).1)).1))<|sB (show (Z8 (fop .quo .f32 (X4 .f32 (IntKind.wrap .i64 (1 + (Z6 Y5 1 16)))) 1073741824) 1065353216).2=true from (vk4 hp3))<|sB (show (Z8 (fop .quo .f32 (X4 .f32 (IntKind.wrap .i64 (1 + (Z6 Y5 1 16)))) 1073741824) 1065353216).2=true from (vk4 hp3))<|sC (Xb (fop .quo .f32 (X4 .f32 (IntKind.wrap .i64 (1 + (Z6 Y5 2 12)))) 1082130432))<|sB (show (Z8 (fop .quo .f32 (X4 .f32 (IntKind.wrap .i64 (1 + (Z6 Y5 1 16)))) 1073741824) 1065353216).2=true from (vk4 hp3))<|sB (show (Z8 (fop .quo .f32 (X4 .f32 (IntKind.wrap .i64 (1 + (Z6 Y5 1 16)))) 1073741824) 1065353216).2=true from (vk4 hp3))<|sC (Xb (fop .quo .f32 (X4 .f32 (IntKind.wrap .i64 (1 + (Z6 Y5 2 12)))) 1082130432))<|sB (show (Z8 (fop .quo .f32 (X4 .f32 (IntKind.wrap .i64 (1 + (Z6 Y5 1 16)))) 1073741824) 1065353216).2=true from (vk4 hp3))<|sB (show (Z8 (fop .quo .f32 (X4 .f32 (IntKind.wrap .i64 (1 + (Z6 Y5 1 16)))) 1073741824) 1065353216).2=true from (vk4 hp3))<|sB (show (Z8 (fop .quo .f32 (X4 .f32 (IntKind.wrap .i64 (1 + (Z6 Y5 1 16)))) 1073741824) 1065353216).2=true from (vk4 hp3))<|sC (Xb (fop .quo .f32 (X4 .f32 (IntKind.wrap .i64 (1 + (Z6 Y5 2 12)))) 1082130432))<|sB (show (Z8 (fop .quo .f32 (X4 .f32 (IntKind.wrap .i64 (1 + (Z6 Y5 1 16)))) 1073741824) 1065353216).2=true from (vk4 hp3))<|sB (show (Z8 (fop .quo .f32 (X4 .f32 (IntKind.wrap .i64 (1 + (Z6 Y5 1 16)))) 1073741824) 1065353216).2=true from (vk4 hp3))<|sF (Z1R (fcv .f32 .f64 ((Zg ((Zd (fop .quo .f32 (X4 .f32 (IntKind.wrap .i64 (1 + (Z6 Y5 2 12)))) 1082130432)).1)).1)) (fop .mul .f64 (Z1H Y5) (fcv .f32 .f64 (fop .quo .f32 (X4 .f32 (IntKind.wrap .i64 (1 + (Z6 Y5 2 12)))) 1082130432))))<|sB (show (Z8 (fop .quo .f32 (X4 .f32 (IntKind.wrap .i64 (1 + (Z6 Y5 1 16)))) 1073741824) 1065353216).2=true from (vk4 hp3))<|sB (show (Z8 (fop .quo .f32 (X4 .f32 (IntKind.wrap .i64 (1 + (Z6 Y5 1 16)))) 1073741824) 1065353216).2=true from (vk4 hp3))<|sC (Xb ((Zg ((Zd (fop .quo .f32 (X4 .f32 (IntKind.wrap .i64 (1 + (Z6 Y5 2 12)))) 1082130432)).1)).1))<|sB (show (Z8 (fop .quo .f32 (X4 .f32 (IntKind.wrap .i64 (1 + (Z6 Y5 1 16)))) 1073741824) 1065353216).2=true from (vk4 hp3))<|sB (show (Z8 (fop .quo .f32 (X4 .f32 (IntKind.wrap .i64 (1 + (Z6 Y5 1 16)))) 1073741824) 1065353216).2=true from (vk4 hp3))<|sB (show (Z8 (fop .quo .f32 (X4 .f32 (IntKind.wrap .i64 (1 + (Z6 Y5 1 16)))) 1073741824) 1065353216).2=true from (vk4 hp3))<|sB (show (Z8 (fop .quo .f32 (X4 .f32 (IntKind.wrap .i64 (1 + (Z6 Y5 1 16)))) 1073741824) 1065353216).2=true from (vk4 hp3))<|sB (show (fcmp .lss .f64 (Zq Y5) (fop .mul .f64 4562254508917369340 (Zr Y5)))=true from (vk5 hp3))<|sB (show (fcmp .lss .f64 (Zq Y5) (fop .mul .f64 4562254508917369340 (Zr Y5)))=true from (vk5 hp3))<|sB (show (fcmp .lss .f64 (Zq Y5) (fop .mul .f64 4562254508917369340 (Zr Y5)))=true from (vk5 hp3))<|sB (show (fcmp .lss .f64 (Zq Y5) (fop .mul .f64 4562254508917369340 (Zr Y5)))=true from (vk5 hp3))<|sB (show (fcmp .lss .f64 (Zq Y5) (fop .mul .f64 4562254508917369340 (Zr Y5)))=true from (vk5 hp3))<|sB (show (fcmp .lss .f64 (Zq Y5) (fop .mul .f64 4562254508917369340 (Zr Y5)))=true from (vk5 hp3))<|sB (show (fcmp .eql .f32 ((Zo Y5).1) (Zw Y5))=true from (vk6 hp3))<|sB (show (fcmp .eql .f32 ((Zo Y5).1) (Zw Y5))=true from (vk6 hp3))<|sC (Xb ((Z8 (fop .quo .f32 (X4 .f32 (IntKind.wrap .i64 (1 + (Z6 Y5 1 16)))) 1073741824) 1065353216).1))<|sB (show (fcmp .eql .f32 ((Zo Y5).1) (Zw Y5))=true from (vk6 hp3))<|sF (Z1R (fcv .f32 .f64 ((Z8 (fop .quo .f32 (X4 .f32 (IntKind.wrap .i64 (1 + (Z6 Y5 1 16)))) 1073741824) 1065353216).1)) 0)<|sB (show (fcmp .eql .f32 ((Zo Y5).1) (Zw Y5))=true from (vk6 hp3))<|sB (show (fcmp .eql .f32 ((Zo Y5).1) (Zw Y5))=true from (vk6 hp3))<|sK [] sN)) rfl (by kernel_rfl) (by kernel_rfl) rfl ?_ ?_
      · simp only [Z1i,h0,h1,h2,h3,h4,cond_true,cond_false]
      · rfl
   | false =>
    have y12:(0:Int)≤2:=by clear p;exact (by omega)
    have y13:((Zd (fop .quo .f32 (X4 .f32 (IntKind.wrap .i64 (1 + (Z6 Y5 2 12)))) 1082130432)).1).Pq.length≤1073741824:=by clear p;exact (by with_reducible exact (vbox _).1)
    have y14:((Zd (fop .quo .f32 (X4 .f32 (IntKind.wrap .i64 (1 + (Z6 Y5 2 12)))) 1082130432)).1).Tr.length≤1073741824:=by clear p;exact (by with_reducible exact (vbox _).2.1)
    have y15:∀ t∈((Zd (fop .quo .f32 (X4 .f32 (IntKind.wrap .i64 (1 + (Z6 Y5 2 12)))) 1082130432)).1).Tr,t.length≤1073741824:=by clear p;exact (by with_reducible exact (vbox _).2.2)
    refine fnS E0Ok Zc (c:=X5 f4) [] (.b (Z15 Y5)) [] func4 (p (sB h2<|sF (Z2N Y5 2 12 y0 y12)<|sW .i64 (1 + (Z6 Y5 2 12))<|sF (Z37 (fop .quo .f32 (X4 .f32 (IntKind.wrap .i64 (1 + (Z6 Y5 2 12)))) 1082130432))<|sF (Fn.castA (args':=[.agg [.sl (((Zd (fop .quo .f32 (X4 .f32 (IntKind.wrap .i64 (1 + (Z6 Y5 2 12)))) 1082130432)).1.Pq).map Gv.c), .sl ((((Zd (fop .quo .f32 (X4 .f32 (IntKind.wrap .i64 (1 + (Z6 Y5 2 12)))) 1082130432)).1.Tr).map fun l=>l.map (cI .i64)).map fun l => [.sl l])]]) (Z22 ((Zd (fop .quo .f32 (X4 .f32 (IntKind.wrap .i64 (1 + (Z6 Y5 2 12)))) 1082130432)).1) y13 y14 y15) (by simp [cL,Function.comp_def];done))<|sF (Z2y (fop .quo .f32 (X4 .f32 (IntKind.wrap .i64 (1 + (Z6 Y5 1 16)))) 1073741824) (fop .quo .f32 (X4 .f32 (IntKind.wrap .i64 (1 + (Z6 Y5 2 12)))) 1082130432))<|sF (Z2H (fop .quo .f32 (X4 .f32 (IntKind.wrap .i64 (1 + (Z6 Y5 1 16)))) 1073741824) 1065353216)<|sB (show (Zd (fop .quo .f32 (X4 .f32 (IntKind.wrap .i64 (1 + (Z6 Y5 2 12)))) 1082130432)).2=true from (vk1 hp3))<|sB (show (Zd (fop .quo .f32 (X4 .f32 (IntKind.wrap .i64 (1 + (Z6 Y5 2 12)))) 1082130432)).2=true from (vk1 hp3))<|sB (show (Zg ((Zd (fop .quo .f32 (X4 .f32 (IntKind.wrap .i64 (1 + (Z6 Y5 2 12)))) 1082130432)).1)).2=true from (vk2 hp3))<|sB (show (Zg ((Zd (fop .quo .f32 (X4 .f32 (IntKind.wrap .i64 (1 + (Z6 Y5 2 12)))) 1082130432)).1)).2=true from (vk2 hp3))<|sB (show (Zo Y5).2=true from (vk3 hp3))<|sB (show (Zo Y5).2=true from (vk3 hp3))<|sB (show (Z8 (fop .quo .f32 (X4 .f32 (IntKind.wrap .i64 (1 + (Z6 Y5 1 16)))) 1073741824) 1065353216).2=true from (vk4 hp3))<|sB (show (Z8 (fop .quo .f32 (X4 .f32 (IntKind.wrap .i64 (1 + (Z6 Y5 1 16)))) 1073741824) 1065353216).2=true from (vk4 hp3))<|sC (Xb ((Zg ((Zd (fop .quo .f32 (X4 .f32 (IntKind.wrap .i64 (1 + (Z6 Y5 2 12)))) 1082130432)).1)).1))<|sB (show (Z8 (fop .quo .f32 (X4 .f32 (IntKind.wrap .i64 (1 + (Z6 Y5 1 16)))) 1073741824) 1065353216).2=true from (vk4 hp3))<|sB (show (Z8 (fop .quo .f32 (X4 .f32 (IntKind.wrap .i64 (1 + (Z6 Y5 1 16)))) 1073741824) 1065353216).2=true from (vk4 hp3))<|sC (Xb (fop .quo .f32 (X4 .f32 (IntKind.wrap .i64 (1 + (Z6 Y5 2 12)))) 1082130432))<|sB (show (Z8 (fop .quo .f32 (X4 .f32 (IntKind.wrap .i64 (1 + (Z6 Y5 1 16)))) 1073741824) 1065353216).2=true from (vk4 hp3))<|sB (show (Z8 (fop .quo .f32 (X4 .f32 (IntKind.wrap .i64 (1 + (Z6 Y5 1 16)))) 1073741824) 1065353216).2=true from (vk4 hp3))<|sC (Xb (fop .quo .f32 (X4 .f32 (IntKind.wrap .i64 (1 + (Z6 Y5 2 12)))) 1082130432))<|sB (show (Z8 (fop .quo .f32 (X4 .f32 (IntKind.wrap .i64 (1 + (Z6 Y5 1 16)))) 1073741824) 1065353216).2=true from (vk4 hp3))<|sB (show (Z8 (fop .quo .f32 (X4 .f32 (IntKind.wrap .i64 (1 + (Z6 Y5 1 16)))) 1073741824) 1065353216).2=true from (vk4 hp3))<|sB (show (Z8 (fop .quo .f32 (X4 .f32 (IntKind.wrap .i64 (1 + (Z6 Y5 1 16)))) 1073741824) 1065353216).2=true from (vk4 hp3))<|sC (Xb (fop .quo .f32 (X4 .f32 (IntKind.wrap .i64 (1 + (Z6 Y5 2 12)))) 1082130432))<|sB (show (Z8 (fop .quo .f32 (X4 .f32 (IntKind.wrap .i64 (1 + (Z6 Y5 1 16)))) 1073741824) 1065353216).2=true from (vk4 hp3))<|sB (show (Z8 (fop .quo .f32 (X4 .f32 (IntKind.wrap .i64 (1 + (Z6 Y5 1 16)))) 1073741824) 1065353216).2=true from (vk4 hp3))<|sF (Z1R (fcv .f32 .f64 ((Zg ((Zd (fop .quo .f32 (X4 .f32 (IntKind.wrap .i64 (1 + (Z6 Y5 2 12)))) 1082130432)).1)).1)) (fop .mul .f64 (Z1H Y5) (fcv .f32 .f64 (fop .quo .f32 (X4 .f32 (IntKind.wrap .i64 (1 + (Z6 Y5 2 12)))) 1082130432))))<|sB (show (Z8 (fop .quo .f32 (X4 .f32 (IntKind.wrap .i64 (1 + (Z6 Y5 1 16)))) 1073741824) 1065353216).2=true from (vk4 hp3))<|sB (show (Z8 (fop .quo .f32 (X4 .f32 (IntKind.wrap .i64 (1 + (Z6 Y5 1 16)))) 1073741824) 1065353216).2=true from (vk4 hp3))<|sC (Xb ((Zg ((Zd (fop .quo .f32 (X4 .f32 (IntKind.wrap .i64 (1 + (Z6 Y5 2 12)))) 1082130432)).1)).1))<|sB (show (Z8 (fop .quo .f32 (X4 .f32 (IntKind.wrap .i64 (1 + (Z6 Y5 1 16)))) 1073741824) 1065353216).2=true from (vk4 hp3))<|sB (show (Z8 (fop .quo .f32 (X4 .f32 (IntKind.wrap .i64 (1 + (Z6 Y5 1 16)))) 1073741824) 1065353216).2=true from (vk4 hp3))<|sB (show (Z8 (fop .quo .f32 (X4 .f32 (IntKind.wrap .i64 (1 + (Z6 Y5 1 16)))) 1073741824) 1065353216).2=true from (vk4 hp3))<|sB (show (Z8 (fop .quo .f32 (X4 .f32 (IntKind.wrap .i64 (1 + (Z6 Y5 1 16)))) 1073741824) 1065353216).2=true from (vk4 hp3))<|sB (show (fcmp .lss .f64 (Zq Y5) (fop .mul .f64 4562254508917369340 (Zr Y5)))=true from (vk5 hp3))<|sB (show (fcmp .lss .f64 (Zq Y5) (fop .mul .f64 4562254508917369340 (Zr Y5)))=true from (vk5 hp3))<|sB (show (fcmp .lss .f64 (Zq Y5) (fop .mul .f64 4562254508917369340 (Zr Y5)))=true from (vk5 hp3))<|sB (show (fcmp .lss .f64 (Zq Y5) (fop .mul .f64 4562254508917369340 (Zr Y5)))=true from (vk5 hp3))<|sB (show (fcmp .lss .f64 (Zq Y5) (fop .mul .f64 4562254508917369340 (Zr Y5)))=true from (vk5 hp3))<|sB (show (fcmp .lss .f64 (Zq Y5) (fop .mul .f64 4562254508917369340 (Zr Y5)))=true from (vk5 hp3))<|sB (show (fcmp .eql .f32 ((Zo Y5).1) (Zw Y5))=true from (vk6 hp3))<|sB (show (fcmp .eql .f32 ((Zo Y5).1) (Zw Y5))=true from (vk6 hp3))<|sC (Xb ((Z8 (fop .quo .f32 (X4 .f32 (IntKind.wrap .i64 (1 + (Z6 Y5 1 16)))) 1073741824) 1065353216).1))<|sB (show (fcmp .eql .f32 ((Zo Y5).1) (Zw Y5))=true from (vk6 hp3))<|sF (Z1R (fcv .f32 .f64 ((Z8 (fop .quo .f32 (X4 .f32 (IntKind.wrap .i64 (1 + (Z6 Y5 1 16)))) 1073741824) 1065353216).1)) 0)<|sB (show (fcmp .eql .f32 ((Zo Y5).1) (Zw Y5))=true from (vk6 hp3))<|sB (show (fcmp .eql .f32 ((Zo Y5).1) (Zw Y5))=true from (vk6 hp3))<|sK [] sN)) rfl (by kernel_rfl) (by kernel_rfl) rfl ?_ ?_
    · simp only [Z1i,h0,h1,h2,cond_false]
    · rfl
end Go.Ab
