/- The functions of this seat as plain Lean, and that the program's are these. Printed by a program of the prover's own. -/
import Derived.Test.YtoibkmljibnjnaaB5
set_option linter.unusedVariables false
set_option linter.unusedSimpArgs false
set_option maxRecDepth 100000
namespace Go.Ab
open Go.RowKit Go.Proofs.Try
def Z21 (Y4:Gm) (Y2:Int):(Unit) ⊕ (Unit):=(Z15 Y4 Y2 ((((Y4.Tr.getD Y2.toNat default).length:Int) - 0).toNat + 1) 0)
def Zs (Y4:Gm):Nat→Int→(Unit) ⊕ (Unit)
  | 0,_ => .inl default
  | k + 1,Y2=>(cond (decide (Y2 < (Y4.Tr.length:Int)))
    (cond (((Y4.Tr.getD Y2.toNat default).length:Int) != 3)
      (.inl ())
      (cond (((Y4.Tr.getD Y2.toNat default).getD 0 default) == ((Y4.Tr.getD Y2.toNat default).getD 1 default))
        (.inl ())
        (cond (((Y4.Tr.getD Y2.toNat default).getD 1 default) == ((Y4.Tr.getD Y2.toNat default).getD 2 default))
          (.inl ())
          (cond (((Y4.Tr.getD Y2.toNat default).getD 0 default) == ((Y4.Tr.getD Y2.toNat default).getD 2 default))
            (.inl ())
            (match (Z21 Y4 Y2) with
              | .inl r_6=>(.inl ())
              | .inr r_6=>(Zs Y4 k (Y2 + 1)))))))
    (.inr ()))
def Z2M (Y4:Gm):(Unit) ⊕ (Unit)→Ex × St
  | .inl r=>(.ret,⟨.any :: .any :: .b false :: an 66 [],[]⟩)
  | .inr r=>((.exit 0),⟨.agg [.sl (Y4.Pq.map Gv.c), .sl (Y4.Tr.map (cL (cI .i64)))] :: .ptr 0 0 0 :: .any :: .i .i64 (Y4.Pq.length:Int) :: an 4 (.ptr 0 0 0 :: .sl (Y4.Pq.map Gv.c) :: .i .i64 (Y4.Pq.length:Int) :: .i .i64 (Y4.Pq.length:Int) :: .b (decide ((Y4.Pq.length:Int) > 64)) :: .b (decide ((Y4.Pq.length:Int) > 64)) :: .ptr 0 0 1 :: .sl (Y4.Tr.map (cL (cI .i64))) :: .i .i64 (Y4.Tr.length:Int) :: .b (decide ((Y4.Tr.length:Int) > 128)) :: .b (decide ((Y4.Tr.length:Int) > 128)) :: .ptr 0 0 1 :: .sl (Y4.Tr.map (cL (cI .i64))) :: an 48 []),[.box 27 [.sl (Y4.Pq.map Gv.c), .sl (Y4.Tr.map (cL (cI .i64)))]]⟩)
def Z6i (Y4:Gm) (Y2:Int):St:=⟨.agg [.sl (Y4.Pq.map Gv.c), .sl (Y4.Tr.map (cL (cI .i64)))] :: .ptr 0 0 0 :: .any :: .i .i64 (Y4.Pq.length:Int) :: an 4 (.ptr 0 0 0 :: .sl (Y4.Pq.map Gv.c) :: .i .i64 (Y4.Pq.length:Int) :: .i .i64 (Y4.Pq.length:Int) :: .b (decide ((Y4.Pq.length:Int) > 64)) :: .b (decide ((Y4.Pq.length:Int) > 64)) :: .ptr 0 0 1 :: .sl (Y4.Tr.map (cL (cI .i64))) :: .i .i64 (Y4.Tr.length:Int) :: .b (decide ((Y4.Tr.length:Int) > 128)) :: .b (decide ((Y4.Tr.length:Int) > 128)) :: .ptr 0 0 1 :: .sl (Y4.Tr.map (cL (cI .i64))) :: .i .i64 (Y4.Tr.length:Int) :: .i .i64 Y2 :: an 46 []),[.box 27 [.sl (Y4.Pq.map Gv.c), .sl (Y4.Tr.map (cL (cI .i64)))]]⟩
theorem Z4O (Y4:Gm) (hp0:Y4.Pq.length≤1073741824) (hp1:Y4.Tr.length≤1073741824) (hp2:∀ t∈Y4.Tr,t.length≤1073741824) (Z2d:(decide ((Y4.Pq.length:Int) > 64))=false) (Z2e:(decide ((Y4.Tr.length:Int) > 128))=false):∀ (k:Nat) (Y2:Int) (Z2f:0≤Y2) (hk:((Y4.Tr.length:Int) - Y2).toNat < k),Lp prog 0 (sub (X0 f61) [1,1,1,0,1,0,0]) (Z6i Y4 Y2) (Z2M Y4 (Zs Y4 k Y2)).1 (Z2M Y4 (Zs Y4 k Y2)).2:=by
 intro k
 induction k with
 | zero=>intro Y2 Z2f hk;exact absurd hk (Nat.not_lt_zero _)
 | succ k ih =>
  intro Y2 Z2f hk
  cases Yk:(decide (Y2 < (Y4.Tr.length:Int))) with
  | true =>
   have YH:=odt Yk
   have YQ:(0:Int)≤Y2:=(by assumption)
   have YN:Y2 < (Y4.Tr.length:Int):=(by assumption)
   have p {a C} (s:Scr a C):=sB Yk<|sG (cL (cI .i64)) Y4.Tr Y2 YQ YN<|sK [28,28]<|sZ (cI .i64) (Y4.Tr.getD Y2.toNat default)<|s
   cases YB:(((Y4.Tr.getD Y2.toNat default).length:Int) != 3) with
   | true =>
    have Y1C:=bne_iff_ne.1 YB
    have e:Zs Y4 (k + 1) Y2=(.inl ()):=by simp only [Zs,Yk,YB,cond_true]
    rw [e]
    exact outR (e := .ret) E0Ok Ze [] (mR false [2,1,66]) [] (p (sB YB<|sB YB<|sB YB<|sB YB<|sB YB<|sB YB<|sB YB<|sB YB<|sB (show true=true from rfl)<|sB (show true=true from rfl)<|sB (show true=true from rfl)<|sB (show true=true from rfl)<|sB (show true=true from rfl)<|sB (show true=true from rfl)<|sB (show true=true from rfl)<|sB (show true=true from rfl)<|sB (show true=true from rfl)<|sB (show true=true from rfl)<|sB (show true=true from rfl)<|sB (show true=true from rfl)<|sB (show true=true from rfl)<|sB (show true=true from rfl)<|sB (show true=true from rfl)<|sB (show true=true from rfl)<|sB (show true=true from rfl)<|sN)) (by kernel_rfl) (by intro h;cases h)
   | false =>
    have Y1C:=bne_eq_false_iff_eq.1 YB
    have y_2:(0:Int)≤0:=by clear p;exact (by omega)
    have YR:0 < ((Y4.Tr.getD Y2.toNat default).length:Int):=by clear p;exact (by omega)
    have y_4:(0:Int)≤1:=by clear p;exact (by omega)
    have y_5:1 < ((Y4.Tr.getD Y2.toNat default).length:Int):=by clear p;exact (by omega)
    have q {a C} (s:Scr a C):=p (sB YB<|sB YB<|sG (cI .i64) (Y4.Tr.getD Y2.toNat default) 0 y_2 YR<|sB YB<|sB YB<|sB YB<|sG (cI .i64) (Y4.Tr.getD Y2.toNat default) 1 y_4 y_5<|sB YB<|sB YB<|sB YB<|s)
    clear p
    cases YO:(((Y4.Tr.getD Y2.toNat default).getD 0 default) == ((Y4.Tr.getD Y2.toNat default).getD 1 default)) with
    | true =>
     have Y1B:=eq_of_beq YO
     have e:Zs Y4 (k + 1) Y2=(.inl ()):=by simp only [Zs,Yk,YB,YO,cond_true,cond_false]
     rw [e]
     exact outR (e := .ret) E0Ok Ze [] (mR false [2,1,66]) [] (q (sB YO<|sB YO<|sB YO<|sB YO<|sB YO<|sB YO<|sB YO<|sB YO<|sB (show true=true from rfl)<|sB (show true=true from rfl)<|sB (show true=true from rfl)<|sB (show true=true from rfl)<|sB (show true=true from rfl)<|sB (show true=true from rfl)<|sB (show true=true from rfl)<|sB (show true=true from rfl)<|sB (show true=true from rfl)<|sN)) (by kernel_rfl) (by intro h;cases h)
    | false =>
     have Y1B:=ne_of_beq_false YO
     have y_6:(0:Int)≤2:=by clear q;exact (by omega)
     have y_7:2 < ((Y4.Tr.getD Y2.toNat default).length:Int):=by clear q;exact (by omega)
     have p {a C} (s:Scr a C):=q (sB YO<|sB YO<|sG (cI .i64) (Y4.Tr.getD Y2.toNat default) 1 y_4 y_5<|sB YO<|sB YO<|sB YO<|sG (cI .i64) (Y4.Tr.getD Y2.toNat default) 2 y_6 y_7<|sB YO<|sB YO<|sB YO<|s)
     clear q
     cases h_3:(((Y4.Tr.getD Y2.toNat default).getD 1 default) == ((Y4.Tr.getD Y2.toNat default).getD 2 default)) with
     | true =>
      have Y1D:=eq_of_beq h_3
      have e:Zs Y4 (k + 1) Y2=(.inl ()):=by simp only [Zs,Yk,YB,YO,h_3,cond_true,cond_false]
      rw [e]
      exact outR (e := .ret) E0Ok Ze [] (mR false [2,1,66]) [] (p (sB h_3<|sB h_3<|sB h_3<|sB h_3<|sB h_3<|sB h_3<|sB h_3<|sB h_3<|sB (show true=true from rfl)<|sN)) (by kernel_rfl) (by intro h;cases h)
     | false =>
      have Y1D:=ne_of_beq_false h_3
      have q {a C} (s:Scr a C):=p (sB h_3<|sB h_3<|sG (cI .i64) (Y4.Tr.getD Y2.toNat default) 0 y_2 YR<|sB h_3<|sB h_3<|sB h_3<|sG (cI .i64) (Y4.Tr.getD Y2.toNat default) 2 y_6 y_7<|sB h_3<|sB h_3<|sB h_3<|s)
      clear p
      cases h_4:(((Y4.Tr.getD Y2.toNat default).getD 0 default) == ((Y4.Tr.getD Y2.toNat default).getD 2 default)) with
      | true =>
       have gh_4:=eq_of_beq h_4
       have e:Zs Y4 (k + 1) Y2=(.inl ()):=by simp only [Zs,Yk,YB,YO,h_3,h_4,cond_true,cond_false]
       rw [e]
       exact outR (e := .ret) E0Ok Ze [] (mR false [2,1,66]) [] (q (sB h_4<|sN)) (by kernel_rfl) (by intro h;cases h)
      | false =>
       have gh_4:=ne_of_beq_false h_4
       have p {a C} (s:Scr a C):=q (sB h_4<|sZ (cI .i64) (Y4.Tr.getD Y2.toNat default)<|s)
       clear q
       cases h_5:(Z21 Y4 Y2) with
       | inl r_6 =>
        have e:Zs Y4 (k + 1) Y2=(.inl ()):=by simp only [Zs,Yk,YB,YO,h_3,h_4,h_5,cond_true,cond_false]
        rw [e]
        exact outR (e := .ret) E0Ok Ze [] (mR false [2,1,66]) [] (p (sL Z2X 1 (X9 (Z2L Y4 Y2) (x:=(Z21 Y4 Y2)) (Z4N Y4 Y2 hp0 hp1 hp2 Z2d Z2e Z2f YB Z2d Z2e Yk ((((Y4.Tr.getD Y2.toNat default).length:Int) - 0).toNat + 1) 0 (show 0≤0 from (by assumption)) (Nat.lt_succ_self _)) h_5)<|sN)) (by kernel_rfl) (by intro h;cases h)
       | inr r_6 =>
        have y_8:(-9223372036854775808:Int)≤(Y2 + 1):=by clear p;exact (by omega)
        have y_9:(Y2 + 1)≤(9223372036854775807:Int):=by clear p;exact (by omega)
        have e:Zs Y4 (k + 1) Y2=(Zs Y4 k (Y2 + 1)):=by simp only [Zs,Yk,YB,YO,h_3,h_4,h_5,cond_true,cond_false]
        rw [e]
        exact XG E0Ok Ze [] (mR false [0,2,1,1,4,15,46]) [0] (ih (Y2 + 1) (show 0≤(Y2 + 1) from (by omega)) (by omega)) (p (sL Z2X 1 (X9 (Z2L Y4 Y2) (x:=(Z21 Y4 Y2)) (Z4N Y4 Y2 hp0 hp1 hp2 Z2d Z2e Z2f YB Z2d Z2e Yk ((((Y4.Tr.getD Y2.toNat default).length:Int) - 0).toNat + 1) 0 (show 0≤0 from (by assumption)) (Nat.lt_succ_self _)) h_5)<|sI (Y2 + 1) y_8 y_9<|sN)) (by kernel_rfl)
  | false =>
   have YH:=odf Yk
   have e:Zs Y4 (k + 1) Y2=(.inr ()):=by simp only [Zs,Yk,cond_false]
   rw [e]
   exact outR (e:=(.exit 0)) E0Ok Ze [] (mR false [0,2,1,1,4,13,48]) [0] (sB Yk<|sN) (by kernel_rfl) (by intro h;cases h)
def Z2g (Y4:Gm):(Unit) ⊕ (Unit):=(Zs Y4 (((Y4.Tr.length:Int) - 0).toNat + 1) 0)
def Zo (Y4:Gm):Bool:=(cond (decide ((Y4.Pq.length:Int) > 64))
  false
  (cond (decide ((Y4.Tr.length:Int) > 128))
    false
    (match (Z2g Y4) with
      | .inl r3=>false
      | .inr r3=>true)))
def triI (t:List Int) (n:Int):Bool:=(!((t.length:Int) != 3) && (!(t.getD 0 default == t.getD 1 default) && (!(t.getD 1 default == t.getD 2 default) && (!(t.getD 0 default == t.getD 2 default) && t.all fun x=>Zq x 0 (IntKind.wrap .i64 (n - 1))))))
theorem Z8U (m:Gm) (k:Nat) (i:Int):Zs m (k + 1) i=cond (decide (i < (m.Tr.length:Int))) (cond (triI (m.Tr.getD i.toNat default) (m.Pq.length:Int)) (Zs m k (i + 1)) (.inl ())) (.inr ()):=by
  rw [Zs]
  have hin:Z21 m i=cond ((m.Tr.getD i.toNat default).all fun x=>Zq x 0 (IntKind.wrap .i64 ((m.Pq.length:Int) - 1))) (.inr ()) (.inl ()):=by
    unfold Z21
    exact X4v (a:=m.Tr.getD i.toNat default) (p:=fun x=>Zq x 0 (IntKind.wrap .i64 ((m.Pq.length:Int) - 1))) (lo:=Z15 m i) (x:=()) (y:=()) (fun k i=>rfl)
  rw [hin]
  unfold triI
  generalize m.Tr.getD i.toNat default=t
  generalize (t.all fun x=>Zq x 0 (IntKind.wrap .i64 ((m.Pq.length:Int) - 1)))=q
  cases ((t.length:Int) != 3)<;>cases (t.getD 0 default == t.getD 1 default)<;>cases (t.getD 1 default == t.getD 2 default)<;>cases (t.getD 0 default == t.getD 2 default)<;>cases q<;>rfl
theorem Z79 (m:Gm):Zo m=cond (decide ((m.Pq.length:Int) > 64)) false (cond (decide ((m.Tr.length:Int) > 128)) false (m.Tr.all fun t=>triI t (m.Pq.length:Int))):=by
  unfold Zo Z2g
  rw [X4v (a:=m.Tr) (p:=fun t=>triI t (m.Pq.length:Int)) (lo:=Zs m) (x:=()) (y:=()) (Z8U m)]
  cases (m.Tr.all fun t=>triI t (m.Pq.length:Int))<;>rfl
theorem Z40 (m:Gm) (h:Zo m=true):OkE m.Pq.length m.Tr:=by
  rw [Z79] at h
  cases h1:decide ((m.Pq.length:Int) > 64)<;>rw [h1] at h<;>(try (cases h;done))
  cases h2:decide ((m.Tr.length:Int) > 128)<;>rw [h2] at h<;>(try (cases h;done))
  simp only [cond_false,List.all_eq_true,decide_eq_false_iff_not] at h h1 h2
  refine ⟨by omega,by omega,fun t ht => ?_⟩
  have h3:=h t ht
  unfold triI at h3
  rw [X9z (by omega) (by omega)] at h3
  simp only [Bool.and_eq_true,Bool.not_eq_true',List.all_eq_true,bne_eq_false_iff_eq,beq_eq_false_iff_ne] at h3
  obtain ⟨g0,g1,g2,g3,g4⟩:=h3
  have hl:t.length=3:=by omega
  match t,hl with
  | [a,b,c],_ =>
    have hw:∀ x,Zq x 0 ((m.Pq.length:Int) - 1)=true→0≤x∧x < (m.Pq.length:Int):=by
      intro x hx
      unfold Zq at hx
      cases f1:decide (x ≥ 0)<;>rw [f1] at hx<;>(try (cases hx;done))
      simp only [cond_true,decide_eq_true_eq] at hx f1
      omega
    exact ⟨a,b,c,rfl,hw a (g4 a (by simp)),hw b (g4 b (by simp)),hw c (g4 c (by simp)),g1,g2,g3⟩
theorem Z7a (Y4:Gm) (hp0:Y4.Pq.length≤1073741824) (hp1:Y4.Tr.length≤1073741824) (hp2:∀ t∈Y4.Tr,t.length≤1073741824)  : Fn prog 61 [.agg [.sl (Y4.Pq.map Gv.c), .sl (Y4.Tr.map (cL (cI .i64)))]] (.b (Zo Y4)) []:=by
 have p {a C} (s:Scr a C):=sZ Gv.c Y4.Pq<|s
 cases h0:(decide ((Y4.Pq.length:Int) > 64)) with
 | true =>
  have gh0:=odt h0
  refine fnS E0Ok Ze (c:=X0 f61) [] (.b false) [] func61 (p (sB h0<|sB h0<|sB h0<|sB h0<|sB h0<|sB (show true=true from rfl)<|sK [] sN)) rfl (by kernel_rfl) (by kernel_rfl) rfl ?_ ?_
  · simp only [Zo,h0,cond_true]
  · rfl
 | false =>
  have gh0:=odf h0
  have q {a C} (s:Scr a C):=p (sB h0<|sB h0<|sB h0<|sZ (cL (cI .i64)) Y4.Tr<|sB h0<|sB h0<|s)
  clear p
  cases h1:(decide ((Y4.Tr.length:Int) > 128)) with
  | true =>
   have gh1:=odt h1
   refine fnS E0Ok Ze (c:=X0 f61) [] (.b false) [] func61 (q (sB h1<|sK [] sN)) rfl (by kernel_rfl) (by kernel_rfl) rfl ?_ ?_
   · simp only [Zo,h0,h1,cond_true,cond_false]
   · rfl
  | false =>
   have gh1:=odf h1
   have p {a C} (s:Scr a C):=q (sB h1<|sZ (cL (cI .i64)) Y4.Tr<|s)
   clear q
   cases h2:(Z2g Y4) with
   | inl r3 =>
    refine fnS E0Ok Ze (c:=X0 f61) [] (.b false) [] func61 (p (sL (mR false [0,2,1,1,4,15,46]) 1 (X9 (Z2M Y4) (x:=(Z2g Y4)) (Z4O Y4 hp0 hp1 hp2 h0 h1 (((Y4.Tr.length:Int) - 0).toNat + 1) 0 (show 0≤0 from (by omega)) (Nat.lt_succ_self _)) h2)<|sK [] sN)) rfl (by kernel_rfl) (by kernel_rfl) rfl ?_ ?_
    · simp only [Zo,h0,h1,h2,cond_false]
    · rfl
   | inr r3 =>
    refine fnS E0Ok Ze (c:=X0 f61) [] (.b true) [] func61 (p (sL (mR false [0,2,1,1,4,15,46]) 1 (X9 (Z2M Y4) (x:=(Z2g Y4)) (Z4O Y4 hp0 hp1 hp2 h0 h1 (((Y4.Tr.length:Int) - 0).toNat + 1) 0 (show 0≤0 from (by omega)) (Nat.lt_succ_self _)) h2)<|sK [] sN)) rfl (by kernel_rfl) (by kernel_rfl) rfl ?_ ?_
    · simp only [Zo,h0,h1,h2,cond_false]
    · rfl
def ZA (Y6:Gb):Nat→Int→(Unit) ⊕ (Unit)
  | 0,_ => .inl default
  | k + 1,Y2=>(cond (decide (Y2 < (Y6.Sp.length:Int)))
    (cond (Zq ((Y6.Sp.getD Y2.toNat default).A) 0 (IntKind.wrap .i64 ((Y6.Me.Pq.length:Int) - 1)))
      (cond (Zq ((Y6.Sp.getD Y2.toNat default).B) 0 (IntKind.wrap .i64 ((Y6.Me.Pq.length:Int) - 1)))
        (cond ((Y6.Sp.getD Y2.toNat default).A == (Y6.Sp.getD Y2.toNat default).B)
          (.inl ())
          (cond (fcmp .geq .f32 ((Y6.Sp.getD Y2.toNat default).Long) 0)
            (ZA Y6 k (Y2 + 1))
            (.inl ())))
        (.inl ()))
      (.inl ()))
    (.inr ()))
def Z2N (Y6:Gb):(Unit) ⊕ (Unit)→Ex × St
  | .inl r=>(.ret,⟨.any :: .any :: .b false :: an 59 [],[]⟩)
  | .inr r=>((.exit 0),⟨.agg [.sl (Y6.Me.Pq.map Gv.c), .sl (Y6.Me.Tr.map (cL (cI .i64))), .sl (Y6.Sp.map Gs.c), .f .f32 Y6.Film, .f .f32 Y6.Bend, .sl (Y6.We.map (cF .f32)), .f .f32 Y6.Fall.X, .f .f32 Y6.Fall.Y, .f .f32 Y6.Fall.Z] :: .ptr 0 0 0 :: .any :: .i .i64 (Y6.Me.Pq.length:Int) :: .any :: .any :: .ptr 0 0 0 :: .ptr 0 0 0 :: .sl (Y6.Me.Pq.map Gv.c) :: .i .i64 (Y6.Me.Pq.length:Int) :: .ptr 0 0 0 :: .agg [.sl (Y6.Me.Pq.map Gv.c), .sl (Y6.Me.Tr.map (cL (cI .i64)))] :: .b (Zo Y6.Me) :: .b (!(Zo Y6.Me)) :: .b (!(Zo Y6.Me)) :: .ptr 0 0 2 :: .sl (Y6.Sp.map Gs.c) :: .i .i64 (Y6.Sp.length:Int) :: .b (decide ((Y6.Sp.length:Int) > 200)) :: .b (decide ((Y6.Sp.length:Int) > 200)) :: .b (decide ((Y6.Sp.length:Int) > 200)) :: .ptr 0 0 5 :: .sl (Y6.We.map (cF .f32)) :: .i .i64 (Y6.We.length:Int) :: .i .i64 (Y6.Me.Pq.length:Int) :: .b ((Y6.We.length:Int) != (Y6.Me.Pq.length:Int)) :: .b ((Y6.We.length:Int) != (Y6.Me.Pq.length:Int)) :: .ptr 0 0 2 :: .sl (Y6.Sp.map Gs.c) :: an 33 [],[.box 34 [.sl (Y6.Me.Pq.map Gv.c), .sl (Y6.Me.Tr.map (cL (cI .i64))), .sl (Y6.Sp.map Gs.c), .f .f32 Y6.Film, .f .f32 Y6.Bend, .sl (Y6.We.map (cF .f32)), .f .f32 Y6.Fall.X, .f .f32 Y6.Fall.Y, .f .f32 Y6.Fall.Z]]⟩)
def Z6j (Y6:Gb) (Y2:Int):St:=⟨.agg [.sl (Y6.Me.Pq.map Gv.c), .sl (Y6.Me.Tr.map (cL (cI .i64))), .sl (Y6.Sp.map Gs.c), .f .f32 Y6.Film, .f .f32 Y6.Bend, .sl (Y6.We.map (cF .f32)), .f .f32 Y6.Fall.X, .f .f32 Y6.Fall.Y, .f .f32 Y6.Fall.Z] :: .ptr 0 0 0 :: .any :: .i .i64 (Y6.Me.Pq.length:Int) :: .any :: .any :: .ptr 0 0 0 :: .ptr 0 0 0 :: .sl (Y6.Me.Pq.map Gv.c) :: .i .i64 (Y6.Me.Pq.length:Int) :: .ptr 0 0 0 :: .agg [.sl (Y6.Me.Pq.map Gv.c), .sl (Y6.Me.Tr.map (cL (cI .i64)))] :: .b (Zo Y6.Me) :: .b (!(Zo Y6.Me)) :: .b (!(Zo Y6.Me)) :: .ptr 0 0 2 :: .sl (Y6.Sp.map Gs.c) :: .i .i64 (Y6.Sp.length:Int) :: .b (decide ((Y6.Sp.length:Int) > 200)) :: .b (decide ((Y6.Sp.length:Int) > 200)) :: .b (decide ((Y6.Sp.length:Int) > 200)) :: .ptr 0 0 5 :: .sl (Y6.We.map (cF .f32)) :: .i .i64 (Y6.We.length:Int) :: .i .i64 (Y6.Me.Pq.length:Int) :: .b ((Y6.We.length:Int) != (Y6.Me.Pq.length:Int)) :: .b ((Y6.We.length:Int) != (Y6.Me.Pq.length:Int)) :: .ptr 0 0 2 :: .sl (Y6.Sp.map Gs.c) :: .i .i64 (Y6.Sp.length:Int) :: .i .i64 Y2 :: an 31 [],[.box 34 [.sl (Y6.Me.Pq.map Gv.c), .sl (Y6.Me.Tr.map (cL (cI .i64))), .sl (Y6.Sp.map Gs.c), .f .f32 Y6.Film, .f .f32 Y6.Bend, .sl (Y6.We.map (cF .f32)), .f .f32 Y6.Fall.X, .f .f32 Y6.Fall.Y, .f .f32 Y6.Fall.Z]]⟩
theorem Z4P (Y6:Gb) (hp0:Y6.Me.Pq.length≤1073741824) (hp1:Y6.Me.Tr.length≤1073741824) (hp2:∀ t∈Y6.Me.Tr,t.length≤1073741824) (hp3:Y6.Sp.length≤1073741824) (hp4:Y6.We.length≤1073741824) (Z8x:((Y6.We.length:Int) != (Y6.Me.Pq.length:Int))=false) (Z8y:(decide ((Y6.Sp.length:Int) > 200))=false) (Z8z:(Zo Y6.Me)=true):∀ (k:Nat) (Y2:Int) (Z4h:0≤Y2) (hk:((Y6.Sp.length:Int) - Y2).toNat < k),Lp prog 0 (sub (X0 f11) [1,1,1,0,1,0,0]) (Z6j Y6 Y2) (Z2N Y6 (ZA Y6 k Y2)).1 (Z2N Y6 (ZA Y6 k Y2)).2:=by
 intro k
 induction k with
 | zero=>intro Y2 Z4h hk;exact absurd hk (Nat.not_lt_zero _)
 | succ k ih =>
  intro Y2 Z4h hk
  cases Yk:(decide (Y2 < (Y6.Sp.length:Int))) with
  | true =>
   have YH:=odt Yk
   have YQ:(0:Int)≤Y2:=(by assumption)
   have YN:Y2 < (Y6.Sp.length:Int):=(by assumption)
   have p {a C} (s:Scr a C):=sB Yk<|sG Gs.c Y6.Sp Y2 YQ YN<|sW .i64 ((Y6.Me.Pq.length:Int) - 1)<|sF (Z37 ((Y6.Sp.getD Y2.toNat default).A) 0 (IntKind.wrap .i64 ((Y6.Me.Pq.length:Int) - 1)))<|s
   cases YB:(Zq ((Y6.Sp.getD Y2.toNat default).A) 0 (IntKind.wrap .i64 ((Y6.Me.Pq.length:Int) - 1))) with
   | true =>
    have q {a C} (s:Scr a C):=p (sB' YB<|sB' YB<|sB' YB<|sB' YB<|sW .i64 ((Y6.Me.Pq.length:Int) - 1)<|sB' YB<|sF (Z37 ((Y6.Sp.getD Y2.toNat default).B) 0 (IntKind.wrap .i64 ((Y6.Me.Pq.length:Int) - 1)))<|sB' YB<|sB' YB<|s)
    clear p
    cases YO:(Zq ((Y6.Sp.getD Y2.toNat default).B) 0 (IntKind.wrap .i64 ((Y6.Me.Pq.length:Int) - 1))) with
    | true =>
     have p {a C} (s:Scr a C):=q (sB' YO<|sB' YO<|sB' YO<|sB' YO<|sB' YO<|sB' YO<|s)
     clear q
     cases h_3:((Y6.Sp.getD Y2.toNat default).A == (Y6.Sp.getD Y2.toNat default).B) with
     | true =>
      have Y1D:=eq_of_beq h_3
      have e:ZA Y6 (k + 1) Y2=(.inl ()):=by simp only [ZA,Yk,YB,YO,h_3,cond_true]
      rw [e]
      exact outR (e := .ret) E0Ok Ze [] (mR false [2,1,59]) [] (p (sB h_3<|sB h_3<|sB h_3<|sB h_3<|sB h_3<|sB (show true=true from rfl)<|sN)) (by kernel_rfl) (by intro h;cases h)
     | false =>
      have Y1D:=ne_of_beq_false h_3
      have q {a C} (s:Scr a C):=p (sB h_3<|sB h_3<|sB h_3<|sB h_3<|sB h_3<|s)
      clear p
      cases h_4:(fcmp .geq .f32 ((Y6.Sp.getD Y2.toNat default).Long) 0) with
      | true =>
       have y_2:(-9223372036854775808:Int)≤(Y2 + 1):=by clear q;exact (by omega)
       have YR:(Y2 + 1)≤(9223372036854775807:Int):=by clear q;exact (by omega)
       have e:ZA Y6 (k + 1) Y2=(ZA Y6 k (Y2 + 1)):=by simp only [ZA,Yk,YB,YO,h_3,h_4,cond_true,cond_false]
       rw [e]
       exact XG E0Ok Ze [] (mR false [0,2,1,1,2,25,31]) [0] (ih (Y2 + 1) (show 0≤(Y2 + 1) from (by omega)) (by omega)) (q (sB' h_4<|sI (Y2 + 1) y_2 YR<|sN)) (by kernel_rfl)
      | false =>
       have e:ZA Y6 (k + 1) Y2=(.inl ()):=by simp only [ZA,Yk,YB,YO,h_3,h_4,cond_true,cond_false]
       rw [e]
       exact outR (e := .ret) E0Ok Ze [] (mR false [2,1,59]) [] (q (sB' h_4<|sN)) (by kernel_rfl) (by intro h;cases h)
    | false =>
     have e:ZA Y6 (k + 1) Y2=(.inl ()):=by simp only [ZA,Yk,YB,YO,cond_true,cond_false]
     rw [e]
     exact outR (e := .ret) E0Ok Ze [] (mR false [2,1,59]) [] (q (sB' YO<|sB' YO<|sB' YO<|sB' YO<|sB' YO<|sB' YO<|sB (show true=true from rfl)<|sB (show true=true from rfl)<|sB (show true=true from rfl)<|sB (show true=true from rfl)<|sB (show true=true from rfl)<|sB (show true=true from rfl)<|sN)) (by kernel_rfl) (by intro h;cases h)
   | false =>
    have e:ZA Y6 (k + 1) Y2=(.inl ()):=by simp only [ZA,Yk,YB,cond_true,cond_false]
    rw [e]
    exact outR (e := .ret) E0Ok Ze [] (mR false [2,1,59]) [] (p (sB' YB<|sB' YB<|sB' YB<|sB' YB<|sB' YB<|sB' YB<|sB' YB<|sB (show true=true from rfl)<|sB (show true=true from rfl)<|sB (show true=true from rfl)<|sB (show true=true from rfl)<|sB (show true=true from rfl)<|sB (show true=true from rfl)<|sB (show true=true from rfl)<|sB (show true=true from rfl)<|sB (show true=true from rfl)<|sB (show true=true from rfl)<|sB (show true=true from rfl)<|sB (show true=true from rfl)<|sN)) (by kernel_rfl) (by intro h;cases h)
  | false =>
   have YH:=odf Yk
   have e:ZA Y6 (k + 1) Y2=(.inr ()):=by simp only [ZA,Yk,cond_false]
   rw [e]
   exact outR (e:=(.exit 0)) E0Ok Ze [] (mR false [0,2,1,1,2,23,33]) [0] (sB Yk<|sN) (by kernel_rfl) (by intro h;cases h)
def Z2h (Y6:Gb):(Unit) ⊕ (Unit):=(ZA Y6 (((Y6.Sp.length:Int) - 0).toNat + 1) 0)
def ZB (Y6:Gb):Bool:=(cond (Zo Y6.Me)
  (cond (decide ((Y6.Sp.length:Int) > 200))
    false
    (cond ((Y6.We.length:Int) != (Y6.Me.Pq.length:Int))
      false
      (match (Z2h Y6) with
        | .inl r4=>false
        | .inr r4=>true)))
  false)
structure OkBd (b:Gb):Prop where
  e:OkE b.Me.Pq.length b.Me.Tr
  w:b.We.length=b.Me.Pq.length
  a:OkIx b.Me.Pq.length Gs.A b.Sp
  b:OkIx b.Me.Pq.length Gs.B b.Sp
theorem Z2S {b:Gb} (h:OkBd b) {i:Int} (h0:0≤i) (hi:decide (i < (b.Sp.length:Int))=true):(0≤(b.Sp.getD i.toNat default).A∧(b.Sp.getD i.toNat default).A < (b.Me.Pq.length:Int))∧(0≤(b.Sp.getD i.toNat default).B∧(b.Sp.getD i.toNat default).B < (b.Me.Pq.length:Int)) :=
  ⟨OkIx.at h.a h0 (odt hi),OkIx.at h.b h0 (odt hi)⟩
def sprI (s:Gs) (n:Int):Bool:=cond (Zq s.A 0 (IntKind.wrap .i64 (n - 1))) (cond (Zq s.B 0 (IntKind.wrap .i64 (n - 1))) (cond (s.A == s.B) false (fcmp .geq .f32 s.Long 0)) false) false
theorem Z8J (b:Gb) (k:Nat) (i:Int):ZA b (k + 1) i=cond (decide (i < (b.Sp.length:Int))) (cond (sprI (b.Sp.getD i.toNat default) (b.Me.Pq.length:Int)) (ZA b k (i + 1)) (.inl ())) (.inr ()):=by
  rw [ZA]
  unfold sprI
  generalize b.Sp.getD i.toNat default=s
  cases Zq s.A 0 (IntKind.wrap .i64 ((b.Me.Pq.length:Int) - 1))<;>cases Zq s.B 0 (IntKind.wrap .i64 ((b.Me.Pq.length:Int) - 1))<;>cases (s.A == s.B)<;>cases fcmp .geq .f32 s.Long 0<;>rfl
theorem Z7m (b:Gb):ZB b=cond (Zo b.Me) (cond (decide ((b.Sp.length:Int) > 200)) false (cond ((b.We.length:Int) != (b.Me.Pq.length:Int)) false (b.Sp.all fun s=>sprI s (b.Me.Pq.length:Int)))) false:=by
  unfold ZB Z2h
  rw [X4v (a:=b.Sp) (p:=fun s=>sprI s (b.Me.Pq.length:Int)) (lo:=ZA b) (x:=()) (y:=()) (Z8J b)]
  cases (b.Sp.all fun s=>sprI s (b.Me.Pq.length:Int))<;>rfl
theorem Z7n {x n:Int} (h0:0≤n) (hn:n≤1073741824) (h:Zq x 0 (IntKind.wrap .i64 (n - 1))=true):0≤x∧x < n:=by
  rw [Xt (by omega) (by omega)] at h
  unfold Zq at h
  by_cases h1:x ≥ 0
  · rw [decide_eq_true h1,cond_true] at h
    have:=odt h
    omega
  · rw [decide_eq_false h1,cond_false] at h;cases h
theorem Z7R (b:Gb) (h:ZB b=true):OkBd b:=by
  rw [Z7m] at h
  cases h1:Zo b.Me with
  | false=>rw [h1] at h;cases h
  | true =>
    have oe:=Z40 _ h1
    have hp:=oe.1
    rw [h1,cond_true] at h
    cases h2:decide ((b.Sp.length:Int) > 200) with
    | true=>rw [h2] at h;cases h
    | false =>
      rw [h2,cond_false] at h
      cases h3:((b.We.length:Int) != (b.Me.Pq.length:Int)) with
      | true=>rw [h3] at h;cases h
      | false =>
        rw [h3,cond_false,List.all_eq_true] at h
        have hw:=bne_eq_false_iff_eq.1 h3
        refine ⟨oe,by omega,fun s hs => ?_,fun s hs => ?_⟩ <;>
        · have q:=h s hs
          unfold sprI at q
          cases q1:Zq s.A 0 (IntKind.wrap .i64 ((b.Me.Pq.length:Int) - 1)) with
          | false=>rw [q1] at q;cases q
          | true =>
            rw [q1,cond_true] at q
            cases q2:Zq s.B 0 (IntKind.wrap .i64 ((b.Me.Pq.length:Int) - 1)) with
            | false=>rw [q2] at q;cases q
            | true =>
              first | exact Z7n (by omega) (by omega) q1 | exact Z7n (by omega) (by omega) q2
theorem Z41 (Y6:Gb) (hp0:Y6.Me.Pq.length≤1073741824) (hp1:Y6.Me.Tr.length≤1073741824) (hp2:∀ t∈Y6.Me.Tr,t.length≤1073741824) (hp3:Y6.Sp.length≤1073741824) (hp4:Y6.We.length≤1073741824)  : Fn prog 11 [.agg [.sl (Y6.Me.Pq.map Gv.c), .sl (Y6.Me.Tr.map (cL (cI .i64))), .sl (Y6.Sp.map Gs.c), .f .f32 Y6.Film, .f .f32 Y6.Bend, .sl (Y6.We.map (cF .f32)), .f .f32 Y6.Fall.X, .f .f32 Y6.Fall.Y, .f .f32 Y6.Fall.Z]] (.b (ZB Y6)) []:=by
 have p {a C} (s:Scr a C):=sZ Gv.c Y6.Me.Pq<|sF (Z7a Y6.Me hp0 hp1 hp2)<|s
 cases h0:(Zo Y6.Me) with
 | true =>
  have q {a C} (s:Scr a C):=p (sB' h0<|sB' h0<|sB' h0<|sZ Gs.c Y6.Sp<|sB' h0<|sB' h0<|s)
  clear p
  cases h1:(decide ((Y6.Sp.length:Int) > 200)) with
  | true =>
   have gh1:=odt h1
   refine fnS E0Ok Ze (c:=X0 f11) [] (.b false) [] func11 (q (sB h1<|sB h1<|sB h1<|sB h1<|sB h1<|sB h1<|sB (show true=true from rfl)<|sK [] sN)) rfl (by kernel_rfl) (by kernel_rfl) rfl ?_ ?_
   · simp only [ZB,h0,h1,cond_true]
   · rfl
  | false =>
   have gh1:=odf h1
   have p {a C} (s:Scr a C):=q (sB h1<|sB h1<|sB h1<|sZ (cF .f32) Y6.We<|sB h1<|sB h1<|sB h1<|s)
   clear q
   cases h2:((Y6.We.length:Int) != (Y6.Me.Pq.length:Int)) with
   | true =>
    have gh2:=bne_iff_ne.1 h2
    refine fnS E0Ok Ze (c:=X0 f11) [] (.b false) [] func11 (p (sB h2<|sK [] sN)) rfl (by kernel_rfl) (by kernel_rfl) rfl ?_ ?_
    · simp only [ZB,h0,h1,h2,cond_true,cond_false]
    · rfl
   | false =>
    have gh2:=bne_eq_false_iff_eq.1 h2
    have q {a C} (s:Scr a C):=p (sB h2<|sZ Gs.c Y6.Sp<|s)
    clear p
    cases h3:(Z2h Y6) with
    | inl r4 =>
     refine fnS E0Ok Ze (c:=X0 f11) [] (.b false) [] func11 (q (sL (mR false [0,2,1,1,2,25,31]) 1 (X9 (Z2N Y6) (x:=(Z2h Y6)) (Z4P Y6 hp0 hp1 hp2 hp3 hp4 h2 h1 h0 (((Y6.Sp.length:Int) - 0).toNat + 1) 0 (show 0≤0 from (by omega)) (Nat.lt_succ_self _)) h3)<|sK [] sN)) rfl (by kernel_rfl) (by kernel_rfl) rfl ?_ ?_
     · simp only [ZB,h0,h1,h2,h3,cond_true,cond_false]
     · rfl
    | inr r4 =>
     refine fnS E0Ok Ze (c:=X0 f11) [] (.b true) [] func11 (q (sL (mR false [0,2,1,1,2,25,31]) 1 (X9 (Z2N Y6) (x:=(Z2h Y6)) (Z4P Y6 hp0 hp1 hp2 hp3 hp4 h2 h1 h0 (((Y6.Sp.length:Int) - 0).toNat + 1) 0 (show 0≤0 from (by omega)) (Nat.lt_succ_self _)) h3)<|sK [] sN)) rfl (by kernel_rfl) (by kernel_rfl) rfl ?_ ?_
     · simp only [ZB,h0,h1,h2,h3,cond_true,cond_false]
     · rfl
 | false =>
  refine fnS E0Ok Ze (c:=X0 f11) [] (.b false) [] func11 (p (sB' h0<|sB' h0<|sB' h0<|sB' h0<|sB' h0<|sB (show true=true from rfl)<|sB (show true=true from rfl)<|sB (show true=true from rfl)<|sB (show true=true from rfl)<|sB (show true=true from rfl)<|sB (show true=true from rfl)<|sB (show true=true from rfl)<|sK [] sN)) rfl (by kernel_rfl) (by kernel_rfl) rfl ?_ ?_
  · simp only [ZB,h0,cond_false]
  · rfl
def ZW (Yw:Gv) (Yx:Gv):Gv:=(⟨(fop .sub .f32 Yw.X Yx.X),(fop .sub .f32 Yw.Y Yx.Y),(fop .sub .f32 Yw.Z Yx.Z)⟩:Gv)
theorem Z2i (Yw:Gv) (Yx:Gv)   : Fn prog 78 [.agg [.f .f32 Yw.X, .f .f32 Yw.Y, .f .f32 Yw.Z], .agg [.f .f32 Yx.X, .f .f32 Yx.Y, .f .f32 Yx.Z]] (.agg [.f .f32 ((ZW Yw Yx).X), .f .f32 ((ZW Yw Yx).Y), .f .f32 ((ZW Yw Yx).Z)]) []:=by
 refine fnS E0Ok Ze (c:=X0 f78) [] (.agg [.f .f32 (fop .sub .f32 Yw.X Yx.X), .f .f32 (fop .sub .f32 Yw.Y Yx.Y), .f .f32 (fop .sub .f32 Yw.Z Yx.Z)]) [] func78 (sK [] sN) rfl (by kernel_rfl) (by kernel_rfl) rfl ?_ ?_
 · rfl
 · rfl
def Zl (Y6:Gb) (s_1:Gs):Gv:=(ZW (Y6.Me.Pq.getD s_1.B.toNat default) (Y6.Me.Pq.getD s_1.A.toNat default))
theorem Z5e (Y6:Gb) (s_1:Gs) (hp0:Y6.Me.Pq.length≤1073741824) (hp1:Y6.Me.Tr.length≤1073741824) (hp2:∀ t∈Y6.Me.Tr,t.length≤1073741824) (hp3:Y6.Sp.length≤1073741824) (hp4:Y6.We.length≤1073741824) (hp5:0≤s_1.A) (hp6:s_1.A < (Y6.Me.Pq.length:Int)) (hp7:0≤s_1.B) (hp8:s_1.B < (Y6.Me.Pq.length:Int))  : Fn prog 93 [.agg [.sl (Y6.Me.Pq.map Gv.c), .sl (Y6.Me.Tr.map (cL (cI .i64))), .sl (Y6.Sp.map Gs.c), .f .f32 Y6.Film, .f .f32 Y6.Bend, .sl (Y6.We.map (cF .f32)), .f .f32 Y6.Fall.X, .f .f32 Y6.Fall.Y, .f .f32 Y6.Fall.Z], .agg [.i .i64 s_1.A, .i .i64 s_1.B, .f .f32 s_1.Long, .f .f32 s_1.Stiff]] (.agg [.f .f32 ((Zl Y6 s_1).X), .f .f32 ((Zl Y6 s_1).Y), .f .f32 ((Zl Y6 s_1).Z)]) []:=by
 have y0:(0:Int)≤s_1.B:=(by assumption)
 have y1:(0:Int)≤s_1.A:=(by assumption)
 refine fnS E0Ok Ze (c:=X0 f93) [] (.agg [.f .f32 ((ZW (Y6.Me.Pq.getD s_1.B.toNat default) (Y6.Me.Pq.getD s_1.A.toNat default)).X), .f .f32 ((ZW (Y6.Me.Pq.getD s_1.B.toNat default) (Y6.Me.Pq.getD s_1.A.toNat default)).Y), .f .f32 ((ZW (Y6.Me.Pq.getD s_1.B.toNat default) (Y6.Me.Pq.getD s_1.A.toNat default)).Z)]) [] func93 (sK [14,14]<|sG Gv.c Y6.Me.Pq s_1.B y0 hp8<|sG Gv.c Y6.Me.Pq s_1.A y1 hp6<|sF (Z2i (Y6.Me.Pq.getD s_1.B.toNat default) (Y6.Me.Pq.getD s_1.A.toNat default))<|sK [] sN) rfl (by kernel_rfl) (by kernel_rfl) rfl ?_ ?_
 · rfl
 · rfl
def Z1v (Yw:Gv) (Yx:Gv):Nat:=(fop .add .f32 (fop .add .f32 (fop .mul .f32 Yw.X Yx.X) (fop .mul .f32 Yw.Y Yx.Y)) (fop .mul .f32 Yw.Z Yx.Z))
theorem Z51 (Yw:Gv) (Yx:Gv)   : Fn prog 53 [.agg [.f .f32 Yw.X, .f .f32 Yw.Y, .f .f32 Yw.Z], .agg [.f .f32 Yx.X, .f .f32 Yx.Y, .f .f32 Yx.Z]] (.f .f32 (Z1v Yw Yx)) []:=by
 refine fnS E0Ok Ze (c:=X0 f53) [] (.f .f32 (fop .add .f32 (fop .add .f32 (fop .mul .f32 Yw.X Yx.X) (fop .mul .f32 Yw.Y Yx.Y)) (fop .mul .f32 Yw.Z Yx.Z))) [] func53 (sK [] sN) rfl (by kernel_rfl) (by kernel_rfl) rfl ?_ ?_
 · rfl
 · rfl
def Z2E (YL:Nat):Nat:=(X1y YL)
theorem Z72 (YL:Nat)   : Fn prog 121 [.f .f64 YL] (.f .f64 (Z2E YL)) []:=by
 refine fnS E0Ok Ze (c:=X0 f121) [] (.f .f64 (X1y YL)) [] func121 (sK [] sN) rfl (by kernel_rfl) (by kernel_rfl) rfl ?_ ?_
 · rfl
 · rfl
def Z3K (YL:Nat):Nat:=(fcv .f64 .f32 (Z2E (fcv .f32 .f64 YL)))
theorem Z6W (YL:Nat)   : Fn prog 98 [.f .f32 YL] (.f .f32 (Z3K YL)) []:=by
 have y0:X1Q .f64 .f32 (Z2E (fcv .f32 .f64 YL))=true:=(X4l _)
 refine fnS E0Ok Ze (c:=X0 f98) [] (.f .f32 (fcv .f64 .f32 (Z2E (fcv .f32 .f64 YL)))) [] func98 (sC (X1N YL)<|sF (Z72 (fcv .f32 .f64 YL))<|sC y0<|sK [] sN) rfl (by kernel_rfl) (by kernel_rfl) rfl ?_ ?_
 · rfl
 · rfl
def Zg (YP:Gv):Nat:=(Z3K (Z1v YP YP))
theorem Z3X (YP:Gv)   : Fn prog 52 [.agg [.f .f32 YP.X, .f .f32 YP.Y, .f .f32 YP.Z]] (.f .f32 (Zg YP)) []:=by
 refine fnS E0Ok Ze (c:=X0 f52) [] (.f .f32 (Z3K (Z1v YP YP))) [] func52 (sF (Z51 YP YP)<|sF (Z6W (Z1v YP YP))<|sK [] sN) rfl (by kernel_rfl) (by kernel_rfl) rfl ?_ ?_
 · rfl
 · rfl
def ZZ (d_0:Gv) (s_1:Gs):Nat:=(cond (fcmp .gtr .f32 (Zg d_0) 0)
  (fop .quo .f32 (fop .mul .f32 s_1.Stiff (fop .sub .f32 (Zg d_0) s_1.Long)) (Zg d_0))
  0)
theorem Z81 (d_0:Gv) (s_1:Gs)   : Fn prog 95 [.agg [.f .f32 d_0.X, .f .f32 d_0.Y, .f .f32 d_0.Z], .agg [.i .i64 s_1.A, .i .i64 s_1.B, .f .f32 s_1.Long, .f .f32 s_1.Stiff]] (.f .f32 (ZZ d_0 s_1)) []:=by
 have p {a C} (s:Scr a C):=sF (Z3X d_0)<|s
 cases h0:(fcmp .gtr .f32 (Zg d_0) 0) with
 | true =>
  refine fnS E0Ok Ze (c:=X0 f95) [] (.f .f32 (fop .quo .f32 (fop .mul .f32 s_1.Stiff (fop .sub .f32 (Zg d_0) s_1.Long)) (Zg d_0))) [] func95 (p (sB' h0<|sK [] sN)) rfl (by kernel_rfl) (by kernel_rfl) rfl ?_ ?_
  · simp only [ZZ,h0,cond_true]
  · rfl
 | false =>
  refine fnS E0Ok Ze (c:=X0 f95) [] (.f .f32 0) [] func95 (p (sB' h0<|sK [] sN)) rfl (by kernel_rfl) (by kernel_rfl) rfl ?_ ?_
  · simp only [ZZ,h0,cond_false]
  · rfl
def Zt (YP:Gv) (Y1h:Nat):Gv:=(⟨(fop .mul .f32 YP.X Y1h),(fop .mul .f32 YP.Y Y1h),(fop .mul .f32 YP.Z Y1h)⟩:Gv)
theorem Z6v (YP:Gv) (Y1h:Nat)   : Fn prog 77 [.agg [.f .f32 YP.X, .f .f32 YP.Y, .f .f32 YP.Z], .f .f32 Y1h] (.agg [.f .f32 ((Zt YP Y1h).X), .f .f32 ((Zt YP Y1h).Y), .f .f32 ((Zt YP Y1h).Z)]) []:=by
 refine fnS E0Ok Ze (c:=X0 f77) [] (.agg [.f .f32 (fop .mul .f32 YP.X Y1h), .f .f32 (fop .mul .f32 YP.Y Y1h), .f .f32 (fop .mul .f32 YP.Z Y1h)]) [] func77 (sK [] sN) rfl (by kernel_rfl) (by kernel_rfl) rfl ?_ ?_
 · rfl
 · rfl
def Zj (Yw:Gv) (Yx:Gv):Gv:=(⟨(fop .add .f32 Yw.X Yx.X),(fop .add .f32 Yw.Y Yx.Y),(fop .add .f32 Yw.Z Yx.Z)⟩:Gv)
theorem Z2V (Yw:Gv) (Yx:Gv)   : Fn prog 51 [.agg [.f .f32 Yw.X, .f .f32 Yw.Y, .f .f32 Yw.Z], .agg [.f .f32 Yx.X, .f .f32 Yx.Y, .f .f32 Yx.Z]] (.agg [.f .f32 ((Zj Yw Yx).X), .f .f32 ((Zj Yw Yx).Y), .f .f32 ((Zj Yw Yx).Z)]) []:=by
 refine fnS E0Ok Ze (c:=X0 f51) [] (.agg [.f .f32 (fop .add .f32 Yw.X Yx.X), .f .f32 (fop .add .f32 Yw.Y Yx.Y), .f .f32 (fop .add .f32 Yw.Z Yx.Z)]) [] func51 (sK [] sN) rfl (by kernel_rfl) (by kernel_rfl) rfl ?_ ?_
 · rfl
 · rfl
def Zp (Y18:Int) (v_1:Gv) (Y1i:Nat) (p_3:(List Gv)):(List Gv):=(p_3.set Y18.toNat (Zj (p_3.getD Y18.toNat default) (Zt v_1 Y1i)))
@[simp] theorem Z7h (Y18:Int) (v_1:Gv) (Y1i:Nat) (p_3:(List Gv)):(Zp Y18 v_1 Y1i p_3).length=p_3.length:=by
  first | (simp [Zp];done)
theorem Z13 (Y18:Int) (v_1:Gv) (Y1i:Nat) (p_3:(List Gv)) (hp0:p_3.length≤1073741824) (hp1:0≤Y18) (hp2:Y18 < (p_3.length:Int))  : X7 prog 102 [.box 24 [.own 1], .vec 32 3 (p_3.map Gv.c) false] [.i .i64 Y18, .agg [.f .f32 v_1.X, .f .f32 v_1.Y, .f .f32 v_1.Z], .f .f32 Y1i, .ptr 0 0 0] (.tup []) [.box 24 [.own 1], .vec 32 3 ((Zp Y18 v_1 Y1i p_3).map Gv.c) false]:=by
 have y0:(0:Int)≤Y18:=(by assumption)
 have y1:Y18.toNat < p_3.length:=(by omega)
 refine XaU (EpOk 2) Ze (c:=X0 f102) [.box 24 [.own 1], .vec 32 3 (p_3.map Gv.c) false] [] (.tup []) [.box 24 [.own 1], .vec 32 3 ((p_3.map Gv.c).set Y18.toNat [.f .f32 ((Zj (p_3.getD Y18.toNat default) (Zt v_1 Y1i)).X), .f .f32 ((Zj (p_3.getD Y18.toNat default) (Zt v_1 Y1i)).Y), .f .f32 ((Zj (p_3.getD Y18.toNat default) (Zt v_1 Y1i)).Z)]) false] func102 (sK [10,10]<|sX Gv.c p_3 Y18 y0 hp2<|sV Gv.c p_3 Y18.toNat y1<|sF (Z6v v_1 Y1i)<|sF (Z2V (p_3.getD Y18.toNat default) (Zt v_1 Y1i))<|sX Gv.c p_3 Y18 y0 hp2<|sC (X3B (c:=Gv.c) (l:=p_3) y1)<|sK [] sN) rfl (by kernel_rfl) (by kernel_rfl) ?_ ?_
 · rfl
 · simp [Zp,Gv.c]
def Zw (Yw:Gv) (Yx:Gv):Gv:=(⟨(fop .sub .f32 (fop .mul .f32 Yw.Y Yx.Z) (fop .mul .f32 Yw.Z Yx.Y)),(fop .sub .f32 (fop .mul .f32 Yw.Z Yx.X) (fop .mul .f32 Yw.X Yx.Z)),(fop .sub .f32 (fop .mul .f32 Yw.X Yx.Y) (fop .mul .f32 Yw.Y Yx.X))⟩:Gv)
theorem Z52 (Yw:Gv) (Yx:Gv)   : Fn prog 97 [.agg [.f .f32 Yw.X, .f .f32 Yw.Y, .f .f32 Yw.Z], .agg [.f .f32 Yx.X, .f .f32 Yx.Y, .f .f32 Yx.Z]] (.agg [.f .f32 ((Zw Yw Yx).X), .f .f32 ((Zw Yw Yx).Y), .f .f32 ((Zw Yw Yx).Z)]) []:=by
 refine fnS E0Ok Ze (c:=X0 f97) [] (.agg [.f .f32 (fop .sub .f32 (fop .mul .f32 Yw.Y Yx.Z) (fop .mul .f32 Yw.Z Yx.Y)), .f .f32 (fop .sub .f32 (fop .mul .f32 Yw.Z Yx.X) (fop .mul .f32 Yw.X Yx.Z)), .f .f32 (fop .sub .f32 (fop .mul .f32 Yw.X Yx.Y) (fop .mul .f32 Yw.Y Yx.X))]) [] func97 (sK [] sN) rfl (by kernel_rfl) (by kernel_rfl) rfl ?_ ?_
 · rfl
 · rfl
def Z2Q (Y4:Gm) (t_1:(List Int)):Gv:=(Zw (ZW (Y4.Pq.getD (t_1.getD 1 default).toNat default) (Y4.Pq.getD (t_1.getD 0 default).toNat default)) (ZW (Y4.Pq.getD (t_1.getD 2 default).toNat default) (Y4.Pq.getD (t_1.getD 0 default).toNat default)))
def Zd (Y4:Gm) (t_1:(List Int)):Gv:=(Z2Q Y4 t_1)
theorem Z5K (Y4:Gm) (t_1:(List Int)) (hp0:Y4.Pq.length≤1073741824) (hp1:Y4.Tr.length≤1073741824) (hp2:∀ t∈Y4.Tr,t.length≤1073741824) (hp3:t_1.length≤1073741824) (hp4:t_1.length=3∧∀ x∈t_1,0≤x∧x < (Y4.Pq.length:Int))  : Fn prog 88 [.agg [.sl (Y4.Pq.map Gv.c), .sl (Y4.Tr.map (cL (cI .i64)))], .sl (t_1.map (cI .i64))] (.agg [.f .f32 ((Zd Y4 t_1).X), .f .f32 ((Zd Y4 t_1).Y), .f .f32 ((Zd Y4 t_1).Z)]) []:=by
 have y0:(0:Int)≤0:=(by omega)
 have y1:0 < (t_1.length:Int):=(by omega)
 have y2:(0:Int)≤(t_1.getD 0 default):=(by have q:=Okt.at hp4;omega)
 have y3:(t_1.getD 0 default) < (Y4.Pq.length:Int):=(by have q:=Okt.at hp4;omega)
 have y4:(0:Int)≤1:=(by omega)
 have y5:1 < (t_1.length:Int):=(by omega)
 have y6:(0:Int)≤(t_1.getD 1 default):=(by have q:=Okt.at hp4;omega)
 have y7:(t_1.getD 1 default) < (Y4.Pq.length:Int):=(by have q:=Okt.at hp4;omega)
 have y8:(0:Int)≤2:=(by omega)
 have y9:2 < (t_1.length:Int):=(by omega)
 have y10:(0:Int)≤(t_1.getD 2 default):=(by have q:=Okt.at hp4;omega)
 have y11:(t_1.getD 2 default) < (Y4.Pq.length:Int):=(by have q:=Okt.at hp4;omega)
 refine fnS E0Ok Ze (c:=X0 f88) [] (.agg [.f .f32 ((Z2Q Y4 t_1).X), .f .f32 ((Z2Q Y4 t_1).Y), .f .f32 ((Z2Q Y4 t_1).Z)]) [] func88 (sK [8,8]<|sG (cI .i64) t_1 0 y0 y1<|sG Gv.c Y4.Pq (t_1.getD 0 default) y2 y3<|sK [17,17]<|sG (cI .i64) t_1 1 y4 y5<|sG Gv.c Y4.Pq (t_1.getD 1 default) y6 y7<|sF (Z2i (Y4.Pq.getD (t_1.getD 1 default).toNat default) (Y4.Pq.getD (t_1.getD 0 default).toNat default))<|sG (cI .i64) t_1 2 y8 y9<|sG Gv.c Y4.Pq (t_1.getD 2 default) y10 y11<|sF (Z2i (Y4.Pq.getD (t_1.getD 2 default).toNat default) (Y4.Pq.getD (t_1.getD 0 default).toNat default))<|sF (Z52 (ZW (Y4.Pq.getD (t_1.getD 1 default).toNat default) (Y4.Pq.getD (t_1.getD 0 default).toNat default)) (ZW (Y4.Pq.getD (t_1.getD 2 default).toNat default) (Y4.Pq.getD (t_1.getD 0 default).toNat default)))<|sK [] sN) rfl (by kernel_rfl) (by kernel_rfl) rfl ?_ ?_
 · rfl
 · rfl
def Z38 (Yw:Int) (Yx:Int):Gedge:=(⟨(if Yx < Yw then Yx else Yw),(if Yx > Yw then Yx else Yw)⟩:Gedge)
theorem Z82 (Yw:Int) (Yx:Int)   : Fn prog 83 [.i .i64 Yw, .i .i64 Yx] (.agg [.i .i64 ((Z38 Yw Yx).e0), .i .i64 ((Z38 Yw Yx).e1)]) []:=by
 refine fnS E0Ok Ze (c:=X0 f83) [] (.agg [.i .i64 (if Yx < Yw then Yx else Yw), .i .i64 (if Yx > Yw then Yx else Yw)]) [] func83 (sC (show (if false=true then (if Yx > Yw then Yx else Yw) else (if Yx < Yw then Yx else Yw))=(if Yx < Yw then Yx else Yw) from (by simp))<|sA (.num (if Yx < Yw then Yx else Yw))<|sC (show (if true=true then (if Yx > Yw then Yx else Yw) else (if Yx < Yw then Yx else Yw))=(if Yx > Yw then Yx else Yw) from (by simp))<|sA (.num (if Yx > Yw then Yx else Yw))<|sK [] sN) rfl (by kernel_rfl) (by kernel_rfl) rfl ?_ ?_
 · rfl
 · rfl
theorem Z8V (a b:Int):Z38 a b=mkE a b:=by
  unfold Z38 mkE
  by_cases h:a≤b
  · rw [if_pos h,if_neg (by omega)]
    by_cases h2:b > a
    · rw [if_pos h2]
    · rw [if_neg h2,show a=b from by omega]
  · rw [if_neg h,if_pos (by omega),if_neg (by omega)]
def Z1K (YL:Int):Bool:=(YL != YL)
theorem Z5f (YL:Int)   : Fn prog 150 [.i .i64 YL] (.b (Z1K YL)) []:=by
 refine fnS E0Ok Ze (c:=X0 f150) [] (.b (YL != YL)) [] func150 (sK [] sN) rfl (by kernel_rfl) (by kernel_rfl) rfl ?_ ?_
 · rfl
 · rfl
def Z10 (YL:Int) (YN:Int):Int:=(cond (Z1K YL)
  (cond (Z1K YN)
    0
    (-1))
  (cond (Z1K YN)
    1
    (cond (decide (YL < YN))
      (-1)
      (cond (decide (YL > YN))
        1
        0))))
theorem Z5Z (YL:Int) (YN:Int)   : Fn prog 144 [.i .i64 YL, .i .i64 YN] (.i .i64 (Z10 YL YN)) []:=by
 have p {a C} (s:Scr a C):=sF (Z5f YL)<|sF (Z5f YN)<|s
 cases h0:(Z1K YL) with
 | true =>
  have q {a C} (s:Scr a C):=p (sB h0<|s)
  clear p
  cases h1:(Z1K YN) with
  | true =>
   refine fnS E0Ok Ze (c:=X0 f144) [] (.i .i64 0) [] func144 (q (sB h1<|sK [] sN)) rfl (by kernel_rfl) (by kernel_rfl) rfl ?_ ?_
   · simp only [Z10,h0,h1,cond_true]
   · rfl
  | false =>
   refine fnS E0Ok Ze (c:=X0 f144) [] (.i .i64 (-1)) [] func144 (q (sB h1<|sK [] sN)) rfl (by kernel_rfl) (by kernel_rfl) rfl ?_ ?_
   · simp only [Z10,h0,h1,cond_true,cond_false]
   · rfl
 | false =>
  have q {a C} (s:Scr a C):=p (sB h0<|s)
  clear p
  cases h1:(Z1K YN) with
  | true =>
   refine fnS E0Ok Ze (c:=X0 f144) [] (.i .i64 1) [] func144 (q (sB h1<|sK [] sN)) rfl (by kernel_rfl) (by kernel_rfl) rfl ?_ ?_
   · simp only [Z10,h0,h1,cond_true,cond_false]
   · rfl
  | false =>
   have p {a C} (s:Scr a C):=q (sB h1<|s)
   clear q
   cases h2:(decide (YL < YN)) with
   | true =>
    have gh2:=odt h2
    refine fnS E0Ok Ze (c:=X0 f144) [] (.i .i64 (-1)) [] func144 (p (sB h2<|sK [] sN)) rfl (by kernel_rfl) (by kernel_rfl) rfl ?_ ?_
    · simp only [Z10,h0,h1,h2,cond_true,cond_false]
    · rfl
   | false =>
    have gh2:=odf h2
    have q {a C} (s:Scr a C):=p (sB h2<|s)
    clear p
    cases h3:(decide (YL > YN)) with
    | true =>
     have gh3:=odt h3
     refine fnS E0Ok Ze (c:=X0 f144) [] (.i .i64 1) [] func144 (q (sB h3<|sK [] sN)) rfl (by kernel_rfl) (by kernel_rfl) rfl ?_ ?_
     · simp only [Z10,h0,h1,h2,h3,cond_true,cond_false]
     · rfl
    | false =>
     have gh3:=odf h3
     refine fnS E0Ok Ze (c:=X0 f144) [] (.i .i64 0) [] func144 (q (sB h3<|sK [] sN)) rfl (by kernel_rfl) (by kernel_rfl) rfl ?_ ?_
     · simp only [Z10,h0,h1,h2,h3,cond_false]
     · rfl
def Zk (YD:(List Int)) (YF:(List Int)):Nat→Int→(Int) ⊕ (Unit)
  | 0,_ => .inl default
  | k + 1,Y2=>(cond (decide (Y2 < (YD.length:Int)))
    (cond (decide (Y2 ≥ (YF.length:Int)))
      (.inl 1)
      (cond ((Z10 (YD.getD Y2.toNat default) (YF.getD Y2.toNat default)) != 0)
        (.inl (Z10 (YD.getD Y2.toNat default) (YF.getD Y2.toNat default)))
        (Zk YD YF k (Y2 + 1))))
    (.inr ()))
def Z1E (YD:(List Int)) (YF:(List Int)):(Int) ⊕ (Unit)→Ex × St
  | .inl r=>(.ret,⟨an 4 (.i .i64 r :: an 31 []),[]⟩)
  | .inr r=>((.exit 0),⟨.sl (YD.map (cI .i64)) :: .sl (YF.map (cI .i64)) :: an 7 (.sl (YD.map (cI .i64)) :: an 26 []),[]⟩)
def Z3L (YD:(List Int)) (YF:(List Int)) (Y2:Int):St:=⟨.sl (YD.map (cI .i64)) :: .sl (YF.map (cI .i64)) :: an 7 (.sl (YD.map (cI .i64)) :: .i .i64 (YD.length:Int) :: .i .i64 Y2 :: an 24 []),[]⟩
theorem Z2u (YD:(List Int)) (YF:(List Int)) (hp0:YD.length≤1073741824) (hp1:YF.length≤1073741824):∀ (k:Nat) (Y2:Int) (Z2o:0≤Y2) (hk:((YD.length:Int) - Y2).toNat < k),Lp prog 0 (sub (X0 f132) [1,0,1,0,0]) (Z3L YD YF Y2) (Z1E YD YF (Zk YD YF k Y2)).1 (Z1E YD YF (Zk YD YF k Y2)).2:=by
 intro k
 induction k with
 | zero=>intro Y2 Z2o hk;exact absurd hk (Nat.not_lt_zero _)
 | succ k ih =>
  intro Y2 Z2o hk
  cases Yk:(decide (Y2 < (YD.length:Int))) with
  | true =>
   have YH:=odt Yk
   have YQ:(0:Int)≤Y2:=(by assumption)
   have YN:Y2 < (YD.length:Int):=(by assumption)
   have p {a C} (s:Scr a C):=sB Yk<|sG (cI .i64) YD Y2 YQ YN<|sZ (cI .i64) YF<|s
   cases YB:(decide (Y2 ≥ (YF.length:Int))) with
   | true =>
    have Y1C:=odt YB
    have e:Zk YD YF (k + 1) Y2=(.inl 1):=by simp only [Zk,Yk,YB,cond_true]
    rw [e]
    exact outR (e := .ret) E0Ok Ze [] (mR false [4,1,31]) [] (p (sB YB<|sN)) (by kernel_rfl) (by intro h;cases h)
   | false =>
    have Y1C:=odf YB
    have y_2:Y2 < (YF.length:Int):=by clear p;exact (by omega)
    have q {a C} (s:Scr a C):=p (sB YB<|sG (cI .i64) YF Y2 YQ y_2<|sF (Z5Z (YD.getD Y2.toNat default) (YF.getD Y2.toNat default))<|s)
    clear p
    cases YO:((Z10 (YD.getD Y2.toNat default) (YF.getD Y2.toNat default)) != 0) with
    | true =>
     have Y1B:=bne_iff_ne.1 YO
     have e:Zk YD YF (k + 1) Y2=(.inl (Z10 (YD.getD Y2.toNat default) (YF.getD Y2.toNat default))):=by simp only [Zk,Yk,YB,YO,cond_true,cond_false]
     rw [e]
     exact outR (e := .ret) E0Ok Ze [] (mR false [4,1,31]) [] (q (sB YO<|sN)) (by kernel_rfl) (by intro h;cases h)
    | false =>
     have Y1B:=bne_eq_false_iff_eq.1 YO
     have YR:(-9223372036854775808:Int)≤(Y2 + 1):=by clear q;exact (by omega)
     have y_4:(Y2 + 1)≤(9223372036854775807:Int):=by clear q;exact (by omega)
     have e:Zk YD YF (k + 1) Y2=(Zk YD YF k (Y2 + 1)):=by simp only [Zk,Yk,YB,YO,cond_true,cond_false]
     rw [e]
     exact XG E0Ok Ze [] (mR false [0,2,7,3,24]) [] (ih (Y2 + 1) (show 0≤(Y2 + 1) from (by omega)) (by omega)) (q (sB YO<|sI (Y2 + 1) YR y_4<|sN)) (by kernel_rfl)
  | false =>
   have YH:=odf Yk
   have e:Zk YD YF (k + 1) Y2=(.inr ()):=by simp only [Zk,Yk,cond_false]
   rw [e]
   exact outR (e:=(.exit 0)) E0Ok Ze [] (mR false [0,2,7,1,26]) [] (sB Yk<|sN) (by kernel_rfl) (by intro h;cases h)
def Z1e (YD:(List Int)) (YF:(List Int)):(Int) ⊕ (Unit):=(Zk YD YF (((YD.length:Int) - 0).toNat + 1) 0)
def Z14 (YD:(List Int)) (YF:(List Int)):Int:=(match (Z1e YD YF) with
  | .inl r1=>r1
  | .inr r1=>(cond (decide ((YD.length:Int) < (YF.length:Int)))
    (-1)
    0))
theorem Z4j (YD:(List Int)) (YF:(List Int)) (hp0:YD.length≤1073741824) (hp1:YF.length≤1073741824)  : Fn prog 132 [.sl (YD.map (cI .i64)), .sl (YF.map (cI .i64))] (.i .i64 (Z14 YD YF)) []:=by
 have p {a C} (s:Scr a C):=sZ (cI .i64) YD<|s
 cases h0:(Z1e YD YF) with
 | inl r1 =>
  refine fnS E0Ok Ze (c:=X0 f132) [] (.i .i64 r1) [] func132 (p (sL (mR false [0,2,7,3,24]) 0 (X9 (Z1E YD YF) (x:=(Z1e YD YF)) (Z2u YD YF hp0 hp1 (((YD.length:Int) - 0).toNat + 1) 0 (show 0≤0 from (by omega)) (Nat.lt_succ_self _)) h0)<|sK [] sN)) rfl (by kernel_rfl) (by kernel_rfl) rfl ?_ ?_
  · simp only [Z14,h0]
  · rfl
 | inr r1 =>
  have q {a C} (s:Scr a C):=p (sL (mR false [0,2,7,3,24]) 0 (X9 (Z1E YD YF) (x:=(Z1e YD YF)) (Z2u YD YF hp0 hp1 (((YD.length:Int) - 0).toNat + 1) 0 (show 0≤0 from (by omega)) (Nat.lt_succ_self _)) h0)<|sZ (cI .i64) YD<|sZ (cI .i64) YF<|s)
  clear p
  cases h1:(decide ((YD.length:Int) < (YF.length:Int))) with
  | true =>
   have gh1:=odt h1
   refine fnS E0Ok Ze (c:=X0 f132) [] (.i .i64 (-1)) [] func132 (q (sB h1<|sK [] sN)) rfl (by kernel_rfl) (by kernel_rfl) rfl ?_ ?_
   · simp only [Z14,h0,h1,cond_true]
   · rfl
  | false =>
   have gh1:=odf h1
   refine fnS E0Ok Ze (c:=X0 f132) [] (.i .i64 0) [] func132 (q (sB h1<|sK [] sN)) rfl (by kernel_rfl) (by kernel_rfl) rfl ?_ ?_
   · simp only [Z14,h0,h1,cond_false]
   · rfl
def Z3d (Yw:Gedge) (Yx:Gedge):Int:=(Z14 ([Yw.e0,Yw.e1]) ([Yx.e0,Yx.e1]))
theorem Z4Q (Yw:Gedge) (Yx:Gedge)   : Fn prog 120 [.agg [.i .i64 Yw.e0, .i .i64 Yw.e1], .agg [.i .i64 Yx.e0, .i .i64 Yx.e1]] (.i .i64 (Z3d Yw Yx)) []:=by
 have y0:([Yw.e0,Yw.e1]).length≤1073741824:=(by simp_all<;>omega)
 have y1:([Yx.e0,Yx.e1]).length≤1073741824:=(by assumption)
 refine fnS E0Ok Ze (c:=X0 f120) [] (.i .i64 (Z14 ([Yw.e0,Yw.e1]) ([Yx.e0,Yx.e1]))) [] func120 (sK [2,2]<|sF (Z4j ([Yw.e0,Yw.e1]) ([Yx.e0,Yx.e1]) y0 y1)<|sK [] sN) rfl (by kernel_rfl) (by kernel_rfl) rfl ?_ ?_
 · rfl
 · rfl
def Z7 (Y4:Gm) (Y2:Int) (Y5:Int):Gedge:=(Z38 ((Y4.Tr.getD Y2.toNat default).getD Y5.toNat default) ((Y4.Tr.getD Y2.toNat default).getD (Int.tmod (Y5 + 1) 3).toNat default))
def Zi (Y4:Gm) (Y2:Int) (Y3:(List (Gedge × List Int))) (Yv:(List Gedge)):Nat→Int→(List (Gedge × List Int))→(List Gedge)→(List (Gedge × List Int)) × (List Gedge)
  | 0,_,_,_=>default
  | k + 1,Y5,Y8,Ys=>(cond (decide (Y5 < 3))
    (cond (mhas Y8 (Z7 Y4 Y2 Y5))
      (cond (((Y8.getD (midx Y8 (Z7 Y4 Y2 Y5)) default).2.length:Int) == 0)
        (Zi Y4 Y2 Y3 Yv k (Y5 + 1) (mput Y8 (midx Y8 (Z7 Y4 Y2 Y5)) ((Y8.getD (midx Y8 (Z7 Y4 Y2 Y5)) default).2 ++ [Y2])) (Ys ++ [(Z7 Y4 Y2 Y5)]))
        (Zi Y4 Y2 Y3 Yv k (Y5 + 1) (mput Y8 (midx Y8 (Z7 Y4 Y2 Y5)) ((Y8.getD (midx Y8 (Z7 Y4 Y2 Y5)) default).2 ++ [Y2])) Ys))
      (Zi Y4 Y2 Y3 Yv k (Y5 + 1) (Y8 ++ [((Z7 Y4 Y2 Y5),[Y2])]) (Ys ++ [(Z7 Y4 Y2 Y5)])))
    (Y8,Ys))
def Z2A (Y4:Gm) (Y2:Int) (Y3:(List (Gedge × List Int))) (Yv:(List Gedge)) (r:(List (Gedge × List Int)) × (List Gedge)):Ex × St:=((.exit 2),⟨.agg [.sl (Y4.Pq.map Gv.c), .sl (Y4.Tr.map (cL (cI .i64)))] :: .ptr 0 0 0 :: .any :: .nils :: .mp 1 :: .own 2 :: .i .i64 Y2 :: .sl ((Y4.Tr.getD Y2.toNat default).map (cI .i64)) :: .any :: .any :: .mp 1 :: .any :: .ptr 0 0 1 :: .sl (Y4.Tr.map (cL (cI .i64))) :: .i .i64 (Y4.Tr.length:Int) :: .i .i64 Y2 :: .b (decide (Y2 < (Y4.Tr.length:Int))) :: .i .i64 Y2 :: .ref [.sl ((Y4.Tr.getD Y2.toNat default).map (cI .i64))] 0 :: .sl ((Y4.Tr.getD Y2.toNat default).map (cI .i64)) :: an 37 [],[.box 27 [.sl (Y4.Pq.map Gv.c), .sl (Y4.Tr.map (cL (cI .i64)))], .mapN 2 (mapC Gedge.pr (cI .i64) r.1) none, .vec 113 2 (r.2.map Gedge.cells) false]⟩)
def Z5u (Y4:Gm) (Y2:Int) (Y3:(List (Gedge × List Int))) (Yv:(List Gedge)) (Y5:Int) (Y8:(List (Gedge × List Int))) (Ys:(List Gedge)):St:=⟨.agg [.sl (Y4.Pq.map Gv.c), .sl (Y4.Tr.map (cL (cI .i64)))] :: .ptr 0 0 0 :: .any :: .nils :: .mp 1 :: .own 2 :: .i .i64 Y2 :: .sl ((Y4.Tr.getD Y2.toNat default).map (cI .i64)) :: .any :: .any :: .mp 1 :: .any :: .ptr 0 0 1 :: .sl (Y4.Tr.map (cL (cI .i64))) :: .i .i64 (Y4.Tr.length:Int) :: .i .i64 Y2 :: .b (decide (Y2 < (Y4.Tr.length:Int))) :: .i .i64 Y2 :: .ref [.sl ((Y4.Tr.getD Y2.toNat default).map (cI .i64))] 0 :: .sl ((Y4.Tr.getD Y2.toNat default).map (cI .i64)) :: .i .i64 Y5 :: an 36 [],[.box 27 [.sl (Y4.Pq.map Gv.c), .sl (Y4.Tr.map (cL (cI .i64)))], .mapN 2 (mapC Gedge.pr (cI .i64) Y8) none, .vec 113 2 (Ys.map Gedge.cells) false]⟩
set_option maxHeartbeats 1000000 in
theorem Z5v (Y4:Gm) (Y2:Int) (Y3:(List (Gedge × List Int))) (Yv:(List Gedge)) (hp0:Y4.Pq.length≤1073741824) (hp1:Y4.Tr.length≤1073741824) (hp2:∀ t∈Y4.Tr,t.length≤1073741824) (hp3:OkE Y4.Pq.length Y4.Tr) (ZD:0≤Y2) (Z2b:(Yv.length:Int)≤3 * Y2) (Z1L:∀ y∈Y3,(y.2.length:Int)≤3 * Y2) (Z1f:(decide (Y2 < (Y4.Tr.length:Int)))=true):∀ (k:Nat) (Y5:Int) (Y8:(List (Gedge × List Int))) (Ys:(List Gedge)) (Z12:0≤Y5) (Z2Z:(Ys.length:Int)≤(Yv.length:Int) + Y5) (Z30:∀ y∈Y8,(y.2.length:Int)≤3 * Y2 + Y5) (hk:((3:Int) - Y5).toNat < k),Lp prog 0 (sub (X0 f82) [1,1,0,1,0,0,1,1,0,0,1,1,0,0]) (Z5u Y4 Y2 Y3 Yv Y5 Y8 Ys) (Z2A Y4 Y2 Y3 Yv (Zi Y4 Y2 Y3 Yv k Y5 Y8 Ys)).1 (Z2A Y4 Y2 Y3 Yv (Zi Y4 Y2 Y3 Yv k Y5 Y8 Ys)).2:=by
 intro k
 induction k with
 | zero=>intro Y5 Y8 Ys Z12 Z2Z Z30 hk;exact absurd hk (Nat.not_lt_zero _)
 | succ k ih =>
  intro Y5 Y8 Ys Z12 Z2Z Z30 hk
  cases YA:(decide (Y5 < 3)) with
  | true =>
   have YC:=odt YA
   have Y19:(0:Int)≤Y5:=(by assumption)
   have Y1a:Y5 < ((Y4.Tr.getD Y2.toNat default).length:Int):=(by ((have g5:=odt Z1f;have q:=OkE.at hp3 ZD g5 Z12 (odt (by assumption));omega)))
   have Y16:(-9223372036854775808:Int)≤(Y5 + 1):=(by omega)
   have Y17:(Y5 + 1)≤(9223372036854775807:Int):=(by omega)
   have Y1c:(0:Int)≤(Int.tmod (Y5 + 1) 3):=(by ((have g5:=odt Z1f;have q:=OkE.at hp3 ZD g5 Z12 (odt (by assumption));omega)))
   have Y1f:(Int.tmod (Y5 + 1) 3) < ((Y4.Tr.getD Y2.toNat default).length:Int):=(by ((have g5:=odt Z1f;have q:=OkE.at hp3 ZD g5 Z12 (odt (by assumption));omega)))
   have p {a C} (s:Scr a C):=sB YA<|sK [12,12]<|sG (cI .i64) (Y4.Tr.getD Y2.toNat default) Y5 Y19 Y1a<|sI (Y5 + 1) Y16 Y17<|sC (show (3:Int)≠0 from (by decide))<|sQ (Int.tmod (Y5 + 1) 3)<|sG (cI .i64) (Y4.Tr.getD Y2.toNat default) (Int.tmod (Y5 + 1) 3) Y1c Y1f<|sF (Z82 ((Y4.Tr.getD Y2.toNat default).getD Y5.toNat default) ((Y4.Tr.getD Y2.toNat default).getD (Int.tmod (Y5 + 1) 3).toNat default))<|s
   cases YV:(mhas Y8 (Z7 Y4 Y2 Y5)) with
   | true =>
    have m__16:=X3j YV
    have q {a C} (s:Scr a C):=p (sA (.keep [midx Y8 (Z7 Y4 Y2 Y5)])<|sC (X4c (ck:=Gedge.pr) (cv:=(cI .i64)) YV)<|sM (X7e (ck:=Gedge.pr) (cv:=(cI .i64)) (l:=Y8) (j:=(midx Y8 (Z7 Y4 Y2 Y5))))<|s)
    clear p
    cases Y1v:(((Y8.getD (midx Y8 (Z7 Y4 Y2 Y5)) default).2.length:Int) == 0) with
    | true =>
     have gh__2:=eq_of_beq Y1v
     have Y1b:Ys.length + ([(Z7 Y4 Y2 Y5)]).length≤1073741824:=by clear q;exact (by ((have g5:=odt Z1f;have q:=OkE.at hp3 ZD g5 Z12 (odt (by assumption));(simp only [List.length_append,List.length_cons,List.length_nil];omega))))
     have Y1d:(midx Y8 (Z7 Y4 Y2 Y5)) < Y8.length:=by clear q;exact (by assumption)
     have Y1m:((Y8.getD (midx Y8 (Z7 Y4 Y2 Y5)) default).2).length + ([Y2]).length≤1073741824:=by clear q;exact (by ((have g5:=odt Z1f;have q:=OkE.at hp3 ZD g5 Z12 (odt (by assumption));(simp only [List.length_append,List.length_cons,List.length_nil];omega))))
     have e:Zi Y4 Y2 Y3 Yv (k + 1) Y5 Y8 Ys=(Zi Y4 Y2 Y3 Yv k (Y5 + 1) (mput Y8 (midx Y8 (Z7 Y4 Y2 Y5)) ((Y8.getD (midx Y8 (Z7 Y4 Y2 Y5)) default).2 ++ [Y2])) (Ys ++ [(Z7 Y4 Y2 Y5)])):=by simp only [Zi,YA,YV,Y1v,cond_true]
     rw [e]
     exact X14 E0Ok Ze [] (mR false [0,2,1,5,2,1,1,9,36]) [0,1,2] (⟨.agg [.sl (Y4.Pq.map Gv.c), .sl (Y4.Tr.map (cL (cI .i64)))] :: .ptr 0 0 0 :: .any :: .nils :: .mp 1 :: .own 2 :: .i .i64 Y2 :: .sl ((Y4.Tr.getD Y2.toNat default).map (cI .i64)) :: .any :: .any :: .mp 1 :: .any :: .ptr 0 0 1 :: .sl (Y4.Tr.map (cL (cI .i64))) :: .i .i64 (Y4.Tr.length:Int) :: .i .i64 Y2 :: .b (decide (Y2 < (Y4.Tr.length:Int))) :: .i .i64 Y2 :: .ref [.sl ((Y4.Tr.getD Y2.toNat default).map (cI .i64))] 0 :: .sl ((Y4.Tr.getD Y2.toNat default).map (cI .i64)) :: .i .i64 (Y5 + 1) :: an 36 [],[.box 27 [.sl (Y4.Pq.map Gv.c), .sl (Y4.Tr.map (cL (cI .i64)))], .mapN 2 (((mapC Gedge.pr (cI .i64) Y8).set (midx Y8 (Z7 Y4 Y2 Y5)) (((mapC Gedge.pr (cI .i64) Y8).getD (midx Y8 (Z7 Y4 Y2 Y5)) default).1,[])).set (midx Y8 (Z7 Y4 Y2 Y5)) ((((mapC Gedge.pr (cI .i64) Y8).set (midx Y8 (Z7 Y4 Y2 Y5)) (((mapC Gedge.pr (cI .i64) Y8).getD (midx Y8 (Z7 Y4 Y2 Y5)) default).1,[])).getD (midx Y8 (Z7 Y4 Y2 Y5)) default).1,(((mapC Gedge.pr (cI .i64) Y8).getD (midx Y8 (Z7 Y4 Y2 Y5)) default).2 ++ ([Y2].map (cI .i64))))) none, .vec 113 2 ((Ys.map Gedge.cells) ++ ([[.i .i64 ((Z7 Y4 Y2 Y5).e0), .i .i64 ((Z7 Y4 Y2 Y5).e1)]]:List (List AV))) false]⟩) (q (sB Y1v<|sC (show (Ys.map Gedge.cells).length + ([[.i .i64 ((Z7 Y4 Y2 Y5).e0), .i .i64 ((Z7 Y4 Y2 Y5).e1)]]:List (List AV)).length≤1073741824 from (by simpa using Y1b))<|sA (.keep [midx Y8 (Z7 Y4 Y2 Y5)])<|sC (X4c (ck:=Gedge.pr) (cv:=(cI .i64)) YV)<|sC (show (midx Y8 (Z7 Y4 Y2 Y5)) < (mapC Gedge.pr (cI .i64) Y8).length from (by simpa using Y1d))<|sC (show (((mapC Gedge.pr (cI .i64) Y8).getD (midx Y8 (Z7 Y4 Y2 Y5)) default).2).length + ([[.i .i64 Y2]]:List (List AV)).length≤1073741824 from (by simpa using Y1m))<|sA (.keep [(midx Y8 (Z7 Y4 Y2 Y5))])<|sC (show ((midx Y8 (Z7 Y4 Y2 Y5)):Int)=(((midx Y8 (Z7 Y4 Y2 Y5)):Nat):Int) from rfl)<|sC (show (midx Y8 (Z7 Y4 Y2 Y5)) < ((mapC Gedge.pr (cI .i64) Y8).set (midx Y8 (Z7 Y4 Y2 Y5)) (((mapC Gedge.pr (cI .i64) Y8).getD (midx Y8 (Z7 Y4 Y2 Y5)) default).1,[])).length from (by simpa using Y1d))<|sC (show ∀ i,some (midx Y8 (Z7 Y4 Y2 Y5))=some i→i=(midx Y8 (Z7 Y4 Y2 Y5)) from (fun i h=>by cases h;rfl))<|sI (Y5 + 1) Y16 Y17<|sN)) (by kernel_rfl) (show _=⟨.agg [.sl (Y4.Pq.map Gv.c), .sl (Y4.Tr.map (cL (cI .i64)))] :: .ptr 0 0 0 :: .any :: .nils :: .mp 1 :: .own 2 :: .i .i64 Y2 :: .sl ((Y4.Tr.getD Y2.toNat default).map (cI .i64)) :: .any :: .any :: .mp 1 :: .any :: .ptr 0 0 1 :: .sl (Y4.Tr.map (cL (cI .i64))) :: .i .i64 (Y4.Tr.length:Int) :: .i .i64 Y2 :: .b (decide (Y2 < (Y4.Tr.length:Int))) :: .i .i64 Y2 :: .ref [.sl ((Y4.Tr.getD Y2.toNat default).map (cI .i64))] 0 :: .sl ((Y4.Tr.getD Y2.toNat default).map (cI .i64)) :: .i .i64 (Y5 + 1) :: an 36 [],[.box 27 [.sl (Y4.Pq.map Gv.c), .sl (Y4.Tr.map (cL (cI .i64)))], .mapN 2 (mapC Gedge.pr (cI .i64) (mput Y8 (midx Y8 (Z7 Y4 Y2 Y5)) ((Y8.getD (midx Y8 (Z7 Y4 Y2 Y5)) default).2 ++ [Y2]))) none, .vec 113 2 ((Ys ++ [(Z7 Y4 Y2 Y5)]).map Gedge.cells) false]⟩ from (by rw [X7f (X3j YV)];simp [List.map_set,Gedge.cells])) (ih (Y5 + 1) (mput Y8 (midx Y8 (Z7 Y4 Y2 Y5)) ((Y8.getD (midx Y8 (Z7 Y4 Y2 Y5)) default).2 ++ [Y2])) (Ys ++ [(Z7 Y4 Y2 Y5)]) (show 0≤(Y5 + 1) from (by omega)) (show ((Ys ++ [(Z7 Y4 Y2 Y5)]).length:Int)≤(Yv.length:Int) + (Y5 + 1) from (by simp only [List.length_append,List.length_cons,List.length_nil];omega)) (show ∀ y∈(mput Y8 (midx Y8 (Z7 Y4 Y2 Y5)) ((Y8.getD (midx Y8 (Z7 Y4 Y2 Y5)) default).2 ++ [Y2])),(y.2.length:Int)≤3 * Y2 + (Y5 + 1) from (by exact X3C (by assumption) (by omega) (by omega))) (by omega))
    | false =>
     have gh__2:=ne_of_beq_false Y1v
     have Y1b:(midx Y8 (Z7 Y4 Y2 Y5)) < Y8.length:=by clear q;exact (by assumption)
     have Y1d:((Y8.getD (midx Y8 (Z7 Y4 Y2 Y5)) default).2).length + ([Y2]).length≤1073741824:=by clear q;exact (by ((have g5:=odt Z1f;have q:=OkE.at hp3 ZD g5 Z12 (odt (by assumption));(have q3:=X7g (N:=3 * Y2 + Y5) (by omega) (by assumption) (midx Y8 (Z7 Y4 Y2 Y5));simp only [List.length_cons,List.length_nil];omega))))
     have e:Zi Y4 Y2 Y3 Yv (k + 1) Y5 Y8 Ys=(Zi Y4 Y2 Y3 Yv k (Y5 + 1) (mput Y8 (midx Y8 (Z7 Y4 Y2 Y5)) ((Y8.getD (midx Y8 (Z7 Y4 Y2 Y5)) default).2 ++ [Y2])) Ys):=by simp only [Zi,YA,YV,Y1v,cond_true,cond_false]
     rw [e]
     exact X14 E0Ok Ze [] (mR false [0,2,1,5,2,1,1,9,36]) [0,1,2] (⟨.agg [.sl (Y4.Pq.map Gv.c), .sl (Y4.Tr.map (cL (cI .i64)))] :: .ptr 0 0 0 :: .any :: .nils :: .mp 1 :: .own 2 :: .i .i64 Y2 :: .sl ((Y4.Tr.getD Y2.toNat default).map (cI .i64)) :: .any :: .any :: .mp 1 :: .any :: .ptr 0 0 1 :: .sl (Y4.Tr.map (cL (cI .i64))) :: .i .i64 (Y4.Tr.length:Int) :: .i .i64 Y2 :: .b (decide (Y2 < (Y4.Tr.length:Int))) :: .i .i64 Y2 :: .ref [.sl ((Y4.Tr.getD Y2.toNat default).map (cI .i64))] 0 :: .sl ((Y4.Tr.getD Y2.toNat default).map (cI .i64)) :: .i .i64 (Y5 + 1) :: an 36 [],[.box 27 [.sl (Y4.Pq.map Gv.c), .sl (Y4.Tr.map (cL (cI .i64)))], .mapN 2 (((mapC Gedge.pr (cI .i64) Y8).set (midx Y8 (Z7 Y4 Y2 Y5)) (((mapC Gedge.pr (cI .i64) Y8).getD (midx Y8 (Z7 Y4 Y2 Y5)) default).1,[])).set (midx Y8 (Z7 Y4 Y2 Y5)) ((((mapC Gedge.pr (cI .i64) Y8).set (midx Y8 (Z7 Y4 Y2 Y5)) (((mapC Gedge.pr (cI .i64) Y8).getD (midx Y8 (Z7 Y4 Y2 Y5)) default).1,[])).getD (midx Y8 (Z7 Y4 Y2 Y5)) default).1,(((mapC Gedge.pr (cI .i64) Y8).getD (midx Y8 (Z7 Y4 Y2 Y5)) default).2 ++ ([Y2].map (cI .i64))))) none, .vec 113 2 (Ys.map Gedge.cells) false]⟩) (q (sB Y1v<|sA (.keep [midx Y8 (Z7 Y4 Y2 Y5)])<|sC (X4c (ck:=Gedge.pr) (cv:=(cI .i64)) YV)<|sC (show (midx Y8 (Z7 Y4 Y2 Y5)) < (mapC Gedge.pr (cI .i64) Y8).length from (by simpa using Y1b))<|sC (show (((mapC Gedge.pr (cI .i64) Y8).getD (midx Y8 (Z7 Y4 Y2 Y5)) default).2).length + ([[.i .i64 Y2]]:List (List AV)).length≤1073741824 from (by simpa using Y1d))<|sA (.keep [(midx Y8 (Z7 Y4 Y2 Y5))])<|sC (show ((midx Y8 (Z7 Y4 Y2 Y5)):Int)=(((midx Y8 (Z7 Y4 Y2 Y5)):Nat):Int) from rfl)<|sC (show (midx Y8 (Z7 Y4 Y2 Y5)) < ((mapC Gedge.pr (cI .i64) Y8).set (midx Y8 (Z7 Y4 Y2 Y5)) (((mapC Gedge.pr (cI .i64) Y8).getD (midx Y8 (Z7 Y4 Y2 Y5)) default).1,[])).length from (by simpa using Y1b))<|sC (show ∀ i,some (midx Y8 (Z7 Y4 Y2 Y5))=some i→i=(midx Y8 (Z7 Y4 Y2 Y5)) from (fun i h=>by cases h;rfl))<|sI (Y5 + 1) Y16 Y17<|sN)) (by kernel_rfl) (show _=⟨.agg [.sl (Y4.Pq.map Gv.c), .sl (Y4.Tr.map (cL (cI .i64)))] :: .ptr 0 0 0 :: .any :: .nils :: .mp 1 :: .own 2 :: .i .i64 Y2 :: .sl ((Y4.Tr.getD Y2.toNat default).map (cI .i64)) :: .any :: .any :: .mp 1 :: .any :: .ptr 0 0 1 :: .sl (Y4.Tr.map (cL (cI .i64))) :: .i .i64 (Y4.Tr.length:Int) :: .i .i64 Y2 :: .b (decide (Y2 < (Y4.Tr.length:Int))) :: .i .i64 Y2 :: .ref [.sl ((Y4.Tr.getD Y2.toNat default).map (cI .i64))] 0 :: .sl ((Y4.Tr.getD Y2.toNat default).map (cI .i64)) :: .i .i64 (Y5 + 1) :: an 36 [],[.box 27 [.sl (Y4.Pq.map Gv.c), .sl (Y4.Tr.map (cL (cI .i64)))], .mapN 2 (mapC Gedge.pr (cI .i64) (mput Y8 (midx Y8 (Z7 Y4 Y2 Y5)) ((Y8.getD (midx Y8 (Z7 Y4 Y2 Y5)) default).2 ++ [Y2]))) none, .vec 113 2 (Ys.map Gedge.cells) false]⟩ from (by rw [X7f (X3j YV)];done)) (ih (Y5 + 1) (mput Y8 (midx Y8 (Z7 Y4 Y2 Y5)) ((Y8.getD (midx Y8 (Z7 Y4 Y2 Y5)) default).2 ++ [Y2])) Ys (show 0≤(Y5 + 1) from (by omega)) (show (Ys.length:Int)≤(Yv.length:Int) + (Y5 + 1) from (by omega)) (show ∀ y∈(mput Y8 (midx Y8 (Z7 Y4 Y2 Y5)) ((Y8.getD (midx Y8 (Z7 Y4 Y2 Y5)) default).2 ++ [Y2])),(y.2.length:Int)≤3 * Y2 + (Y5 + 1) from (by exact X3C (by assumption) (by omega) (by omega))) (by omega))
   | false =>
    have Y1b:Ys.length + ([(Z7 Y4 Y2 Y5)]).length≤1073741824:=by clear p;exact (by ((have g5:=odt Z1f;have q:=OkE.at hp3 ZD g5 Z12 (odt (by assumption));(simp only [List.length_append,List.length_cons,List.length_nil];omega))))
    have e:Zi Y4 Y2 Y3 Yv (k + 1) Y5 Y8 Ys=(Zi Y4 Y2 Y3 Yv k (Y5 + 1) (Y8 ++ [((Z7 Y4 Y2 Y5),[Y2])]) (Ys ++ [(Z7 Y4 Y2 Y5)])):=by simp only [Zi,YA,YV,cond_true,cond_false]
    rw [e]
    exact X14 E0Ok Ze [] (mR false [0,2,1,5,2,1,1,9,36]) [0,1,2] (⟨.agg [.sl (Y4.Pq.map Gv.c), .sl (Y4.Tr.map (cL (cI .i64)))] :: .ptr 0 0 0 :: .any :: .nils :: .mp 1 :: .own 2 :: .i .i64 Y2 :: .sl ((Y4.Tr.getD Y2.toNat default).map (cI .i64)) :: .any :: .any :: .mp 1 :: .any :: .ptr 0 0 1 :: .sl (Y4.Tr.map (cL (cI .i64))) :: .i .i64 (Y4.Tr.length:Int) :: .i .i64 Y2 :: .b (decide (Y2 < (Y4.Tr.length:Int))) :: .i .i64 Y2 :: .ref [.sl ((Y4.Tr.getD Y2.toNat default).map (cI .i64))] 0 :: .sl ((Y4.Tr.getD Y2.toNat default).map (cI .i64)) :: .i .i64 (Y5 + 1) :: an 36 [],[.box 27 [.sl (Y4.Pq.map Gv.c), .sl (Y4.Tr.map (cL (cI .i64)))], .mapN 2 (((mapC Gedge.pr (cI .i64) Y8) ++ [((Gedge.pr (Z7 Y4 Y2 Y5)),[])]).set (mapC Gedge.pr (cI .i64) Y8).length ((((mapC Gedge.pr (cI .i64) Y8) ++ [((Gedge.pr (Z7 Y4 Y2 Y5)),[])]).getD (mapC Gedge.pr (cI .i64) Y8).length default).1,(([Y2]).map (cI .i64)))) none, .vec 113 2 ((Ys.map Gedge.cells) ++ ([[.i .i64 ((Z7 Y4 Y2 Y5).e0), .i .i64 ((Z7 Y4 Y2 Y5).e1)]]:List (List AV))) false]⟩) (p (sA (.keep [])<|sC (X5p (ck:=Gedge.pr) (cv:=(cI .i64)) Gedge.inj YV)<|sM (show ((0:Nat):Int)=0 from rfl)<|sB (show (0 == 0)=true from rfl)<|sC (show (Ys.map Gedge.cells).length + ([[.i .i64 ((Z7 Y4 Y2 Y5).e0), .i .i64 ((Z7 Y4 Y2 Y5).e1)]]:List (List AV)).length≤1073741824 from (by simpa using Y1b))<|sA (.keep [])<|sC (X5p (ck:=Gedge.pr) (cv:=(cI .i64)) Gedge.inj YV)<|sC (show ([[.i .i64 Y2]]:List (List AV))≠[] from (by simp))<|sC (show ([[.i .i64 Y2]]:List (List AV)).length≤1073741824 from (by simp))<|sA (.keep [(mapC Gedge.pr (cI .i64) Y8).length])<|sC (show ((mapC Gedge.pr (cI .i64) Y8).length:Int)=(((mapC Gedge.pr (cI .i64) Y8).length:Nat):Int) from rfl)<|sC (show (mapC Gedge.pr (cI .i64) Y8).length < ((mapC Gedge.pr (cI .i64) Y8) ++ [((Gedge.pr (Z7 Y4 Y2 Y5)),[])]).length from (by simp))<|sC (show ∀ i,(none:Option Nat)=some i→i=(mapC Gedge.pr (cI .i64) Y8).length from (fun i h=>by cases h))<|sI (Y5 + 1) Y16 Y17<|sN)) (by kernel_rfl) (show _=⟨.agg [.sl (Y4.Pq.map Gv.c), .sl (Y4.Tr.map (cL (cI .i64)))] :: .ptr 0 0 0 :: .any :: .nils :: .mp 1 :: .own 2 :: .i .i64 Y2 :: .sl ((Y4.Tr.getD Y2.toNat default).map (cI .i64)) :: .any :: .any :: .mp 1 :: .any :: .ptr 0 0 1 :: .sl (Y4.Tr.map (cL (cI .i64))) :: .i .i64 (Y4.Tr.length:Int) :: .i .i64 Y2 :: .b (decide (Y2 < (Y4.Tr.length:Int))) :: .i .i64 Y2 :: .ref [.sl ((Y4.Tr.getD Y2.toNat default).map (cI .i64))] 0 :: .sl ((Y4.Tr.getD Y2.toNat default).map (cI .i64)) :: .i .i64 (Y5 + 1) :: an 36 [],[.box 27 [.sl (Y4.Pq.map Gv.c), .sl (Y4.Tr.map (cL (cI .i64)))], .mapN 2 (mapC Gedge.pr (cI .i64) (Y8 ++ [((Z7 Y4 Y2 Y5),[Y2])])) none, .vec 113 2 ((Ys ++ [(Z7 Y4 Y2 Y5)]).map Gedge.cells) false]⟩ from (by rw [X9E];simp [List.map_set,Gedge.cells])) (ih (Y5 + 1) (Y8 ++ [((Z7 Y4 Y2 Y5),[Y2])]) (Ys ++ [(Z7 Y4 Y2 Y5)]) (show 0≤(Y5 + 1) from (by omega)) (show ((Ys ++ [(Z7 Y4 Y2 Y5)]).length:Int)≤(Yv.length:Int) + (Y5 + 1) from (by simp only [List.length_append,List.length_cons,List.length_nil];omega)) (show ∀ y∈(Y8 ++ [((Z7 Y4 Y2 Y5),[Y2])]),(y.2.length:Int)≤3 * Y2 + (Y5 + 1) from (by exact X7h (by assumption) (by omega) (by omega))) (by omega))
  | false =>
   have YC:=odf YA
   have e:Zi Y4 Y2 Y3 Yv (k + 1) Y5 Y8 Ys=(Y8,Ys):=by simp only [Zi,YA,cond_false]
   rw [e]
   exact outR (e:=(.exit 2)) E0Ok Ze [] (mR false [0,2,1,5,2,1,1,8,37]) [0,1,2] (sB YA<|sN) (by kernel_rfl) (by intro h;cases h)
def ZE (Y4:Gm) (Y2:Int) (Y3:(List (Gedge × List Int))) (Yv:(List Gedge)):(List (Gedge × List Int)) × (List Gedge):=(Zi Y4 Y2 Y3 Yv (((3:Int) - 0).toNat + 1) 0 Y3 Yv)
theorem Z9b (m:Gm) (i:Int) (b0:List (Gedge × List Int)) (l0:List Gedge) (h0:0≤i):∀ (k:Nat) (x:Int) (b:List (Gedge × List Int)) (l:List Gedge),0≤x→(3 - x).toNat < k→x≤3→(l.length:Int)≤3 * i + x→(∀ y∈b,(y.2.length:Int)≤3 * i + x)→((Zi m i b0 l0 k x b l).2.length:Int)≤3 * (i + 1)∧∀ y∈(Zi m i b0 l0 k x b l).1,(y.2.length:Int)≤3 * (i + 1):=by
  intro k
  induction k with
  | zero=>intro x b l _ hk;exact absurd hk (Nat.not_lt_zero _)
  | succ k ih =>
    intro x b l hx hk h3 hl hb
    rw [Zi]
    cases hc:decide (x < 3) with
    | false=>rw [cond_false];exact ⟨by simp only;omega,fun y hy=>by have:=hb y hy;omega⟩
    | true =>
      have hc':=odt hc
      rw [cond_true]
      cases mhas b (Z7 m i x) with
      | true =>
        rw [cond_true]
        cases (((b.getD (midx b (Z7 m i x)) default).2.length:Int) == 0) with
        | true=>rw [cond_true];exact ih _ _ _ (by omega) (by omega) (by omega) (by simp only [List.length_append,List.length_cons,List.length_nil];omega) (X3C hb (by omega) (by omega))
        | false=>rw [cond_false];exact ih _ _ _ (by omega) (by omega) (by omega) (by omega) (X3C hb (by omega) (by omega))
      | false=>rw [cond_false];exact ih _ _ _ (by omega) (by omega) (by omega) (by simp only [List.length_append,List.length_cons,List.length_nil];omega) (X7h hb (by omega) (by omega))
theorem Z8A (m:Gm) (i:Int) (b:List (Gedge × List Int)) (l:List Gedge) (h0:0≤i) (hl:(l.length:Int)≤3 * i) (hb:∀ y∈b,(y.2.length:Int)≤3 * i) :
    ((ZE m i b l).2.length:Int)≤3 * (i + 1)∧∀ y∈(ZE m i b l).1,(y.2.length:Int)≤3 * (i + 1) :=
  Z9b m i b l h0 _ 0 b l (Int.le_refl 0) (by omega) (by omega) (by omega) (fun y hy=>by have:=hb y hy;omega)
def ZJ (Y4:Gm):Nat→Int→(List (Gedge × List Int))→(List Gedge)→(List (Gedge × List Int)) × (List Gedge)
  | 0,_,_,_=>default
  | k + 1,Y2,Y3,Yv=>(cond (decide (Y2 < (Y4.Tr.length:Int)))
    (ZJ Y4 k (Y2 + 1) ((ZE Y4 Y2 Y3 Yv).1) ((ZE Y4 Y2 Y3 Yv).2))
    (Y3,Yv))
def Z2B (Y4:Gm) (r:(List (Gedge × List Int)) × (List Gedge)):Ex × St:=((.exit 0),⟨.agg [.sl (Y4.Pq.map Gv.c), .sl (Y4.Tr.map (cL (cI .i64)))] :: .ptr 0 0 0 :: .any :: .nils :: .mp 1 :: .own 2 :: an 4 (.mp 1 :: .any :: .ptr 0 0 1 :: .sl (Y4.Tr.map (cL (cI .i64))) :: an 43 []),[.box 27 [.sl (Y4.Pq.map Gv.c), .sl (Y4.Tr.map (cL (cI .i64)))], .mapN 2 (mapC Gedge.pr (cI .i64) r.1) none, .vec 113 2 (r.2.map Gedge.cells) false]⟩)
def Z3e (Y4:Gm) (Y2:Int) (Y3:(List (Gedge × List Int))) (Yv:(List Gedge)):St:=⟨.agg [.sl (Y4.Pq.map Gv.c), .sl (Y4.Tr.map (cL (cI .i64)))] :: .ptr 0 0 0 :: .any :: .nils :: .mp 1 :: .own 2 :: an 4 (.mp 1 :: .any :: .ptr 0 0 1 :: .sl (Y4.Tr.map (cL (cI .i64))) :: .i .i64 (Y4.Tr.length:Int) :: .i .i64 Y2 :: an 41 []),[.box 27 [.sl (Y4.Pq.map Gv.c), .sl (Y4.Tr.map (cL (cI .i64)))], .mapN 2 (mapC Gedge.pr (cI .i64) Y3) none, .vec 113 2 (Yv.map Gedge.cells) false]⟩
theorem Z5w (Y4:Gm) (hp0:Y4.Pq.length≤1073741824) (hp1:Y4.Tr.length≤1073741824) (hp2:∀ t∈Y4.Tr,t.length≤1073741824) (hp3:OkE Y4.Pq.length Y4.Tr):∀ (k:Nat) (Y2:Int) (Y3:(List (Gedge × List Int))) (Yv:(List Gedge)) (ZD:0≤Y2) (Z2b:(Yv.length:Int)≤3 * Y2) (Z1L:∀ y∈Y3,(y.2.length:Int)≤3 * Y2) (hk:((Y4.Tr.length:Int) - Y2).toNat < k),Lp prog 0 (sub (X0 f82) [1,1,0,1,0,0]) (Z3e Y4 Y2 Y3 Yv) (Z2B Y4 (ZJ Y4 k Y2 Y3 Yv)).1 (Z2B Y4 (ZJ Y4 k Y2 Y3 Yv)).2:=by
 intro k
 induction k with
 | zero=>intro Y2 Y3 Yv ZD Z2b Z1L hk;exact absurd hk (Nat.not_lt_zero _)
 | succ k ih =>
  intro Y2 Y3 Yv ZD Z2b Z1L hk
  cases Yk:(decide (Y2 < (Y4.Tr.length:Int))) with
  | true =>
   have YH:=odt Yk
   have YQ:(0:Int)≤Y2:=(by assumption)
   have YN:Y2 < (Y4.Tr.length:Int):=(by assumption)
   have y_2:(-9223372036854775808:Int)≤(Y2 + 1):=(by omega)
   have YR:(Y2 + 1)≤(9223372036854775807:Int):=(by omega)
   have e:ZJ Y4 (k + 1) Y2 Y3 Yv=(ZJ Y4 k (Y2 + 1) ((ZE Y4 Y2 Y3 Yv).1) ((ZE Y4 Y2 Y3 Yv).2)):=by simp only [ZJ,Yk,cond_true]
   rw [e]
   exact XG E0Ok Ze [] (mR false [0,2,1,3,4,1,1,4,41]) [0,1,2] (ih (Y2 + 1) ((ZE Y4 Y2 Y3 Yv).1) ((ZE Y4 Y2 Y3 Yv).2) (show 0≤(Y2 + 1) from (by omega)) (show (((ZE Y4 Y2 Y3 Yv).2).length:Int)≤3 * (Y2 + 1) from (by exact (Z8A _ _ _ _ ZD (by assumption) (by assumption)).1)) (show ∀ y∈((ZE Y4 Y2 Y3 Yv).1),(y.2.length:Int)≤3 * (Y2 + 1) from (by exact (Z8A _ _ _ _ ZD (by assumption) (by assumption)).2)) (by omega)) (sB Yk<|sG (cL (cI .i64)) Y4.Tr Y2 YQ YN<|sL (mR false [0,2,1,5,2,1,1,9,36]) 3 (X9 (Z2A Y4 Y2 Y3 Yv) (x:=(ZE Y4 Y2 Y3 Yv)) (Z5v Y4 Y2 Y3 Yv hp0 hp1 hp2 hp3 ZD Z2b Z1L Yk (((3:Int) - 0).toNat + 1) 0 Y3 Yv (show 0≤0 from (by omega)) (show (Yv.length:Int)≤(Yv.length:Int) + 0 from (by omega)) (show ∀ y∈Y3,(y.2.length:Int)≤3 * Y2 + 0 from (by intro y hy;have q:=Z1L y hy;omega)) (Nat.lt_succ_self _)) rfl)<|sI (Y2 + 1) y_2 YR<|sN) (by kernel_rfl)
  | false =>
   have YH:=odf Yk
   have e:ZJ Y4 (k + 1) Y2 Y3 Yv=(Y3,Yv):=by simp only [ZJ,Yk,cond_false]
   rw [e]
   exact outR (e:=(.exit 0)) E0Ok Ze [] (mR false [0,2,1,3,4,1,1,2,43]) [0,1,2] (sB Yk<|sN) (by kernel_rfl) (by intro h;cases h)
def ZH (Y4:Gm):(List (Gedge × List Int)) × (List Gedge):=(ZJ Y4 (((Y4.Tr.length:Int) - 0).toNat + 1) 0 ([]:(List (Gedge × List Int))) ([]:List Gedge))
theorem Z9K (m:Gm) (k:Nat) (i:Int) (b:List (Gedge × List Int)) (l:List Gedge) (h0:0≤i):ZJ m (k + 1) i b l=cond (decide (i < (m.Tr.length:Int))) (ZJ m k (i + 1) (stT (b,l) (m.Tr.getD i.toNat default) i).1 (stT (b,l) (m.Tr.getD i.toNat default) i).2) (b,l):=by
  have st:∀ (x:Int) (k:Nat) (b:List (Gedge × List Int)) (l:List Gedge),x < 3→Zi m i b l (k + 1) x b l=Zi m i b l (k + 1) x b l:=fun _ _ _ _ _=>rfl
  have one:∀ (b0:List (Gedge × List Int)) (l0:List Gedge) (k:Nat) (x:Int) (s:List (Gedge × List Int) × List Gedge),x < 3→Zi m i b0 l0 (k + 1) x s.1 s.2=Zi m i b0 l0 k (x + 1) (stE s (Z7 m i x) i).1 (stE s (Z7 m i x) i).2:=by
    intro b0 l0 k x s hx
    rw [Zi,decide_eq_true hx,cond_true]
    unfold stE
    cases mhas s.1 (Z7 m i x) with
    | true =>
      rw [cond_true,cond_true]
      cases (((s.1.getD (midx s.1 (Z7 m i x)) default).2.length:Int) == 0)<;>rfl
    | false=>rfl
  have tri:ZE m i b l=stT (b,l) (m.Tr.getD i.toNat default) i:=by
    unfold ZE
    show Zi m i b l 4 0 (b,l).1 (b,l).2=_
    rw [one b l 3 0 (b,l) (by omega),one b l 2 (0 + 1) _ (by omega),one b l 1 (0 + 1 + 1) _ (by omega),Zi]
    show cond (decide ((3:Int) < 3)) _ _=_
    rw [decide_eq_false (by omega),cond_false]
    unfold Z7 stT
    simp only [Z8V]
    rfl
  rw [ZJ,tri]
theorem Z7I (m:Gm) (ok:OkE m.Pq.length m.Tr):ETab m.Tr m.Tr.length (ZH m):=by
  unfold ZH
  exact ETab.loop ok (Z9K m) _ 0 ([],[]) (Nat.zero_le _) (ETab.nil _) (by omega)
theorem Z9c (m:Gm) (ok:OkE m.Pq.length m.Tr):(ZH m).2.length≤4096:=by
  have h:=congrArg List.length ((Z7I m ok).sorted ok)
  rw [X7i] at h
  rw [h];exact X3D ok
end Go.Ab
