/- The functions of this seat as plain Lean, and that the program's are these. Printed by a program of the prover's own. -/
import Derived.Test.YtoibkmljibnjnaaB5
set_option linter.unusedVariables false
set_option linter.unusedSimpArgs false
set_option maxRecDepth 100000
namespace Go.Ab
open Go.RowKit Go.Proofs.Try
def Z1N (Y4:Gm) (Y2:Int):(Unit) ⊕ (Unit):=(Z16 Y4 Y2 ((((Y4.Tr.getD Y2.toNat default).length:Int) - 0).toNat + 1) 0)
def Zw (Y4:Gm):Nat→Int→(Unit) ⊕ (Unit)
  | 0,_ => .inl default
  | k + 1,Y2=>(cond (decide (Y2 < (Y4.Tr.length:Int)))
    (cond (((Y4.Tr.getD Y2.toNat default).length:Int) != 3)
      (.inl ())
      (cond (((Y4.Tr.getD Y2.toNat default).getD 0 default) == ((Y4.Tr.getD Y2.toNat default).getD 1 default))
        (.inl ())
        (cond (((Y4.Tr.getD Y2.toNat default).getD 1 default) == ((Y4.Tr.getD Y2.toNat default).getD 2 default))
          (.inl ())
          (cond (((Y4.Tr.getD Y2.toNat default).getD 0 default) == ((Y4.Tr.getD Y2.toNat default).getD 2 default))
            (.inl ())
            (match (Z1N Y4 Y2) with
              | .inl r_6=>(.inl ())
              | .inr r_6=>(Zw Y4 k (Y2 + 1)))))))
    (.inr ()))
def Z2x (Y4:Gm):(Unit) ⊕ (Unit)→Ex × St
  | .inl r=>(.ret,⟨.any :: .any :: .b false :: an 66 [],[]⟩)
  | .inr r=>((.exit 0),⟨.agg [.sl (Y4.Pq.map Gv.c), .sl (Y4.Tr.map (cL (cI .i64)))] :: .ptr 0 0 0 :: .any :: .i .i64 (Y4.Pq.length:Int) :: an 4 (.ptr 0 0 0 :: .sl (Y4.Pq.map Gv.c) :: .i .i64 (Y4.Pq.length:Int) :: .i .i64 (Y4.Pq.length:Int) :: .b (decide ((Y4.Pq.length:Int) > 64)) :: .b (decide ((Y4.Pq.length:Int) > 64)) :: .ptr 0 0 1 :: .sl (Y4.Tr.map (cL (cI .i64))) :: .i .i64 (Y4.Tr.length:Int) :: .b (decide ((Y4.Tr.length:Int) > 128)) :: .b (decide ((Y4.Tr.length:Int) > 128)) :: .ptr 0 0 1 :: .sl (Y4.Tr.map (cL (cI .i64))) :: an 48 []),[.box 27 [.sl (Y4.Pq.map Gv.c), .sl (Y4.Tr.map (cL (cI .i64)))]]⟩)
def Z6b (Y4:Gm) (Y2:Int):St:=⟨.agg [.sl (Y4.Pq.map Gv.c), .sl (Y4.Tr.map (cL (cI .i64)))] :: .ptr 0 0 0 :: .any :: .i .i64 (Y4.Pq.length:Int) :: an 4 (.ptr 0 0 0 :: .sl (Y4.Pq.map Gv.c) :: .i .i64 (Y4.Pq.length:Int) :: .i .i64 (Y4.Pq.length:Int) :: .b (decide ((Y4.Pq.length:Int) > 64)) :: .b (decide ((Y4.Pq.length:Int) > 64)) :: .ptr 0 0 1 :: .sl (Y4.Tr.map (cL (cI .i64))) :: .i .i64 (Y4.Tr.length:Int) :: .b (decide ((Y4.Tr.length:Int) > 128)) :: .b (decide ((Y4.Tr.length:Int) > 128)) :: .ptr 0 0 1 :: .sl (Y4.Tr.map (cL (cI .i64))) :: .i .i64 (Y4.Tr.length:Int) :: .i .i64 Y2 :: an 46 []),[.box 27 [.sl (Y4.Pq.map Gv.c), .sl (Y4.Tr.map (cL (cI .i64)))]]⟩
theorem Z4C (Y4:Gm) (hp0:Y4.Pq.length≤1073741824) (hp1:Y4.Tr.length≤1073741824) (hp2:∀ t∈Y4.Tr,t.length≤1073741824) (Z1V:(decide ((Y4.Pq.length:Int) > 64))=false) (Z1W:(decide ((Y4.Tr.length:Int) > 128))=false):∀ (k:Nat) (Y2:Int) (Z1X:0≤Y2) (hk:((Y4.Tr.length:Int) - Y2).toNat < k),Lp prog 0 (sub (X2 f61) [1,1,1,0,1,0,0]) (Z6b Y4 Y2) (Z2x Y4 (Zw Y4 k Y2)).1 (Z2x Y4 (Zw Y4 k Y2)).2:=by
 intro k
 induction k with
 | zero=>intro Y2 Z1X hk;exact absurd hk (Nat.not_lt_zero _)
 | succ k ih =>
  intro Y2 Z1X hk
  cases Yr:(decide (Y2 < (Y4.Tr.length:Int))) with
  | true =>
   have YM:=odt Yr
   have YU:(0:Int)≤Y2:=(by assumption)
   have YR:Y2 < (Y4.Tr.length:Int):=(by assumption)
   have p {a C} (s:Scr a C):=sB Yr<|sG (cL (cI .i64)) Y4.Tr Y2 YU YR<|sK [28,28]<|sZ (cI .i64) (Y4.Tr.getD Y2.toNat default)<|s
   cases YB:(((Y4.Tr.getD Y2.toNat default).length:Int) != 3) with
   | true =>
    have Y1C:=bne_iff_ne.1 YB
    have e:Zw Y4 (k + 1) Y2=(.inl ()):=by simp only [Zw,Yr,YB,cond_true]
    rw [e]
    exact outR (e := .ret) E0Ok Zg [] (mR false [2,1,66]) [] (p (sB YB<|sB YB<|sB YB<|sB YB<|sB YB<|sB YB<|sB YB<|sB YB<|sB (show true=true from rfl)<|sB (show true=true from rfl)<|sB (show true=true from rfl)<|sB (show true=true from rfl)<|sB (show true=true from rfl)<|sB (show true=true from rfl)<|sB (show true=true from rfl)<|sB (show true=true from rfl)<|sB (show true=true from rfl)<|sB (show true=true from rfl)<|sB (show true=true from rfl)<|sB (show true=true from rfl)<|sB (show true=true from rfl)<|sB (show true=true from rfl)<|sB (show true=true from rfl)<|sB (show true=true from rfl)<|sB (show true=true from rfl)<|sN)) (by kernel_rfl) (by intro h;cases h)
   | false =>
    have Y1C:=bne_eq_false_iff_eq.1 YB
    have y_2:(0:Int)≤0:=by clear p;exact (by omega)
    have YV:0 < ((Y4.Tr.getD Y2.toNat default).length:Int):=by clear p;exact (by omega)
    have y_4:(0:Int)≤1:=by clear p;exact (by omega)
    have y_5:1 < ((Y4.Tr.getD Y2.toNat default).length:Int):=by clear p;exact (by omega)
    have q {a C} (s:Scr a C):=p (sB YB<|sB YB<|sG (cI .i64) (Y4.Tr.getD Y2.toNat default) 0 y_2 YV<|sB YB<|sB YB<|sB YB<|sG (cI .i64) (Y4.Tr.getD Y2.toNat default) 1 y_4 y_5<|sB YB<|sB YB<|sB YB<|s)
    clear p
    cases YQ:(((Y4.Tr.getD Y2.toNat default).getD 0 default) == ((Y4.Tr.getD Y2.toNat default).getD 1 default)) with
    | true =>
     have Y1v:=eq_of_beq YQ
     have e:Zw Y4 (k + 1) Y2=(.inl ()):=by simp only [Zw,Yr,YB,YQ,cond_true,cond_false]
     rw [e]
     exact outR (e := .ret) E0Ok Zg [] (mR false [2,1,66]) [] (q (sB YQ<|sB YQ<|sB YQ<|sB YQ<|sB YQ<|sB YQ<|sB YQ<|sB YQ<|sB (show true=true from rfl)<|sB (show true=true from rfl)<|sB (show true=true from rfl)<|sB (show true=true from rfl)<|sB (show true=true from rfl)<|sB (show true=true from rfl)<|sB (show true=true from rfl)<|sB (show true=true from rfl)<|sB (show true=true from rfl)<|sN)) (by kernel_rfl) (by intro h;cases h)
    | false =>
     have Y1v:=ne_of_beq_false YQ
     have y_6:(0:Int)≤2:=by clear q;exact (by omega)
     have y_7:2 < ((Y4.Tr.getD Y2.toNat default).length:Int):=by clear q;exact (by omega)
     have p {a C} (s:Scr a C):=q (sB YQ<|sB YQ<|sG (cI .i64) (Y4.Tr.getD Y2.toNat default) 1 y_4 y_5<|sB YQ<|sB YQ<|sB YQ<|sG (cI .i64) (Y4.Tr.getD Y2.toNat default) 2 y_6 y_7<|sB YQ<|sB YQ<|sB YQ<|s)
     clear q
     cases h_3:(((Y4.Tr.getD Y2.toNat default).getD 1 default) == ((Y4.Tr.getD Y2.toNat default).getD 2 default)) with
     | true =>
      have Y1D:=eq_of_beq h_3
      have e:Zw Y4 (k + 1) Y2=(.inl ()):=by simp only [Zw,Yr,YB,YQ,h_3,cond_true,cond_false]
      rw [e]
      exact outR (e := .ret) E0Ok Zg [] (mR false [2,1,66]) [] (p (sB h_3<|sB h_3<|sB h_3<|sB h_3<|sB h_3<|sB h_3<|sB h_3<|sB h_3<|sB (show true=true from rfl)<|sN)) (by kernel_rfl) (by intro h;cases h)
     | false =>
      have Y1D:=ne_of_beq_false h_3
      have q {a C} (s:Scr a C):=p (sB h_3<|sB h_3<|sG (cI .i64) (Y4.Tr.getD Y2.toNat default) 0 y_2 YV<|sB h_3<|sB h_3<|sB h_3<|sG (cI .i64) (Y4.Tr.getD Y2.toNat default) 2 y_6 y_7<|sB h_3<|sB h_3<|sB h_3<|s)
      clear p
      cases h_4:(((Y4.Tr.getD Y2.toNat default).getD 0 default) == ((Y4.Tr.getD Y2.toNat default).getD 2 default)) with
      | true =>
       have gh_4:=eq_of_beq h_4
       have e:Zw Y4 (k + 1) Y2=(.inl ()):=by simp only [Zw,Yr,YB,YQ,h_3,h_4,cond_true,cond_false]
       rw [e]
       exact outR (e := .ret) E0Ok Zg [] (mR false [2,1,66]) [] (q (sB h_4<|sN)) (by kernel_rfl) (by intro h;cases h)
      | false =>
       have gh_4:=ne_of_beq_false h_4
       have p {a C} (s:Scr a C):=q (sB h_4<|sZ (cI .i64) (Y4.Tr.getD Y2.toNat default)<|s)
       clear q
       cases h_5:(Z1N Y4 Y2) with
       | inl r_6 =>
        have e:Zw Y4 (k + 1) Y2=(.inl ()):=by simp only [Zw,Yr,YB,YQ,h_3,h_4,h_5,cond_true,cond_false]
        rw [e]
        exact outR (e := .ret) E0Ok Zg [] (mR false [2,1,66]) [] (p (sL Z2K 1 (Xc (Z2w Y4 Y2) (x:=(Z1N Y4 Y2)) (Z4B Y4 Y2 hp0 hp1 hp2 Z1V Z1W Z1X YB Z1V Z1W Yr ((((Y4.Tr.getD Y2.toNat default).length:Int) - 0).toNat + 1) 0 (show 0≤0 from (by assumption)) (Nat.lt_succ_self _)) h_5)<|sN)) (by kernel_rfl) (by intro h;cases h)
       | inr r_6 =>
        have y_8:(-9223372036854775808:Int)≤(Y2 + 1):=by clear p;exact (by omega)
        have y_9:(Y2 + 1)≤(9223372036854775807:Int):=by clear p;exact (by omega)
        have e:Zw Y4 (k + 1) Y2=(Zw Y4 k (Y2 + 1)):=by simp only [Zw,Yr,YB,YQ,h_3,h_4,h_5,cond_true,cond_false]
        rw [e]
        exact X1r E0Ok Zg [] (mR false [0,2,1,1,4,15,46]) [0] (ih (Y2 + 1) (show 0≤(Y2 + 1) from (by omega)) (by omega)) (p (sL Z2K 1 (Xc (Z2w Y4 Y2) (x:=(Z1N Y4 Y2)) (Z4B Y4 Y2 hp0 hp1 hp2 Z1V Z1W Z1X YB Z1V Z1W Yr ((((Y4.Tr.getD Y2.toNat default).length:Int) - 0).toNat + 1) 0 (show 0≤0 from (by assumption)) (Nat.lt_succ_self _)) h_5)<|sI (Y2 + 1) y_8 y_9<|sN)) (by kernel_rfl)
  | false =>
   have YM:=odf Yr
   have e:Zw Y4 (k + 1) Y2=(.inr ()):=by simp only [Zw,Yr,cond_false]
   rw [e]
   exact outR (e:=(.exit 0)) E0Ok Zg [] (mR false [0,2,1,1,4,13,48]) [0] (sB Yr<|sN) (by kernel_rfl) (by intro h;cases h)
def Z1Y (Y4:Gm):(Unit) ⊕ (Unit):=(Zw Y4 (((Y4.Tr.length:Int) - 0).toNat + 1) 0)
def Zn (Y4:Gm):Bool:=(cond (decide ((Y4.Pq.length:Int) > 64))
  false
  (cond (decide ((Y4.Tr.length:Int) > 128))
    false
    (match (Z1Y Y4) with
      | .inl r3=>false
      | .inr r3=>true)))
def triI (t:List Int) (n:Int):Bool:=(!((t.length:Int) != 3) && (!(t.getD 0 default == t.getD 1 default) && (!(t.getD 1 default == t.getD 2 default) && (!(t.getD 0 default == t.getD 2 default) && t.all fun x=>ZI x 0 (IntKind.wrap .i64 (n - 1))))))
theorem Z8v (m:Gm) (k:Nat) (i:Int):Zw m (k + 1) i=cond (decide (i < (m.Tr.length:Int))) (cond (triI (m.Tr.getD i.toNat default) (m.Pq.length:Int)) (Zw m k (i + 1)) (.inl ())) (.inr ()):=by
  rw [Zw]
  have hin:Z1N m i=cond ((m.Tr.getD i.toNat default).all fun x=>ZI x 0 (IntKind.wrap .i64 ((m.Pq.length:Int) - 1))) (.inr ()) (.inl ()):=by
    unfold Z1N
    exact X4n (a:=m.Tr.getD i.toNat default) (p:=fun x=>ZI x 0 (IntKind.wrap .i64 ((m.Pq.length:Int) - 1))) (lo:=Z16 m i) (x:=()) (y:=()) (fun k i=>rfl)
  rw [hin]
  unfold triI
  generalize m.Tr.getD i.toNat default=t
  generalize (t.all fun x=>ZI x 0 (IntKind.wrap .i64 ((m.Pq.length:Int) - 1)))=q
  cases ((t.length:Int) != 3)<;>cases (t.getD 0 default == t.getD 1 default)<;>cases (t.getD 1 default == t.getD 2 default)<;>cases (t.getD 0 default == t.getD 2 default)<;>cases q<;>rfl
theorem Z74 (m:Gm):Zn m=cond (decide ((m.Pq.length:Int) > 64)) false (cond (decide ((m.Tr.length:Int) > 128)) false (m.Tr.all fun t=>triI t (m.Pq.length:Int))):=by
  unfold Zn Z1Y
  rw [X4n (a:=m.Tr) (p:=fun t=>triI t (m.Pq.length:Int)) (lo:=Zw m) (x:=()) (y:=()) (Z8v m)]
  cases (m.Tr.all fun t=>triI t (m.Pq.length:Int))<;>rfl
theorem Z1O (m:Gm) (h:Zn m=true):OkE m.Pq.length m.Tr:=by
  rw [Z74] at h
  cases h1:decide ((m.Pq.length:Int) > 64)<;>rw [h1] at h<;>(try (cases h;done))
  cases h2:decide ((m.Tr.length:Int) > 128)<;>rw [h2] at h<;>(try (cases h;done))
  simp only [cond_false,List.all_eq_true,decide_eq_false_iff_not] at h h1 h2
  refine ⟨by omega,by omega,fun t ht => ?_⟩
  have h3:=h t ht
  unfold triI at h3
  rw [X9q (by omega) (by omega)] at h3
  simp only [Bool.and_eq_true,Bool.not_eq_true',List.all_eq_true,bne_eq_false_iff_eq,beq_eq_false_iff_ne] at h3
  obtain ⟨g0,g1,g2,g3,g4⟩:=h3
  have hl:t.length=3:=by omega
  match t,hl with
  | [a,b,c],_ =>
    have hw:∀ x,ZI x 0 ((m.Pq.length:Int) - 1)=true→0≤x∧x < (m.Pq.length:Int):=by
      intro x hx
      unfold ZI at hx
      cases f1:decide (x ≥ 0)<;>rw [f1] at hx<;>(try (cases hx;done))
      simp only [cond_true,decide_eq_true_eq] at hx f1
      omega
    exact ⟨a,b,c,rfl,hw a (g4 a (by simp)),hw b (g4 b (by simp)),hw c (g4 c (by simp)),g1,g2,g3⟩
theorem Z5v (Y4:Gm) (hp0:Y4.Pq.length≤1073741824) (hp1:Y4.Tr.length≤1073741824) (hp2:∀ t∈Y4.Tr,t.length≤1073741824)  : Fn prog 61 [.agg [.sl (Y4.Pq.map Gv.c), .sl (Y4.Tr.map (cL (cI .i64)))]] (.b (Zn Y4)) []:=by
 have p {a C} (s:Scr a C):=sZ Gv.c Y4.Pq<|s
 cases h0:(decide ((Y4.Pq.length:Int) > 64)) with
 | true =>
  have gh0:=odt h0
  refine fnS E0Ok Zg (c:=X2 f61) [] (.b false) [] func61 (p (sB h0<|sB h0<|sB h0<|sB h0<|sB h0<|sB (show true=true from rfl)<|sK [] sN)) rfl (by kernel_rfl) (by kernel_rfl) rfl ?_ ?_
  · simp only [Zn,h0,cond_true]
  · rfl
 | false =>
  have gh0:=odf h0
  have q {a C} (s:Scr a C):=p (sB h0<|sB h0<|sB h0<|sZ (cL (cI .i64)) Y4.Tr<|sB h0<|sB h0<|s)
  clear p
  cases h1:(decide ((Y4.Tr.length:Int) > 128)) with
  | true =>
   have gh1:=odt h1
   refine fnS E0Ok Zg (c:=X2 f61) [] (.b false) [] func61 (q (sB h1<|sK [] sN)) rfl (by kernel_rfl) (by kernel_rfl) rfl ?_ ?_
   · simp only [Zn,h0,h1,cond_true,cond_false]
   · rfl
  | false =>
   have gh1:=odf h1
   have p {a C} (s:Scr a C):=q (sB h1<|sZ (cL (cI .i64)) Y4.Tr<|s)
   clear q
   cases h2:(Z1Y Y4) with
   | inl r3 =>
    refine fnS E0Ok Zg (c:=X2 f61) [] (.b false) [] func61 (p (sL (mR false [0,2,1,1,4,15,46]) 1 (Xc (Z2x Y4) (x:=(Z1Y Y4)) (Z4C Y4 hp0 hp1 hp2 h0 h1 (((Y4.Tr.length:Int) - 0).toNat + 1) 0 (show 0≤0 from (by omega)) (Nat.lt_succ_self _)) h2)<|sK [] sN)) rfl (by kernel_rfl) (by kernel_rfl) rfl ?_ ?_
    · simp only [Zn,h0,h1,h2,cond_false]
    · rfl
   | inr r3 =>
    refine fnS E0Ok Zg (c:=X2 f61) [] (.b true) [] func61 (p (sL (mR false [0,2,1,1,4,15,46]) 1 (Xc (Z2x Y4) (x:=(Z1Y Y4)) (Z4C Y4 hp0 hp1 hp2 h0 h1 (((Y4.Tr.length:Int) - 0).toNat + 1) 0 (show 0≤0 from (by omega)) (Nat.lt_succ_self _)) h2)<|sK [] sN)) rfl (by kernel_rfl) (by kernel_rfl) rfl ?_ ?_
    · simp only [Zn,h0,h1,h2,cond_false]
    · rfl
def ZA (Y5:Gb):Nat→Int→(Unit) ⊕ (Unit)
  | 0,_ => .inl default
  | k + 1,Y2=>(cond (decide (Y2 < (Y5.Sp.length:Int)))
    (cond (ZI ((Y5.Sp.getD Y2.toNat default).A) 0 (IntKind.wrap .i64 ((Y5.Me.Pq.length:Int) - 1)))
      (cond (ZI ((Y5.Sp.getD Y2.toNat default).B) 0 (IntKind.wrap .i64 ((Y5.Me.Pq.length:Int) - 1)))
        (cond ((Y5.Sp.getD Y2.toNat default).A == (Y5.Sp.getD Y2.toNat default).B)
          (.inl ())
          (cond (fcmp .geq .f32 ((Y5.Sp.getD Y2.toNat default).Long) 0)
            (ZA Y5 k (Y2 + 1))
            (.inl ())))
        (.inl ()))
      (.inl ()))
    (.inr ()))
def Z2y (Y5:Gb):(Unit) ⊕ (Unit)→Ex × St
  | .inl r=>(.ret,⟨.any :: .any :: .b false :: an 59 [],[]⟩)
  | .inr r=>((.exit 0),⟨.agg [.sl (Y5.Me.Pq.map Gv.c), .sl (Y5.Me.Tr.map (cL (cI .i64))), .sl (Y5.Sp.map Gs.c), .f .f32 Y5.Film, .f .f32 Y5.Bend, .sl (Y5.We.map (cF .f32)), .f .f32 Y5.Fall.X, .f .f32 Y5.Fall.Y, .f .f32 Y5.Fall.Z] :: .ptr 0 0 0 :: .any :: .i .i64 (Y5.Me.Pq.length:Int) :: .any :: .any :: .ptr 0 0 0 :: .ptr 0 0 0 :: .sl (Y5.Me.Pq.map Gv.c) :: .i .i64 (Y5.Me.Pq.length:Int) :: .ptr 0 0 0 :: .agg [.sl (Y5.Me.Pq.map Gv.c), .sl (Y5.Me.Tr.map (cL (cI .i64)))] :: .b (Zn Y5.Me) :: .b (!(Zn Y5.Me)) :: .b (!(Zn Y5.Me)) :: .ptr 0 0 2 :: .sl (Y5.Sp.map Gs.c) :: .i .i64 (Y5.Sp.length:Int) :: .b (decide ((Y5.Sp.length:Int) > 200)) :: .b (decide ((Y5.Sp.length:Int) > 200)) :: .b (decide ((Y5.Sp.length:Int) > 200)) :: .ptr 0 0 5 :: .sl (Y5.We.map (cF .f32)) :: .i .i64 (Y5.We.length:Int) :: .i .i64 (Y5.Me.Pq.length:Int) :: .b ((Y5.We.length:Int) != (Y5.Me.Pq.length:Int)) :: .b ((Y5.We.length:Int) != (Y5.Me.Pq.length:Int)) :: .ptr 0 0 2 :: .sl (Y5.Sp.map Gs.c) :: an 33 [],[.box 34 [.sl (Y5.Me.Pq.map Gv.c), .sl (Y5.Me.Tr.map (cL (cI .i64))), .sl (Y5.Sp.map Gs.c), .f .f32 Y5.Film, .f .f32 Y5.Bend, .sl (Y5.We.map (cF .f32)), .f .f32 Y5.Fall.X, .f .f32 Y5.Fall.Y, .f .f32 Y5.Fall.Z]]⟩)
def Z6c (Y5:Gb) (Y2:Int):St:=⟨.agg [.sl (Y5.Me.Pq.map Gv.c), .sl (Y5.Me.Tr.map (cL (cI .i64))), .sl (Y5.Sp.map Gs.c), .f .f32 Y5.Film, .f .f32 Y5.Bend, .sl (Y5.We.map (cF .f32)), .f .f32 Y5.Fall.X, .f .f32 Y5.Fall.Y, .f .f32 Y5.Fall.Z] :: .ptr 0 0 0 :: .any :: .i .i64 (Y5.Me.Pq.length:Int) :: .any :: .any :: .ptr 0 0 0 :: .ptr 0 0 0 :: .sl (Y5.Me.Pq.map Gv.c) :: .i .i64 (Y5.Me.Pq.length:Int) :: .ptr 0 0 0 :: .agg [.sl (Y5.Me.Pq.map Gv.c), .sl (Y5.Me.Tr.map (cL (cI .i64)))] :: .b (Zn Y5.Me) :: .b (!(Zn Y5.Me)) :: .b (!(Zn Y5.Me)) :: .ptr 0 0 2 :: .sl (Y5.Sp.map Gs.c) :: .i .i64 (Y5.Sp.length:Int) :: .b (decide ((Y5.Sp.length:Int) > 200)) :: .b (decide ((Y5.Sp.length:Int) > 200)) :: .b (decide ((Y5.Sp.length:Int) > 200)) :: .ptr 0 0 5 :: .sl (Y5.We.map (cF .f32)) :: .i .i64 (Y5.We.length:Int) :: .i .i64 (Y5.Me.Pq.length:Int) :: .b ((Y5.We.length:Int) != (Y5.Me.Pq.length:Int)) :: .b ((Y5.We.length:Int) != (Y5.Me.Pq.length:Int)) :: .ptr 0 0 2 :: .sl (Y5.Sp.map Gs.c) :: .i .i64 (Y5.Sp.length:Int) :: .i .i64 Y2 :: an 31 [],[.box 34 [.sl (Y5.Me.Pq.map Gv.c), .sl (Y5.Me.Tr.map (cL (cI .i64))), .sl (Y5.Sp.map Gs.c), .f .f32 Y5.Film, .f .f32 Y5.Bend, .sl (Y5.We.map (cF .f32)), .f .f32 Y5.Fall.X, .f .f32 Y5.Fall.Y, .f .f32 Y5.Fall.Z]]⟩
theorem Z4D (Y5:Gb) (hp0:Y5.Me.Pq.length≤1073741824) (hp1:Y5.Me.Tr.length≤1073741824) (hp2:∀ t∈Y5.Me.Tr,t.length≤1073741824) (hp3:Y5.Sp.length≤1073741824) (hp4:Y5.We.length≤1073741824) (Z8d:((Y5.We.length:Int) != (Y5.Me.Pq.length:Int))=false) (Z8e:(decide ((Y5.Sp.length:Int) > 200))=false) (Z8f:(Zn Y5.Me)=true):∀ (k:Nat) (Y2:Int) (Z4i:0≤Y2) (hk:((Y5.Sp.length:Int) - Y2).toNat < k),Lp prog 0 (sub (X2 f11) [1,1,1,0,1,0,0]) (Z6c Y5 Y2) (Z2y Y5 (ZA Y5 k Y2)).1 (Z2y Y5 (ZA Y5 k Y2)).2:=by
 intro k
 induction k with
 | zero=>intro Y2 Z4i hk;exact absurd hk (Nat.not_lt_zero _)
 | succ k ih =>
  intro Y2 Z4i hk
  cases Yr:(decide (Y2 < (Y5.Sp.length:Int))) with
  | true =>
   have YM:=odt Yr
   have YU:(0:Int)≤Y2:=(by assumption)
   have YR:Y2 < (Y5.Sp.length:Int):=(by assumption)
   have p {a C} (s:Scr a C):=sB Yr<|sG Gs.c Y5.Sp Y2 YU YR<|sW .i64 ((Y5.Me.Pq.length:Int) - 1)<|sF (Z40 ((Y5.Sp.getD Y2.toNat default).A) 0 (IntKind.wrap .i64 ((Y5.Me.Pq.length:Int) - 1)))<|s
   cases YB:(ZI ((Y5.Sp.getD Y2.toNat default).A) 0 (IntKind.wrap .i64 ((Y5.Me.Pq.length:Int) - 1))) with
   | true =>
    have q {a C} (s:Scr a C):=p (sB' YB<|sB' YB<|sB' YB<|sB' YB<|sW .i64 ((Y5.Me.Pq.length:Int) - 1)<|sB' YB<|sF (Z40 ((Y5.Sp.getD Y2.toNat default).B) 0 (IntKind.wrap .i64 ((Y5.Me.Pq.length:Int) - 1)))<|sB' YB<|sB' YB<|s)
    clear p
    cases YQ:(ZI ((Y5.Sp.getD Y2.toNat default).B) 0 (IntKind.wrap .i64 ((Y5.Me.Pq.length:Int) - 1))) with
    | true =>
     have p {a C} (s:Scr a C):=q (sB' YQ<|sB' YQ<|sB' YQ<|sB' YQ<|sB' YQ<|sB' YQ<|s)
     clear q
     cases h_3:((Y5.Sp.getD Y2.toNat default).A == (Y5.Sp.getD Y2.toNat default).B) with
     | true =>
      have Y1D:=eq_of_beq h_3
      have e:ZA Y5 (k + 1) Y2=(.inl ()):=by simp only [ZA,Yr,YB,YQ,h_3,cond_true]
      rw [e]
      exact outR (e := .ret) E0Ok Zg [] (mR false [2,1,59]) [] (p (sB h_3<|sB h_3<|sB h_3<|sB h_3<|sB h_3<|sB (show true=true from rfl)<|sN)) (by kernel_rfl) (by intro h;cases h)
     | false =>
      have Y1D:=ne_of_beq_false h_3
      have q {a C} (s:Scr a C):=p (sB h_3<|sB h_3<|sB h_3<|sB h_3<|sB h_3<|s)
      clear p
      cases h_4:(fcmp .geq .f32 ((Y5.Sp.getD Y2.toNat default).Long) 0) with
      | true =>
       have y_2:(-9223372036854775808:Int)≤(Y2 + 1):=by clear q;exact (by omega)
       have YV:(Y2 + 1)≤(9223372036854775807:Int):=by clear q;exact (by omega)
       have e:ZA Y5 (k + 1) Y2=(ZA Y5 k (Y2 + 1)):=by simp only [ZA,Yr,YB,YQ,h_3,h_4,cond_true,cond_false]
       rw [e]
       exact X1r E0Ok Zg [] (mR false [0,2,1,1,2,25,31]) [0] (ih (Y2 + 1) (show 0≤(Y2 + 1) from (by omega)) (by omega)) (q (sB' h_4<|sI (Y2 + 1) y_2 YV<|sN)) (by kernel_rfl)
      | false =>
       have e:ZA Y5 (k + 1) Y2=(.inl ()):=by simp only [ZA,Yr,YB,YQ,h_3,h_4,cond_true,cond_false]
       rw [e]
       exact outR (e := .ret) E0Ok Zg [] (mR false [2,1,59]) [] (q (sB' h_4<|sN)) (by kernel_rfl) (by intro h;cases h)
    | false =>
     have e:ZA Y5 (k + 1) Y2=(.inl ()):=by simp only [ZA,Yr,YB,YQ,cond_true,cond_false]
     rw [e]
     exact outR (e := .ret) E0Ok Zg [] (mR false [2,1,59]) [] (q (sB' YQ<|sB' YQ<|sB' YQ<|sB' YQ<|sB' YQ<|sB' YQ<|sB (show true=true from rfl)<|sB (show true=true from rfl)<|sB (show true=true from rfl)<|sB (show true=true from rfl)<|sB (show true=true from rfl)<|sB (show true=true from rfl)<|sN)) (by kernel_rfl) (by intro h;cases h)
   | false =>
    have e:ZA Y5 (k + 1) Y2=(.inl ()):=by simp only [ZA,Yr,YB,cond_true,cond_false]
    rw [e]
    exact outR (e := .ret) E0Ok Zg [] (mR false [2,1,59]) [] (p (sB' YB<|sB' YB<|sB' YB<|sB' YB<|sB' YB<|sB' YB<|sB' YB<|sB (show true=true from rfl)<|sB (show true=true from rfl)<|sB (show true=true from rfl)<|sB (show true=true from rfl)<|sB (show true=true from rfl)<|sB (show true=true from rfl)<|sB (show true=true from rfl)<|sB (show true=true from rfl)<|sB (show true=true from rfl)<|sB (show true=true from rfl)<|sB (show true=true from rfl)<|sB (show true=true from rfl)<|sN)) (by kernel_rfl) (by intro h;cases h)
  | false =>
   have YM:=odf Yr
   have e:ZA Y5 (k + 1) Y2=(.inr ()):=by simp only [ZA,Yr,cond_false]
   rw [e]
   exact outR (e:=(.exit 0)) E0Ok Zg [] (mR false [0,2,1,1,2,23,33]) [0] (sB Yr<|sN) (by kernel_rfl) (by intro h;cases h)
def Z1Z (Y5:Gb):(Unit) ⊕ (Unit):=(ZA Y5 (((Y5.Sp.length:Int) - 0).toNat + 1) 0)
def Zm (Y5:Gb):Bool:=(cond (Zn Y5.Me)
  (cond (decide ((Y5.Sp.length:Int) > 200))
    false
    (cond ((Y5.We.length:Int) != (Y5.Me.Pq.length:Int))
      false
      (match (Z1Z Y5) with
        | .inl r4=>false
        | .inr r4=>true)))
  false)
structure OkBd (b:Gb):Prop where
  e:OkE b.Me.Pq.length b.Me.Tr
  w:b.We.length=b.Me.Pq.length
  a:OkIx b.Me.Pq.length Gs.A b.Sp
  b:OkIx b.Me.Pq.length Gs.B b.Sp
theorem Z5U {b:Gb} (h:OkBd b) {i:Int} (h0:0≤i) (hi:decide (i < (b.Sp.length:Int))=true):(0≤(b.Sp.getD i.toNat default).A∧(b.Sp.getD i.toNat default).A < (b.Me.Pq.length:Int))∧(0≤(b.Sp.getD i.toNat default).B∧(b.Sp.getD i.toNat default).B < (b.Me.Pq.length:Int)) :=
  ⟨OkIx.at h.a h0 (odt hi),OkIx.at h.b h0 (odt hi)⟩
def sprI (s:Gs) (n:Int):Bool:=cond (ZI s.A 0 (IntKind.wrap .i64 (n - 1))) (cond (ZI s.B 0 (IntKind.wrap .i64 (n - 1))) (cond (s.A == s.B) false (fcmp .geq .f32 s.Long 0)) false) false
theorem Z8l (b:Gb) (k:Nat) (i:Int):ZA b (k + 1) i=cond (decide (i < (b.Sp.length:Int))) (cond (sprI (b.Sp.getD i.toNat default) (b.Me.Pq.length:Int)) (ZA b k (i + 1)) (.inl ())) (.inr ()):=by
  rw [ZA]
  unfold sprI
  generalize b.Sp.getD i.toNat default=s
  cases ZI s.A 0 (IntKind.wrap .i64 ((b.Me.Pq.length:Int) - 1))<;>cases ZI s.B 0 (IntKind.wrap .i64 ((b.Me.Pq.length:Int) - 1))<;>cases (s.A == s.B)<;>cases fcmp .geq .f32 s.Long 0<;>rfl
theorem Z3y (b:Gb):Zm b=cond (Zn b.Me) (cond (decide ((b.Sp.length:Int) > 200)) false (cond ((b.We.length:Int) != (b.Me.Pq.length:Int)) false (b.Sp.all fun s=>sprI s (b.Me.Pq.length:Int)))) false:=by
  unfold Zm Z1Z
  rw [X4n (a:=b.Sp) (p:=fun s=>sprI s (b.Me.Pq.length:Int)) (lo:=ZA b) (x:=()) (y:=()) (Z8l b)]
  cases (b.Sp.all fun s=>sprI s (b.Me.Pq.length:Int))<;>rfl
theorem Z5V {x n:Int} (h0:0≤n) (hn:n≤1073741824) (h:ZI x 0 (IntKind.wrap .i64 (n - 1))=true):0≤x∧x < n:=by
  rw [Xx (by omega) (by omega)] at h
  unfold ZI at h
  by_cases h1:x ≥ 0
  · rw [decide_eq_true h1,cond_true] at h
    have:=odt h
    omega
  · rw [decide_eq_false h1,cond_false] at h;cases h
theorem Z2P (b:Gb) (h:Zm b=true):OkBd b:=by
  rw [Z3y] at h
  cases h1:Zn b.Me with
  | false=>rw [h1] at h;cases h
  | true =>
    have oe:=Z1O _ h1
    have hp:=oe.1
    rw [h1,cond_true] at h
    cases h2:decide ((b.Sp.length:Int) > 200) with
    | true=>rw [h2] at h;cases h
    | false =>
      rw [h2,cond_false] at h
      cases h3:((b.We.length:Int) != (b.Me.Pq.length:Int)) with
      | true=>rw [h3] at h;cases h
      | false =>
        rw [h3,cond_false,List.all_eq_true] at h
        have hw:=bne_eq_false_iff_eq.1 h3
        refine ⟨oe,by omega,fun s hs => ?_,fun s hs => ?_⟩ <;>
        · have q:=h s hs
          unfold sprI at q
          cases q1:ZI s.A 0 (IntKind.wrap .i64 ((b.Me.Pq.length:Int) - 1)) with
          | false=>rw [q1] at q;cases q
          | true =>
            rw [q1,cond_true] at q
            cases q2:ZI s.B 0 (IntKind.wrap .i64 ((b.Me.Pq.length:Int) - 1)) with
            | false=>rw [q2] at q;cases q
            | true =>
              first | exact Z5V (by omega) (by omega) q1 | exact Z5V (by omega) (by omega) q2
theorem Z24 (Y5:Gb) (hp0:Y5.Me.Pq.length≤1073741824) (hp1:Y5.Me.Tr.length≤1073741824) (hp2:∀ t∈Y5.Me.Tr,t.length≤1073741824) (hp3:Y5.Sp.length≤1073741824) (hp4:Y5.We.length≤1073741824)  : Fn prog 11 [.agg [.sl (Y5.Me.Pq.map Gv.c), .sl (Y5.Me.Tr.map (cL (cI .i64))), .sl (Y5.Sp.map Gs.c), .f .f32 Y5.Film, .f .f32 Y5.Bend, .sl (Y5.We.map (cF .f32)), .f .f32 Y5.Fall.X, .f .f32 Y5.Fall.Y, .f .f32 Y5.Fall.Z]] (.b (Zm Y5)) []:=by
 have p {a C} (s:Scr a C):=sZ Gv.c Y5.Me.Pq<|sF (Z5v Y5.Me hp0 hp1 hp2)<|s
 cases h0:(Zn Y5.Me) with
 | true =>
  have q {a C} (s:Scr a C):=p (sB' h0<|sB' h0<|sB' h0<|sZ Gs.c Y5.Sp<|sB' h0<|sB' h0<|s)
  clear p
  cases h1:(decide ((Y5.Sp.length:Int) > 200)) with
  | true =>
   have gh1:=odt h1
   refine fnS E0Ok Zg (c:=X2 f11) [] (.b false) [] func11 (q (sB h1<|sB h1<|sB h1<|sB h1<|sB h1<|sB h1<|sB (show true=true from rfl)<|sK [] sN)) rfl (by kernel_rfl) (by kernel_rfl) rfl ?_ ?_
   · simp only [Zm,h0,h1,cond_true]
   · rfl
  | false =>
   have gh1:=odf h1
   have p {a C} (s:Scr a C):=q (sB h1<|sB h1<|sB h1<|sZ (cF .f32) Y5.We<|sB h1<|sB h1<|sB h1<|s)
   clear q
   cases h2:((Y5.We.length:Int) != (Y5.Me.Pq.length:Int)) with
   | true =>
    have gh2:=bne_iff_ne.1 h2
    refine fnS E0Ok Zg (c:=X2 f11) [] (.b false) [] func11 (p (sB h2<|sK [] sN)) rfl (by kernel_rfl) (by kernel_rfl) rfl ?_ ?_
    · simp only [Zm,h0,h1,h2,cond_true,cond_false]
    · rfl
   | false =>
    have gh2:=bne_eq_false_iff_eq.1 h2
    have q {a C} (s:Scr a C):=p (sB h2<|sZ Gs.c Y5.Sp<|s)
    clear p
    cases h3:(Z1Z Y5) with
    | inl r4 =>
     refine fnS E0Ok Zg (c:=X2 f11) [] (.b false) [] func11 (q (sL (mR false [0,2,1,1,2,25,31]) 1 (Xc (Z2y Y5) (x:=(Z1Z Y5)) (Z4D Y5 hp0 hp1 hp2 hp3 hp4 h2 h1 h0 (((Y5.Sp.length:Int) - 0).toNat + 1) 0 (show 0≤0 from (by omega)) (Nat.lt_succ_self _)) h3)<|sK [] sN)) rfl (by kernel_rfl) (by kernel_rfl) rfl ?_ ?_
     · simp only [Zm,h0,h1,h2,h3,cond_true,cond_false]
     · rfl
    | inr r4 =>
     refine fnS E0Ok Zg (c:=X2 f11) [] (.b true) [] func11 (q (sL (mR false [0,2,1,1,2,25,31]) 1 (Xc (Z2y Y5) (x:=(Z1Z Y5)) (Z4D Y5 hp0 hp1 hp2 hp3 hp4 h2 h1 h0 (((Y5.Sp.length:Int) - 0).toNat + 1) 0 (show 0≤0 from (by omega)) (Nat.lt_succ_self _)) h3)<|sK [] sN)) rfl (by kernel_rfl) (by kernel_rfl) rfl ?_ ?_
     · simp only [Zm,h0,h1,h2,h3,cond_true,cond_false]
     · rfl
 | false =>
  refine fnS E0Ok Zg (c:=X2 f11) [] (.b false) [] func11 (p (sB' h0<|sB' h0<|sB' h0<|sB' h0<|sB' h0<|sB (show true=true from rfl)<|sB (show true=true from rfl)<|sB (show true=true from rfl)<|sB (show true=true from rfl)<|sB (show true=true from rfl)<|sB (show true=true from rfl)<|sB (show true=true from rfl)<|sK [] sN)) rfl (by kernel_rfl) (by kernel_rfl) rfl ?_ ?_
  · simp only [Zm,h0,cond_false]
  · rfl
def ZM (Yx:Gv) (Yy:Gv):Gv:=(⟨(fop .sub .f32 Yx.X Yy.X),(fop .sub .f32 Yx.Y Yy.Y),(fop .sub .f32 Yx.Z Yy.Z)⟩:Gv)
theorem Z27 (Yx:Gv) (Yy:Gv)   : Fn prog 78 [.agg [.f .f32 Yx.X, .f .f32 Yx.Y, .f .f32 Yx.Z], .agg [.f .f32 Yy.X, .f .f32 Yy.Y, .f .f32 Yy.Z]] (.agg [.f .f32 ((ZM Yx Yy).X), .f .f32 ((ZM Yx Yy).Y), .f .f32 ((ZM Yx Yy).Z)]) []:=by
 refine fnS E0Ok Zg (c:=X2 f78) [] (.agg [.f .f32 (fop .sub .f32 Yx.X Yy.X), .f .f32 (fop .sub .f32 Yx.Y Yy.Y), .f .f32 (fop .sub .f32 Yx.Z Yy.Z)]) [] func78 (sK [] sN) rfl (by kernel_rfl) (by kernel_rfl) rfl ?_ ?_
 · rfl
 · rfl
def ZC (Y5:Gb) (s_1:Gs):Gv:=(ZM (Y5.Me.Pq.getD s_1.B.toNat default) (Y5.Me.Pq.getD s_1.A.toNat default))
theorem Z3p (Y5:Gb) (s_1:Gs) (hp0:Y5.Me.Pq.length≤1073741824) (hp1:Y5.Me.Tr.length≤1073741824) (hp2:∀ t∈Y5.Me.Tr,t.length≤1073741824) (hp3:Y5.Sp.length≤1073741824) (hp4:Y5.We.length≤1073741824) (hp5:0≤s_1.A) (hp6:s_1.A < (Y5.Me.Pq.length:Int)) (hp7:0≤s_1.B) (hp8:s_1.B < (Y5.Me.Pq.length:Int))  : Fn prog 93 [.agg [.sl (Y5.Me.Pq.map Gv.c), .sl (Y5.Me.Tr.map (cL (cI .i64))), .sl (Y5.Sp.map Gs.c), .f .f32 Y5.Film, .f .f32 Y5.Bend, .sl (Y5.We.map (cF .f32)), .f .f32 Y5.Fall.X, .f .f32 Y5.Fall.Y, .f .f32 Y5.Fall.Z], .agg [.i .i64 s_1.A, .i .i64 s_1.B, .f .f32 s_1.Long, .f .f32 s_1.Stiff]] (.agg [.f .f32 ((ZC Y5 s_1).X), .f .f32 ((ZC Y5 s_1).Y), .f .f32 ((ZC Y5 s_1).Z)]) []:=by
 have y0:(0:Int)≤s_1.B:=(by assumption)
 have y1:(0:Int)≤s_1.A:=(by assumption)
 refine fnS E0Ok Zg (c:=X2 f93) [] (.agg [.f .f32 ((ZM (Y5.Me.Pq.getD s_1.B.toNat default) (Y5.Me.Pq.getD s_1.A.toNat default)).X), .f .f32 ((ZM (Y5.Me.Pq.getD s_1.B.toNat default) (Y5.Me.Pq.getD s_1.A.toNat default)).Y), .f .f32 ((ZM (Y5.Me.Pq.getD s_1.B.toNat default) (Y5.Me.Pq.getD s_1.A.toNat default)).Z)]) [] func93 (sK [14,14]<|sG Gv.c Y5.Me.Pq s_1.B y0 hp8<|sG Gv.c Y5.Me.Pq s_1.A y1 hp6<|sF (Z27 (Y5.Me.Pq.getD s_1.B.toNat default) (Y5.Me.Pq.getD s_1.A.toNat default))<|sK [] sN) rfl (by kernel_rfl) (by kernel_rfl) rfl ?_ ?_
 · rfl
 · rfl
def Z1s (Yx:Gv) (Yy:Gv):Nat:=(fop .add .f32 (fop .add .f32 (fop .mul .f32 Yx.X Yy.X) (fop .mul .f32 Yx.Y Yy.Y)) (fop .mul .f32 Yx.Z Yy.Z))
theorem Z4P (Yx:Gv) (Yy:Gv)   : Fn prog 53 [.agg [.f .f32 Yx.X, .f .f32 Yx.Y, .f .f32 Yx.Z], .agg [.f .f32 Yy.X, .f .f32 Yy.Y, .f .f32 Yy.Z]] (.f .f32 (Z1s Yx Yy)) []:=by
 refine fnS E0Ok Zg (c:=X2 f53) [] (.f .f32 (fop .add .f32 (fop .add .f32 (fop .mul .f32 Yx.X Yy.X) (fop .mul .f32 Yx.Y Yy.Y)) (fop .mul .f32 Yx.Z Yy.Z))) [] func53 (sK [] sN) rfl (by kernel_rfl) (by kernel_rfl) rfl ?_ ?_
 · rfl
 · rfl
def Z2o (YS:Nat):Nat:=(X1w YS)
theorem Z6X (YS:Nat)   : Fn prog 121 [.f .f64 YS] (.f .f64 (Z2o YS)) []:=by
 refine fnS E0Ok Zg (c:=X2 f121) [] (.f .f64 (X1w YS)) [] func121 (sK [] sN) rfl (by kernel_rfl) (by kernel_rfl) rfl ?_ ?_
 · rfl
 · rfl
def Z3I (YS:Nat):Nat:=(fcv .f64 .f32 (Z2o (fcv .f32 .f64 YS)))
theorem Z6K (YS:Nat)   : Fn prog 98 [.f .f32 YS] (.f .f32 (Z3I YS)) []:=by
 have y0:X1P .f64 .f32 (Z2o (fcv .f32 .f64 YS))=true:=(X4d _)
 refine fnS E0Ok Zg (c:=X2 f98) [] (.f .f32 (fcv .f64 .f32 (Z2o (fcv .f32 .f64 YS)))) [] func98 (sC (X1M YS)<|sF (Z6X (fcv .f32 .f64 YS))<|sC y0<|sK [] sN) rfl (by kernel_rfl) (by kernel_rfl) rfl ?_ ?_
 · rfl
 · rfl
def Zr (YT:Gv):Nat:=(Z3I (Z1s YT YT))
theorem Z30 (YT:Gv)   : Fn prog 52 [.agg [.f .f32 YT.X, .f .f32 YT.Y, .f .f32 YT.Z]] (.f .f32 (Zr YT)) []:=by
 refine fnS E0Ok Zg (c:=X2 f52) [] (.f .f32 (Z3I (Z1s YT YT))) [] func52 (sF (Z4P YT YT)<|sF (Z6K (Z1s YT YT))<|sK [] sN) rfl (by kernel_rfl) (by kernel_rfl) rfl ?_ ?_
 · rfl
 · rfl
def Z20 (Yx:Gv) (Yy:Gv):Gv:=(⟨(fop .sub .f32 (fop .mul .f32 Yx.Y Yy.Z) (fop .mul .f32 Yx.Z Yy.Y)),(fop .sub .f32 (fop .mul .f32 Yx.Z Yy.X) (fop .mul .f32 Yx.X Yy.Z)),(fop .sub .f32 (fop .mul .f32 Yx.X Yy.Y) (fop .mul .f32 Yx.Y Yy.X))⟩:Gv)
theorem Z7v (Yx:Gv) (Yy:Gv)   : Fn prog 97 [.agg [.f .f32 Yx.X, .f .f32 Yx.Y, .f .f32 Yx.Z], .agg [.f .f32 Yy.X, .f .f32 Yy.Y, .f .f32 Yy.Z]] (.agg [.f .f32 ((Z20 Yx Yy).X), .f .f32 ((Z20 Yx Yy).Y), .f .f32 ((Z20 Yx Yy).Z)]) []:=by
 refine fnS E0Ok Zg (c:=X2 f97) [] (.agg [.f .f32 (fop .sub .f32 (fop .mul .f32 Yx.Y Yy.Z) (fop .mul .f32 Yx.Z Yy.Y)), .f .f32 (fop .sub .f32 (fop .mul .f32 Yx.Z Yy.X) (fop .mul .f32 Yx.X Yy.Z)), .f .f32 (fop .sub .f32 (fop .mul .f32 Yx.X Yy.Y) (fop .mul .f32 Yx.Y Yy.X))]) [] func97 (sK [] sN) rfl (by kernel_rfl) (by kernel_rfl) rfl ?_ ?_
 · rfl
 · rfl
def Z2C (Y4:Gm) (t_1:(List Int)):Gv:=(Z20 (ZM (Y4.Pq.getD (t_1.getD 1 default).toNat default) (Y4.Pq.getD (t_1.getD 0 default).toNat default)) (ZM (Y4.Pq.getD (t_1.getD 2 default).toNat default) (Y4.Pq.getD (t_1.getD 0 default).toNat default)))
def Z2D (Y4:Gm) (t_1:(List Int)):Gv:=(Z2C Y4 t_1)
theorem Z7c (Y4:Gm) (t_1:(List Int)) (hp0:Y4.Pq.length≤1073741824) (hp1:Y4.Tr.length≤1073741824) (hp2:∀ t∈Y4.Tr,t.length≤1073741824) (hp3:t_1.length≤1073741824) (hp4:t_1.length=3∧∀ x∈t_1,0≤x∧x < (Y4.Pq.length:Int))  : Fn prog 88 [.agg [.sl (Y4.Pq.map Gv.c), .sl (Y4.Tr.map (cL (cI .i64)))], .sl (t_1.map (cI .i64))] (.agg [.f .f32 ((Z2D Y4 t_1).X), .f .f32 ((Z2D Y4 t_1).Y), .f .f32 ((Z2D Y4 t_1).Z)]) []:=by
 have y0:(0:Int)≤0:=(by omega)
 have y1:0 < (t_1.length:Int):=(by omega)
 have y2:(0:Int)≤(t_1.getD 0 default):=(by have q:=Okt.at hp4;omega)
 have y3:(t_1.getD 0 default) < (Y4.Pq.length:Int):=(by have q:=Okt.at hp4;omega)
 have y4:(0:Int)≤1:=(by omega)
 have y5:1 < (t_1.length:Int):=(by omega)
 have y6:(0:Int)≤(t_1.getD 1 default):=(by have q:=Okt.at hp4;omega)
 have y7:(t_1.getD 1 default) < (Y4.Pq.length:Int):=(by have q:=Okt.at hp4;omega)
 have y8:(0:Int)≤2:=(by omega)
 have y9:2 < (t_1.length:Int):=(by omega)
 have y10:(0:Int)≤(t_1.getD 2 default):=(by have q:=Okt.at hp4;omega)
 have y11:(t_1.getD 2 default) < (Y4.Pq.length:Int):=(by have q:=Okt.at hp4;omega)
 refine fnS E0Ok Zg (c:=X2 f88) [] (.agg [.f .f32 ((Z2C Y4 t_1).X), .f .f32 ((Z2C Y4 t_1).Y), .f .f32 ((Z2C Y4 t_1).Z)]) [] func88 (sK [8,8]<|sG (cI .i64) t_1 0 y0 y1<|sG Gv.c Y4.Pq (t_1.getD 0 default) y2 y3<|sK [17,17]<|sG (cI .i64) t_1 1 y4 y5<|sG Gv.c Y4.Pq (t_1.getD 1 default) y6 y7<|sF (Z27 (Y4.Pq.getD (t_1.getD 1 default).toNat default) (Y4.Pq.getD (t_1.getD 0 default).toNat default))<|sG (cI .i64) t_1 2 y8 y9<|sG Gv.c Y4.Pq (t_1.getD 2 default) y10 y11<|sF (Z27 (Y4.Pq.getD (t_1.getD 2 default).toNat default) (Y4.Pq.getD (t_1.getD 0 default).toNat default))<|sF (Z7v (ZM (Y4.Pq.getD (t_1.getD 1 default).toNat default) (Y4.Pq.getD (t_1.getD 0 default).toNat default)) (ZM (Y4.Pq.getD (t_1.getD 2 default).toNat default) (Y4.Pq.getD (t_1.getD 0 default).toNat default)))<|sK [] sN) rfl (by kernel_rfl) (by kernel_rfl) rfl ?_ ?_
 · rfl
 · rfl
def Z31 (Yx:Int) (Yy:Int):Gedge:=(⟨(if Yy < Yx then Yy else Yx),(if Yy > Yx then Yy else Yx)⟩:Gedge)
theorem Z7Q (Yx:Int) (Yy:Int)   : Fn prog 83 [.i .i64 Yx, .i .i64 Yy] (.agg [.i .i64 ((Z31 Yx Yy).e0), .i .i64 ((Z31 Yx Yy).e1)]) []:=by
 refine fnS E0Ok Zg (c:=X2 f83) [] (.agg [.i .i64 (if Yy < Yx then Yy else Yx), .i .i64 (if Yy > Yx then Yy else Yx)]) [] func83 (sC (show (if false=true then (if Yy > Yx then Yy else Yx) else (if Yy < Yx then Yy else Yx))=(if Yy < Yx then Yy else Yx) from (by simp))<|sA (.num (if Yy < Yx then Yy else Yx))<|sC (show (if true=true then (if Yy > Yx then Yy else Yx) else (if Yy < Yx then Yy else Yx))=(if Yy > Yx then Yy else Yx) from (by simp))<|sA (.num (if Yy > Yx then Yy else Yx))<|sK [] sN) rfl (by kernel_rfl) (by kernel_rfl) rfl ?_ ?_
 · rfl
 · rfl
theorem Z8w (a b:Int):Z31 a b=mkE a b:=by
  unfold Z31 mkE
  by_cases h:a≤b
  · rw [if_pos h,if_neg (by omega)]
    by_cases h2:b > a
    · rw [if_pos h2]
    · rw [if_neg h2,show a=b from by omega]
  · rw [if_neg h,if_pos (by omega),if_neg (by omega)]
def Z1B (YS:Int):Bool:=(YS != YS)
theorem Z50 (YS:Int)   : Fn prog 150 [.i .i64 YS] (.b (Z1B YS)) []:=by
 refine fnS E0Ok Zg (c:=X2 f150) [] (.b (YS != YS)) [] func150 (sK [] sN) rfl (by kernel_rfl) (by kernel_rfl) rfl ?_ ?_
 · rfl
 · rfl
def Z10 (YS:Int) (YR:Int):Int:=(cond (Z1B YS)
  (cond (Z1B YR)
    0
    (-1))
  (cond (Z1B YR)
    1
    (cond (decide (YS < YR))
      (-1)
      (cond (decide (YS > YR))
        1
        0))))
theorem Z5W (YS:Int) (YR:Int)   : Fn prog 144 [.i .i64 YS, .i .i64 YR] (.i .i64 (Z10 YS YR)) []:=by
 have p {a C} (s:Scr a C):=sF (Z50 YS)<|sF (Z50 YR)<|s
 cases h0:(Z1B YS) with
 | true =>
  have q {a C} (s:Scr a C):=p (sB h0<|s)
  clear p
  cases h1:(Z1B YR) with
  | true =>
   refine fnS E0Ok Zg (c:=X2 f144) [] (.i .i64 0) [] func144 (q (sB h1<|sK [] sN)) rfl (by kernel_rfl) (by kernel_rfl) rfl ?_ ?_
   · simp only [Z10,h0,h1,cond_true]
   · rfl
  | false =>
   refine fnS E0Ok Zg (c:=X2 f144) [] (.i .i64 (-1)) [] func144 (q (sB h1<|sK [] sN)) rfl (by kernel_rfl) (by kernel_rfl) rfl ?_ ?_
   · simp only [Z10,h0,h1,cond_true,cond_false]
   · rfl
 | false =>
  have q {a C} (s:Scr a C):=p (sB h0<|s)
  clear p
  cases h1:(Z1B YR) with
  | true =>
   refine fnS E0Ok Zg (c:=X2 f144) [] (.i .i64 1) [] func144 (q (sB h1<|sK [] sN)) rfl (by kernel_rfl) (by kernel_rfl) rfl ?_ ?_
   · simp only [Z10,h0,h1,cond_true,cond_false]
   · rfl
  | false =>
   have p {a C} (s:Scr a C):=q (sB h1<|s)
   clear q
   cases h2:(decide (YS < YR)) with
   | true =>
    have gh2:=odt h2
    refine fnS E0Ok Zg (c:=X2 f144) [] (.i .i64 (-1)) [] func144 (p (sB h2<|sK [] sN)) rfl (by kernel_rfl) (by kernel_rfl) rfl ?_ ?_
    · simp only [Z10,h0,h1,h2,cond_true,cond_false]
    · rfl
   | false =>
    have gh2:=odf h2
    have q {a C} (s:Scr a C):=p (sB h2<|s)
    clear p
    cases h3:(decide (YS > YR)) with
    | true =>
     have gh3:=odt h3
     refine fnS E0Ok Zg (c:=X2 f144) [] (.i .i64 1) [] func144 (q (sB h3<|sK [] sN)) rfl (by kernel_rfl) (by kernel_rfl) rfl ?_ ?_
     · simp only [Z10,h0,h1,h2,h3,cond_true,cond_false]
     · rfl
    | false =>
     have gh3:=odf h3
     refine fnS E0Ok Zg (c:=X2 f144) [] (.i .i64 0) [] func144 (q (sB h3<|sK [] sN)) rfl (by kernel_rfl) (by kernel_rfl) rfl ?_ ?_
     · simp only [Z10,h0,h1,h2,h3,cond_false]
     · rfl
def Zs (YD:(List Int)) (YL:(List Int)):Nat→Int→(Int) ⊕ (Unit)
  | 0,_ => .inl default
  | k + 1,Y2=>(cond (decide (Y2 < (YD.length:Int)))
    (cond (decide (Y2 ≥ (YL.length:Int)))
      (.inl 1)
      (cond ((Z10 (YD.getD Y2.toNat default) (YL.getD Y2.toNat default)) != 0)
        (.inl (Z10 (YD.getD Y2.toNat default) (YL.getD Y2.toNat default)))
        (Zs YD YL k (Y2 + 1))))
    (.inr ()))
def Z1x (YD:(List Int)) (YL:(List Int)):(Int) ⊕ (Unit)→Ex × St
  | .inl r=>(.ret,⟨an 4 (.i .i64 r :: an 31 []),[]⟩)
  | .inr r=>((.exit 0),⟨.sl (YD.map (cI .i64)) :: .sl (YL.map (cI .i64)) :: an 7 (.sl (YD.map (cI .i64)) :: an 26 []),[]⟩)
def Z3J (YD:(List Int)) (YL:(List Int)) (Y2:Int):St:=⟨.sl (YD.map (cI .i64)) :: .sl (YL.map (cI .i64)) :: an 7 (.sl (YD.map (cI .i64)) :: .i .i64 (YD.length:Int) :: .i .i64 Y2 :: an 24 []),[]⟩
theorem Z2c (YD:(List Int)) (YL:(List Int)) (hp0:YD.length≤1073741824) (hp1:YL.length≤1073741824):∀ (k:Nat) (Y2:Int) (Z28:0≤Y2) (hk:((YD.length:Int) - Y2).toNat < k),Lp prog 0 (sub (X2 f132) [1,0,1,0,0]) (Z3J YD YL Y2) (Z1x YD YL (Zs YD YL k Y2)).1 (Z1x YD YL (Zs YD YL k Y2)).2:=by
 intro k
 induction k with
 | zero=>intro Y2 Z28 hk;exact absurd hk (Nat.not_lt_zero _)
 | succ k ih =>
  intro Y2 Z28 hk
  cases Yr:(decide (Y2 < (YD.length:Int))) with
  | true =>
   have YM:=odt Yr
   have YU:(0:Int)≤Y2:=(by assumption)
   have YR:Y2 < (YD.length:Int):=(by assumption)
   have p {a C} (s:Scr a C):=sB Yr<|sG (cI .i64) YD Y2 YU YR<|sZ (cI .i64) YL<|s
   cases YB:(decide (Y2 ≥ (YL.length:Int))) with
   | true =>
    have Y1C:=odt YB
    have e:Zs YD YL (k + 1) Y2=(.inl 1):=by simp only [Zs,Yr,YB,cond_true]
    rw [e]
    exact outR (e := .ret) E0Ok Zg [] (mR false [4,1,31]) [] (p (sB YB<|sN)) (by kernel_rfl) (by intro h;cases h)
   | false =>
    have Y1C:=odf YB
    have y_2:Y2 < (YL.length:Int):=by clear p;exact (by omega)
    have q {a C} (s:Scr a C):=p (sB YB<|sG (cI .i64) YL Y2 YU y_2<|sF (Z5W (YD.getD Y2.toNat default) (YL.getD Y2.toNat default))<|s)
    clear p
    cases YQ:((Z10 (YD.getD Y2.toNat default) (YL.getD Y2.toNat default)) != 0) with
    | true =>
     have Y1v:=bne_iff_ne.1 YQ
     have e:Zs YD YL (k + 1) Y2=(.inl (Z10 (YD.getD Y2.toNat default) (YL.getD Y2.toNat default))):=by simp only [Zs,Yr,YB,YQ,cond_true,cond_false]
     rw [e]
     exact outR (e := .ret) E0Ok Zg [] (mR false [4,1,31]) [] (q (sB YQ<|sN)) (by kernel_rfl) (by intro h;cases h)
    | false =>
     have Y1v:=bne_eq_false_iff_eq.1 YQ
     have YV:(-9223372036854775808:Int)≤(Y2 + 1):=by clear q;exact (by omega)
     have y_4:(Y2 + 1)≤(9223372036854775807:Int):=by clear q;exact (by omega)
     have e:Zs YD YL (k + 1) Y2=(Zs YD YL k (Y2 + 1)):=by simp only [Zs,Yr,YB,YQ,cond_true,cond_false]
     rw [e]
     exact X1r E0Ok Zg [] (mR false [0,2,7,3,24]) [] (ih (Y2 + 1) (show 0≤(Y2 + 1) from (by omega)) (by omega)) (q (sB YQ<|sI (Y2 + 1) YV y_4<|sN)) (by kernel_rfl)
  | false =>
   have YM:=odf Yr
   have e:Zs YD YL (k + 1) Y2=(.inr ()):=by simp only [Zs,Yr,cond_false]
   rw [e]
   exact outR (e:=(.exit 0)) E0Ok Zg [] (mR false [0,2,7,1,26]) [] (sB Yr<|sN) (by kernel_rfl) (by intro h;cases h)
def Z1f (YD:(List Int)) (YL:(List Int)):(Int) ⊕ (Unit):=(Zs YD YL (((YD.length:Int) - 0).toNat + 1) 0)
def Z15 (YD:(List Int)) (YL:(List Int)):Int:=(match (Z1f YD YL) with
  | .inl r1=>r1
  | .inr r1=>(cond (decide ((YD.length:Int) < (YL.length:Int)))
    (-1)
    0))
theorem Z4l (YD:(List Int)) (YL:(List Int)) (hp0:YD.length≤1073741824) (hp1:YL.length≤1073741824)  : Fn prog 132 [.sl (YD.map (cI .i64)), .sl (YL.map (cI .i64))] (.i .i64 (Z15 YD YL)) []:=by
 have p {a C} (s:Scr a C):=sZ (cI .i64) YD<|s
 cases h0:(Z1f YD YL) with
 | inl r1 =>
  refine fnS E0Ok Zg (c:=X2 f132) [] (.i .i64 r1) [] func132 (p (sL (mR false [0,2,7,3,24]) 0 (Xc (Z1x YD YL) (x:=(Z1f YD YL)) (Z2c YD YL hp0 hp1 (((YD.length:Int) - 0).toNat + 1) 0 (show 0≤0 from (by omega)) (Nat.lt_succ_self _)) h0)<|sK [] sN)) rfl (by kernel_rfl) (by kernel_rfl) rfl ?_ ?_
  · simp only [Z15,h0]
  · rfl
 | inr r1 =>
  have q {a C} (s:Scr a C):=p (sL (mR false [0,2,7,3,24]) 0 (Xc (Z1x YD YL) (x:=(Z1f YD YL)) (Z2c YD YL hp0 hp1 (((YD.length:Int) - 0).toNat + 1) 0 (show 0≤0 from (by omega)) (Nat.lt_succ_self _)) h0)<|sZ (cI .i64) YD<|sZ (cI .i64) YL<|s)
  clear p
  cases h1:(decide ((YD.length:Int) < (YL.length:Int))) with
  | true =>
   have gh1:=odt h1
   refine fnS E0Ok Zg (c:=X2 f132) [] (.i .i64 (-1)) [] func132 (q (sB h1<|sK [] sN)) rfl (by kernel_rfl) (by kernel_rfl) rfl ?_ ?_
   · simp only [Z15,h0,h1,cond_true]
   · rfl
  | false =>
   have gh1:=odf h1
   refine fnS E0Ok Zg (c:=X2 f132) [] (.i .i64 0) [] func132 (q (sB h1<|sK [] sN)) rfl (by kernel_rfl) (by kernel_rfl) rfl ?_ ?_
   · simp only [Z15,h0,h1,cond_false]
   · rfl
def Z38 (Yx:Gedge) (Yy:Gedge):Int:=(Z15 ([Yx.e0,Yx.e1]) ([Yy.e0,Yy.e1]))
theorem Z4E (Yx:Gedge) (Yy:Gedge)   : Fn prog 120 [.agg [.i .i64 Yx.e0, .i .i64 Yx.e1], .agg [.i .i64 Yy.e0, .i .i64 Yy.e1]] (.i .i64 (Z38 Yx Yy)) []:=by
 have y0:([Yx.e0,Yx.e1]).length≤1073741824:=(by simp_all<;>omega)
 have y1:([Yy.e0,Yy.e1]).length≤1073741824:=(by assumption)
 refine fnS E0Ok Zg (c:=X2 f120) [] (.i .i64 (Z15 ([Yx.e0,Yx.e1]) ([Yy.e0,Yy.e1]))) [] func120 (sK [2,2]<|sF (Z4l ([Yx.e0,Yx.e1]) ([Yy.e0,Yy.e1]) y0 y1)<|sK [] sN) rfl (by kernel_rfl) (by kernel_rfl) rfl ?_ ?_
 · rfl
 · rfl
def Za (Y4:Gm) (Y2:Int) (Ya:Int):Gedge:=(Z31 ((Y4.Tr.getD Y2.toNat default).getD Ya.toNat default) ((Y4.Tr.getD Y2.toNat default).getD (Int.tmod (Ya + 1) 3).toNat default))
def Zo (Y4:Gm) (Y2:Int) (Y3:(List (Gedge × List Int))) (Yw:(List Gedge)):Nat→Int→(List (Gedge × List Int))→(List Gedge)→(List (Gedge × List Int)) × (List Gedge)
  | 0,_,_,_=>default
  | k + 1,Ya,Y8,Yt=>(cond (decide (Ya < 3))
    (cond (mhas Y8 (Za Y4 Y2 Ya))
      (cond (((Y8.getD (midx Y8 (Za Y4 Y2 Ya)) default).2.length:Int) == 0)
        (Zo Y4 Y2 Y3 Yw k (Ya + 1) (mput Y8 (midx Y8 (Za Y4 Y2 Ya)) ((Y8.getD (midx Y8 (Za Y4 Y2 Ya)) default).2 ++ [Y2])) (Yt ++ [(Za Y4 Y2 Ya)]))
        (Zo Y4 Y2 Y3 Yw k (Ya + 1) (mput Y8 (midx Y8 (Za Y4 Y2 Ya)) ((Y8.getD (midx Y8 (Za Y4 Y2 Ya)) default).2 ++ [Y2])) Yt))
      (Zo Y4 Y2 Y3 Yw k (Ya + 1) (Y8 ++ [((Za Y4 Y2 Ya),[Y2])]) (Yt ++ [(Za Y4 Y2 Ya)])))
    (Y8,Yt))
def Z2i (Y4:Gm) (Y2:Int) (Y3:(List (Gedge × List Int))) (Yw:(List Gedge)) (r:(List (Gedge × List Int)) × (List Gedge)):Ex × St:=((.exit 2),⟨.agg [.sl (Y4.Pq.map Gv.c), .sl (Y4.Tr.map (cL (cI .i64)))] :: .ptr 0 0 0 :: .any :: .nils :: .mp 1 :: .own 2 :: .i .i64 Y2 :: .sl ((Y4.Tr.getD Y2.toNat default).map (cI .i64)) :: .any :: .any :: .mp 1 :: .any :: .ptr 0 0 1 :: .sl (Y4.Tr.map (cL (cI .i64))) :: .i .i64 (Y4.Tr.length:Int) :: .i .i64 Y2 :: .b (decide (Y2 < (Y4.Tr.length:Int))) :: .i .i64 Y2 :: .ref [.sl ((Y4.Tr.getD Y2.toNat default).map (cI .i64))] 0 :: .sl ((Y4.Tr.getD Y2.toNat default).map (cI .i64)) :: an 37 [],[.box 27 [.sl (Y4.Pq.map Gv.c), .sl (Y4.Tr.map (cL (cI .i64)))], .mapN 2 (mapC Gedge.pr (cI .i64) r.1) none, .vec 113 2 (r.2.map Gedge.cells) false]⟩)
def Z5i (Y4:Gm) (Y2:Int) (Y3:(List (Gedge × List Int))) (Yw:(List Gedge)) (Ya:Int) (Y8:(List (Gedge × List Int))) (Yt:(List Gedge)):St:=⟨.agg [.sl (Y4.Pq.map Gv.c), .sl (Y4.Tr.map (cL (cI .i64)))] :: .ptr 0 0 0 :: .any :: .nils :: .mp 1 :: .own 2 :: .i .i64 Y2 :: .sl ((Y4.Tr.getD Y2.toNat default).map (cI .i64)) :: .any :: .any :: .mp 1 :: .any :: .ptr 0 0 1 :: .sl (Y4.Tr.map (cL (cI .i64))) :: .i .i64 (Y4.Tr.length:Int) :: .i .i64 Y2 :: .b (decide (Y2 < (Y4.Tr.length:Int))) :: .i .i64 Y2 :: .ref [.sl ((Y4.Tr.getD Y2.toNat default).map (cI .i64))] 0 :: .sl ((Y4.Tr.getD Y2.toNat default).map (cI .i64)) :: .i .i64 Ya :: an 36 [],[.box 27 [.sl (Y4.Pq.map Gv.c), .sl (Y4.Tr.map (cL (cI .i64)))], .mapN 2 (mapC Gedge.pr (cI .i64) Y8) none, .vec 113 2 (Yt.map Gedge.cells) false]⟩
set_option maxHeartbeats 1000000 in
theorem Z5j (Y4:Gm) (Y2:Int) (Y3:(List (Gedge × List Int))) (Yw:(List Gedge)) (hp0:Y4.Pq.length≤1073741824) (hp1:Y4.Tr.length≤1073741824) (hp2:∀ t∈Y4.Tr,t.length≤1073741824) (hp3:OkE Y4.Pq.length Y4.Tr) (ZF:0≤Y2) (Z1U:(Yw.length:Int)≤3 * Y2) (Z1C:∀ y∈Y3,(y.2.length:Int)≤3 * Y2) (Z1g:(decide (Y2 < (Y4.Tr.length:Int)))=true):∀ (k:Nat) (Ya:Int) (Y8:(List (Gedge × List Int))) (Yt:(List Gedge)) (Z12:0≤Ya) (Z2Q:(Yt.length:Int)≤(Yw.length:Int) + Ya) (Z2R:∀ y∈Y8,(y.2.length:Int)≤3 * Y2 + Ya) (hk:((3:Int) - Ya).toNat < k),Lp prog 0 (sub (X2 f82) [1,1,0,1,0,0,1,1,0,0,1,1,0,0]) (Z5i Y4 Y2 Y3 Yw Ya Y8 Yt) (Z2i Y4 Y2 Y3 Yw (Zo Y4 Y2 Y3 Yw k Ya Y8 Yt)).1 (Z2i Y4 Y2 Y3 Yw (Zo Y4 Y2 Y3 Yw k Ya Y8 Yt)).2:=by
 intro k
 induction k with
 | zero=>intro Ya Y8 Yt Z12 Z2Q Z2R hk;exact absurd hk (Nat.not_lt_zero _)
 | succ k ih =>
  intro Ya Y8 Yt Z12 Z2Q Z2R hk
  cases YG:(decide (Ya < 3)) with
  | true =>
   have Y1d:=odt YG
   have Y1h:(0:Int)≤Ya:=(by assumption)
   have Y1i:Ya < ((Y4.Tr.getD Y2.toNat default).length:Int):=(by ((have g5:=odt Z1g;have q:=OkE.at hp3 ZF g5 Z12 (odt (by assumption));omega)))
   have Y1f:(-9223372036854775808:Int)≤(Ya + 1):=(by omega)
   have Y1g:(Ya + 1)≤(9223372036854775807:Int):=(by omega)
   have Y1m:(0:Int)≤(Int.tmod (Ya + 1) 3):=(by ((have g5:=odt Z1g;have q:=OkE.at hp3 ZF g5 Z12 (odt (by assumption));omega)))
   have Y1q:(Int.tmod (Ya + 1) 3) < ((Y4.Tr.getD Y2.toNat default).length:Int):=(by ((have g5:=odt Z1g;have q:=OkE.at hp3 ZF g5 Z12 (odt (by assumption));omega)))
   have p {a C} (s:Scr a C):=sB YG<|sK [12,12]<|sG (cI .i64) (Y4.Tr.getD Y2.toNat default) Ya Y1h Y1i<|sI (Ya + 1) Y1f Y1g<|sC (show (3:Int)≠0 from (by decide))<|sQ (Int.tmod (Ya + 1) 3)<|sG (cI .i64) (Y4.Tr.getD Y2.toNat default) (Int.tmod (Ya + 1) 3) Y1m Y1q<|sF (Z7Q ((Y4.Tr.getD Y2.toNat default).getD Ya.toNat default) ((Y4.Tr.getD Y2.toNat default).getD (Int.tmod (Ya + 1) 3).toNat default))<|s
   cases YZ:(mhas Y8 (Za Y4 Y2 Ya)) with
   | true =>
    have m__16:=X3g YZ
    have q {a C} (s:Scr a C):=p (sA (.keep [midx Y8 (Za Y4 Y2 Ya)])<|sC (X43 (ck:=Gedge.pr) (cv:=(cI .i64)) YZ)<|sM (X72 (ck:=Gedge.pr) (cv:=(cI .i64)) (l:=Y8) (j:=(midx Y8 (Za Y4 Y2 Ya))))<|s)
    clear p
    cases Y1r:(((Y8.getD (midx Y8 (Za Y4 Y2 Ya)) default).2.length:Int) == 0) with
    | true =>
     have gh__2:=eq_of_beq Y1r
     have Y1k:Yt.length + ([(Za Y4 Y2 Ya)]).length≤1073741824:=by clear q;exact (by ((have g5:=odt Z1g;have q:=OkE.at hp3 ZF g5 Z12 (odt (by assumption));(simp only [List.length_append,List.length_cons,List.length_nil];omega))))
     have Y1n:(midx Y8 (Za Y4 Y2 Ya)) < Y8.length:=by clear q;exact (by assumption)
     have Y1s:((Y8.getD (midx Y8 (Za Y4 Y2 Ya)) default).2).length + ([Y2]).length≤1073741824:=by clear q;exact (by ((have g5:=odt Z1g;have q:=OkE.at hp3 ZF g5 Z12 (odt (by assumption));(simp only [List.length_append,List.length_cons,List.length_nil];omega))))
     have e:Zo Y4 Y2 Y3 Yw (k + 1) Ya Y8 Yt=(Zo Y4 Y2 Y3 Yw k (Ya + 1) (mput Y8 (midx Y8 (Za Y4 Y2 Ya)) ((Y8.getD (midx Y8 (Za Y4 Y2 Ya)) default).2 ++ [Y2])) (Yt ++ [(Za Y4 Y2 Ya)])):=by simp only [Zo,YG,YZ,Y1r,cond_true]
     rw [e]
     exact XD E0Ok Zg [] (mR false [0,2,1,5,2,1,1,9,36]) [0,1,2] (⟨.agg [.sl (Y4.Pq.map Gv.c), .sl (Y4.Tr.map (cL (cI .i64)))] :: .ptr 0 0 0 :: .any :: .nils :: .mp 1 :: .own 2 :: .i .i64 Y2 :: .sl ((Y4.Tr.getD Y2.toNat default).map (cI .i64)) :: .any :: .any :: .mp 1 :: .any :: .ptr 0 0 1 :: .sl (Y4.Tr.map (cL (cI .i64))) :: .i .i64 (Y4.Tr.length:Int) :: .i .i64 Y2 :: .b (decide (Y2 < (Y4.Tr.length:Int))) :: .i .i64 Y2 :: .ref [.sl ((Y4.Tr.getD Y2.toNat default).map (cI .i64))] 0 :: .sl ((Y4.Tr.getD Y2.toNat default).map (cI .i64)) :: .i .i64 (Ya + 1) :: an 36 [],[.box 27 [.sl (Y4.Pq.map Gv.c), .sl (Y4.Tr.map (cL (cI .i64)))], .mapN 2 (((mapC Gedge.pr (cI .i64) Y8).set (midx Y8 (Za Y4 Y2 Ya)) (((mapC Gedge.pr (cI .i64) Y8).getD (midx Y8 (Za Y4 Y2 Ya)) default).1,[])).set (midx Y8 (Za Y4 Y2 Ya)) ((((mapC Gedge.pr (cI .i64) Y8).set (midx Y8 (Za Y4 Y2 Ya)) (((mapC Gedge.pr (cI .i64) Y8).getD (midx Y8 (Za Y4 Y2 Ya)) default).1,[])).getD (midx Y8 (Za Y4 Y2 Ya)) default).1,(((mapC Gedge.pr (cI .i64) Y8).getD (midx Y8 (Za Y4 Y2 Ya)) default).2 ++ ([Y2].map (cI .i64))))) none, .vec 113 2 ((Yt.map Gedge.cells) ++ ([[.i .i64 ((Za Y4 Y2 Ya).e0), .i .i64 ((Za Y4 Y2 Ya).e1)]]:List (List AV))) false]⟩) (q (sB Y1r<|sC (show (Yt.map Gedge.cells).length + ([[.i .i64 ((Za Y4 Y2 Ya).e0), .i .i64 ((Za Y4 Y2 Ya).e1)]]:List (List AV)).length≤1073741824 from (by simpa using Y1k))<|sA (.keep [midx Y8 (Za Y4 Y2 Ya)])<|sC (X43 (ck:=Gedge.pr) (cv:=(cI .i64)) YZ)<|sC (show (midx Y8 (Za Y4 Y2 Ya)) < (mapC Gedge.pr (cI .i64) Y8).length from (by simpa using Y1n))<|sC (show (((mapC Gedge.pr (cI .i64) Y8).getD (midx Y8 (Za Y4 Y2 Ya)) default).2).length + ([[.i .i64 Y2]]:List (List AV)).length≤1073741824 from (by simpa using Y1s))<|sA (.keep [(midx Y8 (Za Y4 Y2 Ya))])<|sC (show ((midx Y8 (Za Y4 Y2 Ya)):Int)=(((midx Y8 (Za Y4 Y2 Ya)):Nat):Int) from rfl)<|sC (show (midx Y8 (Za Y4 Y2 Ya)) < ((mapC Gedge.pr (cI .i64) Y8).set (midx Y8 (Za Y4 Y2 Ya)) (((mapC Gedge.pr (cI .i64) Y8).getD (midx Y8 (Za Y4 Y2 Ya)) default).1,[])).length from (by simpa using Y1n))<|sC (show ∀ i,some (midx Y8 (Za Y4 Y2 Ya))=some i→i=(midx Y8 (Za Y4 Y2 Ya)) from (fun i h=>by cases h;rfl))<|sI (Ya + 1) Y1f Y1g<|sN)) (by kernel_rfl) (show _=⟨.agg [.sl (Y4.Pq.map Gv.c), .sl (Y4.Tr.map (cL (cI .i64)))] :: .ptr 0 0 0 :: .any :: .nils :: .mp 1 :: .own 2 :: .i .i64 Y2 :: .sl ((Y4.Tr.getD Y2.toNat default).map (cI .i64)) :: .any :: .any :: .mp 1 :: .any :: .ptr 0 0 1 :: .sl (Y4.Tr.map (cL (cI .i64))) :: .i .i64 (Y4.Tr.length:Int) :: .i .i64 Y2 :: .b (decide (Y2 < (Y4.Tr.length:Int))) :: .i .i64 Y2 :: .ref [.sl ((Y4.Tr.getD Y2.toNat default).map (cI .i64))] 0 :: .sl ((Y4.Tr.getD Y2.toNat default).map (cI .i64)) :: .i .i64 (Ya + 1) :: an 36 [],[.box 27 [.sl (Y4.Pq.map Gv.c), .sl (Y4.Tr.map (cL (cI .i64)))], .mapN 2 (mapC Gedge.pr (cI .i64) (mput Y8 (midx Y8 (Za Y4 Y2 Ya)) ((Y8.getD (midx Y8 (Za Y4 Y2 Ya)) default).2 ++ [Y2]))) none, .vec 113 2 ((Yt ++ [(Za Y4 Y2 Ya)]).map Gedge.cells) false]⟩ from (by rw [X73 (X3g YZ)];simp [List.map_set,Gedge.cells])) (ih (Ya + 1) (mput Y8 (midx Y8 (Za Y4 Y2 Ya)) ((Y8.getD (midx Y8 (Za Y4 Y2 Ya)) default).2 ++ [Y2])) (Yt ++ [(Za Y4 Y2 Ya)]) (show 0≤(Ya + 1) from (by omega)) (show ((Yt ++ [(Za Y4 Y2 Ya)]).length:Int)≤(Yw.length:Int) + (Ya + 1) from (by simp only [List.length_append,List.length_cons,List.length_nil];omega)) (show ∀ y∈(mput Y8 (midx Y8 (Za Y4 Y2 Ya)) ((Y8.getD (midx Y8 (Za Y4 Y2 Ya)) default).2 ++ [Y2])),(y.2.length:Int)≤3 * Y2 + (Ya + 1) from (by exact X3x (by assumption) (by omega) (by omega))) (by omega))
    | false =>
     have gh__2:=ne_of_beq_false Y1r
     have Y1k:(midx Y8 (Za Y4 Y2 Ya)) < Y8.length:=by clear q;exact (by assumption)
     have Y1n:((Y8.getD (midx Y8 (Za Y4 Y2 Ya)) default).2).length + ([Y2]).length≤1073741824:=by clear q;exact (by ((have g5:=odt Z1g;have q:=OkE.at hp3 ZF g5 Z12 (odt (by assumption));(have q3:=X74 (N:=3 * Y2 + Ya) (by omega) (by assumption) (midx Y8 (Za Y4 Y2 Ya));simp only [List.length_cons,List.length_nil];omega))))
     have e:Zo Y4 Y2 Y3 Yw (k + 1) Ya Y8 Yt=(Zo Y4 Y2 Y3 Yw k (Ya + 1) (mput Y8 (midx Y8 (Za Y4 Y2 Ya)) ((Y8.getD (midx Y8 (Za Y4 Y2 Ya)) default).2 ++ [Y2])) Yt):=by simp only [Zo,YG,YZ,Y1r,cond_true,cond_false]
     rw [e]
     exact XD E0Ok Zg [] (mR false [0,2,1,5,2,1,1,9,36]) [0,1,2] (⟨.agg [.sl (Y4.Pq.map Gv.c), .sl (Y4.Tr.map (cL (cI .i64)))] :: .ptr 0 0 0 :: .any :: .nils :: .mp 1 :: .own 2 :: .i .i64 Y2 :: .sl ((Y4.Tr.getD Y2.toNat default).map (cI .i64)) :: .any :: .any :: .mp 1 :: .any :: .ptr 0 0 1 :: .sl (Y4.Tr.map (cL (cI .i64))) :: .i .i64 (Y4.Tr.length:Int) :: .i .i64 Y2 :: .b (decide (Y2 < (Y4.Tr.length:Int))) :: .i .i64 Y2 :: .ref [.sl ((Y4.Tr.getD Y2.toNat default).map (cI .i64))] 0 :: .sl ((Y4.Tr.getD Y2.toNat default).map (cI .i64)) :: .i .i64 (Ya + 1) :: an 36 [],[.box 27 [.sl (Y4.Pq.map Gv.c), .sl (Y4.Tr.map (cL (cI .i64)))], .mapN 2 (((mapC Gedge.pr (cI .i64) Y8).set (midx Y8 (Za Y4 Y2 Ya)) (((mapC Gedge.pr (cI .i64) Y8).getD (midx Y8 (Za Y4 Y2 Ya)) default).1,[])).set (midx Y8 (Za Y4 Y2 Ya)) ((((mapC Gedge.pr (cI .i64) Y8).set (midx Y8 (Za Y4 Y2 Ya)) (((mapC Gedge.pr (cI .i64) Y8).getD (midx Y8 (Za Y4 Y2 Ya)) default).1,[])).getD (midx Y8 (Za Y4 Y2 Ya)) default).1,(((mapC Gedge.pr (cI .i64) Y8).getD (midx Y8 (Za Y4 Y2 Ya)) default).2 ++ ([Y2].map (cI .i64))))) none, .vec 113 2 (Yt.map Gedge.cells) false]⟩) (q (sB Y1r<|sA (.keep [midx Y8 (Za Y4 Y2 Ya)])<|sC (X43 (ck:=Gedge.pr) (cv:=(cI .i64)) YZ)<|sC (show (midx Y8 (Za Y4 Y2 Ya)) < (mapC Gedge.pr (cI .i64) Y8).length from (by simpa using Y1k))<|sC (show (((mapC Gedge.pr (cI .i64) Y8).getD (midx Y8 (Za Y4 Y2 Ya)) default).2).length + ([[.i .i64 Y2]]:List (List AV)).length≤1073741824 from (by simpa using Y1n))<|sA (.keep [(midx Y8 (Za Y4 Y2 Ya))])<|sC (show ((midx Y8 (Za Y4 Y2 Ya)):Int)=(((midx Y8 (Za Y4 Y2 Ya)):Nat):Int) from rfl)<|sC (show (midx Y8 (Za Y4 Y2 Ya)) < ((mapC Gedge.pr (cI .i64) Y8).set (midx Y8 (Za Y4 Y2 Ya)) (((mapC Gedge.pr (cI .i64) Y8).getD (midx Y8 (Za Y4 Y2 Ya)) default).1,[])).length from (by simpa using Y1k))<|sC (show ∀ i,some (midx Y8 (Za Y4 Y2 Ya))=some i→i=(midx Y8 (Za Y4 Y2 Ya)) from (fun i h=>by cases h;rfl))<|sI (Ya + 1) Y1f Y1g<|sN)) (by kernel_rfl) (show _=⟨.agg [.sl (Y4.Pq.map Gv.c), .sl (Y4.Tr.map (cL (cI .i64)))] :: .ptr 0 0 0 :: .any :: .nils :: .mp 1 :: .own 2 :: .i .i64 Y2 :: .sl ((Y4.Tr.getD Y2.toNat default).map (cI .i64)) :: .any :: .any :: .mp 1 :: .any :: .ptr 0 0 1 :: .sl (Y4.Tr.map (cL (cI .i64))) :: .i .i64 (Y4.Tr.length:Int) :: .i .i64 Y2 :: .b (decide (Y2 < (Y4.Tr.length:Int))) :: .i .i64 Y2 :: .ref [.sl ((Y4.Tr.getD Y2.toNat default).map (cI .i64))] 0 :: .sl ((Y4.Tr.getD Y2.toNat default).map (cI .i64)) :: .i .i64 (Ya + 1) :: an 36 [],[.box 27 [.sl (Y4.Pq.map Gv.c), .sl (Y4.Tr.map (cL (cI .i64)))], .mapN 2 (mapC Gedge.pr (cI .i64) (mput Y8 (midx Y8 (Za Y4 Y2 Ya)) ((Y8.getD (midx Y8 (Za Y4 Y2 Ya)) default).2 ++ [Y2]))) none, .vec 113 2 (Yt.map Gedge.cells) false]⟩ from (by rw [X73 (X3g YZ)];done)) (ih (Ya + 1) (mput Y8 (midx Y8 (Za Y4 Y2 Ya)) ((Y8.getD (midx Y8 (Za Y4 Y2 Ya)) default).2 ++ [Y2])) Yt (show 0≤(Ya + 1) from (by omega)) (show (Yt.length:Int)≤(Yw.length:Int) + (Ya + 1) from (by omega)) (show ∀ y∈(mput Y8 (midx Y8 (Za Y4 Y2 Ya)) ((Y8.getD (midx Y8 (Za Y4 Y2 Ya)) default).2 ++ [Y2])),(y.2.length:Int)≤3 * Y2 + (Ya + 1) from (by exact X3x (by assumption) (by omega) (by omega))) (by omega))
   | false =>
    have Y1k:Yt.length + ([(Za Y4 Y2 Ya)]).length≤1073741824:=by clear p;exact (by ((have g5:=odt Z1g;have q:=OkE.at hp3 ZF g5 Z12 (odt (by assumption));(simp only [List.length_append,List.length_cons,List.length_nil];omega))))
    have e:Zo Y4 Y2 Y3 Yw (k + 1) Ya Y8 Yt=(Zo Y4 Y2 Y3 Yw k (Ya + 1) (Y8 ++ [((Za Y4 Y2 Ya),[Y2])]) (Yt ++ [(Za Y4 Y2 Ya)])):=by simp only [Zo,YG,YZ,cond_true,cond_false]
    rw [e]
    exact XD E0Ok Zg [] (mR false [0,2,1,5,2,1,1,9,36]) [0,1,2] (⟨.agg [.sl (Y4.Pq.map Gv.c), .sl (Y4.Tr.map (cL (cI .i64)))] :: .ptr 0 0 0 :: .any :: .nils :: .mp 1 :: .own 2 :: .i .i64 Y2 :: .sl ((Y4.Tr.getD Y2.toNat default).map (cI .i64)) :: .any :: .any :: .mp 1 :: .any :: .ptr 0 0 1 :: .sl (Y4.Tr.map (cL (cI .i64))) :: .i .i64 (Y4.Tr.length:Int) :: .i .i64 Y2 :: .b (decide (Y2 < (Y4.Tr.length:Int))) :: .i .i64 Y2 :: .ref [.sl ((Y4.Tr.getD Y2.toNat default).map (cI .i64))] 0 :: .sl ((Y4.Tr.getD Y2.toNat default).map (cI .i64)) :: .i .i64 (Ya + 1) :: an 36 [],[.box 27 [.sl (Y4.Pq.map Gv.c), .sl (Y4.Tr.map (cL (cI .i64)))], .mapN 2 (((mapC Gedge.pr (cI .i64) Y8) ++ [((Gedge.pr (Za Y4 Y2 Ya)),[])]).set (mapC Gedge.pr (cI .i64) Y8).length ((((mapC Gedge.pr (cI .i64) Y8) ++ [((Gedge.pr (Za Y4 Y2 Ya)),[])]).getD (mapC Gedge.pr (cI .i64) Y8).length default).1,(([Y2]).map (cI .i64)))) none, .vec 113 2 ((Yt.map Gedge.cells) ++ ([[.i .i64 ((Za Y4 Y2 Ya).e0), .i .i64 ((Za Y4 Y2 Ya).e1)]]:List (List AV))) false]⟩) (p (sA (.keep [])<|sC (X5c (ck:=Gedge.pr) (cv:=(cI .i64)) Gedge.inj YZ)<|sM (show ((0:Nat):Int)=0 from rfl)<|sB (show (0 == 0)=true from rfl)<|sC (show (Yt.map Gedge.cells).length + ([[.i .i64 ((Za Y4 Y2 Ya).e0), .i .i64 ((Za Y4 Y2 Ya).e1)]]:List (List AV)).length≤1073741824 from (by simpa using Y1k))<|sA (.keep [])<|sC (X5c (ck:=Gedge.pr) (cv:=(cI .i64)) Gedge.inj YZ)<|sC (show ([[.i .i64 Y2]]:List (List AV))≠[] from (by simp))<|sC (show ([[.i .i64 Y2]]:List (List AV)).length≤1073741824 from (by simp))<|sA (.keep [(mapC Gedge.pr (cI .i64) Y8).length])<|sC (show ((mapC Gedge.pr (cI .i64) Y8).length:Int)=(((mapC Gedge.pr (cI .i64) Y8).length:Nat):Int) from rfl)<|sC (show (mapC Gedge.pr (cI .i64) Y8).length < ((mapC Gedge.pr (cI .i64) Y8) ++ [((Gedge.pr (Za Y4 Y2 Ya)),[])]).length from (by simp))<|sC (show ∀ i,(none:Option Nat)=some i→i=(mapC Gedge.pr (cI .i64) Y8).length from (fun i h=>by cases h))<|sI (Ya + 1) Y1f Y1g<|sN)) (by kernel_rfl) (show _=⟨.agg [.sl (Y4.Pq.map Gv.c), .sl (Y4.Tr.map (cL (cI .i64)))] :: .ptr 0 0 0 :: .any :: .nils :: .mp 1 :: .own 2 :: .i .i64 Y2 :: .sl ((Y4.Tr.getD Y2.toNat default).map (cI .i64)) :: .any :: .any :: .mp 1 :: .any :: .ptr 0 0 1 :: .sl (Y4.Tr.map (cL (cI .i64))) :: .i .i64 (Y4.Tr.length:Int) :: .i .i64 Y2 :: .b (decide (Y2 < (Y4.Tr.length:Int))) :: .i .i64 Y2 :: .ref [.sl ((Y4.Tr.getD Y2.toNat default).map (cI .i64))] 0 :: .sl ((Y4.Tr.getD Y2.toNat default).map (cI .i64)) :: .i .i64 (Ya + 1) :: an 36 [],[.box 27 [.sl (Y4.Pq.map Gv.c), .sl (Y4.Tr.map (cL (cI .i64)))], .mapN 2 (mapC Gedge.pr (cI .i64) (Y8 ++ [((Za Y4 Y2 Ya),[Y2])])) none, .vec 113 2 ((Yt ++ [(Za Y4 Y2 Ya)]).map Gedge.cells) false]⟩ from (by rw [X9w];simp [List.map_set,Gedge.cells])) (ih (Ya + 1) (Y8 ++ [((Za Y4 Y2 Ya),[Y2])]) (Yt ++ [(Za Y4 Y2 Ya)]) (show 0≤(Ya + 1) from (by omega)) (show ((Yt ++ [(Za Y4 Y2 Ya)]).length:Int)≤(Yw.length:Int) + (Ya + 1) from (by simp only [List.length_append,List.length_cons,List.length_nil];omega)) (show ∀ y∈(Y8 ++ [((Za Y4 Y2 Ya),[Y2])]),(y.2.length:Int)≤3 * Y2 + (Ya + 1) from (by exact X75 (by assumption) (by omega) (by omega))) (by omega))
  | false =>
   have Y1d:=odf YG
   have e:Zo Y4 Y2 Y3 Yw (k + 1) Ya Y8 Yt=(Y8,Yt):=by simp only [Zo,YG,cond_false]
   rw [e]
   exact outR (e:=(.exit 2)) E0Ok Zg [] (mR false [0,2,1,5,2,1,1,8,37]) [0,1,2] (sB YG<|sN) (by kernel_rfl) (by intro h;cases h)
def ZG (Y4:Gm) (Y2:Int) (Y3:(List (Gedge × List Int))) (Yw:(List Gedge)):(List (Gedge × List Int)) × (List Gedge):=(Zo Y4 Y2 Y3 Yw (((3:Int) - 0).toNat + 1) 0 Y3 Yw)
theorem Z8I (m:Gm) (i:Int) (b0:List (Gedge × List Int)) (l0:List Gedge) (h0:0≤i):∀ (k:Nat) (x:Int) (b:List (Gedge × List Int)) (l:List Gedge),0≤x→(3 - x).toNat < k→x≤3→(l.length:Int)≤3 * i + x→(∀ y∈b,(y.2.length:Int)≤3 * i + x)→((Zo m i b0 l0 k x b l).2.length:Int)≤3 * (i + 1)∧∀ y∈(Zo m i b0 l0 k x b l).1,(y.2.length:Int)≤3 * (i + 1):=by
  intro k
  induction k with
  | zero=>intro x b l _ hk;exact absurd hk (Nat.not_lt_zero _)
  | succ k ih =>
    intro x b l hx hk h3 hl hb
    rw [Zo]
    cases hc:decide (x < 3) with
    | false=>rw [cond_false];exact ⟨by simp only;omega,fun y hy=>by have:=hb y hy;omega⟩
    | true =>
      have hc':=odt hc
      rw [cond_true]
      cases mhas b (Za m i x) with
      | true =>
        rw [cond_true]
        cases (((b.getD (midx b (Za m i x)) default).2.length:Int) == 0) with
        | true=>rw [cond_true];exact ih _ _ _ (by omega) (by omega) (by omega) (by simp only [List.length_append,List.length_cons,List.length_nil];omega) (X3x hb (by omega) (by omega))
        | false=>rw [cond_false];exact ih _ _ _ (by omega) (by omega) (by omega) (by omega) (X3x hb (by omega) (by omega))
      | false=>rw [cond_false];exact ih _ _ _ (by omega) (by omega) (by omega) (by simp only [List.length_append,List.length_cons,List.length_nil];omega) (X75 hb (by omega) (by omega))
theorem Z8g (m:Gm) (i:Int) (b:List (Gedge × List Int)) (l:List Gedge) (h0:0≤i) (hl:(l.length:Int)≤3 * i) (hb:∀ y∈b,(y.2.length:Int)≤3 * i) :
    ((ZG m i b l).2.length:Int)≤3 * (i + 1)∧∀ y∈(ZG m i b l).1,(y.2.length:Int)≤3 * (i + 1) :=
  Z8I m i b l h0 _ 0 b l (Int.le_refl 0) (by omega) (by omega) (by omega) (fun y hy=>by have:=hb y hy;omega)
def ZN (Y4:Gm):Nat→Int→(List (Gedge × List Int))→(List Gedge)→(List (Gedge × List Int)) × (List Gedge)
  | 0,_,_,_=>default
  | k + 1,Y2,Y3,Yw=>(cond (decide (Y2 < (Y4.Tr.length:Int)))
    (ZN Y4 k (Y2 + 1) ((ZG Y4 Y2 Y3 Yw).1) ((ZG Y4 Y2 Y3 Yw).2))
    (Y3,Yw))
def Z2j (Y4:Gm) (r:(List (Gedge × List Int)) × (List Gedge)):Ex × St:=((.exit 0),⟨.agg [.sl (Y4.Pq.map Gv.c), .sl (Y4.Tr.map (cL (cI .i64)))] :: .ptr 0 0 0 :: .any :: .nils :: .mp 1 :: .own 2 :: an 4 (.mp 1 :: .any :: .ptr 0 0 1 :: .sl (Y4.Tr.map (cL (cI .i64))) :: an 43 []),[.box 27 [.sl (Y4.Pq.map Gv.c), .sl (Y4.Tr.map (cL (cI .i64)))], .mapN 2 (mapC Gedge.pr (cI .i64) r.1) none, .vec 113 2 (r.2.map Gedge.cells) false]⟩)
def Z39 (Y4:Gm) (Y2:Int) (Y3:(List (Gedge × List Int))) (Yw:(List Gedge)):St:=⟨.agg [.sl (Y4.Pq.map Gv.c), .sl (Y4.Tr.map (cL (cI .i64)))] :: .ptr 0 0 0 :: .any :: .nils :: .mp 1 :: .own 2 :: an 4 (.mp 1 :: .any :: .ptr 0 0 1 :: .sl (Y4.Tr.map (cL (cI .i64))) :: .i .i64 (Y4.Tr.length:Int) :: .i .i64 Y2 :: an 41 []),[.box 27 [.sl (Y4.Pq.map Gv.c), .sl (Y4.Tr.map (cL (cI .i64)))], .mapN 2 (mapC Gedge.pr (cI .i64) Y3) none, .vec 113 2 (Yw.map Gedge.cells) false]⟩
theorem Z5k (Y4:Gm) (hp0:Y4.Pq.length≤1073741824) (hp1:Y4.Tr.length≤1073741824) (hp2:∀ t∈Y4.Tr,t.length≤1073741824) (hp3:OkE Y4.Pq.length Y4.Tr):∀ (k:Nat) (Y2:Int) (Y3:(List (Gedge × List Int))) (Yw:(List Gedge)) (ZF:0≤Y2) (Z1U:(Yw.length:Int)≤3 * Y2) (Z1C:∀ y∈Y3,(y.2.length:Int)≤3 * Y2) (hk:((Y4.Tr.length:Int) - Y2).toNat < k),Lp prog 0 (sub (X2 f82) [1,1,0,1,0,0]) (Z39 Y4 Y2 Y3 Yw) (Z2j Y4 (ZN Y4 k Y2 Y3 Yw)).1 (Z2j Y4 (ZN Y4 k Y2 Y3 Yw)).2:=by
 intro k
 induction k with
 | zero=>intro Y2 Y3 Yw ZF Z1U Z1C hk;exact absurd hk (Nat.not_lt_zero _)
 | succ k ih =>
  intro Y2 Y3 Yw ZF Z1U Z1C hk
  cases Yr:(decide (Y2 < (Y4.Tr.length:Int))) with
  | true =>
   have YM:=odt Yr
   have YU:(0:Int)≤Y2:=(by assumption)
   have YR:Y2 < (Y4.Tr.length:Int):=(by assumption)
   have y_2:(-9223372036854775808:Int)≤(Y2 + 1):=(by omega)
   have YV:(Y2 + 1)≤(9223372036854775807:Int):=(by omega)
   have e:ZN Y4 (k + 1) Y2 Y3 Yw=(ZN Y4 k (Y2 + 1) ((ZG Y4 Y2 Y3 Yw).1) ((ZG Y4 Y2 Y3 Yw).2)):=by simp only [ZN,Yr,cond_true]
   rw [e]
   exact X1r E0Ok Zg [] (mR false [0,2,1,3,4,1,1,4,41]) [0,1,2] (ih (Y2 + 1) ((ZG Y4 Y2 Y3 Yw).1) ((ZG Y4 Y2 Y3 Yw).2) (show 0≤(Y2 + 1) from (by omega)) (show (((ZG Y4 Y2 Y3 Yw).2).length:Int)≤3 * (Y2 + 1) from (by exact (Z8g _ _ _ _ ZF (by assumption) (by assumption)).1)) (show ∀ y∈((ZG Y4 Y2 Y3 Yw).1),(y.2.length:Int)≤3 * (Y2 + 1) from (by exact (Z8g _ _ _ _ ZF (by assumption) (by assumption)).2)) (by omega)) (sB Yr<|sG (cL (cI .i64)) Y4.Tr Y2 YU YR<|sL (mR false [0,2,1,5,2,1,1,9,36]) 3 (Xc (Z2i Y4 Y2 Y3 Yw) (x:=(ZG Y4 Y2 Y3 Yw)) (Z5j Y4 Y2 Y3 Yw hp0 hp1 hp2 hp3 ZF Z1U Z1C Yr (((3:Int) - 0).toNat + 1) 0 Y3 Yw (show 0≤0 from (by omega)) (show (Yw.length:Int)≤(Yw.length:Int) + 0 from (by omega)) (show ∀ y∈Y3,(y.2.length:Int)≤3 * Y2 + 0 from (by intro y hy;have q:=Z1C y hy;omega)) (Nat.lt_succ_self _)) rfl)<|sI (Y2 + 1) y_2 YV<|sN) (by kernel_rfl)
  | false =>
   have YM:=odf Yr
   have e:ZN Y4 (k + 1) Y2 Y3 Yw=(Y3,Yw):=by simp only [ZN,Yr,cond_false]
   rw [e]
   exact outR (e:=(.exit 0)) E0Ok Zg [] (mR false [0,2,1,3,4,1,1,2,43]) [0,1,2] (sB Yr<|sN) (by kernel_rfl) (by intro h;cases h)
def ZL (Y4:Gm):(List (Gedge × List Int)) × (List Gedge):=(ZN Y4 (((Y4.Tr.length:Int) - 0).toNat + 1) 0 ([]:(List (Gedge × List Int))) ([]:List Gedge))
theorem Z9e (m:Gm) (k:Nat) (i:Int) (b:List (Gedge × List Int)) (l:List Gedge) (h0:0≤i):ZN m (k + 1) i b l=cond (decide (i < (m.Tr.length:Int))) (ZN m k (i + 1) (stT (b,l) (m.Tr.getD i.toNat default) i).1 (stT (b,l) (m.Tr.getD i.toNat default) i).2) (b,l):=by
  have st:∀ (x:Int) (k:Nat) (b:List (Gedge × List Int)) (l:List Gedge),x < 3→Zo m i b l (k + 1) x b l=Zo m i b l (k + 1) x b l:=fun _ _ _ _ _=>rfl
  have one:∀ (b0:List (Gedge × List Int)) (l0:List Gedge) (k:Nat) (x:Int) (s:List (Gedge × List Int) × List Gedge),x < 3→Zo m i b0 l0 (k + 1) x s.1 s.2=Zo m i b0 l0 k (x + 1) (stE s (Za m i x) i).1 (stE s (Za m i x) i).2:=by
    intro b0 l0 k x s hx
    rw [Zo,decide_eq_true hx,cond_true]
    unfold stE
    cases mhas s.1 (Za m i x) with
    | true =>
      rw [cond_true,cond_true]
      cases (((s.1.getD (midx s.1 (Za m i x)) default).2.length:Int) == 0)<;>rfl
    | false=>rfl
  have tri:ZG m i b l=stT (b,l) (m.Tr.getD i.toNat default) i:=by
    unfold ZG
    show Zo m i b l 4 0 (b,l).1 (b,l).2=_
    rw [one b l 3 0 (b,l) (by omega),one b l 2 (0 + 1) _ (by omega),one b l 1 (0 + 1 + 1) _ (by omega),Zo]
    show cond (decide ((3:Int) < 3)) _ _=_
    rw [decide_eq_false (by omega),cond_false]
    unfold Za stT
    simp only [Z8w]
    rfl
  rw [ZN,tri]
theorem Z7w (m:Gm) (ok:OkE m.Pq.length m.Tr):ETab m.Tr m.Tr.length (ZL m):=by
  unfold ZL
  exact ETab.loop ok (Z9e m) _ 0 ([],[]) (Nat.zero_le _) (ETab.nil _) (by omega)
theorem Z8J (m:Gm) (ok:OkE m.Pq.length m.Tr):(ZL m).2.length≤4096:=by
  have h:=congrArg List.length ((Z7w m ok).sorted ok)
  rw [X76] at h
  rw [h];exact X3y ok
end Go.Ab
namespace Go.Proofs
open Go.Shelf
def Try.laysF0n6_ren:Go.Shelf.Ren:=⟨fun | 6=>119 | 15=>131 | 14=>130 | 28=>142 | 29=>143 | 20=>134 | 21=>135 | 22=>136 | 23=>137 | 24=>138 | 25=>139 | 26=>140 | 27=>141 | 46=>145 | 47=>146 | 48=>147 | 49=>148 | 50=>149 | 57=>151 | n=>n,fun | 22=>108 | 24=>113 | 25=>148 | 3=>3 | 39=>104 | 0=>0 | 53=>165 | 55=>132 | 4=>4 | 46=>158 | 45=>157 | 50=>162 | 5=>5 | 9=>9 | 66=>168 | 70=>172 | 76=>175 | 77=>176 | n=>n,fun | n=>n⟩
theorem Try.laysF0n6:Go.Proofs.SlLaysF0.n6 Try.prog Try.laysF0n6_ren:={
  mixed:=by kernel_rfl
  f6:=⟨Try.f119.name,by decide,Try.func119.trans (congrArg some (by kernel_rfl))⟩
  f14:=⟨Try.f130.name,by decide,Try.func130.trans (congrArg some (by kernel_rfl))⟩
  f15:=Try.func131.trans (congrArg some (by kernel_rfl))
  f20:=⟨Try.f134.name,by decide,Try.func134.trans (congrArg some (by kernel_rfl))⟩
  f21:=⟨Try.f135.name,by decide,Try.func135.trans (congrArg some (by kernel_rfl))⟩
  f22:=⟨Try.f136.name,by decide,Try.func136.trans (congrArg some (by kernel_rfl))⟩
  f23:=⟨Try.f137.name,by decide,Try.func137.trans (congrArg some (by kernel_rfl))⟩
  f24:=⟨Try.f138.name,by decide,Try.func138.trans (congrArg some (by kernel_rfl))⟩
  f25:=⟨Try.f139.name,by decide,Try.func139.trans (congrArg some (by kernel_rfl))⟩
  f26:=⟨Try.f140.name,by decide,Try.func140.trans (congrArg some (by kernel_rfl))⟩
  f27:=⟨Try.f141.name,by decide,Try.func141.trans (congrArg some (by kernel_rfl))⟩
  f28:=Try.func142.trans (congrArg some (by kernel_rfl))
  f29:=Try.func143.trans (congrArg some (by kernel_rfl))
  f46:=⟨Try.f145.name,by decide,Try.func145.trans (congrArg some (by kernel_rfl))⟩
  f47:=Try.func146.trans (congrArg some (by kernel_rfl))
  f48:=Try.func147.trans (congrArg some (by kernel_rfl))
  f49:=⟨Try.f148.name,by decide,Try.func148.trans (congrArg some (by kernel_rfl))⟩
  f50:=⟨Try.f149.name,by decide,Try.func149.trans (congrArg some (by kernel_rfl))⟩
  f57:=⟨Try.f151.name,by decide,Try.func151.trans (congrArg some (by kernel_rfl))⟩
  t0:=Try.underlying0
  a0:=Try.isAgg0
  z0:=Try.sizeOf0
  v0:=Try.zeroValue0
  t3:=Try.underlying3
  a3:=Try.isAgg3
  z3:=Try.sizeOf3
  v3:=Try.zeroValue3
  t4:=Try.underlying4
  a4:=Try.isAgg4
  z4:=Try.sizeOf4
  v4:=Try.zeroValue4
  t5:=Try.underlying5
  a5:=Try.isAgg5
  z5:=Try.sizeOf5
  v5:=Try.zeroValue5
  t9:=Try.underlying9
  a9:=Try.isAgg9
  z9:=Try.sizeOf9
  v9:=Try.zeroValue9
  t22:=Try.underlying108
  a22:=Try.isAgg108
  z22:=Try.sizeOf108
  v22:=Try.zeroValue108
  t25:=Try.underlying148
  a25:=Try.isAgg148
  z25:=Try.sizeOf148
  v25:=Try.zeroValue148
  t39:=Try.underlying104
  a39:=Try.isAgg104
  z39:=Try.sizeOf104
  v39:=Try.zeroValue104
  t45:=Try.underlying157
  a45:=Try.isAgg157
  z45:=Try.sizeOf157
  v45:=Try.zeroValue157
  t46:=Try.underlying158
  a46:=Try.isAgg158
  z46:=Try.sizeOf158
  v46:=Try.zeroValue158
  t50:=Try.underlying162
  a50:=Try.isAgg162
  z50:=Try.sizeOf162
  v50:=Try.zeroValue162
  t53:=Try.underlying165
  a53:=Try.isAgg165
  z53:=Try.sizeOf165
  v53:=Try.zeroValue165
  t55:=Try.underlying132
  a55:=Try.isAgg132
  z55:=Try.sizeOf132
  v55:=Try.zeroValue132
  t66:=Try.underlying168
  a66:=Try.isAgg168
  z66:=Try.sizeOf168
  v66:=Try.zeroValue168
  t70:=Try.underlying172
  a70:=Try.isAgg172
  z70:=Try.sizeOf172
  v70:=Try.zeroValue172
  t76:=Try.underlying175
  a76:=Try.isAgg175
  z76:=Try.sizeOf175
  v76:=Try.zeroValue175
  t77:=Try.underlying176
  a77:=Try.isAgg176
  z77:=Try.sizeOf176
  v77:=Try.zeroValue176 }
end Go.Proofs
namespace Go.Ab
open Go.RowKit Go.Proofs.Try
theorem Z9F (x y:Int):Z10 x y=if x < y then -1 else if x > y then 1 else 0:=by
  unfold Z10 Z1B
  simp only [bne_self_eq_false,cond_false]
  by_cases h1:x < y
  · simp [h1]
  · by_cases h2:x > y<;>simp [h1,h2]
end Go.Ab
