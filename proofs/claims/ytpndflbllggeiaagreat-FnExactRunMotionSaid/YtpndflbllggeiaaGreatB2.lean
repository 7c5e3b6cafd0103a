/- The functions of this seat as plain Lean, and that the program's are these. Printed by a program of the prover's own. -/
import Derived.Test.YtpndflbllggeiaaGreatB1
set_option linter.unusedVariables false
set_option linter.unusedSimpArgs false
set_option maxRecDepth 100000
namespace Go.Ab
open Go.RowKit Go.Proofs.Tryz
theorem Zfv (b:Gb) (h:Z1z b=true):Z1y b.Me=true∧(b.We.length:Int)=(b.Me.Pq.length:Int)∧(b.Sp.all fun s => Z1R s (b.Me.Pq.length:Int))=true:=by
  unfold Z1z Z4I at h
  rw [XJ (a:=b.Sp) (p:=fun s => Z1R s (b.Me.Pq.length:Int)) (lo:=Z2Q b) (x:=()) (y:=()) (fun k i => rfl)] at h
  cases h1:Z1y b.Me <;> rw [h1] at h <;> (try (cases h; done))
  cases h2:decide ((b.Sp.length:Int) > 200) <;> rw [h2] at h <;> (try (cases h; done))
  cases h3:((b.We.length:Int) != (b.Me.Pq.length:Int)) <;> rw [h3] at h <;> (try (cases h; done))
  cases h4:(b.Sp.all fun s => Z1R s (b.Me.Pq.length:Int)) <;> rw [h4] at h <;> (try (cases h; done))
  simp only [bne_eq_false_iff_eq] at h3
  exact ⟨rfl,h3,rfl⟩
theorem Zii (s:Gs) {n:Nat} (hn:n≤9223372036854775807) (h:Z1R s (n:Int)=true):(0≤s.A∧s.A < (n:Int))∧(0≤s.B∧s.B < (n:Int)):=by
  unfold Z1R at h
  cases h1:Zj s.A 0 (IntKind.wrap .i64 ((n:Int) - 1)) <;> rw [h1] at h <;> (try (cases h; done))
  cases h2:Zj s.B 0 (IntKind.wrap .i64 ((n:Int) - 1)) <;> rw [h2] at h <;> (try (cases h; done))
  exact ⟨Zi6 hn h1,Zi6 hn h2⟩
theorem ZiY (b:Gb) (h:Z1z b=true):OkIx b.Me.Pq.length Gs.A b.Sp:=by
  obtain ⟨h1,_,h3⟩:=Zfv b h
  have hn:b.Me.Pq.length≤64:=by
    rw [Zae] at h1
    cases h2:decide ((b.Me.Pq.length:Int) > 64) <;> rw [h2] at h1 <;> (try (cases h1; done))
    simp only [decide_eq_false_iff_not] at h2
    omega
  rw [List.all_eq_true] at h3
  exact fun s hs => (Zii s (by omega) (h3 s hs)).1
theorem ZiZ (b:Gb) (h:Z1z b=true):OkIx b.Me.Pq.length Gs.B b.Sp:=by
  obtain ⟨h1,_,h3⟩:=Zfv b h
  have hn:b.Me.Pq.length≤64:=by
    rw [Zae] at h1
    cases h2:decide ((b.Me.Pq.length:Int) > 64) <;> rw [h2] at h1 <;> (try (cases h1; done))
    simp only [decide_eq_false_iff_not] at h2
    omega
  rw [List.all_eq_true] at h3
  exact fun s hs => (Zii s (by omega) (h3 s hs)).2
structure OkBd (b:Gb):Prop where
  e:OkE b.Me.Pq.length b.Me.Tr
  w:b.We.length=b.Me.Pq.length
  a:OkIx b.Me.Pq.length Gs.A b.Sp
  b:OkIx b.Me.Pq.length Gs.B b.Sp
theorem ZbC (b:Gb) (h:Z1z b=true):OkBd b:=by
  obtain ⟨h1,h2,h3⟩:=Zfv b h
  exact ⟨ZiX _ h1,by omega,ZiY b h,ZiZ b h⟩
theorem Z3E {b:Gb} (h:OkBd b) {i:Int} (h0:0≤i) (hi:decide (i < (b.Sp.length:Int))=true):(0≤(b.Sp.getD i.toNat default).A∧(b.Sp.getD i.toNat default).A < (b.Me.Pq.length:Int))∧(0≤(b.Sp.getD i.toNat default).B∧(b.Sp.getD i.toNat default).B < (b.Me.Pq.length:Int)) :=
  ⟨OkIx.at h.a h0 (odt hi),OkIx.at h.b h0 (odt hi)⟩
def Z4C (Y3:Gn):Bool:=(cond (Z1z Y3.Body)
  ((Y3.Sd.length:Int) == (Y3.Body.Me.Pq.length:Int))
  false)
theorem Zhn (Y3:Gn) (hp0:Y3.Body.Me.Pq.length≤1073741824) (hp1:Y3.Body.Me.Tr.length≤1073741824) (hp2:∀ t∈Y3.Body.Me.Tr,t.length≤1073741824) (hp3:Y3.Body.Sp.length≤1073741824) (hp4:Y3.Body.We.length≤1073741824) (hp5:Y3.Sd.length≤1073741824)  : Fn prog 126 [.ref (Gn.c Y3) 0] (.b (Z4C Y3)) []:=by
 have p {a C} (s:Scr a C):=sK [17,17] <| sF (Fn.sub (args:=[.ref (Gn.c Y3) 0]) (r := .b (Z1z Y3.Body)) (new:=[]) [some 9] (Zhm Y3.Body hp0 hp1 hp2 hp3 hp4)) <| s
 cases h0:(Z1z Y3.Body) with
 | true =>
  refine fnS E0Ok Z4 (c:=X0 f126) [] (.b ((Y3.Sd.length:Int) == (Y3.Body.Me.Pq.length:Int))) [] func126 (p (sB h0 <| sB h0 <| sB h0 <| sB h0 <| sB h0 <| sZ Gv.c Y3.Sd <| sB h0 <| sB h0 <| sB h0 <| sB h0 <| sB h0 <| sB h0 <| sB h0 <| sZ Gv.c Y3.Body.Me.Pq <| sB h0 <| sB h0 <| sK [] sN)) rfl (by kernel_rfl) (by kernel_rfl) rfl ?_ ?_
  · simp only [Z4C,h0,cond_true]
  · rfl
 | false =>
  refine fnS E0Ok Z4 (c:=X0 f126) [] (.b false) [] func126 (p (sB h0 <| sB h0 <| sB h0 <| sB h0 <| sB h0 <| sB h0 <| sB h0 <| sB h0 <| sB h0 <| sB h0 <| sB h0 <| sB h0 <| sB h0 <| sB h0 <| sK [] sN)) rfl (by kernel_rfl) (by kernel_rfl) rfl ?_ ?_
  · simp only [Z4C,h0,cond_false]
  · rfl
def ZK (Yu:(List Int)) (YX:Int) (YO:Int):Nat→Int→(Unit) ⊕ (Unit)
  | 0,_ => .inl default
  | k + 1,Yc => (cond (decide (Yc < (Yu.length:Int)))
    (cond (Zj (Yu.getD Yc.toNat default) YX YO)
      (cond (decide (Yc > 0))
        (cond (decide ((Yu.getD (Yc - 1).toNat default) ≥ (Yu.getD Yc.toNat default)))
          (.inl ())
          (ZK Yu YX YO k (Yc + 1)))
        (ZK Yu YX YO k (Yc + 1)))
      (.inl ()))
    (.inr ()))
def Z5L (Yu:(List Int)) (YX:Int) (YO:Int):(Unit) ⊕ (Unit)→Ex × St
  | .inl r => (.ret,⟨an 6 (.b false :: an 31 []),[]⟩)
  | .inr r => ((.exit 0),⟨an 38 [],[]⟩)
def Zei (Yu:(List Int)) (YX:Int) (YO:Int) (Yc:Int):St:=⟨.sl (Yu.map (cI .i64)) :: .i .i64 YX :: .i .i64 YO :: an 4 (.i .i64 Yc :: an 30 []),[]⟩
theorem Zak (Yu:(List Int)) (YX:Int) (YO:Int) (hp0:Yu.length≤1073741824):∀ (k:Nat) (Yc:Int) (Z93:0≤Yc) (hk:((Yu.length:Int) - Yc).toNat < k),Lp prog 0 (sub (X0 f120) [1,0,1,0,0]) (Zei Yu YX YO Yc) (Z5L Yu YX YO (ZK Yu YX YO k Yc)).1 (Z5L Yu YX YO (ZK Yu YX YO k Yc)).2:=by
 intro k
 induction k with
 | zero => intro Yc Z93 hk; exact absurd hk (Nat.not_lt_zero _)
 | succ k ih =>
  intro Yc Z93 hk
  have p {a C} (s:Scr a C):=sZ (cI .i64) Yu <| s
  cases Yn:(decide (Yc < (Yu.length:Int))) with
  | true =>
   have YM:=odt Yn
   have YS:(0:Int)≤Yc:=by clear p; exact (by assumption)
   have YT:Yc < (Yu.length:Int):=by clear p; exact (by assumption)
   have q {a C} (s:Scr a C):=p (sB Yn <| sK [21,21] <| sG (cI .i64) Yu Yc YS YT <| sF (Z5w (Yu.getD Yc.toNat default) YX YO) <| s)
   clear p
   cases YL:(Zj (Yu.getD Yc.toNat default) YX YO) with
   | true =>
    have p {a C} (s:Scr a C):=q (sB' YL <| sB' YL <| sB' YL <| s)
    clear q
    cases h_2:(decide (Yc > 0)) with
    | true =>
     have Y1p:=odt h_2
     have YY:(-9223372036854775808:Int)≤(Yc - 1):=by clear p; exact (by omega)
     have YZ:(Yc - 1)≤(9223372036854775807:Int):=by clear p; exact (by omega)
     have y_4:(0:Int)≤(Yc - 1):=by clear p; exact (by omega)
     have y_5:(Yc - 1) < (Yu.length:Int):=by clear p; exact (by omega)
     have q {a C} (s:Scr a C):=p (sB h_2 <| sB h_2 <| sB h_2 <| sI (Yc - 1) YY YZ <| sB h_2 <| sG (cI .i64) Yu (Yc - 1) y_4 y_5 <| sB h_2 <| sB h_2 <| sB h_2 <| sB h_2 <| sG (cI .i64) Yu Yc YS YT <| sB h_2 <| sB h_2 <| sB' YL <| sB h_2 <| sB' YL <| s)
     clear p
     cases h_3:(decide ((Yu.getD (Yc - 1).toNat default) ≥ (Yu.getD Yc.toNat default))) with
     | true =>
      have Y1G:=odt h_3
      have e:ZK Yu YX YO (k + 1) Yc=(.inl ()):=by simp only [ZK,Yn,YL,h_2,h_3,cond_true]
      rw [e]
      exact outR (e := .ret) E0Ok Z4 [] (mR false [6,1,31]) [] (q (sB h_3 <| sN)) (by kernel_rfl) (by intro h; cases h)
     | false =>
      have Y1G:=odf h_3
      have y_6:(-9223372036854775808:Int)≤(Yc + 1):=by clear q; exact (by omega)
      have y_7:(Yc + 1)≤(9223372036854775807:Int):=by clear q; exact (by omega)
      have e:ZK Yu YX YO (k + 1) Yc=(ZK Yu YX YO k (Yc + 1)):=by simp only [ZK,Yn,YL,h_2,h_3,cond_true,cond_false]
      rw [e]
      exact X9 E0Ok Z4 [] (mR false [0,3,4,1,30]) [] (ih (Yc + 1) (show 0≤(Yc + 1) from (by omega)) (by omega)) (q (sB h_3 <| sI (Yc + 1) y_6 y_7 <| sN)) (by kernel_rfl)
    | false =>
     have Y1p:=odf h_2
     have YY:(-9223372036854775808:Int)≤(Yc + 1):=by clear p; exact (by omega)
     have YZ:(Yc + 1)≤(9223372036854775807:Int):=by clear p; exact (by omega)
     have e:ZK Yu YX YO (k + 1) Yc=(ZK Yu YX YO k (Yc + 1)):=by simp only [ZK,Yn,YL,h_2,cond_true,cond_false]
     rw [e]
     exact X9 E0Ok Z4 [] (mR false [0,3,4,1,30]) [] (ih (Yc + 1) (show 0≤(Yc + 1) from (by omega)) (by omega)) (p (sB h_2 <| sB h_2 <| sB h_2 <| sB h_2 <| sB h_2 <| sB h_2 <| sB h_2 <| sB h_2 <| sB h_2 <| sB h_2 <| sB' YL <| sB h_2 <| sB' YL <| sB (show false=false from rfl) <| sI (Yc + 1) YY YZ <| sN)) (by kernel_rfl)
   | false =>
    have e:ZK Yu YX YO (k + 1) Yc=(.inl ()):=by simp only [ZK,Yn,YL,cond_true,cond_false]
    rw [e]
    exact outR (e := .ret) E0Ok Z4 [] (mR false [6,1,31]) [] (q (sB' YL <| sB' YL <| sB' YL <| sB' YL <| sB' YL <| sB (show true=true from rfl) <| sN)) (by kernel_rfl) (by intro h; cases h)
  | false =>
   have YM:=odf Yn
   have e:ZK Yu YX YO (k + 1) Yc=(.inr ()):=by simp only [ZK,Yn,cond_false]
   rw [e]
   exact outR (e:=(.exit 0)) E0Ok Z4 [] (mR false [38]) [] (p (sB Yn <| sN)) (by kernel_rfl) (by intro h; cases h)
def Z4a (Yu:(List Int)) (YX:Int) (YO:Int):(Unit) ⊕ (Unit):=(ZK Yu YX YO (((Yu.length:Int) - 0).toNat + 1) 0)
def Z4D (Yu:(List Int)) (YX:Int) (YO:Int):Bool:=(match (Z4a Yu YX YO) with
  | .inl r1 => false
  | .inr r1 => true)
theorem Zg2 (Yu:(List Int)) (YX:Int) (YO:Int) (hp0:Yu.length≤1073741824)  : Fn prog 120 [.sl (Yu.map (cI .i64)), .i .i64 YX, .i .i64 YO] (.b (Z4D Yu YX YO)) []:=by
 cases h0:(Z4a Yu YX YO) with
 | inl r1 =>
  refine fnS E0Ok Z4 (c:=X0 f120) [] (.b false) [] func120 (sL (mR false [0,3,4,1,30]) 0 (X1 (Z5L Yu YX YO) (x:=(Z4a Yu YX YO)) (Zak Yu YX YO hp0 (((Yu.length:Int) - 0).toNat + 1) 0 (show 0≤0 from (by omega)) (Nat.lt_succ_self _)) h0) <| sK [] sN) rfl (by kernel_rfl) (by kernel_rfl) rfl ?_ ?_
  · simp only [Z4D,h0]
  · rfl
 | inr r1 =>
  refine fnS E0Ok Z4 (c:=X0 f120) [] (.b true) [] func120 (sL (mR false [0,3,4,1,30]) 0 (X1 (Z5L Yu YX YO) (x:=(Z4a Yu YX YO)) (Zak Yu YX YO hp0 (((Yu.length:Int) - 0).toNat + 1) 0 (show 0≤0 from (by omega)) (Nat.lt_succ_self _)) h0) <| sK [] sN) rfl (by kernel_rfl) (by kernel_rfl) rfl ?_ ?_
  · simp only [Z4D,h0]
  · rfl
def Z3F (Ya:Gb) (Y2:(List Int)):Bool:=(Z4D Y2 0 (IntKind.wrap .i64 ((Ya.Me.Pq.length:Int) - 1)))
theorem Zgo (Ya:Gb) (Y2:(List Int)) (hp0:Ya.Me.Pq.length≤1073741824) (hp1:Ya.Me.Tr.length≤1073741824) (hp2:∀ t∈Ya.Me.Tr,t.length≤1073741824) (hp3:Ya.Sp.length≤1073741824) (hp4:Ya.We.length≤1073741824) (hp5:Y2.length≤1073741824)  : Fn prog 63 [.ref (Gb.c Ya) 0, .sl (Y2.map (cI .i64))] (.b (Z3F Ya Y2)) []:=by
 refine fnS E0Ok Z4 (c:=X0 f63) [] (.b (Z4D Y2 0 (IntKind.wrap .i64 ((Ya.Me.Pq.length:Int) - 1)))) [] func63 (sZ Gv.c Ya.Me.Pq <| sW .i64 ((Ya.Me.Pq.length:Int) - 1) <| sF (Zg2 Y2 0 (IntKind.wrap .i64 ((Ya.Me.Pq.length:Int) - 1)) hp5) <| sK [] sN) rfl (by kernel_rfl) (by kernel_rfl) rfl ?_ ?_
 · rfl
 · rfl
theorem ZiH (l:List Int) (h:Int):∀ (k:Nat) (i:Int),0≤i→ZK l 0 h k i = .inr ()→∀ j:Nat,i.toNat≤j→j < l.length→Zj (l.getD j default) 0 h=true:=by
  intro k
  induction k with
  | zero => intro i _ e; cases e
  | succ k ih =>
    intro i h0 e j hj hl
    rw [ZK,decide_eq_true (show i < (l.length:Int) from by omega),cond_true] at e
    cases hc:Zj (l.getD i.toNat default) 0 h with
    | false => rw [hc] at e; cases e
    | true =>
      have e2:ZK l 0 h k (i + 1) = .inr ():=by
        rw [hc,cond_true] at e
        cases h1:decide (i > 0) with
        | false => rw [h1,cond_false] at e; exact e
        | true =>
          rw [h1,cond_true] at e
          cases h2:decide ((l.getD (i - 1).toNat default) ≥ (l.getD i.toNat default)) with
          | true => rw [h2] at e; cases e
          | false => rw [h2,cond_false] at e; exact e
      by_cases hij:i.toNat=j
      · rw [← hij]; exact hc
      · exact ih (i + 1) (by omega) e2 j (by omega) hl
theorem Zgp (b:Gb) (l:List Int) (hn:b.Me.Pq.length≤1073741824) (h:Z3F b l=true):OkIx b.Me.Pq.length (fun x => x) l:=by
  intro x hx
  obtain ⟨j,hj,rfl⟩:=List.getElem_of_mem hx
  unfold Z3F Z4D Z4a at h
  cases e:ZK l 0 (IntKind.wrap .i64 ((b.Me.Pq.length:Int) - 1)) (((l.length:Int) - 0).toNat + 1) 0 with
  | inl r => rw [e] at h; cases h
  | inr r =>
    have:=ZiH l _ _ 0 (Int.le_refl 0) e j (by omega) hj
    rw [List.getD_eq_getElem?_getD,List.getElem?_eq_getElem hj,Option.getD_some] at this
    exact Zi6 (by omega) this
def Z8k (x_0:Nat):Bool:=(fcmp .eql .f32 (fop .sub .f32 x_0 x_0) 0)
theorem Zfw (x_0:Nat)   : Fn prog 121 [.f .f32 x_0] (.b (Z8k x_0)) []:=by
 refine fnS E0Ok Z4 (c:=X0 f121) [] (.b (fcmp .eql .f32 (fop .sub .f32 x_0 x_0) 0)) [] func121 (sK [] sN) rfl (by kernel_rfl) (by kernel_rfl) rfl ?_ ?_
 · rfl
 · rfl
def Z2J (x_0:Nat):Bool:=(cond (Z8k x_0)
  (fcmp .gtr .f32 x_0 0)
  false)
theorem Zal (x_0:Nat)   : Fn prog 69 [.f .f32 x_0] (.b (Z2J x_0)) []:=by
 have p {a C} (s:Scr a C):=sF (Zfw x_0) <| s
 cases h0:(Z8k x_0) with
 | true =>
  refine fnS E0Ok Z4 (c:=X0 f69) [] (.b (fcmp .gtr .f32 x_0 0)) [] func69 (p (sB h0 <| sB h0 <| sB h0 <| sK [] sN)) rfl (by kernel_rfl) (by kernel_rfl) rfl ?_ ?_
  · simp only [Z2J,h0,cond_true]
  · rfl
 | false =>
  refine fnS E0Ok Z4 (c:=X0 f69) [] (.b false) [] func69 (p (sB h0 <| sB h0 <| sB h0 <| sK [] sN)) rfl (by kernel_rfl) (by kernel_rfl) rfl ?_ ?_
  · simp only [Z2J,h0,cond_false]
  · rfl
def ZM (Y3:Gn) (Y2:(List Int)) (Y6:Nat) (Y1l:Nat):Bool:=(cond (Z4C Y3)
  (cond (Z3F Y3.Body Y2)
    (cond (Z2J Y6)
      (Z2J Y1l)
      false)
    false)
  false)
theorem ZgT (Y3:Gn) (Y2:(List Int)) (Y6:Nat) (Y1l:Nat) (hp0:Y3.Body.Me.Pq.length≤1073741824) (hp1:Y3.Body.Me.Tr.length≤1073741824) (hp2:∀ t∈Y3.Body.Me.Tr,t.length≤1073741824) (hp3:Y3.Body.Sp.length≤1073741824) (hp4:Y3.Body.We.length≤1073741824) (hp5:Y3.Sd.length≤1073741824) (hp6:Y2.length≤1073741824)  : Fn prog 76 [.ref (Gn.c Y3) 0, .sl (Y2.map (cI .i64)), .f .f32 Y6, .f .f32 Y1l] (.b (ZM Y3 Y2 Y6 Y1l)) []:=by
 have p {a C} (s:Scr a C):=sF (Zhn Y3 hp0 hp1 hp2 hp3 hp4 hp5) <| s
 cases h0:(Z4C Y3) with
 | true =>
  have q {a C} (s:Scr a C):=p (sB h0 <| sB h0 <| sB h0 <| sB h0 <| sB h0 <| sF (Fn.sub (args:=[.ref (Gn.c Y3) 0, .sl (Y2.map (cI .i64))]) (r := .b (Z3F Y3.Body Y2)) (new:=[]) [some 9,none] (Zgo Y3.Body Y2 hp0 hp1 hp2 hp3 hp4 hp6)) <| sB h0 <| s)
  clear p
  cases h1:(Z3F Y3.Body Y2) with
  | true =>
   have p {a C} (s:Scr a C):=q (sB h1 <| sB h1 <| sF (Zal Y6) <| sB h1 <| s)
   clear q
   cases h2:(Z2J Y6) with
   | true =>
    refine fnS E0Ok Z4 (c:=X0 f76) [] (.b (Z2J Y1l)) [] func76 (p (sB h2 <| sB h2 <| sF (Zal Y1l) <| sB h2 <| sK [] sN)) rfl (by kernel_rfl) (by kernel_rfl) rfl ?_ ?_
    · simp only [ZM,h0,h1,h2,cond_true]
    · rfl
   | false =>
    refine fnS E0Ok Z4 (c:=X0 f76) [] (.b false) [] func76 (p (sB h2 <| sB h2 <| sB h2 <| sK [] sN)) rfl (by kernel_rfl) (by kernel_rfl) rfl ?_ ?_
    · simp only [ZM,h0,h1,h2,cond_true,cond_false]
    · rfl
  | false =>
   refine fnS E0Ok Z4 (c:=X0 f76) [] (.b false) [] func76 (q (sB h1 <| sB h1 <| sB h1 <| sB (show false=false from rfl) <| sB (show false=false from rfl) <| sB (show false=false from rfl) <| sK [] sN)) rfl (by kernel_rfl) (by kernel_rfl) rfl ?_ ?_
   · simp only [ZM,h0,h1,cond_true,cond_false]
   · rfl
 | false =>
  refine fnS E0Ok Z4 (c:=X0 f76) [] (.b false) [] func76 (p (sB h0 <| sB h0 <| sB h0 <| sB h0 <| sB h0 <| sB h0 <| sB (show false=false from rfl) <| sB (show false=false from rfl) <| sB (show false=false from rfl) <| sB (show false=false from rfl) <| sB (show false=false from rfl) <| sB (show false=false from rfl) <| sK [] sN)) rfl (by kernel_rfl) (by kernel_rfl) rfl ?_ ?_
  · simp only [ZM,h0,cond_false]
  · rfl
theorem Zej (m:Gn) (h:List Int) (a t:Nat) (e:ZM m h a t=true):Z1z m.Body=true∧m.Sd.length=m.Body.Me.Pq.length∧Z3F m.Body h=true∧Z2J a=true∧Z2J t=true:=by
  unfold ZM Z4C at e
  cases h1:Z1z m.Body <;> rw [h1] at e <;> (try (cases e; done))
  cases h2:((m.Sd.length:Int) == (m.Body.Me.Pq.length:Int)) <;> rw [h2] at e <;> (try (cases e; done))
  cases h3:Z3F m.Body h <;> rw [h3] at e <;> (try (cases e; done))
  cases h4:Z2J a <;> rw [h4] at e <;> (try (cases e; done))
  rw [beq_iff_eq] at h2
  exact ⟨rfl,by omega,rfl,rfl,e⟩
def Z8i (Yu:(List Int)):(List Int):=(([]:List Int) ++ Yu)
theorem ZgU (Yu:(List Int)) (hp0:Yu.length≤1073741824)  : Fn prog 144 [.sl (Yu.map (cI .i64))] (.own 0) [.vec 2 1 ((Z8i Yu).map (cI .i64)) false]:=by
 have y0:([]:List Int).length + Yu.length≤1073741824:=(by simp_all <;> omega)
 refine fnS E0Ok Z4 (c:=X0 f144) [] (.own 0) [.vec 2 1 (([]:List (List AV)) ++ (Yu.map (cI .i64))) false] func144 (sC (show ([]:List (List AV)).length + (Yu.map (cI .i64)).length≤1073741824 from (by simpa using y0)) <| sC (show (Yu.map (cI .i64)).all (fun cs => cs.length == 1 && cs.all isS)=true from (X1f (fun _ => rfl))) <| sK [0] sN) rfl (by kernel_rfl) (by kernel_rfl) rfl ?_ ?_
 · rfl
 · simp [Z8i,cI]
@[simp] theorem Zij (l:List Int):Z8i l=l:=by simp [Z8i]
theorem ZgV (Yu:(List Int)) (hp0:Yu.length≤1073741824):Fn prog 144 [.sl (Yu.map (cI .i64))] (.own 0) [.vec 2 1 (Yu.map (cI .i64)) false]:=by
 simpa only [Zij] using ZgU  Yu hp0
def Z3v (Y3:Gm):Nat→Int→(List (List Int))→(List (List Int))
  | 0,_,_ => default
  | k + 1,Yc,Yb => (cond (decide (Yc < (Y3.Tr.length:Int)))
    (Z3v Y3 k (Yc + 1) (Yb ++ [(Y3.Tr.getD Yc.toNat default)]))
    Yb)
def Z8l (Y3:Gm) (r:(List (List Int))):Ex × St:=((.exit 0),⟨.ref (Gm.c Y3) 0 :: .any :: .ptr 0 0 0 :: .ptr 1 0 0 :: .any :: .any :: .ref (Gm.c Y3) 0 :: .ref (Gm.c Y3) 0 :: .ref (Gm.c Y3) 0 :: .sl (Y3.Pq.map Gv.c) :: .own 2 :: an 25 [],[.box 38 [.nils, .nils], .box 38 [.own 2, .own 3], .vec 40 3 (([]:List (List AV)) ++ (Y3.Pq.map Gv.c)) false, .nest 49 (r.map fun l => l.map (cI .i64)) false]⟩)
def Z8m (Y3:Gm) (Yc:Int) (Yb:(List (List Int))):St:=⟨.ref (Gm.c Y3) 0 :: .any :: .ptr 0 0 0 :: .ptr 3 0 0 :: .i .i64 Yc :: .any :: .ref (Gm.c Y3) 0 :: .ref (Gm.c Y3) 0 :: .ref (Gm.c Y3) 0 :: .sl (Y3.Pq.map Gv.c) :: .own 1 :: an 25 [],[.box 38 [.nils, .nils], .vec 40 3 (([]:List (List AV)) ++ (Y3.Pq.map Gv.c)) false, .nest 49 (Yb.map fun l => l.map (cI .i64)) false, .box 38 [.own 1, .own 2]]⟩
theorem Zfx (Y3:Gm) (hp0:Y3.Pq.length≤1073741824) (hp1:Y3.Tr.length≤1073741824) (hp2:∀ t∈Y3.Tr,t.length≤1073741824):∀ (k:Nat) (Yc:Int) (Yb:(List (List Int))) (Zam:0≤Yc) (Zan:(Yb.length:Int)=Yc) (hk:((Y3.Tr.length:Int) - Yc).toNat < k),Lp prog 0 (sub (X0 f130) [1,1,0,1,0,0]) (Z8m Y3 Yc Yb) (Z8l Y3 (Z3v Y3 k Yc Yb)).1 (Z8l Y3 (Z3v Y3 k Yc Yb)).2:=by
 intro k
 induction k with
 | zero => intro Yc Yb Zam Zan hk; exact absurd hk (Nat.not_lt_zero _)
 | succ k ih =>
  intro Yc Yb Zam Zan hk
  have p {a C} (s:Scr a C):=sZ (cL (cI .i64)) Y3.Tr <| s
  cases Yn:(decide (Yc < (Y3.Tr.length:Int))) with
  | true =>
   have YM:=odt Yn
   have YS:(0:Int)≤Yc:=by clear p; exact (by assumption)
   have YT:Yc < (Y3.Tr.length:Int):=by clear p; exact (by assumption)
   have YY:(Y3.Tr.getD Yc.toNat default).length≤1073741824:=by clear p; exact (by simp_all <;> omega)
   have YZ:Yb.length + [(Y3.Tr.getD Yc.toNat default)].length≤1073741824:=by clear p; exact (by simp_all <;> omega)
   have y_4:(-9223372036854775808:Int)≤(Yc + 1):=by clear p; exact (by omega)
   have y_5:(Yc + 1)≤(9223372036854775807:Int):=by clear p; exact (by omega)
   have e:Z3v Y3 (k + 1) Yc Yb=(Z3v Y3 k (Yc + 1) (Yb ++ [(Y3.Tr.getD Yc.toNat default)])):=by simp only [Z3v,Yn,cond_true]
   rw [e]
   exact X8 E0Ok Z4 [] (mR false [0,1,1,3,1,5,25]) [0,1,2,3] (⟨.ref (Gm.c Y3) 0 :: .any :: .ptr 0 0 0 :: .ptr 3 0 0 :: .i .i64 (Yc + 1) :: .any :: .ref (Gm.c Y3) 0 :: .ref (Gm.c Y3) 0 :: .ref (Gm.c Y3) 0 :: .sl (Y3.Pq.map Gv.c) :: .own 1 :: an 25 [],[.box 38 [.nils, .nils], .vec 40 3 (([]:List (List AV)) ++ (Y3.Pq.map Gv.c)) false, .nest 49 ((Yb.map fun l => l.map (cI .i64)) ++ [((Y3.Tr.getD Yc.toNat default).map (cI .i64))]) false, .box 38 [.own 1, .own 2]]⟩) (p (sB Yn <| sK [11,11] <| sG (cL (cI .i64)) Y3.Tr Yc YS YT <| sF (ZgV (Y3.Tr.getD Yc.toNat default) YY) <| sC (show (Yb.map fun l => l.map (cI .i64)).length + [((Y3.Tr.getD Yc.toNat default).map (cI .i64))].length≤1073741824 from (by simpa using YZ)) <| sI (Yc + 1) y_4 y_5 <| sN)) (by kernel_rfl) (by simp [Z8m,Gv.c,cL,cI]) (ih (Yc + 1) (Yb ++ [(Y3.Tr.getD Yc.toNat default)]) (show 0≤(Yc + 1) from (by omega)) (show ((Yb ++ [(Y3.Tr.getD Yc.toNat default)]).length:Int)=(Yc + 1) from (by simp_all <;> omega)) (by omega))
  | false =>
   have YM:=odf Yn
   have e:Z3v Y3 (k + 1) Yc Yb=Yb:=by simp only [Z3v,Yn,cond_false]
   rw [e]
   exact outR (e:=(.exit 0)) E0Ok Z4 [] (mR false [0,1,1,2,2,5,25]) [0,3,1,2] (p (sB Yn <| sN)) (by kernel_rfl) (by intro h; cases h)
def Z5M (Y3:Gm):(List (List Int)):=(Z3v Y3 (((Y3.Tr.length:Int) - 0).toNat + 1) 0 ([]:List (List Int)))
def Z6z (Y3:Gm):Gm:=(⟨(([]:List Gv) ++ Y3.Pq),(Z5M Y3)⟩:Gm)
theorem ZgW (Y3:Gm) (hp0:Y3.Pq.length≤1073741824) (hp1:Y3.Tr.length≤1073741824) (hp2:∀ t∈Y3.Tr,t.length≤1073741824)  : Fn prog 130 [.ref (Gm.c Y3) 0] (.agg [.own 0, .own 1]) [.vec 40 3 (((Z6z Y3).Pq).map Gv.c) false, .nest 49 (((Z6z Y3).Tr).map fun l => l.map (cI .i64)) false]:=by
 have y0:([]:List Gv).length + Y3.Pq.length≤1073741824:=(by simp_all <;> omega)
 refine fnS E0Ok Z4 (c:=X0 f130) [] (.agg [.own 0, .own 1]) [.vec 40 3 (([]:List (List AV)) ++ (Y3.Pq.map Gv.c)) false, .nest 49 ((Z5M Y3).map fun l => l.map (cI .i64)) false] func130 (sC (show ([]:List (List AV)).length + (Y3.Pq.map Gv.c).length≤1073741824 from (by simpa using y0)) <| sC (show (Y3.Pq.map Gv.c).all (fun cs => cs.length == 3 && cs.all isS)=true from (X1f (fun _ => rfl))) <| sL (mR false [0,1,1,3,1,5,25]) 4 (Xj (st2:=⟨.ref (Gm.c Y3) 0 :: .any :: .ptr 0 0 0 :: .ptr 3 0 0 :: .i .i64 0 :: .any :: .ref (Gm.c Y3) 0 :: .ref (Gm.c Y3) 0 :: .ref (Gm.c Y3) 0 :: .sl (Y3.Pq.map Gv.c) :: .own 1 :: an 25 [],[.box 38 [.nils, .nils], .vec 40 3 (([]:List (List AV)) ++ (Y3.Pq.map Gv.c)) false, .nest 49 [] false, .box 38 [.own 1, .own 2]]⟩) (X1 (Z8l Y3) (x:=(Z5M Y3)) (Zfx Y3 hp0 hp1 hp2 (((Y3.Tr.length:Int) - 0).toNat + 1) 0 ([]:List (List Int)) (show 0≤0 from (by omega)) (show (([]:List (List Int)).length:Int)=0 from (by simp)) (Nat.lt_succ_self _)) rfl) (by simp [Z8m,Gv.c,cL,cI])) <| sK [2,3] sN) rfl (by kernel_rfl) (by kernel_rfl) rfl ?_ ?_
 · rfl
 · simp [Z6z,Gv.c]
@[simp] theorem Zik (m:Gm):Z6z m=m:=by
  unfold Z6z Z5M
  rw [X2W (f:=fun i => (m.Tr.getD i.toNat default)) (n:=(m.Tr.length:Int)) (lo:=Z3v m) (fun k i r => rfl) _ _ _ (Nat.lt_succ_self _)]
  simp [X3y]
theorem ZgX (Y3:Gm) (hp0:Y3.Pq.length≤1073741824) (hp1:Y3.Tr.length≤1073741824) (hp2:∀ t∈Y3.Tr,t.length≤1073741824):Fn prog 130 [.ref (Gm.c Y3) 0] (.agg [.own 0, .own 1]) [.vec 40 3 (Y3.Pq.map Gv.c) false, .nest 49 (Y3.Tr.map fun l => l.map (cI .i64)) false]:=by
 simpa only [Zik] using ZgW  Y3 hp0 hp1 hp2
def Z3z (Ya:Gb):Gb:=(⟨Ya.Me,(([]:List Gs) ++ Ya.Sp),Ya.Film,Ya.Bend,(([]:List Nat) ++ Ya.We),Ya.Fall⟩:Gb)
theorem ZgY (Ya:Gb) (hp0:Ya.Me.Pq.length≤1073741824) (hp1:Ya.Me.Tr.length≤1073741824) (hp2:∀ t∈Ya.Me.Tr,t.length≤1073741824) (hp3:Ya.Sp.length≤1073741824) (hp4:Ya.We.length≤1073741824)  : Fn prog 86 [.ref (Gb.c Ya) 0] (.agg [.own 0, .own 1, .own 2, .f .f32 ((Z3z Ya).Film), .f .f32 ((Z3z Ya).Bend), .own 3, .f .f32 ((Z3z Ya).Fall.X), .f .f32 ((Z3z Ya).Fall.Y), .f .f32 ((Z3z Ya).Fall.Z)]) [.vec 40 3 (((Z3z Ya).Me.Pq).map Gv.c) false, .nest 49 (((Z3z Ya).Me.Tr).map fun l => l.map (cI .i64)) false, .vec 133 4 (((Z3z Ya).Sp).map Gs.c) false, .vec 27 1 (((Z3z Ya).We).map (cF .f32)) false]:=by
 have y0:([]:List Gs).length + Ya.Sp.length≤1073741824:=(by simp_all <;> omega)
 have y1:([]:List Nat).length + Ya.We.length≤1073741824:=(by simp_all <;> omega)
 refine fnS E0Ok Z4 (c:=X0 f86) [] (.agg [.own 0, .own 1, .own 2, .f .f32 Ya.Film, .f .f32 Ya.Bend, .own 3, .f .f32 Ya.Fall.X, .f .f32 Ya.Fall.Y, .f .f32 Ya.Fall.Z]) [.vec 40 3 (Ya.Me.Pq.map Gv.c) false, .nest 49 (Ya.Me.Tr.map fun l => l.map (cI .i64)) false, .vec 133 4 (([]:List (List AV)) ++ (Ya.Sp.map Gs.c)) false, .vec 27 1 (([]:List (List AV)) ++ (Ya.We.map (cF .f32))) false] func86 (sF (Fn.sub (args:=[.ref (Gb.c Ya) 0]) (r := .agg [.own 0, .own 1]) (new:=[.vec 40 3 (Ya.Me.Pq.map Gv.c) false, .nest 49 (Ya.Me.Tr.map fun l => l.map (cI .i64)) false]) [some 2] (ZgX Ya.Me hp0 hp1 hp2)) <| sC (show ([]:List (List AV)).length + (Ya.Sp.map Gs.c).length≤1073741824 from (by simpa using y0)) <| sC (show (Ya.Sp.map Gs.c).all (fun cs => cs.length == 4 && cs.all isS)=true from (X1f (fun _ => rfl))) <| sC (show ([]:List (List AV)).length + (Ya.We.map (cF .f32)).length≤1073741824 from (by simpa using y1)) <| sC (show (Ya.We.map (cF .f32)).all (fun cs => cs.length == 1 && cs.all isS)=true from (X1f (fun _ => rfl))) <| sK [2,3,4,5] sN) rfl (by kernel_rfl) (by kernel_rfl) rfl ?_ ?_
 · rfl
 · simp [Z3z,Gs.c,cF]
@[simp] theorem Zil (b:Gb):Z3z b=b:=by simp [Z3z]
theorem Zdy (Ya:Gb) (hp0:Ya.Me.Pq.length≤1073741824) (hp1:Ya.Me.Tr.length≤1073741824) (hp2:∀ t∈Ya.Me.Tr,t.length≤1073741824) (hp3:Ya.Sp.length≤1073741824) (hp4:Ya.We.length≤1073741824):Fn prog 86 [.ref (Gb.c Ya) 0] (.agg [.own 0, .own 1, .own 2, .f .f32 Ya.Film, .f .f32 Ya.Bend, .own 3, .f .f32 Ya.Fall.X, .f .f32 Ya.Fall.Y, .f .f32 Ya.Fall.Z]) [.vec 40 3 (Ya.Me.Pq.map Gv.c) false, .nest 49 (Ya.Me.Tr.map fun l => l.map (cI .i64)) false, .vec 133 4 (Ya.Sp.map Gs.c) false, .vec 27 1 (Ya.We.map (cF .f32)) false]:=by
 simpa only [Zil] using ZgY  Ya hp0 hp1 hp2 hp3 hp4
def Z24 (Y7:Gv) (Yo:Gv):Gv:=(⟨(fop .sub .f32 Y7.X Yo.X),(fop .sub .f32 Y7.Y Yo.Y),(fop .sub .f32 Y7.Z Yo.Z)⟩:Gv)
theorem Z5u (Y7:Gv) (Yo:Gv)   : Fn prog 99 [.agg [.f .f32 Y7.X, .f .f32 Y7.Y, .f .f32 Y7.Z], .agg [.f .f32 Yo.X, .f .f32 Yo.Y, .f .f32 Yo.Z]] (.agg [.f .f32 ((Z24 Y7 Yo).X), .f .f32 ((Z24 Y7 Yo).Y), .f .f32 ((Z24 Y7 Yo).Z)]) []:=by
 refine fnS E0Ok Z4 (c:=X0 f99) [] (.agg [.f .f32 (fop .sub .f32 Y7.X Yo.X), .f .f32 (fop .sub .f32 Y7.Y Yo.Y), .f .f32 (fop .sub .f32 Y7.Z Yo.Z)]) [] func99 (sK [] sN) rfl (by kernel_rfl) (by kernel_rfl) rfl ?_ ?_
 · rfl
 · rfl
theorem Z2R {n:Nat} {ts:List (List Int)} {i k:Int} (h:OkE n ts) (h0:0≤i) (hi:i < (ts.length:Int)) (k0:0≤k) (k3:k < 3) :
    (ts.getD i.toNat default).length=3∧0≤Int.tmod (k + 1) 3∧Int.tmod (k + 1) 3 < 3∧0≤Int.tmod (k + 2) 3∧Int.tmod (k + 2) 3 < 3 ∧
    (0≤(ts.getD i.toNat default).getD k.toNat default∧(ts.getD i.toNat default).getD k.toNat default < (n:Int)) ∧
    (0≤(ts.getD i.toNat default).getD (Int.tmod (k + 1) 3).toNat default∧(ts.getD i.toNat default).getD (Int.tmod (k + 1) 3).toNat default < (n:Int)) ∧
    (0≤(ts.getD i.toNat default).getD (Int.tmod (k + 2) 3).toNat default∧(ts.getD i.toNat default).getD (Int.tmod (k + 2) 3).toNat default < (n:Int)):=by
  have q1:=h.tris.at2 h0 hi k0 (.inl k3)
  have q2:=X6K (x:=k + 1) (by omega)
  have q3:=h.tris.at2 h0 hi q2.1 (.inl q2.2)
  have q4:=X6K (x:=k + 2) (by omega)
  have q5:=h.tris.at2 h0 hi q4.1 (.inl q4.2)
  exact ⟨q1.1,q2.1,q2.2,q4.1,q4.2,q1.2,q3.2,q5.2⟩
def Z4X (Y7:Gv) (Yo:Gv):Nat:=(fop .add .f32 (fop .add .f32 (fop .mul .f32 Y7.X Yo.X) (fop .mul .f32 Y7.Y Yo.Y)) (fop .mul .f32 Y7.Z Yo.Z))
theorem Z94 (Y7:Gv) (Yo:Gv)   : Fn prog 131 [.agg [.f .f32 Y7.X, .f .f32 Y7.Y, .f .f32 Y7.Z], .agg [.f .f32 Yo.X, .f .f32 Yo.Y, .f .f32 Yo.Z]] (.f .f32 (Z4X Y7 Yo)) []:=by
 refine fnS E0Ok Z4 (c:=X0 f131) [] (.f .f32 (fop .add .f32 (fop .add .f32 (fop .mul .f32 Y7.X Yo.X) (fop .mul .f32 Y7.Y Yo.Y)) (fop .mul .f32 Y7.Z Yo.Z))) [] func131 (sK [] sN) rfl (by kernel_rfl) (by kernel_rfl) rfl ?_ ?_
 · rfl
 · rfl
def Z5s (x_0:Nat):Nat:=(X2l x_0)
theorem Zfe (x_0:Nat)   : Fn prog 146 [.f .f64 x_0] (.f .f64 (Z5s x_0)) []:=by
 refine fnS E0Ok Z4 (c:=X0 f146) [] (.f .f64 (X2l x_0)) [] func146 (sK [] sN) rfl (by kernel_rfl) (by kernel_rfl) rfl ?_ ?_
 · rfl
 · rfl
def Z8n (x_0:Nat):Nat:=(fcv .f64 .f32 x_0)
theorem Zfy (x_0:Nat) (hp0:X1u .f64 .f32 x_0=true)  : Fn prog 145 [.f .f64 x_0] (.f .f32 (Z8n x_0)) []:=by
 refine fnS E0Ok Z4 (c:=X0 f145) [] (.f .f32 (fcv .f64 .f32 x_0)) [] func145 (sC hp0 <| sK [] sN) rfl (by kernel_rfl) (by kernel_rfl) rfl ?_ ?_
 · rfl
 · rfl
def Zaf (x_0:Nat):Nat:=(Z8n (Z5s (fcv .f32 .f64 x_0)))
theorem Zgq (x_0:Nat)   : Fn prog 136 [.f .f32 x_0] (.f .f32 (Zaf x_0)) []:=by
 have y0:X1u .f64 .f32 (Z5s (fcv .f32 .f64 x_0))=true:=(X3x _)
 refine fnS E0Ok Z4 (c:=X0 f136) [] (.f .f32 (Z8n (Z5s (fcv .f32 .f64 x_0)))) [] func136 (sC (Xo x_0) <| sF (Zfe (fcv .f32 .f64 x_0)) <| sF (Zfy (Z5s (fcv .f32 .f64 x_0)) y0) <| sK [] sN) rfl (by kernel_rfl) (by kernel_rfl) rfl ?_ ?_
 · rfl
 · rfl
def Z2u (v_0:Gv):Nat:=(Zaf (Z4X v_0 v_0))
theorem Z7N (v_0:Gv)   : Fn prog 98 [.agg [.f .f32 v_0.X, .f .f32 v_0.Y, .f .f32 v_0.Z]] (.f .f32 (Z2u v_0)) []:=by
 refine fnS E0Ok Z4 (c:=X0 f98) [] (.f .f32 (Zaf (Z4X v_0 v_0))) [] func98 (sF (Z94 v_0 v_0) <| sF (Zgq (Z4X v_0 v_0)) <| sK [] sN) rfl (by kernel_rfl) (by kernel_rfl) rfl ?_ ?_
 · rfl
 · rfl
def Z4M (x_0:Nat) (Y1h:Nat):Nat:=(cond (fcmp .gtr .f32 Y1h 0)
  (fop .quo .f32 x_0 Y1h)
  0)
theorem Zcw (x_0:Nat) (Y1h:Nat)   : Fn prog 87 [.f .f32 x_0, .f .f32 Y1h] (.f .f32 (Z4M x_0 Y1h)) []:=by
 cases h0:(fcmp .gtr .f32 Y1h 0) with
 | true =>
  refine fnS E0Ok Z4 (c:=X0 f87) [] (.f .f32 (fop .quo .f32 x_0 Y1h)) [] func87 (sB h0 <| sK [] sN) rfl (by kernel_rfl) (by kernel_rfl) rfl ?_ ?_
  · simp only [Z4M,h0,cond_true]
  · rfl
 | false =>
  refine fnS E0Ok Z4 (c:=X0 f87) [] (.f .f32 0) [] func87 (sB h0 <| sK [] sN) rfl (by kernel_rfl) (by kernel_rfl) rfl ?_ ?_
  · simp only [Z4M,h0,cond_false]
  · rfl
def ZbG (Ya:Gb) (x_1:Gs):Nat:=(fop .mul .f32 x_1.Stiff (fop .sub .f32 (Z2u (Z24 (Ya.Me.Pq.getD x_1.B.toNat default) (Ya.Me.Pq.getD x_1.A.toNat default))) x_1.Long))
def ZbH (Ya:Gb) (x_1:Gs):Nat:=(Z4M (ZbG Ya x_1) (Z2u (Z24 (Ya.Me.Pq.getD x_1.B.toNat default) (Ya.Me.Pq.getD x_1.A.toNat default))))
def Z38 (Ya:Gb) (x_1:Gs):Gv × Nat:=((Z24 (Ya.Me.Pq.getD x_1.B.toNat default) (Ya.Me.Pq.getD x_1.A.toNat default)),(ZbH Ya x_1))
theorem ZgZ (Ya:Gb) (x_1:Gs) (hp0:Ya.Me.Pq.length≤1073741824) (hp1:Ya.Me.Tr.length≤1073741824) (hp2:∀ t∈Ya.Me.Tr,t.length≤1073741824) (hp3:Ya.Sp.length≤1073741824) (hp4:Ya.We.length≤1073741824) (hp5:0≤x_1.A) (hp6:x_1.A < (Ya.Me.Pq.length:Int)) (hp7:0≤x_1.B) (hp8:x_1.B < (Ya.Me.Pq.length:Int))  : Fn prog 96 [.ref (Gb.c Ya) 0, .ref (Gs.c x_1) 0] (.tup [.agg [.f .f32 ((Z38 Ya x_1).1.X), .f .f32 ((Z38 Ya x_1).1.Y), .f .f32 ((Z38 Ya x_1).1.Z)], .f .f32 ((Z38 Ya x_1).2)]) []:=by
 have y0:(0:Int)≤x_1.B:=(by assumption)
 have y1:(0:Int)≤x_1.A:=(by assumption)
 refine fnS E0Ok Z4 (c:=X0 f96) [] (.tup [.agg [.f .f32 ((Z24 (Ya.Me.Pq.getD x_1.B.toNat default) (Ya.Me.Pq.getD x_1.A.toNat default)).X), .f .f32 ((Z24 (Ya.Me.Pq.getD x_1.B.toNat default) (Ya.Me.Pq.getD x_1.A.toNat default)).Y), .f .f32 ((Z24 (Ya.Me.Pq.getD x_1.B.toNat default) (Ya.Me.Pq.getD x_1.A.toNat default)).Z)], .f .f32 (ZbH Ya x_1)]) [] func96 (sK [24,24] <| sG Gv.c Ya.Me.Pq x_1.B y0 hp8 <| sG Gv.c Ya.Me.Pq x_1.A y1 hp6 <| sF (Z5u (Ya.Me.Pq.getD x_1.B.toNat default) (Ya.Me.Pq.getD x_1.A.toNat default)) <| sF (Z7N (Z24 (Ya.Me.Pq.getD x_1.B.toNat default) (Ya.Me.Pq.getD x_1.A.toNat default))) <| sK [14,14] <| sF (Zcw (ZbG Ya x_1) (Z2u (Z24 (Ya.Me.Pq.getD x_1.B.toNat default) (Ya.Me.Pq.getD x_1.A.toNat default)))) <| sK [] sN) rfl (by kernel_rfl) (by kernel_rfl) rfl ?_ ?_
 · rfl
 · rfl
def Zr (v_0:Gv) (YH:Nat):Gv:=(⟨(fop .mul .f32 v_0.X YH),(fop .mul .f32 v_0.Y YH),(fop .mul .f32 v_0.Z YH)⟩:Gv)
theorem Z3o (v_0:Gv) (YH:Nat)   : Fn prog 90 [.agg [.f .f32 v_0.X, .f .f32 v_0.Y, .f .f32 v_0.Z], .f .f32 YH] (.agg [.f .f32 ((Zr v_0 YH).X), .f .f32 ((Zr v_0 YH).Y), .f .f32 ((Zr v_0 YH).Z)]) []:=by
 refine fnS E0Ok Z4 (c:=X0 f90) [] (.agg [.f .f32 (fop .mul .f32 v_0.X YH), .f .f32 (fop .mul .f32 v_0.Y YH), .f .f32 (fop .mul .f32 v_0.Z YH)]) [] func90 (sK [] sN) rfl (by kernel_rfl) (by kernel_rfl) rfl ?_ ?_
 · rfl
 · rfl
def ZI (Y7:Gv) (Yo:Gv):Gv:=(⟨(fop .add .f32 Y7.X Yo.X),(fop .add .f32 Y7.Y Yo.Y),(fop .add .f32 Y7.Z Yo.Z)⟩:Gv)
theorem Z3A (Y7:Gv) (Yo:Gv)   : Fn prog 89 [.agg [.f .f32 Y7.X, .f .f32 Y7.Y, .f .f32 Y7.Z], .agg [.f .f32 Yo.X, .f .f32 Yo.Y, .f .f32 Yo.Z]] (.agg [.f .f32 ((ZI Y7 Yo).X), .f .f32 ((ZI Y7 Yo).Y), .f .f32 ((ZI Y7 Yo).Z)]) []:=by
 refine fnS E0Ok Z4 (c:=X0 f89) [] (.agg [.f .f32 (fop .add .f32 Y7.X Yo.X), .f .f32 (fop .add .f32 Y7.Y Yo.Y), .f .f32 (fop .add .f32 Y7.Z Yo.Z)]) [] func89 (sK [] sN) rfl (by kernel_rfl) (by kernel_rfl) rfl ?_ ?_
 · rfl
 · rfl
def Z4Y (Y7:Gv) (Yo:Gv):Gv:=(⟨(fop .sub .f32 (fop .mul .f32 Y7.Y Yo.Z) (fop .mul .f32 Y7.Z Yo.Y)),(fop .sub .f32 (fop .mul .f32 Y7.Z Yo.X) (fop .mul .f32 Y7.X Yo.Z)),(fop .sub .f32 (fop .mul .f32 Y7.X Yo.Y) (fop .mul .f32 Y7.Y Yo.X))⟩:Gv)
theorem Zc7 (Y7:Gv) (Yo:Gv)   : Fn prog 100 [.agg [.f .f32 Y7.X, .f .f32 Y7.Y, .f .f32 Y7.Z], .agg [.f .f32 Yo.X, .f .f32 Yo.Y, .f .f32 Yo.Z]] (.agg [.f .f32 ((Z4Y Y7 Yo).X), .f .f32 ((Z4Y Y7 Yo).Y), .f .f32 ((Z4Y Y7 Yo).Z)]) []:=by
 refine fnS E0Ok Z4 (c:=X0 f100) [] (.agg [.f .f32 (fop .sub .f32 (fop .mul .f32 Y7.Y Yo.Z) (fop .mul .f32 Y7.Z Yo.Y)), .f .f32 (fop .sub .f32 (fop .mul .f32 Y7.Z Yo.X) (fop .mul .f32 Y7.X Yo.Z)), .f .f32 (fop .sub .f32 (fop .mul .f32 Y7.X Yo.Y) (fop .mul .f32 Y7.Y Yo.X))]) [] func100 (sK [] sN) rfl (by kernel_rfl) (by kernel_rfl) rfl ?_ ?_
 · rfl
 · rfl
def Z5B (Y3:Gm) (t_1:(List Int)):Gv:=(Z4Y (Z24 (Y3.Pq.getD (t_1.getD 1 default).toNat default) (Y3.Pq.getD (t_1.getD 0 default).toNat default)) (Z24 (Y3.Pq.getD (t_1.getD 2 default).toNat default) (Y3.Pq.getD (t_1.getD 0 default).toNat default)))
def Zg (Y3:Gm) (t_1:(List Int)):Gv:=(Z5B Y3 t_1)
theorem ZbI (Y3:Gm) (t_1:(List Int)) (hp0:Y3.Pq.length≤1073741824) (hp1:Y3.Tr.length≤1073741824) (hp2:∀ t∈Y3.Tr,t.length≤1073741824) (hp3:t_1.length≤1073741824) (hp4:t_1.length=3∧∀ x∈t_1,0≤x∧x < (Y3.Pq.length:Int))  : Fn prog 97 [.ref (Gm.c Y3) 0, .sl (t_1.map (cI .i64))] (.agg [.f .f32 ((Zg Y3 t_1).X), .f .f32 ((Zg Y3 t_1).Y), .f .f32 ((Zg Y3 t_1).Z)]) []:=by
 have y0:(0:Int)≤0:=(by omega)
 have y1:0 < (t_1.length:Int):=(by omega)
 have y2:(0:Int)≤(t_1.getD 0 default):=(by have q:=Okt.at hp4; omega)
 have y3:(t_1.getD 0 default) < (Y3.Pq.length:Int):=(by have q:=Okt.at hp4; omega)
 have y4:(0:Int)≤1:=(by omega)
 have y5:1 < (t_1.length:Int):=(by omega)
 have y6:(0:Int)≤(t_1.getD 1 default):=(by have q:=Okt.at hp4; omega)
 have y7:(t_1.getD 1 default) < (Y3.Pq.length:Int):=(by have q:=Okt.at hp4; omega)
 have y8:(0:Int)≤2:=(by omega)
 have y9:2 < (t_1.length:Int):=(by omega)
 have y10:(0:Int)≤(t_1.getD 2 default):=(by have q:=Okt.at hp4; omega)
 have y11:(t_1.getD 2 default) < (Y3.Pq.length:Int):=(by have q:=Okt.at hp4; omega)
 refine fnS E0Ok Z4 (c:=X0 f97) [] (.agg [.f .f32 ((Z5B Y3 t_1).X), .f .f32 ((Z5B Y3 t_1).Y), .f .f32 ((Z5B Y3 t_1).Z)]) [] func97 (sK [10,10] <| sG (cI .i64) t_1 0 y0 y1 <| sG Gv.c Y3.Pq (t_1.getD 0 default) y2 y3 <| sK [21,21] <| sG (cI .i64) t_1 1 y4 y5 <| sG Gv.c Y3.Pq (t_1.getD 1 default) y6 y7 <| sF (Z5u (Y3.Pq.getD (t_1.getD 1 default).toNat default) (Y3.Pq.getD (t_1.getD 0 default).toNat default)) <| sG (cI .i64) t_1 2 y8 y9 <| sG Gv.c Y3.Pq (t_1.getD 2 default) y10 y11 <| sF (Z5u (Y3.Pq.getD (t_1.getD 2 default).toNat default) (Y3.Pq.getD (t_1.getD 0 default).toNat default)) <| sF (Zc7 (Z24 (Y3.Pq.getD (t_1.getD 1 default).toNat default) (Y3.Pq.getD (t_1.getD 0 default).toNat default)) (Z24 (Y3.Pq.getD (t_1.getD 2 default).toNat default) (Y3.Pq.getD (t_1.getD 0 default).toNat default))) <| sK [] sN) rfl (by kernel_rfl) (by kernel_rfl) rfl ?_ ?_
 · rfl
 · rfl
def Z3B (Y7:Int) (Yo:Int):Int:=(cond (decide (Y7 < Yo))
  Y7
  Yo)
theorem Zh0 (Y7:Int) (Yo:Int)   : Fn prog 147 [.i .i64 Y7, .i .i64 Yo] (.i .i64 (Z3B Y7 Yo)) []:=by
 cases h0:(decide (Y7 < Yo)) with
 | true =>
  have gh0:=odt h0
  refine fnS E0Ok Z4 (c:=X0 f147) [] (.i .i64 Y7) [] func147 (sB h0 <| sK [] sN) rfl (by kernel_rfl) (by kernel_rfl) rfl ?_ ?_
  · simp only [Z3B,h0,cond_true]
  · rfl
 | false =>
  have gh0:=odf h0
  refine fnS E0Ok Z4 (c:=X0 f147) [] (.i .i64 Yo) [] func147 (sB h0 <| sK [] sN) rfl (by kernel_rfl) (by kernel_rfl) rfl ?_ ?_
  · simp only [Z3B,h0,cond_false]
  · rfl
theorem ZbJ {a b n:Int} (h1:0≤a∧a < n) (h2:0≤b∧b < n):0≤Z3B a b∧Z3B a b < n:=by
  unfold Z3B; cases decide (a < b) <;> simp only [cond_true,cond_false] <;> omega
def Z3C (Y7:Int) (Yo:Int):Int:=(cond (decide (Y7 > Yo))
  Y7
  Yo)
theorem Zh1 (Y7:Int) (Yo:Int)   : Fn prog 148 [.i .i64 Y7, .i .i64 Yo] (.i .i64 (Z3C Y7 Yo)) []:=by
 cases h0:(decide (Y7 > Yo)) with
 | true =>
  have gh0:=odt h0
  refine fnS E0Ok Z4 (c:=X0 f148) [] (.i .i64 Y7) [] func148 (sB h0 <| sK [] sN) rfl (by kernel_rfl) (by kernel_rfl) rfl ?_ ?_
  · simp only [Z3C,h0,cond_true]
  · rfl
 | false =>
  have gh0:=odf h0
  refine fnS E0Ok Z4 (c:=X0 f148) [] (.i .i64 Yo) [] func148 (sB h0 <| sK [] sN) rfl (by kernel_rfl) (by kernel_rfl) rfl ?_ ?_
  · simp only [Z3C,h0,cond_false]
  · rfl
theorem ZbK {a b n:Int} (h1:0≤a∧a < n) (h2:0≤b∧b < n):0≤Z3C a b∧Z3C a b < n:=by
  unfold Z3C; cases decide (a > b) <;> simp only [cond_true,cond_false] <;> omega
theorem ZcY (a b:Int):(⟨Z3B a b,Z3C a b⟩:Gedge)=mkE a b:=by
  unfold Z3B Z3C mkE
  by_cases h:a < b
  · rw [decide_eq_true h,decide_eq_false (by omega),if_pos (by omega)]; rfl
  · rw [decide_eq_false h]
    by_cases h2:a > b
    · rw [decide_eq_true h2,if_neg (by omega)]; rfl
    · rw [decide_eq_false h2,show a=b from by omega,if_pos (by omega)]; rfl
def Z1B (Y3:Gm) (Yc:Int) (Yg:Int):Int:=(Z3B ((Y3.Tr.getD Yc.toNat default).getD Yg.toNat default) ((Y3.Tr.getD Yc.toNat default).getD (Int.tmod (Yg + 1) 3).toNat default))
def Z1S (Y3:Gm) (Yc:Int) (Yg:Int):Int:=(Z3C ((Y3.Tr.getD Yc.toNat default).getD Yg.toNat default) ((Y3.Tr.getD Yc.toNat default).getD (Int.tmod (Yg + 1) 3).toNat default))
def ZX (Y3:Gm) (Yc:Int) (Y4:(List Bool)):Nat→Int→(List Bool)→(List Bool)
  | 0,_,_ => default
  | k + 1,Yg,Yz => (cond (decide (Yg < 3))
    (ZX Y3 Yc Y4 k (Yg + 1) (Yz.set ((IntKind.wrap .i64 ((IntKind.wrap .i64 ((Z1B Y3 Yc Yg) * (Y3.Pq.length:Int))) + (Z1S Y3 Yc Yg))).toNat) true))
    Yz)
def Z7l (Y3:Gm) (Yc:Int) (Y4:(List Bool)) (r:(List Bool)):Ex × St:=((.exit 2),⟨.ref (Gm.c Y3) 0 :: .any :: .nils :: .i .i64 (Y3.Pq.length:Int) :: .own 0 :: .i .i64 Yc :: .sl ((Y3.Tr.getD Yc.toNat default).map (cI .i64)) :: an 6 (.ref (Gm.c Y3) 0 :: .ref (Gm.c Y3) 0 :: .ref (Gm.c Y3) 0 :: .sl (Y3.Pq.map Gv.c) :: .i .i64 (Y3.Pq.length:Int) :: .i .i64 (Y3.Pq.length:Int) :: .i .i64 (Y3.Pq.length:Int) :: .i .i64 (IntKind.wrap .i64 ((Y3.Pq.length:Int) * (Y3.Pq.length:Int))) :: .own 0 :: .i .i64 Yc :: .ref (Gm.c Y3) 0 :: .ref (Gm.c Y3) 0 :: .ref (Gm.c Y3) 1 :: .sl (Y3.Tr.map (cL (cI .i64))) :: .i .i64 (Y3.Tr.length:Int) :: .b (decide (Yc < (Y3.Tr.length:Int))) :: .any :: .any :: .ref (Gm.c Y3) 0 :: .ref (Gm.c Y3) 0 :: .ref (Gm.c Y3) 1 :: .sl (Y3.Tr.map (cL (cI .i64))) :: .i .i64 Yc :: .ref [.sl ((Y3.Tr.getD Yc.toNat default).map (cI .i64))] 0 :: .sl ((Y3.Tr.getD Yc.toNat default).map (cI .i64)) :: an 53 []),[.vec 4 1 (r.map cB) false]⟩)
def Zao (Y3:Gm) (Yc:Int) (Y4:(List Bool)) (Yg:Int) (Yz:(List Bool)):St:=⟨.ref (Gm.c Y3) 0 :: .any :: .nils :: .i .i64 (Y3.Pq.length:Int) :: .own 0 :: .i .i64 Yc :: .sl ((Y3.Tr.getD Yc.toNat default).map (cI .i64)) :: .i .i64 Yg :: an 5 (.ref (Gm.c Y3) 0 :: .ref (Gm.c Y3) 0 :: .ref (Gm.c Y3) 0 :: .sl (Y3.Pq.map Gv.c) :: .i .i64 (Y3.Pq.length:Int) :: .i .i64 (Y3.Pq.length:Int) :: .i .i64 (Y3.Pq.length:Int) :: .i .i64 (IntKind.wrap .i64 ((Y3.Pq.length:Int) * (Y3.Pq.length:Int))) :: .own 0 :: .i .i64 Yc :: .ref (Gm.c Y3) 0 :: .ref (Gm.c Y3) 0 :: .ref (Gm.c Y3) 1 :: .sl (Y3.Tr.map (cL (cI .i64))) :: .i .i64 (Y3.Tr.length:Int) :: .b (decide (Yc < (Y3.Tr.length:Int))) :: .any :: .any :: .ref (Gm.c Y3) 0 :: .ref (Gm.c Y3) 0 :: .ref (Gm.c Y3) 1 :: .sl (Y3.Tr.map (cL (cI .i64))) :: .i .i64 Yc :: .ref [.sl ((Y3.Tr.getD Yc.toNat default).map (cI .i64))] 0 :: .sl ((Y3.Tr.getD Yc.toNat default).map (cI .i64)) :: an 53 []),[.vec 4 1 (Yz.map cB) false]⟩
def Z95:List Bool:=(mR false [0,1,1,6,5,16,2,7,53])
def ZcZ:List Bool:=(mR false [0,1,1,5,6,16,2,7,53])
set_option maxHeartbeats 1000000 in
theorem Zek (Y3:Gm) (Yc:Int) (Y4:(List Bool)) (hp0:Y3.Pq.length≤1073741824) (hp1:Y3.Tr.length≤1073741824) (hp2:∀ t∈Y3.Tr,t.length≤1073741824) (hp3:OkE Y3.Pq.length Y3.Tr) (Z2Z:0≤Yc) (Z5e:Y4.length=(IntKind.wrap .i64 ((Y3.Pq.length:Int) * (Y3.Pq.length:Int))).toNat) (Zi7:(decide (Yc < (Y3.Tr.length:Int)))=true):∀ (k:Nat) (Yg:Int) (Yz:(List Bool)) (Z3X:0≤Yg) (Z96:Yz.length=Y4.length) (hk:((3:Int) - Yg).toNat < k),Lp prog 0 (sub (X0 f137) [1,1,1,0,1,0,0,1,0,0,1,1,0,0]) (Zao Y3 Yc Y4 Yg Yz) (Z7l Y3 Yc Y4 (ZX Y3 Yc Y4 k Yg Yz)).1 (Z7l Y3 Yc Y4 (ZX Y3 Yc Y4 k Yg Yz)).2:=by
 intro k
 induction k with
 | zero => intro Yg Yz Z3X Z96 hk; exact absurd hk (Nat.not_lt_zero _)
 | succ k ih =>
  intro Yg Yz Z3X Z96 hk
  cases YW:(decide (Yg < 3)) with
  | true =>
   have YU:=odt YW
   have Y1d:(0:Int)≤Yg:=(by assumption)
   have Y1e:Yg < ((Y3.Tr.getD Yc.toNat default).length:Int):=(by ((have q:=OkE.at (by assumption) Z2Z (odt (by assumption)) Z3X (odt (by assumption)); omega)))
   have Y1b:(-9223372036854775808:Int)≤(Yg + 1):=(by omega)
   have Y18:(Yg + 1)≤(9223372036854775807:Int):=(by omega)
   have Y1f:(0:Int)≤(Int.tmod (Yg + 1) 3):=(by ((have q:=OkE.at (by assumption) Z2Z (odt (by assumption)) Z3X (odt (by assumption)); omega)))
   have Y1m:(Int.tmod (Yg + 1) 3) < ((Y3.Tr.getD Yc.toNat default).length:Int):=(by ((have q:=OkE.at (by assumption) Z2Z (odt (by assumption)) Z3X (odt (by assumption)); omega)))
   have Y1i:(0:Int)≤(IntKind.wrap .i64 ((IntKind.wrap .i64 ((Z1B Y3 Yc Yg) * (Y3.Pq.length:Int))) + (Z1S Y3 Yc Yg))):=(by ((have q:=OkE.at (by assumption) Z2Z (odt (by assumption)) Z3X (odt (by assumption)); have q2:=ix2F q.2.2.2.2.2.1 (ZbJ q.2.2.2.1 q.2.2.2.2.1).1 (ZbJ q.2.2.2.1 q.2.2.2.2.1).2 (ZbK q.2.2.2.1 q.2.2.2.2.1).1 (ZbK q.2.2.2.1 q.2.2.2.2.1).2; unfold Z1B Z1S; omega)))
   have Y1n:(IntKind.wrap .i64 ((IntKind.wrap .i64 ((Z1B Y3 Yc Yg) * (Y3.Pq.length:Int))) + (Z1S Y3 Yc Yg))) < (Yz.length:Int):=(by ((have q:=OkE.at (by assumption) Z2Z (odt (by assumption)) Z3X (odt (by assumption)); have q2:=ix2F q.2.2.2.2.2.1 (ZbJ q.2.2.2.1 q.2.2.2.2.1).1 (ZbJ q.2.2.2.1 q.2.2.2.2.1).2 (ZbK q.2.2.2.1 q.2.2.2.2.1).1 (ZbK q.2.2.2.1 q.2.2.2.2.1).2; unfold Z1B Z1S; omega)))
   have Y1A:(IntKind.wrap .i64 ((IntKind.wrap .i64 ((Z1B Y3 Yc Yg) * (Y3.Pq.length:Int))) + (Z1S Y3 Yc Yg))).toNat < Yz.length:=(by omega)
   have e:ZX Y3 Yc Y4 (k + 1) Yg Yz=(ZX Y3 Yc Y4 k (Yg + 1) (Yz.set ((IntKind.wrap .i64 ((IntKind.wrap .i64 ((Z1B Y3 Yc Yg) * (Y3.Pq.length:Int))) + (Z1S Y3 Yc Yg))).toNat) true)):=by simp only [ZX,YW,cond_true]
   rw [e]
   exact X8 E0Ok Z4 [] Z95 [0] (⟨.ref (Gm.c Y3) 0 :: .any :: .nils :: .i .i64 (Y3.Pq.length:Int) :: .own 0 :: .i .i64 Yc :: .sl ((Y3.Tr.getD Yc.toNat default).map (cI .i64)) :: .i .i64 (Yg + 1) :: an 5 (.ref (Gm.c Y3) 0 :: .ref (Gm.c Y3) 0 :: .ref (Gm.c Y3) 0 :: .sl (Y3.Pq.map Gv.c) :: .i .i64 (Y3.Pq.length:Int) :: .i .i64 (Y3.Pq.length:Int) :: .i .i64 (Y3.Pq.length:Int) :: .i .i64 (IntKind.wrap .i64 ((Y3.Pq.length:Int) * (Y3.Pq.length:Int))) :: .own 0 :: .i .i64 Yc :: .ref (Gm.c Y3) 0 :: .ref (Gm.c Y3) 0 :: .ref (Gm.c Y3) 1 :: .sl (Y3.Tr.map (cL (cI .i64))) :: .i .i64 (Y3.Tr.length:Int) :: .b (decide (Yc < (Y3.Tr.length:Int))) :: .any :: .any :: .ref (Gm.c Y3) 0 :: .ref (Gm.c Y3) 0 :: .ref (Gm.c Y3) 1 :: .sl (Y3.Tr.map (cL (cI .i64))) :: .i .i64 Yc :: .ref [.sl ((Y3.Tr.getD Yc.toNat default).map (cI .i64))] 0 :: .sl ((Y3.Tr.getD Yc.toNat default).map (cI .i64)) :: an 53 []),[.vec 4 1 ((Yz.map cB).set ((IntKind.wrap .i64 ((IntKind.wrap .i64 ((Z1B Y3 Yc Yg) * (Y3.Pq.length:Int))) + (Z1S Y3 Yc Yg))).toNat) [.b true]) false]⟩) (sB YW <| sG (cI .i64) (Y3.Tr.getD Yc.toNat default) Yg Y1d Y1e <| sI (Yg + 1) Y1b Y18 <| sC (show (3:Int)≠0 from (by decide)) <| sQ (Int.tmod (Yg + 1) 3) <| sG (cI .i64) (Y3.Tr.getD Yc.toNat default) (Int.tmod (Yg + 1) 3) Y1f Y1m <| sF (Zh0 ((Y3.Tr.getD Yc.toNat default).getD Yg.toNat default) ((Y3.Tr.getD Yc.toNat default).getD (Int.tmod (Yg + 1) 3).toNat default)) <| sW .i64 ((Z1B Y3 Yc Yg) * (Y3.Pq.length:Int)) <| sF (Zh1 ((Y3.Tr.getD Yc.toNat default).getD Yg.toNat default) ((Y3.Tr.getD Yc.toNat default).getD (Int.tmod (Yg + 1) 3).toNat default)) <| sW .i64 ((IntKind.wrap .i64 ((Z1B Y3 Yc Yg) * (Y3.Pq.length:Int))) + (Z1S Y3 Yc Yg)) <| sX cB Yz (IntKind.wrap .i64 ((IntKind.wrap .i64 ((Z1B Y3 Yc Yg) * (Y3.Pq.length:Int))) + (Z1S Y3 Yc Yg))) Y1i Y1n <| sC (Xn (c:=cB) (l:=Yz) Y1A) <| sI (Yg + 1) Y1b Y18 <| sN) (by kernel_rfl) (by simp [Zao,cL,cI,cB]) (ih (Yg + 1) (Yz.set ((IntKind.wrap .i64 ((IntKind.wrap .i64 ((Z1B Y3 Yc Yg) * (Y3.Pq.length:Int))) + (Z1S Y3 Yc Yg))).toNat) true) (show 0≤(Yg + 1) from (by omega)) (show (Yz.set ((IntKind.wrap .i64 ((IntKind.wrap .i64 ((Z1B Y3 Yc Yg) * (Y3.Pq.length:Int))) + (Z1S Y3 Yc Yg))).toNat) true).length=Y4.length from (by simp_all <;> omega)) (by omega))
  | false =>
   have YU:=odf YW
   have e:ZX Y3 Yc Y4 (k + 1) Yg Yz=Yz:=by simp only [ZX,YW,cond_false]
   rw [e]
   exact outR (e:=(.exit 2)) E0Ok Z4 [] ZcZ [0] (sB YW <| sN) (by kernel_rfl) (by intro h; cases h)
theorem Zd0 (Y3:Gm) (Yc:Int) (Y4:(List Bool)):∀ (k:Nat) (Yg:Int) (Yz:(List Bool)) (hk:((3:Int) - Yg).toNat < k),(ZX Y3 Yc Y4 k Yg Yz).length=Yz.length:=by
  intro k
  induction k with
  | zero => intro Yg Yz hk; exact absurd hk (Nat.not_lt_zero _)
  | succ k ih =>
    intro Yg Yz hk
    cases YW:(decide (Yg < 3)) with
    | true =>
      have e:ZX Y3 Yc Y4 (k + 1) Yg Yz=(ZX Y3 Yc Y4 k (Yg + 1) (Yz.set ((IntKind.wrap .i64 ((IntKind.wrap .i64 ((Z1B Y3 Yc Yg) * (Y3.Pq.length:Int))) + (Z1S Y3 Yc Yg))).toNat) true)):=by simp only [ZX,YW,cond_true]
      rw [e,ih (Yg + 1) (Yz.set ((IntKind.wrap .i64 ((IntKind.wrap .i64 ((Z1B Y3 Yc Yg) * (Y3.Pq.length:Int))) + (Z1S Y3 Yc Yg))).toNat) true) (by simp_all <;> omega)]; simp
    | false =>
      have e:ZX Y3 Yc Y4 (k + 1) Yg Yz=Yz:=by simp only [ZX,YW,cond_false]
      first | (rw [e]; done) | (rw [e]; rfl)
def Z2n (Y3:Gm) (Yc:Int) (Y4:(List Bool)):(List Bool):=(ZX Y3 Yc Y4 (((3:Int) - 0).toNat + 1) 0 Y4)
@[simp] theorem ZaY (Y3:Gm) (Yc:Int) (Y4:(List Bool)):(Z2n Y3 Yc Y4).length=(Y4:(List Bool)).length:=Zd0 Y3 Yc Y4 (((3:Int) - 0).toNat + 1) 0 Y4 (by exact Nat.lt_succ_self _)
def Z1l (Y3:Gm):Nat→Int→(List Bool)→(List Bool)
  | 0,_,_ => default
  | k + 1,Yc,Y4 => (cond (decide (Yc < (Y3.Tr.length:Int)))
    (Z1l Y3 k (Yc + 1) (Z2n Y3 Yc Y4))
    Y4)
def Z7m (Y3:Gm) (r:(List Bool)):Ex × St:=((.exit 0),⟨.ref (Gm.c Y3) 0 :: .any :: .nils :: .i .i64 (Y3.Pq.length:Int) :: .own 0 :: an 8 (.ref (Gm.c Y3) 0 :: .ref (Gm.c Y3) 0 :: .ref (Gm.c Y3) 0 :: .sl (Y3.Pq.map Gv.c) :: .i .i64 (Y3.Pq.length:Int) :: .i .i64 (Y3.Pq.length:Int) :: .i .i64 (Y3.Pq.length:Int) :: .i .i64 (IntKind.wrap .i64 ((Y3.Pq.length:Int) * (Y3.Pq.length:Int))) :: .own 0 :: an 69 []),[.vec 4 1 (r.map cB) false]⟩)
def Zap (Y3:Gm) (Yc:Int) (Y4:(List Bool)):St:=⟨.ref (Gm.c Y3) 0 :: .any :: .nils :: .i .i64 (Y3.Pq.length:Int) :: .own 0 :: .i .i64 Yc :: an 7 (.ref (Gm.c Y3) 0 :: .ref (Gm.c Y3) 0 :: .ref (Gm.c Y3) 0 :: .sl (Y3.Pq.map Gv.c) :: .i .i64 (Y3.Pq.length:Int) :: .i .i64 (Y3.Pq.length:Int) :: .i .i64 (Y3.Pq.length:Int) :: .i .i64 (IntKind.wrap .i64 ((Y3.Pq.length:Int) * (Y3.Pq.length:Int))) :: .own 0 :: an 69 []),[.vec 4 1 (Y4.map cB) false]⟩
theorem Zel (Y3:Gm) (hp0:Y3.Pq.length≤1073741824) (hp1:Y3.Tr.length≤1073741824) (hp2:∀ t∈Y3.Tr,t.length≤1073741824) (hp3:OkE Y3.Pq.length Y3.Tr):∀ (k:Nat) (Yc:Int) (Y4:(List Bool)) (Z2Z:0≤Yc) (Z5e:Y4.length=(IntKind.wrap .i64 ((Y3.Pq.length:Int) * (Y3.Pq.length:Int))).toNat) (hk:((Y3.Tr.length:Int) - Yc).toNat < k),Lp prog 0 (sub (X0 f137) [1,1,1,0,1,0,0]) (Zap Y3 Yc Y4) (Z7m Y3 (Z1l Y3 k Yc Y4)).1 (Z7m Y3 (Z1l Y3 k Yc Y4)).2:=by
 intro k
 induction k with
 | zero => intro Yc Y4 Z2Z Z5e hk; exact absurd hk (Nat.not_lt_zero _)
 | succ k ih =>
  intro Yc Y4 Z2Z Z5e hk
  have p {a C} (s:Scr a C):=sZ (cL (cI .i64)) Y3.Tr <| s
  cases Yn:(decide (Yc < (Y3.Tr.length:Int))) with
  | true =>
   have YM:=odt Yn
   have YS:(0:Int)≤Yc:=by clear p; exact (by assumption)
   have YT:Yc < (Y3.Tr.length:Int):=by clear p; exact (by assumption)
   have YY:(-9223372036854775808:Int)≤(Yc + 1):=by clear p; exact (by omega)
   have YZ:(Yc + 1)≤(9223372036854775807:Int):=by clear p; exact (by omega)
   have e:Z1l Y3 (k + 1) Yc Y4=(Z1l Y3 k (Yc + 1) (Z2n Y3 Yc Y4)):=by simp only [Z1l,Yn,cond_true]
   rw [e]
   exact X9 E0Ok Z4 [] (mR false [0,1,1,4,7,9,69]) [0] (ih (Yc + 1) (Z2n Y3 Yc Y4) (show 0≤(Yc + 1) from (by omega)) (show (Z2n Y3 Yc Y4).length=(IntKind.wrap .i64 ((Y3.Pq.length:Int) * (Y3.Pq.length:Int))).toNat from (by simp_all <;> omega)) (by omega)) (p (sB Yn <| sG (cL (cI .i64)) Y3.Tr Yc YS YT <| sL Z95 1 (X1 (Z7l Y3 Yc Y4) (x:=(Z2n Y3 Yc Y4)) (Zek Y3 Yc Y4 hp0 hp1 hp2 hp3 Z2Z Z5e Yn (((3:Int) - 0).toNat + 1) 0 Y4 (show 0≤0 from (by omega)) (show Y4.length=Y4.length from (by omega)) (Nat.lt_succ_self _)) rfl) <| sI (Yc + 1) YY YZ <| sN)) (by kernel_rfl)
  | false =>
   have YM:=odf Yn
   have e:Z1l Y3 (k + 1) Yc Y4=Y4:=by simp only [Z1l,Yn,cond_false]
   rw [e]
   exact outR (e:=(.exit 0)) E0Ok Z4 [] (mR false [0,1,1,3,8,9,69]) [0] (p (sB Yn <| sN)) (by kernel_rfl) (by intro h; cases h)
theorem Zd1 (Y3:Gm):∀ (k:Nat) (Yc:Int) (Y4:(List Bool)) (hk:((Y3.Tr.length:Int) - Yc).toNat < k),(Z1l Y3 k Yc Y4).length=Y4.length:=by
  intro k
  induction k with
  | zero => intro Yc Y4 hk; exact absurd hk (Nat.not_lt_zero _)
  | succ k ih =>
    intro Yc Y4 hk
    cases Yn:(decide (Yc < (Y3.Tr.length:Int))) with
    | true =>
      have e:Z1l Y3 (k + 1) Yc Y4=(Z1l Y3 k (Yc + 1) (Z2n Y3 Yc Y4)):=by simp only [Z1l,Yn,cond_true]
      rw [e,ih (Yc + 1) (Z2n Y3 Yc Y4) (by simp_all <;> omega)]; simp
    | false =>
      have e:Z1l Y3 (k + 1) Yc Y4=Y4:=by simp only [Z1l,Yn,cond_false]
      first | (rw [e]; done) | (rw [e]; rfl)
def ZQ (Y3:Gm):(List Bool):=(Z1l Y3 (((Y3.Tr.length:Int) - 0).toNat + 1) 0 (List.replicate (IntKind.wrap .i64 ((Y3.Pq.length:Int) * (Y3.Pq.length:Int))).toNat false))
@[simp] theorem ZaZ (Y3:Gm):(ZQ Y3).length=((List.replicate (IntKind.wrap .i64 ((Y3.Pq.length:Int) * (Y3.Pq.length:Int))).toNat false):(List Bool)).length:=Zd1 Y3 (((Y3.Tr.length:Int) - 0).toNat + 1) 0 (List.replicate (IntKind.wrap .i64 ((Y3.Pq.length:Int) * (Y3.Pq.length:Int))).toNat false) (by exact Nat.lt_succ_self _)
def Z1m (Y3:Gm) (YN:Int) (Yd:(List (List Int))):Nat→Int→(List (List Int))→(List (List Int))
  | 0,_,_ => default
  | k + 1,Y11,Yi => (cond (decide (Y11 < (Y3.Pq.length:Int)))
    (cond ((ZQ Y3).getD ((IntKind.wrap .i64 ((IntKind.wrap .i64 (YN * (Y3.Pq.length:Int))) + Y11)).toNat) default)
      (Z1m Y3 YN Yd k (Y11 + 1) (Yi ++ [[YN,Y11]]))
      (Z1m Y3 YN Yd k (Y11 + 1) Yi))
    Yi)
def Z7n (Y3:Gm) (YN:Int) (Yd:(List (List Int))) (r:(List (List Int))):Ex × St:=((.exit 6),⟨.ref (Gm.c Y3) 0 :: .any :: .nils :: .i .i64 (Y3.Pq.length:Int) :: .own 0 :: an 5 (.own 1 :: .i .i64 YN :: .any :: .ref (Gm.c Y3) 0 :: .ref (Gm.c Y3) 0 :: .ref (Gm.c Y3) 0 :: .sl (Y3.Pq.map Gv.c) :: .i .i64 (Y3.Pq.length:Int) :: .i .i64 (Y3.Pq.length:Int) :: .i .i64 (Y3.Pq.length:Int) :: .i .i64 (IntKind.wrap .i64 ((Y3.Pq.length:Int) * (Y3.Pq.length:Int))) :: .own 0 :: an 42 (.i .i64 YN :: .i .i64 (Y3.Pq.length:Int) :: .b (decide (YN < (Y3.Pq.length:Int))) :: .any :: .any :: .i .i64 YN :: .i .i64 (YN + 1) :: an 20 [])),[.vec 4 1 ((ZQ Y3).map cB) false, .nest 49 (r.map fun l => l.map (cI .i64)) false]⟩)
def Zaq (Y3:Gm) (YN:Int) (Yd:(List (List Int))) (Y11:Int) (Yi:(List (List Int))):St:=⟨.ref (Gm.c Y3) 0 :: .any :: .nils :: .i .i64 (Y3.Pq.length:Int) :: .own 0 :: an 5 (.own 1 :: .i .i64 YN :: .i .i64 Y11 :: .ref (Gm.c Y3) 0 :: .ref (Gm.c Y3) 0 :: .ref (Gm.c Y3) 0 :: .sl (Y3.Pq.map Gv.c) :: .i .i64 (Y3.Pq.length:Int) :: .i .i64 (Y3.Pq.length:Int) :: .i .i64 (Y3.Pq.length:Int) :: .i .i64 (IntKind.wrap .i64 ((Y3.Pq.length:Int) * (Y3.Pq.length:Int))) :: .own 0 :: an 42 (.i .i64 YN :: .i .i64 (Y3.Pq.length:Int) :: .b (decide (YN < (Y3.Pq.length:Int))) :: .any :: .any :: .i .i64 YN :: .i .i64 (YN + 1) :: an 20 [])),[.vec 4 1 ((ZQ Y3).map cB) false, .nest 49 (Yi.map fun l => l.map (cI .i64)) false]⟩
def Z6m:List Bool:=(mR false [0,1,1,3,5,12,42,3,2,2,20])
def Zd2:List Bool:=(mR false [0,1,1,3,5,2,1,9,42,3,2,2,20])
set_option maxHeartbeats 1000000 in
theorem Zem (Y3:Gm) (YN:Int) (Yd:(List (List Int))) (hp0:Y3.Pq.length≤1073741824) (hp1:Y3.Tr.length≤1073741824) (hp2:∀ t∈Y3.Tr,t.length≤1073741824) (hp3:OkE Y3.Pq.length Y3.Tr) (Z5f:0≤YN) (Z5g:(Yd.length:Int)≤64 * YN) (Z5h:(decide (YN < (Y3.Pq.length:Int)))=true):∀ (k:Nat) (Y11:Int) (Yi:(List (List Int))) (Z97:YN < Y11) (Z98:(Yi.length:Int)≤(Yd.length:Int) + Y11) (hk:((Y3.Pq.length:Int) - Y11).toNat < k),Lp prog 0 (sub (X0 f137) [1,1,1,1,1,0,1,0,0,1,0,0,1,0,0]) (Zaq Y3 YN Yd Y11 Yi) (Z7n Y3 YN Yd (Z1m Y3 YN Yd k Y11 Yi)).1 (Z7n Y3 YN Yd (Z1m Y3 YN Yd k Y11 Yi)).2:=by
 intro k
 induction k with
 | zero => intro Y11 Yi Z97 Z98 hk; exact absurd hk (Nat.not_lt_zero _)
 | succ k ih =>
  intro Y11 Yi Z97 Z98 hk
  cases YW:(decide (Y11 < (Y3.Pq.length:Int))) with
  | true =>
   have YU:=odt YW
   have Y1d:(0:Int)≤(IntKind.wrap .i64 ((IntKind.wrap .i64 (YN * (Y3.Pq.length:Int))) + Y11)):=(by ((have:=hp3.1; have g4:=odt Z5h; (have q2:=ix2F (n:=(Y3.Pq.length:Int)) (a:=YN) (b:=Y11) (by omega) (by omega) (by omega) (by omega) (by omega); omega))))
   have Y1e:(IntKind.wrap .i64 ((IntKind.wrap .i64 (YN * (Y3.Pq.length:Int))) + Y11)) < ((ZQ Y3).length:Int):=(by ((have:=hp3.1; have g4:=odt Z5h; (have q2:=ix2F (n:=(Y3.Pq.length:Int)) (a:=YN) (b:=Y11) (by omega) (by omega) (by omega) (by omega) (by omega); (simp only [ZaZ,List.length_replicate]; omega)))))
   have Y1b:(IntKind.wrap .i64 ((IntKind.wrap .i64 (YN * (Y3.Pq.length:Int))) + Y11)).toNat < (ZQ Y3).length:=(by omega)
   have p {a C} (s:Scr a C):=sB YW <| sW .i64 (YN * (Y3.Pq.length:Int)) <| sW .i64 ((IntKind.wrap .i64 (YN * (Y3.Pq.length:Int))) + Y11) <| sX cB (ZQ Y3) (IntKind.wrap .i64 ((IntKind.wrap .i64 (YN * (Y3.Pq.length:Int))) + Y11)) Y1d Y1e <| sV cB (ZQ Y3) ((IntKind.wrap .i64 ((IntKind.wrap .i64 (YN * (Y3.Pq.length:Int))) + Y11)).toNat) Y1b <| s
   cases Y17:((ZQ Y3).getD ((IntKind.wrap .i64 ((IntKind.wrap .i64 (YN * (Y3.Pq.length:Int))) + Y11)).toNat) default) with
   | true =>
    have Y18:Yi.length + [[YN,Y11]].length≤1073741824:=by clear p; exact (by ((have:=hp3.1; have g4:=odt Z5h; (simp only [List.length_append,List.length_cons,List.length_nil]; omega))))
    have Y1f:(-9223372036854775808:Int)≤(Y11 + 1):=by clear p; exact (by omega)
    have Y1m:(Y11 + 1)≤(9223372036854775807:Int):=by clear p; exact (by omega)
    have e:Z1m Y3 YN Yd (k + 1) Y11 Yi=(Z1m Y3 YN Yd k (Y11 + 1) (Yi ++ [[YN,Y11]])):=by simp only [Z1m,YW,Y17,cond_true]
    rw [e]
    exact X8 E0Ok Z4 [] Z6m [0,1] (⟨.ref (Gm.c Y3) 0 :: .any :: .nils :: .i .i64 (Y3.Pq.length:Int) :: .own 0 :: an 5 (.own 1 :: .i .i64 YN :: .i .i64 (Y11 + 1) :: .ref (Gm.c Y3) 0 :: .ref (Gm.c Y3) 0 :: .ref (Gm.c Y3) 0 :: .sl (Y3.Pq.map Gv.c) :: .i .i64 (Y3.Pq.length:Int) :: .i .i64 (Y3.Pq.length:Int) :: .i .i64 (Y3.Pq.length:Int) :: .i .i64 (IntKind.wrap .i64 ((Y3.Pq.length:Int) * (Y3.Pq.length:Int))) :: .own 0 :: an 42 (.i .i64 YN :: .i .i64 (Y3.Pq.length:Int) :: .b (decide (YN < (Y3.Pq.length:Int))) :: .any :: .any :: .i .i64 YN :: .i .i64 (YN + 1) :: an 20 [])),[.vec 4 1 ((ZQ Y3).map cB) false, .nest 49 ((Yi.map fun l => l.map (cI .i64)) ++ [([[.i .i64 YN],[.i .i64 Y11]]:List (List AV))]) false]⟩) (p (sB Y17 <| sC (show (Yi.map fun l => l.map (cI .i64)).length + [([[.i .i64 YN],[.i .i64 Y11]]:List (List AV))].length≤1073741824 from (by simpa using Y18)) <| sI (Y11 + 1) Y1f Y1m <| sN)) (by kernel_rfl) (by simp [Zaq,cL,cI,cB]) (ih (Y11 + 1) (Yi ++ [[YN,Y11]]) (show YN < (Y11 + 1) from (by omega)) (show ((Yi ++ [[YN,Y11]]).length:Int)≤(Yd.length:Int) + (Y11 + 1) from (by ((have:=hp3.1; have g4:=odt Z5h; (simp only [List.length_append,List.length_cons,List.length_nil]; omega))))) (by omega))
   | false =>
    have Y18:(-9223372036854775808:Int)≤(Y11 + 1):=by clear p; exact (by omega)
    have Y1f:(Y11 + 1)≤(9223372036854775807:Int):=by clear p; exact (by omega)
    have e:Z1m Y3 YN Yd (k + 1) Y11 Yi=(Z1m Y3 YN Yd k (Y11 + 1) Yi):=by simp only [Z1m,YW,Y17,cond_true,cond_false]
    rw [e]
    exact X9 E0Ok Z4 [] Z6m [0,1] (ih (Y11 + 1) Yi (show YN < (Y11 + 1) from (by omega)) (show (Yi.length:Int)≤(Yd.length:Int) + (Y11 + 1) from (by omega)) (by omega)) (p (sB Y17 <| sI (Y11 + 1) Y18 Y1f <| sN)) (by kernel_rfl)
  | false =>
   have YU:=odf YW
   have e:Z1m Y3 YN Yd (k + 1) Y11 Yi=Yi:=by simp only [Z1m,YW,cond_false]
   rw [e]
   exact outR (e:=(.exit 6)) E0Ok Z4 [] Zd2 [0,1] (sB YW <| sN) (by kernel_rfl) (by intro h; cases h)
end Go.Ab
