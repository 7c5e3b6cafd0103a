/- The functions of this seat as plain Lean, and that the program's are these. Printed by a program of the prover's own. -/
import Derived.Test.YtoibkmljibnjnaaB2
set_option linter.unusedVariables false
set_option linter.unusedSimpArgs false
set_option maxRecDepth 100000
namespace Go.Ab
open Go.RowKit Go.Proofs.Try
def Z1T (Yy:Int) (Yz:Int):Gedge:=(⟨(if Yz < Yy then Yz else Yy),(if Yz > Yy then Yz else Yy)⟩:Gedge)
theorem Z36 (Yy:Int) (Yz:Int)   : Fn prog 83 [.i .i64 Yy, .i .i64 Yz] (.agg [.i .i64 ((Z1T Yy Yz).e0), .i .i64 ((Z1T Yy Yz).e1)]) []:=by
 refine fnS E0Ok Zo (c:=X1 f83) [] (.agg [.i .i64 (if Yz < Yy then Yz else Yy), .i .i64 (if Yz > Yy then Yz else Yy)]) [] func83 (sC (show (if false=true then (if Yz > Yy then Yz else Yy) else (if Yz < Yy then Yz else Yy))=(if Yz < Yy then Yz else Yy) from (by simp))<|sA (.num (if Yz < Yy then Yz else Yy))<|sC (show (if true=true then (if Yz > Yy then Yz else Yy) else (if Yz < Yy then Yz else Yy))=(if Yz > Yy then Yz else Yy) from (by simp))<|sA (.num (if Yz > Yy then Yz else Yy))<|sK [] sN) rfl (by kernel_rfl) (by kernel_rfl) rfl ?_ ?_
 · rfl
 · rfl
theorem Z6W (a b:Int):Z1T a b=mkE a b:=by
  unfold Z1T mkE
  by_cases h:a≤b
  · rw [if_pos h,if_neg (by omega)]
    by_cases h2:b > a
    · rw [if_pos h2]
    · rw [if_neg h2,show a=b from by omega]
  · rw [if_neg h,if_pos (by omega),if_neg (by omega)]
def Z1y (Yj:Int):Bool:=(Yj != Yj)
theorem Z4S (Yj:Int)   : Fn prog 150 [.i .i64 Yj] (.b (Z1y Yj)) []:=by
 refine fnS E0Ok Zo (c:=X1 f150) [] (.b (Yj != Yj)) [] func150 (sK [] sN) rfl (by kernel_rfl) (by kernel_rfl) rfl ?_ ?_
 · rfl
 · rfl
def Z10 (Yj:Int) (YL:Int):Int:=(cond (Z1y Yj)
  (cond (Z1y YL)
    0
    (-1))
  (cond (Z1y YL)
    1
    (cond (decide (Yj < YL))
      (-1)
      (cond (decide (Yj > YL))
        1
        0))))
theorem Z5z (Yj:Int) (YL:Int)   : Fn prog 144 [.i .i64 Yj, .i .i64 YL] (.i .i64 (Z10 Yj YL)) []:=by
 have p {a C} (s:Scr a C):=sF (Z4S Yj)<|sF (Z4S YL)<|s
 cases h0:(Z1y Yj) with
 | true =>
  have q {a C} (s:Scr a C):=p (sB h0<|s)
  clear p
  cases h1:(Z1y YL) with
  | true =>
   refine fnS E0Ok Zo (c:=X1 f144) [] (.i .i64 0) [] func144 (q (sB h1<|sK [] sN)) rfl (by kernel_rfl) (by kernel_rfl) rfl ?_ ?_
   · simp only [Z10,h0,h1,cond_true]
   · rfl
  | false =>
   refine fnS E0Ok Zo (c:=X1 f144) [] (.i .i64 (-1)) [] func144 (q (sB h1<|sK [] sN)) rfl (by kernel_rfl) (by kernel_rfl) rfl ?_ ?_
   · simp only [Z10,h0,h1,cond_true,cond_false]
   · rfl
 | false =>
  have q {a C} (s:Scr a C):=p (sB h0<|s)
  clear p
  cases h1:(Z1y YL) with
  | true =>
   refine fnS E0Ok Zo (c:=X1 f144) [] (.i .i64 1) [] func144 (q (sB h1<|sK [] sN)) rfl (by kernel_rfl) (by kernel_rfl) rfl ?_ ?_
   · simp only [Z10,h0,h1,cond_true,cond_false]
   · rfl
  | false =>
   have p {a C} (s:Scr a C):=q (sB h1<|s)
   clear q
   cases h2:(decide (Yj < YL)) with
   | true =>
    have gh2:=odt h2
    refine fnS E0Ok Zo (c:=X1 f144) [] (.i .i64 (-1)) [] func144 (p (sB h2<|sK [] sN)) rfl (by kernel_rfl) (by kernel_rfl) rfl ?_ ?_
    · simp only [Z10,h0,h1,h2,cond_true,cond_false]
    · rfl
   | false =>
    have gh2:=odf h2
    have q {a C} (s:Scr a C):=p (sB h2<|s)
    clear p
    cases h3:(decide (Yj > YL)) with
    | true =>
     have gh3:=odt h3
     refine fnS E0Ok Zo (c:=X1 f144) [] (.i .i64 1) [] func144 (q (sB h3<|sK [] sN)) rfl (by kernel_rfl) (by kernel_rfl) rfl ?_ ?_
     · simp only [Z10,h0,h1,h2,h3,cond_true,cond_false]
     · rfl
    | false =>
     have gh3:=odf h3
     refine fnS E0Ok Zo (c:=X1 f144) [] (.i .i64 0) [] func144 (q (sB h3<|sK [] sN)) rfl (by kernel_rfl) (by kernel_rfl) rfl ?_ ?_
     · simp only [Z10,h0,h1,h2,h3,cond_false]
     · rfl
def Zy (Yw:(List Int)) (YA:(List Int)):Nat→Int→(Int) ⊕ (Unit)
  | 0,_ => .inl default
  | k + 1,Y1=>(cond (decide (Y1 < (Yw.length:Int)))
    (cond (decide (Y1 ≥ (YA.length:Int)))
      (.inl 1)
      (cond ((Z10 (Yw.getD Y1.toNat default) (YA.getD Y1.toNat default)) != 0)
        (.inl (Z10 (Yw.getD Y1.toNat default) (YA.getD Y1.toNat default)))
        (Zy Yw YA k (Y1 + 1))))
    (.inr ()))
def Z1x (Yw:(List Int)) (YA:(List Int)):(Int) ⊕ (Unit)→Ex × St
  | .inl r=>(.ret,⟨an 4 (.i .i64 r :: an 31 []),[]⟩)
  | .inr r=>((.exit 0),⟨.sl (Yw.map (cI .i64)) :: .sl (YA.map (cI .i64)) :: an 7 (.sl (Yw.map (cI .i64)) :: an 26 []),[]⟩)
def Z3K (Yw:(List Int)) (YA:(List Int)) (Y1:Int):St:=⟨.sl (Yw.map (cI .i64)) :: .sl (YA.map (cI .i64)) :: an 7 (.sl (Yw.map (cI .i64)) :: .i .i64 (Yw.length:Int) :: .i .i64 Y1 :: an 24 []),[]⟩
theorem Z2e (Yw:(List Int)) (YA:(List Int)) (hp0:Yw.length≤1073741824) (hp1:YA.length≤1073741824):∀ (k:Nat) (Y1:Int) (Z2c:0≤Y1) (hk:((Yw.length:Int) - Y1).toNat < k),Lp prog 0 (sub (X1 f132) [1,0,1,0,0]) (Z3K Yw YA Y1) (Z1x Yw YA (Zy Yw YA k Y1)).1 (Z1x Yw YA (Zy Yw YA k Y1)).2:=by
 intro k
 induction k with
 | zero=>intro Y1 Z2c hk;exact absurd hk (Nat.not_lt_zero _)
 | succ k ih =>
  intro Y1 Z2c hk
  cases Yp:(decide (Y1 < (Yw.length:Int))) with
  | true =>
   have YF:=odt Yp
   have YO:(0:Int)≤Y1:=(by assumption)
   have YL:Y1 < (Yw.length:Int):=(by assumption)
   have p {a C} (s:Scr a C):=sB Yp<|sG (cI .i64) Yw Y1 YO YL<|sZ (cI .i64) YA<|s
   cases YI:(decide (Y1 ≥ (YA.length:Int))) with
   | true =>
    have Y1c:=odt YI
    have e:Zy Yw YA (k + 1) Y1=(.inl 1):=by simp only [Zy,Yp,YI,cond_true]
    rw [e]
    exact outR (e := .ret) E0Ok Zo [] (mR false [4,1,31]) [] (p (sB YI<|sN)) (by kernel_rfl) (by intro h;cases h)
   | false =>
    have Y1c:=odf YI
    have YU:Y1 < (YA.length:Int):=by clear p;exact (by omega)
    have q {a C} (s:Scr a C):=p (sB YI<|sG (cI .i64) YA Y1 YO YU<|sF (Z5z (Yw.getD Y1.toNat default) (YA.getD Y1.toNat default))<|s)
    clear p
    cases YS:((Z10 (Yw.getD Y1.toNat default) (YA.getD Y1.toNat default)) != 0) with
    | true =>
     have Y1d:=bne_iff_ne.1 YS
     have e:Zy Yw YA (k + 1) Y1=(.inl (Z10 (Yw.getD Y1.toNat default) (YA.getD Y1.toNat default))):=by simp only [Zy,Yp,YI,YS,cond_true,cond_false]
     rw [e]
     exact outR (e := .ret) E0Ok Zo [] (mR false [4,1,31]) [] (q (sB YS<|sN)) (by kernel_rfl) (by intro h;cases h)
    | false =>
     have Y1d:=bne_eq_false_iff_eq.1 YS
     have YR:(-9223372036854775808:Int)≤(Y1 + 1):=by clear q;exact (by omega)
     have YZ:(Y1 + 1)≤(9223372036854775807:Int):=by clear q;exact (by omega)
     have e:Zy Yw YA (k + 1) Y1=(Zy Yw YA k (Y1 + 1)):=by simp only [Zy,Yp,YI,YS,cond_true,cond_false]
     rw [e]
     exact Xb E0Ok Zo [] (mR false [0,2,7,3,24]) [] (ih (Y1 + 1) (show 0≤(Y1 + 1) from (by omega)) (by omega)) (q (sB YS<|sI (Y1 + 1) YR YZ<|sN)) (by kernel_rfl)
  | false =>
   have YF:=odf Yp
   have e:Zy Yw YA (k + 1) Y1=(.inr ()):=by simp only [Zy,Yp,cond_false]
   rw [e]
   exact outR (e:=(.exit 0)) E0Ok Zo [] (mR false [0,2,7,1,26]) [] (sB Yp<|sN) (by kernel_rfl) (by intro h;cases h)
def Z1l (Yw:(List Int)) (YA:(List Int)):(Int) ⊕ (Unit):=(Zy Yw YA (((Yw.length:Int) - 0).toNat + 1) 0)
def Z19 (Yw:(List Int)) (YA:(List Int)):Int:=(match (Z1l Yw YA) with
  | .inl r1=>r1
  | .inr r1=>(cond (decide ((Yw.length:Int) < (YA.length:Int)))
    (-1)
    0))
theorem Z40 (Yw:(List Int)) (YA:(List Int)) (hp0:Yw.length≤1073741824) (hp1:YA.length≤1073741824)  : Fn prog 132 [.sl (Yw.map (cI .i64)), .sl (YA.map (cI .i64))] (.i .i64 (Z19 Yw YA)) []:=by
 have p {a C} (s:Scr a C):=sZ (cI .i64) Yw<|s
 cases h0:(Z1l Yw YA) with
 | inl r1 =>
  refine fnS E0Ok Zo (c:=X1 f132) [] (.i .i64 r1) [] func132 (p (sL (mR false [0,2,7,3,24]) 0 (X7 (Z1x Yw YA) (x:=(Z1l Yw YA)) (Z2e Yw YA hp0 hp1 (((Yw.length:Int) - 0).toNat + 1) 0 (show 0≤0 from (by omega)) (Nat.lt_succ_self _)) h0)<|sK [] sN)) rfl (by kernel_rfl) (by kernel_rfl) rfl ?_ ?_
  · simp only [Z19,h0]
  · rfl
 | inr r1 =>
  have q {a C} (s:Scr a C):=p (sL (mR false [0,2,7,3,24]) 0 (X7 (Z1x Yw YA) (x:=(Z1l Yw YA)) (Z2e Yw YA hp0 hp1 (((Yw.length:Int) - 0).toNat + 1) 0 (show 0≤0 from (by omega)) (Nat.lt_succ_self _)) h0)<|sZ (cI .i64) Yw<|sZ (cI .i64) YA<|s)
  clear p
  cases h1:(decide ((Yw.length:Int) < (YA.length:Int))) with
  | true =>
   have gh1:=odt h1
   refine fnS E0Ok Zo (c:=X1 f132) [] (.i .i64 (-1)) [] func132 (q (sB h1<|sK [] sN)) rfl (by kernel_rfl) (by kernel_rfl) rfl ?_ ?_
   · simp only [Z19,h0,h1,cond_true]
   · rfl
  | false =>
   have gh1:=odf h1
   refine fnS E0Ok Zo (c:=X1 f132) [] (.i .i64 0) [] func132 (q (sB h1<|sK [] sN)) rfl (by kernel_rfl) (by kernel_rfl) rfl ?_ ?_
   · simp only [Z19,h0,h1,cond_false]
   · rfl
def Z39 (Yy:Gedge) (Yz:Gedge):Int:=(Z19 ([Yy.e0,Yy.e1]) ([Yz.e0,Yz.e1]))
theorem Z4x (Yy:Gedge) (Yz:Gedge)   : Fn prog 120 [.agg [.i .i64 Yy.e0, .i .i64 Yy.e1], .agg [.i .i64 Yz.e0, .i .i64 Yz.e1]] (.i .i64 (Z39 Yy Yz)) []:=by
 have y0:([Yy.e0,Yy.e1]).length≤1073741824:=(by simp_all<;>omega)
 have y1:([Yz.e0,Yz.e1]).length≤1073741824:=(by assumption)
 refine fnS E0Ok Zo (c:=X1 f120) [] (.i .i64 (Z19 ([Yy.e0,Yy.e1]) ([Yz.e0,Yz.e1]))) [] func120 (sK [2,2]<|sF (Z40 ([Yy.e0,Yy.e1]) ([Yz.e0,Yz.e1]) y0 y1)<|sK [] sN) rfl (by kernel_rfl) (by kernel_rfl) rfl ?_ ?_
 · rfl
 · rfl
def Z5 (Y3:Gm) (Y1:Int) (Y2:Int):Gedge:=(Z1T ((Y3.Tr.getD Y1.toNat default).getD Y2.toNat default) ((Y3.Tr.getD Y1.toNat default).getD (Int.tmod (Y2 + 1) 3).toNat default))
def Zu (Y3:Gm) (Y1:Int) (Yf:(List (Gedge × List Int))) (Yk:(List Gedge)):Nat→Int→(List (Gedge × List Int))→(List Gedge)→(List (Gedge × List Int)) × (List Gedge)
  | 0,_,_,_=>default
  | k + 1,Y2,Yb,Yi=>(cond (decide (Y2 < 3))
    (cond (mhas Yb (Z5 Y3 Y1 Y2))
      (cond (((Yb.getD (midx Yb (Z5 Y3 Y1 Y2)) default).2.length:Int) == 0)
        (Zu Y3 Y1 Yf Yk k (Y2 + 1) (mput Yb (midx Yb (Z5 Y3 Y1 Y2)) ((Yb.getD (midx Yb (Z5 Y3 Y1 Y2)) default).2 ++ [Y1])) (Yi ++ [(Z5 Y3 Y1 Y2)]))
        (Zu Y3 Y1 Yf Yk k (Y2 + 1) (mput Yb (midx Yb (Z5 Y3 Y1 Y2)) ((Yb.getD (midx Yb (Z5 Y3 Y1 Y2)) default).2 ++ [Y1])) Yi))
      (Zu Y3 Y1 Yf Yk k (Y2 + 1) (Yb ++ [((Z5 Y3 Y1 Y2),[Y1])]) (Yi ++ [(Z5 Y3 Y1 Y2)])))
    (Yb,Yi))
def Z2s (Y3:Gm) (Y1:Int) (Yf:(List (Gedge × List Int))) (Yk:(List Gedge)) (r:(List (Gedge × List Int)) × (List Gedge)):Ex × St:=((.exit 2),⟨.agg [.sl (Y3.Pq.map Gv.c), .sl (Y3.Tr.map (cL (cI .i64)))] :: .ptr 0 0 0 :: .any :: .nils :: .mp 1 :: .own 2 :: .i .i64 Y1 :: .sl ((Y3.Tr.getD Y1.toNat default).map (cI .i64)) :: .any :: .any :: .mp 1 :: .any :: .ptr 0 0 1 :: .sl (Y3.Tr.map (cL (cI .i64))) :: .i .i64 (Y3.Tr.length:Int) :: .i .i64 Y1 :: .b (decide (Y1 < (Y3.Tr.length:Int))) :: .i .i64 Y1 :: .ref [.sl ((Y3.Tr.getD Y1.toNat default).map (cI .i64))] 0 :: .sl ((Y3.Tr.getD Y1.toNat default).map (cI .i64)) :: an 37 [],[.box 27 [.sl (Y3.Pq.map Gv.c), .sl (Y3.Tr.map (cL (cI .i64)))], .mapN 2 (mapC Gedge.pr (cI .i64) r.1) none, .vec 113 2 (r.2.map Gedge.cells) false]⟩)
def Z53 (Y3:Gm) (Y1:Int) (Yf:(List (Gedge × List Int))) (Yk:(List Gedge)) (Y2:Int) (Yb:(List (Gedge × List Int))) (Yi:(List Gedge)):St:=⟨.agg [.sl (Y3.Pq.map Gv.c), .sl (Y3.Tr.map (cL (cI .i64)))] :: .ptr 0 0 0 :: .any :: .nils :: .mp 1 :: .own 2 :: .i .i64 Y1 :: .sl ((Y3.Tr.getD Y1.toNat default).map (cI .i64)) :: .any :: .any :: .mp 1 :: .any :: .ptr 0 0 1 :: .sl (Y3.Tr.map (cL (cI .i64))) :: .i .i64 (Y3.Tr.length:Int) :: .i .i64 Y1 :: .b (decide (Y1 < (Y3.Tr.length:Int))) :: .i .i64 Y1 :: .ref [.sl ((Y3.Tr.getD Y1.toNat default).map (cI .i64))] 0 :: .sl ((Y3.Tr.getD Y1.toNat default).map (cI .i64)) :: .i .i64 Y2 :: an 36 [],[.box 27 [.sl (Y3.Pq.map Gv.c), .sl (Y3.Tr.map (cL (cI .i64)))], .mapN 2 (mapC Gedge.pr (cI .i64) Yb) none, .vec 113 2 (Yi.map Gedge.cells) false]⟩
set_option maxHeartbeats 1000000 in
theorem Z54 (Y3:Gm) (Y1:Int) (Yf:(List (Gedge × List Int))) (Yk:(List Gedge)) (hp0:Y3.Pq.length≤1073741824) (hp1:Y3.Tr.length≤1073741824) (hp2:∀ t∈Y3.Tr,t.length≤1073741824) (hp3:OkE Y3.Pq.length Y3.Tr) (ZF:0≤Y1) (Z1Q:(Yk.length:Int)≤3 * Y1) (Z1z:∀ y∈Yf,(y.2.length:Int)≤3 * Y1) (Z1m:(decide (Y1 < (Y3.Tr.length:Int)))=true):∀ (k:Nat) (Y2:Int) (Yb:(List (Gedge × List Int))) (Yi:(List Gedge)) (Z11:0≤Y2) (Z2T:(Yi.length:Int)≤(Yk.length:Int) + Y2) (Z2U:∀ y∈Yb,(y.2.length:Int)≤3 * Y1 + Y2) (hk:((3:Int) - Y2).toNat < k),Lp prog 0 (sub (X1 f82) [1,1,0,1,0,0,1,1,0,0,1,1,0,0]) (Z53 Y3 Y1 Yf Yk Y2 Yb Yi) (Z2s Y3 Y1 Yf Yk (Zu Y3 Y1 Yf Yk k Y2 Yb Yi)).1 (Z2s Y3 Y1 Yf Yk (Zu Y3 Y1 Yf Yk k Y2 Yb Yi)).2:=by
 intro k
 induction k with
 | zero=>intro Y2 Yb Yi Z11 Z2T Z2U hk;exact absurd hk (Nat.not_lt_zero _)
 | succ k ih =>
  intro Y2 Yb Yi Z11 Z2T Z2U hk
  cases Yr:(decide (Y2 < 3)) with
  | true =>
   have YM:=odt Yr
   have YW:(0:Int)≤Y2:=(by assumption)
   have YX:Y2 < ((Y3.Tr.getD Y1.toNat default).length:Int):=(by ((have g5:=odt Z1m;have q:=OkE.at hp3 ZF g5 Z11 (odt (by assumption));omega)))
   have YQ:(-9223372036854775808:Int)≤(Y2 + 1):=(by omega)
   have YN:(Y2 + 1)≤(9223372036854775807:Int):=(by omega)
   have YY:(0:Int)≤(Int.tmod (Y2 + 1) 3):=(by ((have g5:=odt Z1m;have q:=OkE.at hp3 ZF g5 Z11 (odt (by assumption));omega)))
   have Y13:(Int.tmod (Y2 + 1) 3) < ((Y3.Tr.getD Y1.toNat default).length:Int):=(by ((have g5:=odt Z1m;have q:=OkE.at hp3 ZF g5 Z11 (odt (by assumption));omega)))
   have p {a C} (s:Scr a C):=sB Yr<|sK [12,12]<|sG (cI .i64) (Y3.Tr.getD Y1.toNat default) Y2 YW YX<|sI (Y2 + 1) YQ YN<|sC (show (3:Int)≠0 from (by decide))<|sQ (Int.tmod (Y2 + 1) 3)<|sG (cI .i64) (Y3.Tr.getD Y1.toNat default) (Int.tmod (Y2 + 1) 3) YY Y13<|sF (Z36 ((Y3.Tr.getD Y1.toNat default).getD Y2.toNat default) ((Y3.Tr.getD Y1.toNat default).getD (Int.tmod (Y2 + 1) 3).toNat default))<|s
   cases YD:(mhas Yb (Z5 Y3 Y1 Y2)) with
   | true =>
    have m__16:=X2M YD
    have q {a C} (s:Scr a C):=p (sA (.keep [midx Yb (Z5 Y3 Y1 Y2)])<|sC (X3p (ck:=Gedge.pr) (cv:=(cI .i64)) YD)<|sM (X5T (ck:=Gedge.pr) (cv:=(cI .i64)) (l:=Yb) (j:=(midx Yb (Z5 Y3 Y1 Y2))))<|s)
    clear p
    cases Y11:(((Yb.getD (midx Yb (Z5 Y3 Y1 Y2)) default).2.length:Int) == 0) with
    | true =>
     have Y1l:=eq_of_beq Y11
     have Y10:Yi.length + ([(Z5 Y3 Y1 Y2)]).length≤1073741824:=by clear q;exact (by ((have g5:=odt Z1m;have q:=OkE.at hp3 ZF g5 Z11 (odt (by assumption));(simp only [List.length_append,List.length_cons,List.length_nil];omega))))
     have Y14:(midx Yb (Z5 Y3 Y1 Y2)) < Yb.length:=by clear q;exact (by assumption)
     have Y19:((Yb.getD (midx Yb (Z5 Y3 Y1 Y2)) default).2).length + ([Y1]).length≤1073741824:=by clear q;exact (by ((have g5:=odt Z1m;have q:=OkE.at hp3 ZF g5 Z11 (odt (by assumption));(simp only [List.length_append,List.length_cons,List.length_nil];omega))))
     have e:Zu Y3 Y1 Yf Yk (k + 1) Y2 Yb Yi=(Zu Y3 Y1 Yf Yk k (Y2 + 1) (mput Yb (midx Yb (Z5 Y3 Y1 Y2)) ((Yb.getD (midx Yb (Z5 Y3 Y1 Y2)) default).2 ++ [Y1])) (Yi ++ [(Z5 Y3 Y1 Y2)])):=by simp only [Zu,Yr,YD,Y11,cond_true]
     rw [e]
     exact XQ E0Ok Zo [] (mR false [0,2,1,5,2,1,1,9,36]) [0,1,2] (⟨.agg [.sl (Y3.Pq.map Gv.c), .sl (Y3.Tr.map (cL (cI .i64)))] :: .ptr 0 0 0 :: .any :: .nils :: .mp 1 :: .own 2 :: .i .i64 Y1 :: .sl ((Y3.Tr.getD Y1.toNat default).map (cI .i64)) :: .any :: .any :: .mp 1 :: .any :: .ptr 0 0 1 :: .sl (Y3.Tr.map (cL (cI .i64))) :: .i .i64 (Y3.Tr.length:Int) :: .i .i64 Y1 :: .b (decide (Y1 < (Y3.Tr.length:Int))) :: .i .i64 Y1 :: .ref [.sl ((Y3.Tr.getD Y1.toNat default).map (cI .i64))] 0 :: .sl ((Y3.Tr.getD Y1.toNat default).map (cI .i64)) :: .i .i64 (Y2 + 1) :: an 36 [],[.box 27 [.sl (Y3.Pq.map Gv.c), .sl (Y3.Tr.map (cL (cI .i64)))], .mapN 2 (((mapC Gedge.pr (cI .i64) Yb).set (midx Yb (Z5 Y3 Y1 Y2)) (((mapC Gedge.pr (cI .i64) Yb).getD (midx Yb (Z5 Y3 Y1 Y2)) default).1,[])).set (midx Yb (Z5 Y3 Y1 Y2)) ((((mapC Gedge.pr (cI .i64) Yb).set (midx Yb (Z5 Y3 Y1 Y2)) (((mapC Gedge.pr (cI .i64) Yb).getD (midx Yb (Z5 Y3 Y1 Y2)) default).1,[])).getD (midx Yb (Z5 Y3 Y1 Y2)) default).1,(((mapC Gedge.pr (cI .i64) Yb).getD (midx Yb (Z5 Y3 Y1 Y2)) default).2 ++ ([Y1].map (cI .i64))))) none, .vec 113 2 ((Yi.map Gedge.cells) ++ ([[.i .i64 ((Z5 Y3 Y1 Y2).e0), .i .i64 ((Z5 Y3 Y1 Y2).e1)]]:List (List AV))) false]⟩) (q (sB Y11<|sC (show (Yi.map Gedge.cells).length + ([[.i .i64 ((Z5 Y3 Y1 Y2).e0), .i .i64 ((Z5 Y3 Y1 Y2).e1)]]:List (List AV)).length≤1073741824 from (by simpa using Y10))<|sA (.keep [midx Yb (Z5 Y3 Y1 Y2)])<|sC (X3p (ck:=Gedge.pr) (cv:=(cI .i64)) YD)<|sC (show (midx Yb (Z5 Y3 Y1 Y2)) < (mapC Gedge.pr (cI .i64) Yb).length from (by simpa using Y14))<|sC (show (((mapC Gedge.pr (cI .i64) Yb).getD (midx Yb (Z5 Y3 Y1 Y2)) default).2).length + ([[.i .i64 Y1]]:List (List AV)).length≤1073741824 from (by simpa using Y19))<|sA (.keep [(midx Yb (Z5 Y3 Y1 Y2))])<|sC (show ((midx Yb (Z5 Y3 Y1 Y2)):Int)=(((midx Yb (Z5 Y3 Y1 Y2)):Nat):Int) from rfl)<|sC (show (midx Yb (Z5 Y3 Y1 Y2)) < ((mapC Gedge.pr (cI .i64) Yb).set (midx Yb (Z5 Y3 Y1 Y2)) (((mapC Gedge.pr (cI .i64) Yb).getD (midx Yb (Z5 Y3 Y1 Y2)) default).1,[])).length from (by simpa using Y14))<|sC (show ∀ i,some (midx Yb (Z5 Y3 Y1 Y2))=some i→i=(midx Yb (Z5 Y3 Y1 Y2)) from (fun i h=>by cases h;rfl))<|sI (Y2 + 1) YQ YN<|sN)) (by kernel_rfl) (show _=⟨.agg [.sl (Y3.Pq.map Gv.c), .sl (Y3.Tr.map (cL (cI .i64)))] :: .ptr 0 0 0 :: .any :: .nils :: .mp 1 :: .own 2 :: .i .i64 Y1 :: .sl ((Y3.Tr.getD Y1.toNat default).map (cI .i64)) :: .any :: .any :: .mp 1 :: .any :: .ptr 0 0 1 :: .sl (Y3.Tr.map (cL (cI .i64))) :: .i .i64 (Y3.Tr.length:Int) :: .i .i64 Y1 :: .b (decide (Y1 < (Y3.Tr.length:Int))) :: .i .i64 Y1 :: .ref [.sl ((Y3.Tr.getD Y1.toNat default).map (cI .i64))] 0 :: .sl ((Y3.Tr.getD Y1.toNat default).map (cI .i64)) :: .i .i64 (Y2 + 1) :: an 36 [],[.box 27 [.sl (Y3.Pq.map Gv.c), .sl (Y3.Tr.map (cL (cI .i64)))], .mapN 2 (mapC Gedge.pr (cI .i64) (mput Yb (midx Yb (Z5 Y3 Y1 Y2)) ((Yb.getD (midx Yb (Z5 Y3 Y1 Y2)) default).2 ++ [Y1]))) none, .vec 113 2 ((Yi ++ [(Z5 Y3 Y1 Y2)]).map Gedge.cells) false]⟩ from (by rw [X5U (X2M YD)];simp [List.map_set,Gedge.cells])) (ih (Y2 + 1) (mput Yb (midx Yb (Z5 Y3 Y1 Y2)) ((Yb.getD (midx Yb (Z5 Y3 Y1 Y2)) default).2 ++ [Y1])) (Yi ++ [(Z5 Y3 Y1 Y2)]) (show 0≤(Y2 + 1) from (by omega)) (show ((Yi ++ [(Z5 Y3 Y1 Y2)]).length:Int)≤(Yk.length:Int) + (Y2 + 1) from (by simp only [List.length_append,List.length_cons,List.length_nil];omega)) (show ∀ y∈(mput Yb (midx Yb (Z5 Y3 Y1 Y2)) ((Yb.getD (midx Yb (Z5 Y3 Y1 Y2)) default).2 ++ [Y1])),(y.2.length:Int)≤3 * Y1 + (Y2 + 1) from (by exact X31 (by assumption) (by omega) (by omega))) (by omega))
    | false =>
     have Y1l:=ne_of_beq_false Y11
     have Y10:(midx Yb (Z5 Y3 Y1 Y2)) < Yb.length:=by clear q;exact (by assumption)
     have Y14:((Yb.getD (midx Yb (Z5 Y3 Y1 Y2)) default).2).length + ([Y1]).length≤1073741824:=by clear q;exact (by ((have g5:=odt Z1m;have q:=OkE.at hp3 ZF g5 Z11 (odt (by assumption));(have q3:=X5V (N:=3 * Y1 + Y2) (by omega) (by assumption) (midx Yb (Z5 Y3 Y1 Y2));simp only [List.length_cons,List.length_nil];omega))))
     have e:Zu Y3 Y1 Yf Yk (k + 1) Y2 Yb Yi=(Zu Y3 Y1 Yf Yk k (Y2 + 1) (mput Yb (midx Yb (Z5 Y3 Y1 Y2)) ((Yb.getD (midx Yb (Z5 Y3 Y1 Y2)) default).2 ++ [Y1])) Yi):=by simp only [Zu,Yr,YD,Y11,cond_true,cond_false]
     rw [e]
     exact XQ E0Ok Zo [] (mR false [0,2,1,5,2,1,1,9,36]) [0,1,2] (⟨.agg [.sl (Y3.Pq.map Gv.c), .sl (Y3.Tr.map (cL (cI .i64)))] :: .ptr 0 0 0 :: .any :: .nils :: .mp 1 :: .own 2 :: .i .i64 Y1 :: .sl ((Y3.Tr.getD Y1.toNat default).map (cI .i64)) :: .any :: .any :: .mp 1 :: .any :: .ptr 0 0 1 :: .sl (Y3.Tr.map (cL (cI .i64))) :: .i .i64 (Y3.Tr.length:Int) :: .i .i64 Y1 :: .b (decide (Y1 < (Y3.Tr.length:Int))) :: .i .i64 Y1 :: .ref [.sl ((Y3.Tr.getD Y1.toNat default).map (cI .i64))] 0 :: .sl ((Y3.Tr.getD Y1.toNat default).map (cI .i64)) :: .i .i64 (Y2 + 1) :: an 36 [],[.box 27 [.sl (Y3.Pq.map Gv.c), .sl (Y3.Tr.map (cL (cI .i64)))], .mapN 2 (((mapC Gedge.pr (cI .i64) Yb).set (midx Yb (Z5 Y3 Y1 Y2)) (((mapC Gedge.pr (cI .i64) Yb).getD (midx Yb (Z5 Y3 Y1 Y2)) default).1,[])).set (midx Yb (Z5 Y3 Y1 Y2)) ((((mapC Gedge.pr (cI .i64) Yb).set (midx Yb (Z5 Y3 Y1 Y2)) (((mapC Gedge.pr (cI .i64) Yb).getD (midx Yb (Z5 Y3 Y1 Y2)) default).1,[])).getD (midx Yb (Z5 Y3 Y1 Y2)) default).1,(((mapC Gedge.pr (cI .i64) Yb).getD (midx Yb (Z5 Y3 Y1 Y2)) default).2 ++ ([Y1].map (cI .i64))))) none, .vec 113 2 (Yi.map Gedge.cells) false]⟩) (q (sB Y11<|sA (.keep [midx Yb (Z5 Y3 Y1 Y2)])<|sC (X3p (ck:=Gedge.pr) (cv:=(cI .i64)) YD)<|sC (show (midx Yb (Z5 Y3 Y1 Y2)) < (mapC Gedge.pr (cI .i64) Yb).length from (by simpa using Y10))<|sC (show (((mapC Gedge.pr (cI .i64) Yb).getD (midx Yb (Z5 Y3 Y1 Y2)) default).2).length + ([[.i .i64 Y1]]:List (List AV)).length≤1073741824 from (by simpa using Y14))<|sA (.keep [(midx Yb (Z5 Y3 Y1 Y2))])<|sC (show ((midx Yb (Z5 Y3 Y1 Y2)):Int)=(((midx Yb (Z5 Y3 Y1 Y2)):Nat):Int) from rfl)<|sC (show (midx Yb (Z5 Y3 Y1 Y2)) < ((mapC Gedge.pr (cI .i64) Yb).set (midx Yb (Z5 Y3 Y1 Y2)) (((mapC Gedge.pr (cI .i64) Yb).getD (midx Yb (Z5 Y3 Y1 Y2)) default).1,[])).length from (by simpa using Y10))<|sC (show ∀ i,some (midx Yb (Z5 Y3 Y1 Y2))=some i→i=(midx Yb (Z5 Y3 Y1 Y2)) from (fun i h=>by cases h;rfl))<|sI (Y2 + 1) YQ YN<|sN)) (by kernel_rfl) (show _=⟨.agg [.sl (Y3.Pq.map Gv.c), .sl (Y3.Tr.map (cL (cI .i64)))] :: .ptr 0 0 0 :: .any :: .nils :: .mp 1 :: .own 2 :: .i .i64 Y1 :: .sl ((Y3.Tr.getD Y1.toNat default).map (cI .i64)) :: .any :: .any :: .mp 1 :: .any :: .ptr 0 0 1 :: .sl (Y3.Tr.map (cL (cI .i64))) :: .i .i64 (Y3.Tr.length:Int) :: .i .i64 Y1 :: .b (decide (Y1 < (Y3.Tr.length:Int))) :: .i .i64 Y1 :: .ref [.sl ((Y3.Tr.getD Y1.toNat default).map (cI .i64))] 0 :: .sl ((Y3.Tr.getD Y1.toNat default).map (cI .i64)) :: .i .i64 (Y2 + 1) :: an 36 [],[.box 27 [.sl (Y3.Pq.map Gv.c), .sl (Y3.Tr.map (cL (cI .i64)))], .mapN 2 (mapC Gedge.pr (cI .i64) (mput Yb (midx Yb (Z5 Y3 Y1 Y2)) ((Yb.getD (midx Yb (Z5 Y3 Y1 Y2)) default).2 ++ [Y1]))) none, .vec 113 2 (Yi.map Gedge.cells) false]⟩ from (by rw [X5U (X2M YD)];done)) (ih (Y2 + 1) (mput Yb (midx Yb (Z5 Y3 Y1 Y2)) ((Yb.getD (midx Yb (Z5 Y3 Y1 Y2)) default).2 ++ [Y1])) Yi (show 0≤(Y2 + 1) from (by omega)) (show (Yi.length:Int)≤(Yk.length:Int) + (Y2 + 1) from (by omega)) (show ∀ y∈(mput Yb (midx Yb (Z5 Y3 Y1 Y2)) ((Yb.getD (midx Yb (Z5 Y3 Y1 Y2)) default).2 ++ [Y1])),(y.2.length:Int)≤3 * Y1 + (Y2 + 1) from (by exact X31 (by assumption) (by omega) (by omega))) (by omega))
   | false =>
    have Y10:Yi.length + ([(Z5 Y3 Y1 Y2)]).length≤1073741824:=by clear p;exact (by ((have g5:=odt Z1m;have q:=OkE.at hp3 ZF g5 Z11 (odt (by assumption));(simp only [List.length_append,List.length_cons,List.length_nil];omega))))
    have e:Zu Y3 Y1 Yf Yk (k + 1) Y2 Yb Yi=(Zu Y3 Y1 Yf Yk k (Y2 + 1) (Yb ++ [((Z5 Y3 Y1 Y2),[Y1])]) (Yi ++ [(Z5 Y3 Y1 Y2)])):=by simp only [Zu,Yr,YD,cond_true,cond_false]
    rw [e]
    exact XQ E0Ok Zo [] (mR false [0,2,1,5,2,1,1,9,36]) [0,1,2] (⟨.agg [.sl (Y3.Pq.map Gv.c), .sl (Y3.Tr.map (cL (cI .i64)))] :: .ptr 0 0 0 :: .any :: .nils :: .mp 1 :: .own 2 :: .i .i64 Y1 :: .sl ((Y3.Tr.getD Y1.toNat default).map (cI .i64)) :: .any :: .any :: .mp 1 :: .any :: .ptr 0 0 1 :: .sl (Y3.Tr.map (cL (cI .i64))) :: .i .i64 (Y3.Tr.length:Int) :: .i .i64 Y1 :: .b (decide (Y1 < (Y3.Tr.length:Int))) :: .i .i64 Y1 :: .ref [.sl ((Y3.Tr.getD Y1.toNat default).map (cI .i64))] 0 :: .sl ((Y3.Tr.getD Y1.toNat default).map (cI .i64)) :: .i .i64 (Y2 + 1) :: an 36 [],[.box 27 [.sl (Y3.Pq.map Gv.c), .sl (Y3.Tr.map (cL (cI .i64)))], .mapN 2 (((mapC Gedge.pr (cI .i64) Yb) ++ [((Gedge.pr (Z5 Y3 Y1 Y2)),[])]).set (mapC Gedge.pr (cI .i64) Yb).length ((((mapC Gedge.pr (cI .i64) Yb) ++ [((Gedge.pr (Z5 Y3 Y1 Y2)),[])]).getD (mapC Gedge.pr (cI .i64) Yb).length default).1,(([Y1]).map (cI .i64)))) none, .vec 113 2 ((Yi.map Gedge.cells) ++ ([[.i .i64 ((Z5 Y3 Y1 Y2).e0), .i .i64 ((Z5 Y3 Y1 Y2).e1)]]:List (List AV))) false]⟩) (p (sA (.keep [])<|sC (X4g (ck:=Gedge.pr) (cv:=(cI .i64)) Gedge.inj YD)<|sM (show ((0:Nat):Int)=0 from rfl)<|sB (show (0 == 0)=true from rfl)<|sC (show (Yi.map Gedge.cells).length + ([[.i .i64 ((Z5 Y3 Y1 Y2).e0), .i .i64 ((Z5 Y3 Y1 Y2).e1)]]:List (List AV)).length≤1073741824 from (by simpa using Y10))<|sA (.keep [])<|sC (X4g (ck:=Gedge.pr) (cv:=(cI .i64)) Gedge.inj YD)<|sC (show ([[.i .i64 Y1]]:List (List AV))≠[] from (by simp))<|sC (show ([[.i .i64 Y1]]:List (List AV)).length≤1073741824 from (by simp))<|sA (.keep [(mapC Gedge.pr (cI .i64) Yb).length])<|sC (show ((mapC Gedge.pr (cI .i64) Yb).length:Int)=(((mapC Gedge.pr (cI .i64) Yb).length:Nat):Int) from rfl)<|sC (show (mapC Gedge.pr (cI .i64) Yb).length < ((mapC Gedge.pr (cI .i64) Yb) ++ [((Gedge.pr (Z5 Y3 Y1 Y2)),[])]).length from (by simp))<|sC (show ∀ i,(none:Option Nat)=some i→i=(mapC Gedge.pr (cI .i64) Yb).length from (fun i h=>by cases h))<|sI (Y2 + 1) YQ YN<|sN)) (by kernel_rfl) (show _=⟨.agg [.sl (Y3.Pq.map Gv.c), .sl (Y3.Tr.map (cL (cI .i64)))] :: .ptr 0 0 0 :: .any :: .nils :: .mp 1 :: .own 2 :: .i .i64 Y1 :: .sl ((Y3.Tr.getD Y1.toNat default).map (cI .i64)) :: .any :: .any :: .mp 1 :: .any :: .ptr 0 0 1 :: .sl (Y3.Tr.map (cL (cI .i64))) :: .i .i64 (Y3.Tr.length:Int) :: .i .i64 Y1 :: .b (decide (Y1 < (Y3.Tr.length:Int))) :: .i .i64 Y1 :: .ref [.sl ((Y3.Tr.getD Y1.toNat default).map (cI .i64))] 0 :: .sl ((Y3.Tr.getD Y1.toNat default).map (cI .i64)) :: .i .i64 (Y2 + 1) :: an 36 [],[.box 27 [.sl (Y3.Pq.map Gv.c), .sl (Y3.Tr.map (cL (cI .i64)))], .mapN 2 (mapC Gedge.pr (cI .i64) (Yb ++ [((Z5 Y3 Y1 Y2),[Y1])])) none, .vec 113 2 ((Yi ++ [(Z5 Y3 Y1 Y2)]).map Gedge.cells) false]⟩ from (by rw [X7O];simp [List.map_set,Gedge.cells])) (ih (Y2 + 1) (Yb ++ [((Z5 Y3 Y1 Y2),[Y1])]) (Yi ++ [(Z5 Y3 Y1 Y2)]) (show 0≤(Y2 + 1) from (by omega)) (show ((Yi ++ [(Z5 Y3 Y1 Y2)]).length:Int)≤(Yk.length:Int) + (Y2 + 1) from (by simp only [List.length_append,List.length_cons,List.length_nil];omega)) (show ∀ y∈(Yb ++ [((Z5 Y3 Y1 Y2),[Y1])]),(y.2.length:Int)≤3 * Y1 + (Y2 + 1) from (by exact X5W (by assumption) (by omega) (by omega))) (by omega))
  | false =>
   have YM:=odf Yr
   have e:Zu Y3 Y1 Yf Yk (k + 1) Y2 Yb Yi=(Yb,Yi):=by simp only [Zu,Yr,cond_false]
   rw [e]
   exact outR (e:=(.exit 2)) E0Ok Zo [] (mR false [0,2,1,5,2,1,1,8,37]) [0,1,2] (sB Yr<|sN) (by kernel_rfl) (by intro h;cases h)
def ZG (Y3:Gm) (Y1:Int) (Yf:(List (Gedge × List Int))) (Yk:(List Gedge)):(List (Gedge × List Int)) × (List Gedge):=(Zu Y3 Y1 Yf Yk (((3:Int) - 0).toNat + 1) 0 Yf Yk)
theorem Z7O (m:Gm) (i:Int) (b0:List (Gedge × List Int)) (l0:List Gedge) (h0:0≤i):∀ (k:Nat) (x:Int) (b:List (Gedge × List Int)) (l:List Gedge),0≤x→(3 - x).toNat < k→x≤3→(l.length:Int)≤3 * i + x→(∀ y∈b,(y.2.length:Int)≤3 * i + x)→((Zu m i b0 l0 k x b l).2.length:Int)≤3 * (i + 1)∧∀ y∈(Zu m i b0 l0 k x b l).1,(y.2.length:Int)≤3 * (i + 1):=by
  intro k
  induction k with
  | zero=>intro x b l _ hk;exact absurd hk (Nat.not_lt_zero _)
  | succ k ih =>
    intro x b l hx hk h3 hl hb
    rw [Zu]
    cases hc:decide (x < 3) with
    | false=>rw [cond_false];exact ⟨by simp only;omega,fun y hy=>by have:=hb y hy;omega⟩
    | true =>
      have hc':=odt hc
      rw [cond_true]
      cases mhas b (Z5 m i x) with
      | true =>
        rw [cond_true]
        cases (((b.getD (midx b (Z5 m i x)) default).2.length:Int) == 0) with
        | true=>rw [cond_true];exact ih _ _ _ (by omega) (by omega) (by omega) (by simp only [List.length_append,List.length_cons,List.length_nil];omega) (X31 hb (by omega) (by omega))
        | false=>rw [cond_false];exact ih _ _ _ (by omega) (by omega) (by omega) (by omega) (X31 hb (by omega) (by omega))
      | false=>rw [cond_false];exact ih _ _ _ (by omega) (by omega) (by omega) (by simp only [List.length_append,List.length_cons,List.length_nil];omega) (X5W hb (by omega) (by omega))
theorem Z7f (m:Gm) (i:Int) (b:List (Gedge × List Int)) (l:List Gedge) (h0:0≤i) (hl:(l.length:Int)≤3 * i) (hb:∀ y∈b,(y.2.length:Int)≤3 * i) :
    ((ZG m i b l).2.length:Int)≤3 * (i + 1)∧∀ y∈(ZG m i b l).1,(y.2.length:Int)≤3 * (i + 1) :=
  Z7O m i b l h0 _ 0 b l (Int.le_refl 0) (by omega) (by omega) (by omega) (fun y hy=>by have:=hb y hy;omega)
def ZP (Y3:Gm):Nat→Int→(List (Gedge × List Int))→(List Gedge)→(List (Gedge × List Int)) × (List Gedge)
  | 0,_,_,_=>default
  | k + 1,Y1,Yf,Yk=>(cond (decide (Y1 < (Y3.Tr.length:Int)))
    (ZP Y3 k (Y1 + 1) ((ZG Y3 Y1 Yf Yk).1) ((ZG Y3 Y1 Yf Yk).2))
    (Yf,Yk))
def Z2t (Y3:Gm) (r:(List (Gedge × List Int)) × (List Gedge)):Ex × St:=((.exit 0),⟨.agg [.sl (Y3.Pq.map Gv.c), .sl (Y3.Tr.map (cL (cI .i64)))] :: .ptr 0 0 0 :: .any :: .nils :: .mp 1 :: .own 2 :: an 4 (.mp 1 :: .any :: .ptr 0 0 1 :: .sl (Y3.Tr.map (cL (cI .i64))) :: an 43 []),[.box 27 [.sl (Y3.Pq.map Gv.c), .sl (Y3.Tr.map (cL (cI .i64)))], .mapN 2 (mapC Gedge.pr (cI .i64) r.1) none, .vec 113 2 (r.2.map Gedge.cells) false]⟩)
def Z3g (Y3:Gm) (Y1:Int) (Yf:(List (Gedge × List Int))) (Yk:(List Gedge)):St:=⟨.agg [.sl (Y3.Pq.map Gv.c), .sl (Y3.Tr.map (cL (cI .i64)))] :: .ptr 0 0 0 :: .any :: .nils :: .mp 1 :: .own 2 :: an 4 (.mp 1 :: .any :: .ptr 0 0 1 :: .sl (Y3.Tr.map (cL (cI .i64))) :: .i .i64 (Y3.Tr.length:Int) :: .i .i64 Y1 :: an 41 []),[.box 27 [.sl (Y3.Pq.map Gv.c), .sl (Y3.Tr.map (cL (cI .i64)))], .mapN 2 (mapC Gedge.pr (cI .i64) Yf) none, .vec 113 2 (Yk.map Gedge.cells) false]⟩
theorem Z55 (Y3:Gm) (hp0:Y3.Pq.length≤1073741824) (hp1:Y3.Tr.length≤1073741824) (hp2:∀ t∈Y3.Tr,t.length≤1073741824) (hp3:OkE Y3.Pq.length Y3.Tr):∀ (k:Nat) (Y1:Int) (Yf:(List (Gedge × List Int))) (Yk:(List Gedge)) (ZF:0≤Y1) (Z1Q:(Yk.length:Int)≤3 * Y1) (Z1z:∀ y∈Yf,(y.2.length:Int)≤3 * Y1) (hk:((Y3.Tr.length:Int) - Y1).toNat < k),Lp prog 0 (sub (X1 f82) [1,1,0,1,0,0]) (Z3g Y3 Y1 Yf Yk) (Z2t Y3 (ZP Y3 k Y1 Yf Yk)).1 (Z2t Y3 (ZP Y3 k Y1 Yf Yk)).2:=by
 intro k
 induction k with
 | zero=>intro Y1 Yf Yk ZF Z1Q Z1z hk;exact absurd hk (Nat.not_lt_zero _)
 | succ k ih =>
  intro Y1 Yf Yk ZF Z1Q Z1z hk
  cases Yp:(decide (Y1 < (Y3.Tr.length:Int))) with
  | true =>
   have YF:=odt Yp
   have YO:(0:Int)≤Y1:=(by assumption)
   have YL:Y1 < (Y3.Tr.length:Int):=(by assumption)
   have YU:(-9223372036854775808:Int)≤(Y1 + 1):=(by omega)
   have YR:(Y1 + 1)≤(9223372036854775807:Int):=(by omega)
   have e:ZP Y3 (k + 1) Y1 Yf Yk=(ZP Y3 k (Y1 + 1) ((ZG Y3 Y1 Yf Yk).1) ((ZG Y3 Y1 Yf Yk).2)):=by simp only [ZP,Yp,cond_true]
   rw [e]
   exact Xb E0Ok Zo [] (mR false [0,2,1,3,4,1,1,4,41]) [0,1,2] (ih (Y1 + 1) ((ZG Y3 Y1 Yf Yk).1) ((ZG Y3 Y1 Yf Yk).2) (show 0≤(Y1 + 1) from (by omega)) (show (((ZG Y3 Y1 Yf Yk).2).length:Int)≤3 * (Y1 + 1) from (by exact (Z7f _ _ _ _ ZF (by assumption) (by assumption)).1)) (show ∀ y∈((ZG Y3 Y1 Yf Yk).1),(y.2.length:Int)≤3 * (Y1 + 1) from (by exact (Z7f _ _ _ _ ZF (by assumption) (by assumption)).2)) (by omega)) (sB Yp<|sG (cL (cI .i64)) Y3.Tr Y1 YO YL<|sL (mR false [0,2,1,5,2,1,1,9,36]) 3 (X7 (Z2s Y3 Y1 Yf Yk) (x:=(ZG Y3 Y1 Yf Yk)) (Z54 Y3 Y1 Yf Yk hp0 hp1 hp2 hp3 ZF Z1Q Z1z Yp (((3:Int) - 0).toNat + 1) 0 Yf Yk (show 0≤0 from (by omega)) (show (Yk.length:Int)≤(Yk.length:Int) + 0 from (by omega)) (show ∀ y∈Yf,(y.2.length:Int)≤3 * Y1 + 0 from (by intro y hy;have q:=Z1z y hy;omega)) (Nat.lt_succ_self _)) rfl)<|sI (Y1 + 1) YU YR<|sN) (by kernel_rfl)
  | false =>
   have YF:=odf Yp
   have e:ZP Y3 (k + 1) Y1 Yf Yk=(Yf,Yk):=by simp only [ZP,Yp,cond_false]
   rw [e]
   exact outR (e:=(.exit 0)) E0Ok Zo [] (mR false [0,2,1,3,4,1,1,2,43]) [0,1,2] (sB Yp<|sN) (by kernel_rfl) (by intro h;cases h)
def Zx (Y3:Gm):(List (Gedge × List Int)) × (List Gedge):=(ZP Y3 (((Y3.Tr.length:Int) - 0).toNat + 1) 0 ([]:(List (Gedge × List Int))) ([]:List Gedge))
theorem Z83 (m:Gm) (k:Nat) (i:Int) (b:List (Gedge × List Int)) (l:List Gedge) (h0:0≤i):ZP m (k + 1) i b l=cond (decide (i < (m.Tr.length:Int))) (ZP m k (i + 1) (stT (b,l) (m.Tr.getD i.toNat default) i).1 (stT (b,l) (m.Tr.getD i.toNat default) i).2) (b,l):=by
  have st:∀ (x:Int) (k:Nat) (b:List (Gedge × List Int)) (l:List Gedge),x < 3→Zu m i b l (k + 1) x b l=Zu m i b l (k + 1) x b l:=fun _ _ _ _ _=>rfl
  have one:∀ (b0:List (Gedge × List Int)) (l0:List Gedge) (k:Nat) (x:Int) (s:List (Gedge × List Int) × List Gedge),x < 3→Zu m i b0 l0 (k + 1) x s.1 s.2=Zu m i b0 l0 k (x + 1) (stE s (Z5 m i x) i).1 (stE s (Z5 m i x) i).2:=by
    intro b0 l0 k x s hx
    rw [Zu,decide_eq_true hx,cond_true]
    unfold stE
    cases mhas s.1 (Z5 m i x) with
    | true =>
      rw [cond_true,cond_true]
      cases (((s.1.getD (midx s.1 (Z5 m i x)) default).2.length:Int) == 0)<;>rfl
    | false=>rfl
  have tri:ZG m i b l=stT (b,l) (m.Tr.getD i.toNat default) i:=by
    unfold ZG
    show Zu m i b l 4 0 (b,l).1 (b,l).2=_
    rw [one b l 3 0 (b,l) (by omega),one b l 2 (0 + 1) _ (by omega),one b l 1 (0 + 1 + 1) _ (by omega),Zu]
    show cond (decide ((3:Int) < 3)) _ _=_
    rw [decide_eq_false (by omega),cond_false]
    unfold Z5 stT
    simp only [Z6W]
    rfl
  rw [ZP,tri]
theorem Z6Q (m:Gm) (ok:OkE m.Pq.length m.Tr):ETab m.Tr m.Tr.length (Zx m):=by
  unfold Zx
  exact ETab.loop ok (Z83 m) _ 0 ([],[]) (Nat.zero_le _) (ETab.nil _) (by omega)
theorem Z7P (m:Gm) (ok:OkE m.Pq.length m.Tr):(Zx m).2.length≤4096:=by
  have h:=congrArg List.length ((Z6Q m ok).sorted ok)
  rw [X3f] at h
  rw [h];exact X3C ok
end Go.Ab
namespace Go.Proofs
open Go.Shelf
def Try.laysF0n6_ren:Go.Shelf.Ren:=⟨fun | 6=>119 | 15=>131 | 14=>130 | 28=>142 | 29=>143 | 20=>134 | 21=>135 | 22=>136 | 23=>137 | 24=>138 | 25=>139 | 26=>140 | 27=>141 | 46=>145 | 47=>146 | 48=>147 | 49=>148 | 50=>149 | 57=>151 | n=>n,fun | 22=>108 | 24=>113 | 25=>148 | 3=>3 | 39=>104 | 0=>0 | 53=>165 | 55=>132 | 4=>4 | 46=>158 | 45=>157 | 50=>162 | 5=>5 | 9=>9 | 66=>168 | 70=>172 | 76=>175 | 77=>176 | n=>n,fun | n=>n⟩
theorem Try.laysF0n6:Go.Proofs.SlLaysF0.n6 Try.prog Try.laysF0n6_ren:={
  mixed:=by kernel_rfl
  f6:=⟨Try.f119.name,by decide,Try.func119.trans (congrArg some (by kernel_rfl))⟩
  f14:=⟨Try.f130.name,by decide,Try.func130.trans (congrArg some (by kernel_rfl))⟩
  f15:=Try.func131.trans (congrArg some (by kernel_rfl))
  f20:=⟨Try.f134.name,by decide,Try.func134.trans (congrArg some (by kernel_rfl))⟩
  f21:=⟨Try.f135.name,by decide,Try.func135.trans (congrArg some (by kernel_rfl))⟩
  f22:=⟨Try.f136.name,by decide,Try.func136.trans (congrArg some (by kernel_rfl))⟩
  f23:=⟨Try.f137.name,by decide,Try.func137.trans (congrArg some (by kernel_rfl))⟩
  f24:=⟨Try.f138.name,by decide,Try.func138.trans (congrArg some (by kernel_rfl))⟩
  f25:=⟨Try.f139.name,by decide,Try.func139.trans (congrArg some (by kernel_rfl))⟩
  f26:=⟨Try.f140.name,by decide,Try.func140.trans (congrArg some (by kernel_rfl))⟩
  f27:=⟨Try.f141.name,by decide,Try.func141.trans (congrArg some (by kernel_rfl))⟩
  f28:=Try.func142.trans (congrArg some (by kernel_rfl))
  f29:=Try.func143.trans (congrArg some (by kernel_rfl))
  f46:=⟨Try.f145.name,by decide,Try.func145.trans (congrArg some (by kernel_rfl))⟩
  f47:=Try.func146.trans (congrArg some (by kernel_rfl))
  f48:=Try.func147.trans (congrArg some (by kernel_rfl))
  f49:=⟨Try.f148.name,by decide,Try.func148.trans (congrArg some (by kernel_rfl))⟩
  f50:=⟨Try.f149.name,by decide,Try.func149.trans (congrArg some (by kernel_rfl))⟩
  f57:=⟨Try.f151.name,by decide,Try.func151.trans (congrArg some (by kernel_rfl))⟩
  t0:=Try.underlying0
  a0:=Try.isAgg0
  z0:=Try.sizeOf0
  v0:=Try.zeroValue0
  t3:=Try.underlying3
  a3:=Try.isAgg3
  z3:=Try.sizeOf3
  v3:=Try.zeroValue3
  t4:=Try.underlying4
  a4:=Try.isAgg4
  z4:=Try.sizeOf4
  v4:=Try.zeroValue4
  t5:=Try.underlying5
  a5:=Try.isAgg5
  z5:=Try.sizeOf5
  v5:=Try.zeroValue5
  t9:=Try.underlying9
  a9:=Try.isAgg9
  z9:=Try.sizeOf9
  v9:=Try.zeroValue9
  t22:=Try.underlying108
  a22:=Try.isAgg108
  z22:=Try.sizeOf108
  v22:=Try.zeroValue108
  t25:=Try.underlying148
  a25:=Try.isAgg148
  z25:=Try.sizeOf148
  v25:=Try.zeroValue148
  t39:=Try.underlying104
  a39:=Try.isAgg104
  z39:=Try.sizeOf104
  v39:=Try.zeroValue104
  t45:=Try.underlying157
  a45:=Try.isAgg157
  z45:=Try.sizeOf157
  v45:=Try.zeroValue157
  t46:=Try.underlying158
  a46:=Try.isAgg158
  z46:=Try.sizeOf158
  v46:=Try.zeroValue158
  t50:=Try.underlying162
  a50:=Try.isAgg162
  z50:=Try.sizeOf162
  v50:=Try.zeroValue162
  t53:=Try.underlying165
  a53:=Try.isAgg165
  z53:=Try.sizeOf165
  v53:=Try.zeroValue165
  t55:=Try.underlying132
  a55:=Try.isAgg132
  z55:=Try.sizeOf132
  v55:=Try.zeroValue132
  t66:=Try.underlying168
  a66:=Try.isAgg168
  z66:=Try.sizeOf168
  v66:=Try.zeroValue168
  t70:=Try.underlying172
  a70:=Try.isAgg172
  z70:=Try.sizeOf172
  v70:=Try.zeroValue172
  t76:=Try.underlying175
  a76:=Try.isAgg175
  z76:=Try.sizeOf175
  v76:=Try.zeroValue175
  t77:=Try.underlying176
  a77:=Try.isAgg176
  z77:=Try.sizeOf176
  v77:=Try.zeroValue176 }
end Go.Proofs
namespace Go.Ab
open Go.RowKit Go.Proofs.Try
theorem Z8W (x y:Int):Z10 x y=if x < y then -1 else if x > y then 1 else 0:=by
  unfold Z10 Z1y
  simp only [bne_self_eq_false,cond_false]
  by_cases h1:x < y
  · simp [h1]
  · by_cases h2:x > y<;>simp [h1,h2]
theorem Z8X (a b:Gedge):Z39 a b=cmpP a.pr b.pr:=by
  unfold Z39 Z19 Z1l cmpP Gedge.pr
  show (match Zy [a.e0,a.e1] [b.e0,b.e1] 3 0 with | .inl r1=>r1 | .inr r1=>cond (decide (((2:Nat):Int) < ((2:Nat):Int))) (-1) 0)=_
  simp only [Zy,Z8W,List.length_cons,List.length_nil]
  by_cases h1:a.e0 < b.e0
  · simp [h1]
  · by_cases h2:a.e0 > b.e0
    · simp [h1,h2]
    · by_cases h3:a.e1 < b.e1
      · simp [h1,h2,h3]
      · by_cases h4:a.e1 > b.e1<;>simp [h1,h2,h3,h4]
def Z2N (l:List Gedge):List Gedge:=X2a Gedge.pr l
theorem Z5f (l:List Gedge) (h:l.length≤1073741824):Xj prog 119 [.vec 113 2 (l.map Gedge.cells) false] [.own 0, .fn 120 []] (.tup []) [.vec 113 2 ((Z2N l).map Gedge.cells) false] :=
  X7X laysF0n6 isAgg113 sizeOf113 Gedge.pr Gedge.inj Gedge.cells (fun _=>rfl) 113 120 ⟨_,func119,rfl,by kernel_rfl⟩ (Z4x default default).1
    (fun a b W=>((Z4x a b).2 W #[keyV a.pr,keyV b.pr] ⟨rfl,fun j c e=>by match j,e with | 0,e=>cases e;exact Rep.agg _ _ rfl (fun i c e=>by match i,e with | 0,e=>cases e;exact .i _ _ | 1,e=>cases e;exact .i _ _) | 1,e=>cases e;exact Rep.agg _ _ rfl (fun i c e=>by match i,e with | 0,e=>cases e;exact .i _ _ | 1,e=>cases e;exact .i _ _)⟩).mono fun e w' ⟨v,μ',he,hb,_,hr⟩=>by
      cases hr;rw [Z8X] at he;exact ⟨he,hb⟩) l h
def Zf (Y3:Gm):(List (Gedge × List Int)) × (List Gedge):=((Zx Y3).1,(Z2N ((Zx Y3).2)))
theorem Z3X (m:Gm) (ok:OkE m.Pq.length m.Tr):(Zf m).2=edgL m.Pq.length m.Tr:=(Z6Q m ok).sorted ok
theorem Z73 (m:Gm) (ok:OkE m.Pq.length m.Tr) {e:Gedge} (he:e∈(Zf m).2):mhas (Zf m).1 e=true∧((Zf m).1.getD (midx (Zf m).1 e) default).2=idxP m.Tr e.e0 e.e1:=by
  rw [Z3X m ok] at he
  have h:=(Z6Q m ok).at ok he
  exact ⟨h.1,h.2.trans (X8g ok (X3B.1 he).1.2.1)⟩
theorem Z5Z (m:Gm) (ok:OkE m.Pq.length m.Tr):(Zf m).2.length≤4096:=by
  rw [Z3X m ok];exact X3C ok
theorem Z6X (m:Gm) (ok:OkE m.Pq.length m.Tr) {i:Int} (h0:0≤i) (hi:i < ((Zf m).2.length:Int)):(Zf m).2.getD i.toNat default∈(Zf m).2:=by
  have hn:i.toNat < (Zf m).2.length:=by omega
  rw [List.getD_eq_getElem?_getD,List.getElem?_eq_getElem hn];exact List.getElem_mem hn
theorem Z4T (m:Gm) (ok:OkE m.Pq.length m.Tr) {i:Int} (h0:0≤i) (hi:i < ((Zf m).2.length:Int)) :
    0≤((Zf m).2.getD i.toNat default).e0∧((Zf m).2.getD i.toNat default).e0 < ((Zf m).2.getD i.toNat default).e1∧((Zf m).2.getD i.toNat default).e1 < (m.Pq.length:Int)∧(m.Pq.length:Int)≤64∧((Zf m).2.length:Int)≤4096:=by
  have hl:=Z5Z m ok
  have h64:=ok.1
  have hm:=Z6X m ok h0 hi
  rw [Z3X m ok] at hm
  have hb:=X8h hm
  rw [← Z3X m ok] at hb
  exact ⟨hb.1,hb.2.1,hb.2.2,by omega,by omega⟩
theorem Z26 (Y3:Gm) (hp0:Y3.Pq.length≤1073741824) (hp1:Y3.Tr.length≤1073741824) (hp2:∀ t∈Y3.Tr,t.length≤1073741824) (hp3:OkE Y3.Pq.length Y3.Tr)  : Fn prog 82 [.agg [.sl (Y3.Pq.map Gv.c), .sl (Y3.Tr.map (cL (cI .i64)))]] (.tup [.mp 0, .own 1]) [.mapN 2 (mapC Gedge.pr (cI .i64) ((Zf Y3).1)) none, .vec 113 2 (((Zf Y3).2).map Gedge.cells) false]:=by
 have y0:((Zx Y3).2).length≤1073741824:=(by (have q:=Z7P Y3 hp3;omega))
 refine fnS E0Ok Zo (c:=X1 f82) [] (.tup [.mp 0, .own 1]) [.mapN 2 (mapC Gedge.pr (cI .i64) ((Zx Y3).1)) none, .vec 113 2 ((Z2N ((Zx Y3).2)).map Gedge.cells) false] func82 (sZ (cL (cI .i64)) Y3.Tr<|sL (mR false [0,2,1,3,4,1,1,4,41]) 3 (XI (st2:=⟨.agg [.sl (Y3.Pq.map Gv.c), .sl (Y3.Tr.map (cL (cI .i64)))] :: .ptr 0 0 0 :: .any :: .nils :: .mp 1 :: .own 2 :: an 4 (.mp 1 :: .any :: .ptr 0 0 1 :: .sl (Y3.Tr.map (cL (cI .i64))) :: .i .i64 (Y3.Tr.length:Int) :: .i .i64 0 :: an 41 []),[.box 27 [.sl (Y3.Pq.map Gv.c), .sl (Y3.Tr.map (cL (cI .i64)))], .mapN 2 [] none, .vec 113 2 ([]:List (List AV)) false]⟩) (X7 (Z2t Y3) (x:=(Zx Y3)) (Z55 Y3 hp0 hp1 hp2 hp3 (((Y3.Tr.length:Int) - 0).toNat + 1) 0 ([]:(List (Gedge × List Int))) ([]:List Gedge) (show 0≤0 from (by omega)) (show (([]:List Gedge).length:Int)≤3 * 0 from (by simp;done)) (show ∀ y∈([]:(List (Gedge × List Int))),(y.2.length:Int)≤3 * 0 from (by simp;done)) (Nat.lt_succ_self _)) rfl) (by simp [Z3g,mapC,Gedge.cells]))<|sS (Xj.frame (Z5f ((Zx Y3).2) y0) [2] (R:=[.box 27 [.sl (Y3.Pq.map Gv.c), .sl (Y3.Tr.map (cL (cI .i64)))], .mapN 2 (mapC Gedge.pr (cI .i64) ((Zx Y3).1)) none, .vec 113 2 (((Zx Y3).2).map Gedge.cells) false]) (args':=[.own 2, .fn 120 []]) rfl rfl rfl rfl rfl rfl)<|sK [1,2] sN) rfl (by kernel_rfl) (by kernel_rfl) rfl ?_ ?_
 · rfl
 · simp [Zf]
def Z2f (Yy:Gv) (Yz:Gv):Gv:=(⟨(fop .add .f32 Yy.X Yz.X),(fop .add .f32 Yy.Y Yz.Y),(fop .add .f32 Yy.Z Yz.Z)⟩:Gv)
theorem Z50 (Yy:Gv) (Yz:Gv)   : Fn prog 51 [.agg [.f .f32 Yy.X, .f .f32 Yy.Y, .f .f32 Yy.Z], .agg [.f .f32 Yz.X, .f .f32 Yz.Y, .f .f32 Yz.Z]] (.agg [.f .f32 ((Z2f Yy Yz).X), .f .f32 ((Z2f Yy Yz).Y), .f .f32 ((Z2f Yy Yz).Z)]) []:=by
 refine fnS E0Ok Zo (c:=X1 f51) [] (.agg [.f .f32 (fop .add .f32 Yy.X Yz.X), .f .f32 (fop .add .f32 Yy.Y Yz.Y), .f .f32 (fop .add .f32 Yy.Z Yz.Z)]) [] func51 (sK [] sN) rfl (by kernel_rfl) (by kernel_rfl) rfl ?_ ?_
 · rfl
 · rfl
def ZY (v_0:Gv) (Y17:Nat):Gv:=(⟨(fop .mul .f32 v_0.X Y17),(fop .mul .f32 v_0.Y Y17),(fop .mul .f32 v_0.Z Y17)⟩:Gv)
theorem Z2J (v_0:Gv) (Y17:Nat)   : Fn prog 77 [.agg [.f .f32 v_0.X, .f .f32 v_0.Y, .f .f32 v_0.Z], .f .f32 Y17] (.agg [.f .f32 ((ZY v_0 Y17).X), .f .f32 ((ZY v_0 Y17).Y), .f .f32 ((ZY v_0 Y17).Z)]) []:=by
 refine fnS E0Ok Zo (c:=X1 f77) [] (.agg [.f .f32 (fop .mul .f32 v_0.X Y17), .f .f32 (fop .mul .f32 v_0.Y Y17), .f .f32 (fop .mul .f32 v_0.Z Y17)]) [] func77 (sK [] sN) rfl (by kernel_rfl) (by kernel_rfl) rfl ?_ ?_
 · rfl
 · rfl
def Z3G (Yy:Gv) (Yz:Gv):Nat:=(fop .add .f32 (fop .add .f32 (fop .mul .f32 Yy.X Yz.X) (fop .mul .f32 Yy.Y Yz.Y)) (fop .mul .f32 Yy.Z Yz.Z))
theorem Z6R (Yy:Gv) (Yz:Gv)   : Fn prog 53 [.agg [.f .f32 Yy.X, .f .f32 Yy.Y, .f .f32 Yy.Z], .agg [.f .f32 Yz.X, .f .f32 Yz.Y, .f .f32 Yz.Z]] (.f .f32 (Z3G Yy Yz)) []:=by
 refine fnS E0Ok Zo (c:=X1 f53) [] (.f .f32 (fop .add .f32 (fop .add .f32 (fop .mul .f32 Yy.X Yz.X) (fop .mul .f32 Yy.Y Yz.Y)) (fop .mul .f32 Yy.Z Yz.Z))) [] func53 (sK [] sN) rfl (by kernel_rfl) (by kernel_rfl) rfl ?_ ?_
 · rfl
 · rfl
def Z4M (Yj:Nat):Nat:=(X2n Yj)
theorem Z7a (Yj:Nat)   : Fn prog 121 [.f .f64 Yj] (.f .f64 (Z4M Yj)) []:=by
 refine fnS E0Ok Zo (c:=X1 f121) [] (.f .f64 (X2n Yj)) [] func121 (sK [] sN) rfl (by kernel_rfl) (by kernel_rfl) rfl ?_ ?_
 · rfl
 · rfl
def Z3L (Yj:Nat):Nat:=(fcv .f64 .f32 (Z4M (fcv .f32 .f64 Yj)))
theorem Z6g (Yj:Nat)   : Fn prog 98 [.f .f32 Yj] (.f .f32 (Z3L Yj)) []:=by
 have y0:XX .f64 .f32 (Z4M (fcv .f32 .f64 Yj))=true:=(X6h _)
 refine fnS E0Ok Zo (c:=X1 f98) [] (.f .f32 (fcv .f64 .f32 (Z4M (fcv .f32 .f64 Yj)))) [] func98 (sC (X4a Yj)<|sF (Z7a (fcv .f32 .f64 Yj))<|sC y0<|sK [] sN) rfl (by kernel_rfl) (by kernel_rfl) rfl ?_ ?_
 · rfl
 · rfl
def Z1s (v_0:Gv):Nat:=(Z3L (Z3G v_0 v_0))
theorem Z4Y (v_0:Gv)   : Fn prog 52 [.agg [.f .f32 v_0.X, .f .f32 v_0.Y, .f .f32 v_0.Z]] (.f .f32 (Z1s v_0)) []:=by
 refine fnS E0Ok Zo (c:=X1 f52) [] (.f .f32 (Z3L (Z3G v_0 v_0))) [] func52 (sF (Z6R v_0 v_0)<|sF (Z6g (Z3G v_0 v_0))<|sK [] sN) rfl (by kernel_rfl) (by kernel_rfl) rfl ?_ ?_
 · rfl
 · rfl
def Z2C:List Gedge:=[⟨0,2⟩,⟨0,3⟩,⟨0,4⟩,⟨0,5⟩,⟨1,2⟩,⟨1,3⟩,⟨1,4⟩,⟨1,5⟩,⟨2,4⟩,⟨2,5⟩,⟨3,4⟩,⟨3,5⟩]
theorem Z2K:(Zd ([0,2,4,2,1,4,1,3,4,3,0,4,2,0,5,1,2,5,3,1,5,0,3,5]))=([[0,2,4],[2,1,4],[1,3,4],[3,0,4],[2,0,5],[1,2,5],[3,1,5],[0,3,5]]:List (List Int)):=by decide +kernel
theorem Z74 (p:Nat):OkE ((⟨[(⟨p,0,0⟩:Gv),(⟨(fneg .f32 p),0,0⟩:Gv),(⟨0,p,0⟩:Gv),(⟨0,(fneg .f32 p),0⟩:Gv),(⟨0,0,p⟩:Gv),(⟨0,0,(fneg .f32 p)⟩:Gv)],(Zd ([0,2,4,2,1,4,1,3,4,3,0,4,2,0,5,1,2,5,3,1,5,0,3,5]))⟩:Gm)).Pq.length ((⟨[(⟨p,0,0⟩:Gv),(⟨(fneg .f32 p),0,0⟩:Gv),(⟨0,p,0⟩:Gv),(⟨0,(fneg .f32 p),0⟩:Gv),(⟨0,0,p⟩:Gv),(⟨0,0,(fneg .f32 p)⟩:Gv)],(Zd ([0,2,4,2,1,4,1,3,4,3,0,4,2,0,5,1,2,5,3,1,5,0,3,5]))⟩:Gm)).Tr:=by
  show OkE 6 (Zd ([0,2,4,2,1,4,1,3,4,3,0,4,2,0,5,1,2,5,3,1,5,0,3,5]))
  rw [Z2K];exact X7U
theorem Z1F (p:Nat):(Zf (⟨[(⟨p,0,0⟩:Gv),(⟨(fneg .f32 p),0,0⟩:Gv),(⟨0,p,0⟩:Gv),(⟨0,(fneg .f32 p),0⟩:Gv),(⟨0,0,p⟩:Gv),(⟨0,0,(fneg .f32 p)⟩:Gv)],(Zd ([0,2,4,2,1,4,1,3,4,3,0,4,2,0,5,1,2,5,3,1,5,0,3,5]))⟩:Gm)).2=Z2C:=by
  rw [Z3X _ (Z74 p)]
  show edgL 6 (Zd ([0,2,4,2,1,4,1,3,4,3,0,4,2,0,5,1,2,5,3,1,5,0,3,5]))=Z2C
  rw [Z2K];decide +kernel
theorem Z5g {L:List Gedge} (h:L=Z2C) {x:Int} (h0:0≤x) (hx:x < (L.length:Int)):(0≤(L.getD x.toNat default).e0∧(L.getD x.toNat default).e0 < 6)∧(0≤(L.getD x.toNat default).e1∧(L.getD x.toNat default).e1 < 6)∧L.length=12:=by
  subst h
  have hl:Z2C.length=12:=rfl
  have key:∀ j,j < 12→(0≤(Z2C.getD j default).e0∧(Z2C.getD j default).e0 < 6)∧(0≤(Z2C.getD j default).e1∧(Z2C.getD j default).e1 < 6):=by decide +kernel
  have:=key x.toNat (by omega)
  exact ⟨this.1,this.2,hl⟩
theorem Z4U {L:List Gedge} (h:L=Z2C):(0≤(L.getD 0 default).e0∧(L.getD 0 default).e0 < 6)∧(0≤(L.getD 0 default).e1∧(L.getD 0 default).e1 < 6)∧L.length=12:=by
  subst h;decide +kernel
theorem Z7B {L:List Gedge} (h:L=Z2C):decide (0 < (L.length:Int))=true:=by subst h;rfl
theorem Z5h {x:Int} (h0:0≤x) (hx:x < ((Zd ([0,2,4,2,1,4,1,3,4,3,0,4,2,0,5,1,2,5,3,1,5,0,3,5])).length:Int)):((Zd ([0,2,4,2,1,4,1,3,4,3,0,4,2,0,5,1,2,5,3,1,5,0,3,5])).getD x.toNat default).length=3∧x < 8:=by
  rw [Z2K] at hx ⊢
  exact X7V h0 hx
theorem Z7Q:(Zd ([0,2,4,2,1,4,1,3,4,3,0,4,2,0,5,1,2,5,3,1,5,0,3,5])).length≤1073741824:=by rw [Z2K];decide
theorem Z7C:∀ t∈(Zd ([0,2,4,2,1,4,1,3,4,3,0,4,2,0,5,1,2,5,3,1,5,0,3,5])),t.length≤1073741824:=by rw [Z2K];exact X8J
def Zc (Y9:Nat):(List (Gedge × List Int)) × (List Gedge):=(Zf (⟨[(⟨Y9,0,0⟩:Gv),(⟨(fneg .f32 Y9),0,0⟩:Gv),(⟨0,Y9,0⟩:Gv),(⟨0,(fneg .f32 Y9),0⟩:Gv),(⟨0,0,Y9⟩:Gv),(⟨0,0,(fneg .f32 Y9)⟩:Gv)],(Zd ([0,2,4,2,1,4,1,3,4,3,0,4,2,0,5,1,2,5,3,1,5,0,3,5]))⟩:Gm))
def Z1Z (Y9:Nat):Gv:=(Z2f (([(⟨Y9,0,0⟩:Gv),(⟨(fneg .f32 Y9),0,0⟩:Gv),(⟨0,Y9,0⟩:Gv),(⟨0,(fneg .f32 Y9),0⟩:Gv),(⟨0,0,Y9⟩:Gv),(⟨0,0,(fneg .f32 Y9)⟩:Gv)]).getD (((((Zc Y9).2).getD 0 default).e0).toNat) default) (([(⟨Y9,0,0⟩:Gv),(⟨(fneg .f32 Y9),0,0⟩:Gv),(⟨0,Y9,0⟩:Gv),(⟨0,(fneg .f32 Y9),0⟩:Gv),(⟨0,0,Y9⟩:Gv),(⟨0,0,(fneg .f32 Y9)⟩:Gv)]).getD (((((Zc Y9).2).getD 0 default).e1).toNat) default))
def Z17 (Y9:Nat):Gv:=(ZY (ZY (Z1Z Y9) 1056964608) (fop .quo .f32 Y9 (Z1s (ZY (Z1Z Y9) 1056964608))))
def Z20 (Y9:Nat) (Y1:Int):Gv:=(Z2f (([(⟨Y9,0,0⟩:Gv),(⟨(fneg .f32 Y9),0,0⟩:Gv),(⟨0,Y9,0⟩:Gv),(⟨0,(fneg .f32 Y9),0⟩:Gv),(⟨0,0,Y9⟩:Gv),(⟨0,0,(fneg .f32 Y9)⟩:Gv)]).getD (((((Zc Y9).2).getD Y1.toNat default).e0).toNat) default) (([(⟨Y9,0,0⟩:Gv),(⟨(fneg .f32 Y9),0,0⟩:Gv),(⟨0,Y9,0⟩:Gv),(⟨0,(fneg .f32 Y9),0⟩:Gv),(⟨0,0,Y9⟩:Gv),(⟨0,0,(fneg .f32 Y9)⟩:Gv)]).getD (((((Zc Y9).2).getD Y1.toNat default).e1).toNat) default))
def ZZ (Y9:Nat) (Y1:Int):Gv:=(ZY (ZY (Z20 Y9 Y1) 1056964608) (fop .quo .f32 Y9 (Z1s (ZY (Z20 Y9 Y1) 1056964608))))
def Z1n (Y0:Int) (Y9:Nat):Nat→Int→(List ((Int × Int) × Int))→(List Gv)→(List ((Int × Int) × Int)) × (List Gv)
  | 0,_,_,_=>default
  | k + 1,Y1,YK,YE=>(cond (decide (Y1 < (((Zc Y9).2).length:Int)))
    (Z1n Y0 Y9 k (Y1 + 1) (Xk YK ((((Zc Y9).2).getD Y1.toNat default).e0,(((Zc Y9).2).getD Y1.toNat default).e1) (YE.length:Int)) (YE ++ [(ZZ Y9 Y1)]))
    (YK,YE))
def Z3s (Y0:Int) (Y9:Nat) (r:(List ((Int × Int) × Int)) × (List Gv)):Ex × St:=((.exit 0),⟨.i .i64 Y0 :: .f .f32 Y9 :: .any :: .any :: .ptr 0 0 0 :: .b false :: .ptr 1 0 0 :: .ptr 2 0 0 :: .any :: .own 3 :: .mp 4 :: an 11 (.i .i64 Y0 :: .b (Z4 Y0 0 1) :: .b (!(Z4 Y0 0 1)) :: .b (!(Z4 Y0 0 1)) :: .f .f32 Y9 :: .b (Z6 Y9) :: .b (!(Z6 Y9)) :: .b (!(Z6 Y9)) :: .any :: .f .f32 Y9 :: .agg [.f .f32 Y9, .f .f32 0, .f .f32 0] :: .f .f32 Y9 :: .f .f32 (fneg .f32 Y9) :: .agg [.f .f32 (fneg .f32 Y9), .f .f32 0, .f .f32 0] :: .f .f32 Y9 :: .agg [.f .f32 0, .f .f32 Y9, .f .f32 0] :: .f .f32 Y9 :: .f .f32 (fneg .f32 Y9) :: .agg [.f .f32 0, .f .f32 (fneg .f32 Y9), .f .f32 0] :: .f .f32 Y9 :: .agg [.f .f32 0, .f .f32 0, .f .f32 Y9] :: .f .f32 Y9 :: .f .f32 (fneg .f32 Y9) :: .agg [.f .f32 0, .f .f32 0, .f .f32 (fneg .f32 Y9)] :: .own 5 :: .agg [.own 5, .nils] :: .own 6 :: .own 7 :: .ptr 1 0 1 :: .i .i64 Y0 :: .b (Y0 == 0) :: .any :: .ptr 1 0 0 :: .own 5 :: .agg [.own 5, .nils] :: .any :: .agg [.own 5, .own 7] :: .any :: .mp 8 :: .own 3 :: .mp 4 :: .own 3 :: an 93 []),[.box 27 [.nils, .nils], .box 27 [.own 5, .own 7], .box 27 [.own 9, .nils], .vec 113 2 (((Zc Y9).2).map Gedge.cells) false, .mapS 111 (some .i64) r.1 none, .vec 32 3 ([[.f .f32 Y9, .f .f32 0, .f .f32 0],[.f .f32 (fneg .f32 Y9), .f .f32 0, .f .f32 0],[.f .f32 0, .f .f32 Y9, .f .f32 0],[.f .f32 0, .f .f32 (fneg .f32 Y9), .f .f32 0],[.f .f32 0, .f .f32 0, .f .f32 Y9],[.f .f32 0, .f .f32 0, .f .f32 (fneg .f32 Y9)]]:List (List AV)) false, .vec 2 1 ([[.i .i64 0],[.i .i64 2],[.i .i64 4],[.i .i64 2],[.i .i64 1],[.i .i64 4],[.i .i64 1],[.i .i64 3],[.i .i64 4],[.i .i64 3],[.i .i64 0],[.i .i64 4],[.i .i64 2],[.i .i64 0],[.i .i64 5],[.i .i64 1],[.i .i64 2],[.i .i64 5],[.i .i64 3],[.i .i64 1],[.i .i64 5],[.i .i64 0],[.i .i64 3],[.i .i64 5]]:List (List AV)) false, .nest 60 ((Zd ([0,2,4,2,1,4,1,3,4,3,0,4,2,0,5,1,2,5,3,1,5,0,3,5])).map fun l=>l.map (cI .i64)) false, .mapN 2 (mapC Gedge.pr (cI .i64) ((Zc Y9).1)) none, .vec 32 3 (r.2.map Gv.c) false]⟩)
def Z3t (Y0:Int) (Y9:Nat) (Y1:Int) (YK:(List ((Int × Int) × Int))) (YE:(List Gv)):St:=⟨.i .i64 Y0 :: .f .f32 Y9 :: .any :: .any :: .ptr 0 0 0 :: .b false :: .ptr 2 0 0 :: .ptr 5 0 0 :: .any :: .own 7 :: .mp 8 :: an 11 (.i .i64 Y0 :: .b (Z4 Y0 0 1) :: .b (!(Z4 Y0 0 1)) :: .b (!(Z4 Y0 0 1)) :: .f .f32 Y9 :: .b (Z6 Y9) :: .b (!(Z6 Y9)) :: .b (!(Z6 Y9)) :: .any :: .f .f32 Y9 :: .agg [.f .f32 Y9, .f .f32 0, .f .f32 0] :: .f .f32 Y9 :: .f .f32 (fneg .f32 Y9) :: .agg [.f .f32 (fneg .f32 Y9), .f .f32 0, .f .f32 0] :: .f .f32 Y9 :: .agg [.f .f32 0, .f .f32 Y9, .f .f32 0] :: .f .f32 Y9 :: .f .f32 (fneg .f32 Y9) :: .agg [.f .f32 0, .f .f32 (fneg .f32 Y9), .f .f32 0] :: .f .f32 Y9 :: .agg [.f .f32 0, .f .f32 0, .f .f32 Y9] :: .f .f32 Y9 :: .f .f32 (fneg .f32 Y9) :: .agg [.f .f32 0, .f .f32 0, .f .f32 (fneg .f32 Y9)] :: .own 1 :: .agg [.own 1, .nils] :: .own 3 :: .own 4 :: .ptr 2 0 1 :: .i .i64 Y0 :: .b (Y0 == 0) :: .any :: .ptr 2 0 0 :: .own 1 :: .agg [.own 1, .nils] :: .any :: .agg [.own 1, .own 4] :: .any :: .mp 6 :: .own 7 :: .mp 8 :: .own 7 :: .i .i64 (((Zc Y9).2).length:Int) :: .i .i64 Y1 :: an 91 []),[.box 27 [.nils, .nils], .vec 32 3 ([[.f .f32 Y9, .f .f32 0, .f .f32 0],[.f .f32 (fneg .f32 Y9), .f .f32 0, .f .f32 0],[.f .f32 0, .f .f32 Y9, .f .f32 0],[.f .f32 0, .f .f32 (fneg .f32 Y9), .f .f32 0],[.f .f32 0, .f .f32 0, .f .f32 Y9],[.f .f32 0, .f .f32 0, .f .f32 (fneg .f32 Y9)]]:List (List AV)) false, .box 27 [.own 1, .own 4], .vec 2 1 ([[.i .i64 0],[.i .i64 2],[.i .i64 4],[.i .i64 2],[.i .i64 1],[.i .i64 4],[.i .i64 1],[.i .i64 3],[.i .i64 4],[.i .i64 3],[.i .i64 0],[.i .i64 4],[.i .i64 2],[.i .i64 0],[.i .i64 5],[.i .i64 1],[.i .i64 2],[.i .i64 5],[.i .i64 3],[.i .i64 1],[.i .i64 5],[.i .i64 0],[.i .i64 3],[.i .i64 5]]:List (List AV)) false, .nest 60 ((Zd ([0,2,4,2,1,4,1,3,4,3,0,4,2,0,5,1,2,5,3,1,5,0,3,5])).map fun l=>l.map (cI .i64)) false, .box 27 [.own 9, .nils], .mapN 2 (mapC Gedge.pr (cI .i64) ((Zc Y9).1)) none, .vec 113 2 (((Zc Y9).2).map Gedge.cells) false, .mapS 111 (some .i64) YK none, .vec 32 3 (YE.map Gv.c) false]⟩
def Z5A:List Bool:=(mR false [0,2,2,4,1,2,11,8,1,22,1,3,1,1,1,6,91])
def Z5B:List Bool:=(mR false [0,2,2,4,1,2,11,8,1,22,1,3,1,1,1,4,93])
set_option maxHeartbeats 1000000 in
theorem Z60 (Y0:Int) (Y9:Nat)  : ∀ (k:Nat) (Y1:Int) (YK:(List ((Int × Int) × Int))) (YE:(List Gv)) (Z4g:1≤Y1) (Z4h:(YE.length:Int)=6 + Y1) (hk:((((Zc Y9).2).length:Int) - Y1).toNat < k),Lp prog 0 (sub (X1 f31) [1,1,1,1,1,1,1,1,0,1,0,0]) (Z3t Y0 Y9 Y1 YK YE) (Z3s Y0 Y9 (Z1n Y0 Y9 k Y1 YK YE)).1 (Z3s Y0 Y9 (Z1n Y0 Y9 k Y1 YK YE)).2:=by
 intro k
 induction k with
 | zero=>intro Y1 YK YE Z4g Z4h hk;exact absurd hk (Nat.not_lt_zero _)
 | succ k ih =>
  intro Y1 YK YE Z4g Z4h hk
  cases Yp:(decide (Y1 < (((Zc Y9).2).length:Int))) with
  | true =>
   have YF:=odt Yp
   have YO:(0:Int)≤Y1:=(by omega)
   have YL:Y1 < (((Zc Y9).2).length:Int):=(by with_reducible assumption)
   have YU:Y1.toNat < ((Zc Y9).2).length:=(by omega)
   have YR:(0:Int)≤((((Zc Y9).2).getD Y1.toNat default).e0):=(by ((have q:=Z5g (L:=(Zc Y9).2) (Z1F Y9) (by omega) (odt Yp);omega)))
   have YZ:((((Zc Y9).2).getD Y1.toNat default).e0) < (([(⟨Y9,0,0⟩:Gv),(⟨(fneg .f32 Y9),0,0⟩:Gv),(⟨0,Y9,0⟩:Gv),(⟨0,(fneg .f32 Y9),0⟩:Gv),(⟨0,0,Y9⟩:Gv),(⟨0,0,(fneg .f32 Y9)⟩:Gv)]).length:Int):=(by ((have q:=Z5g (L:=(Zc Y9).2) (Z1F Y9) (by omega) (odt Yp);(simp only [List.length_cons,List.length_nil];omega))))
   have y_5:((((Zc Y9).2).getD Y1.toNat default).e0).toNat < ([(⟨Y9,0,0⟩:Gv),(⟨(fneg .f32 Y9),0,0⟩:Gv),(⟨0,Y9,0⟩:Gv),(⟨0,(fneg .f32 Y9),0⟩:Gv),(⟨0,0,Y9⟩:Gv),(⟨0,0,(fneg .f32 Y9)⟩:Gv)]).length:=(by omega)
   have y_6:(0:Int)≤((((Zc Y9).2).getD Y1.toNat default).e1):=(by ((have q:=Z5g (L:=(Zc Y9).2) (Z1F Y9) (by omega) (odt Yp);omega)))
   have y_7:((((Zc Y9).2).getD Y1.toNat default).e1) < (([(⟨Y9,0,0⟩:Gv),(⟨(fneg .f32 Y9),0,0⟩:Gv),(⟨0,Y9,0⟩:Gv),(⟨0,(fneg .f32 Y9),0⟩:Gv),(⟨0,0,Y9⟩:Gv),(⟨0,0,(fneg .f32 Y9)⟩:Gv)]).length:Int):=(by ((have q:=Z5g (L:=(Zc Y9).2) (Z1F Y9) (by omega) (odt Yp);(simp only [List.length_cons,List.length_nil];omega))))
   have y_8:((((Zc Y9).2).getD Y1.toNat default).e1).toNat < ([(⟨Y9,0,0⟩:Gv),(⟨(fneg .f32 Y9),0,0⟩:Gv),(⟨0,Y9,0⟩:Gv),(⟨0,(fneg .f32 Y9),0⟩:Gv),(⟨0,0,Y9⟩:Gv),(⟨0,0,(fneg .f32 Y9)⟩:Gv)]).length:=(by omega)
   have y_9:YE.length + ([(ZZ Y9 Y1)]).length≤1073741824:=(by ((have q:=Z5g (L:=(Zc Y9).2) (Z1F Y9) (by omega) (odt Yp);(simp only [List.length_cons,List.length_nil];omega))))
   have Y1j:(-9223372036854775808:Int)≤(Y1 + 1):=(by omega)
   have Y1k:(Y1 + 1)≤(9223372036854775807:Int):=(by omega)
   have e:Z1n Y0 Y9 (k + 1) Y1 YK YE=(Z1n Y0 Y9 k (Y1 + 1) (Xk YK ((((Zc Y9).2).getD Y1.toNat default).e0,(((Zc Y9).2).getD Y1.toNat default).e1) (YE.length:Int)) (YE ++ [(ZZ Y9 Y1)])):=by simp only [Z1n,Yp,cond_true]
   rw [e]
   exact XQ E0Ok Zo [] Z5A [0,1,2,3,4,5,6,7,8,9] (⟨.i .i64 Y0 :: .f .f32 Y9 :: .any :: .any :: .ptr 0 0 0 :: .b false :: .ptr 2 0 0 :: .ptr 5 0 0 :: .any :: .own 7 :: .mp 8 :: an 11 (.i .i64 Y0 :: .b (Z4 Y0 0 1) :: .b (!(Z4 Y0 0 1)) :: .b (!(Z4 Y0 0 1)) :: .f .f32 Y9 :: .b (Z6 Y9) :: .b (!(Z6 Y9)) :: .b (!(Z6 Y9)) :: .any :: .f .f32 Y9 :: .agg [.f .f32 Y9, .f .f32 0, .f .f32 0] :: .f .f32 Y9 :: .f .f32 (fneg .f32 Y9) :: .agg [.f .f32 (fneg .f32 Y9), .f .f32 0, .f .f32 0] :: .f .f32 Y9 :: .agg [.f .f32 0, .f .f32 Y9, .f .f32 0] :: .f .f32 Y9 :: .f .f32 (fneg .f32 Y9) :: .agg [.f .f32 0, .f .f32 (fneg .f32 Y9), .f .f32 0] :: .f .f32 Y9 :: .agg [.f .f32 0, .f .f32 0, .f .f32 Y9] :: .f .f32 Y9 :: .f .f32 (fneg .f32 Y9) :: .agg [.f .f32 0, .f .f32 0, .f .f32 (fneg .f32 Y9)] :: .own 1 :: .agg [.own 1, .nils] :: .own 3 :: .own 4 :: .ptr 2 0 1 :: .i .i64 Y0 :: .b (Y0 == 0) :: .any :: .ptr 2 0 0 :: .own 1 :: .agg [.own 1, .nils] :: .any :: .agg [.own 1, .own 4] :: .any :: .mp 6 :: .own 7 :: .mp 8 :: .own 7 :: .i .i64 (((Zc Y9).2).length:Int) :: .i .i64 (Y1 + 1) :: an 91 []),[.box 27 [.nils, .nils], .vec 32 3 ([[.f .f32 Y9, .f .f32 0, .f .f32 0],[.f .f32 (fneg .f32 Y9), .f .f32 0, .f .f32 0],[.f .f32 0, .f .f32 Y9, .f .f32 0],[.f .f32 0, .f .f32 (fneg .f32 Y9), .f .f32 0],[.f .f32 0, .f .f32 0, .f .f32 Y9],[.f .f32 0, .f .f32 0, .f .f32 (fneg .f32 Y9)]]:List (List AV)) false, .box 27 [.own 1, .own 4], .vec 2 1 ([[.i .i64 0],[.i .i64 2],[.i .i64 4],[.i .i64 2],[.i .i64 1],[.i .i64 4],[.i .i64 1],[.i .i64 3],[.i .i64 4],[.i .i64 3],[.i .i64 0],[.i .i64 4],[.i .i64 2],[.i .i64 0],[.i .i64 5],[.i .i64 1],[.i .i64 2],[.i .i64 5],[.i .i64 3],[.i .i64 1],[.i .i64 5],[.i .i64 0],[.i .i64 3],[.i .i64 5]]:List (List AV)) false, .nest 60 ((Zd ([0,2,4,2,1,4,1,3,4,3,0,4,2,0,5,1,2,5,3,1,5,0,3,5])).map fun l=>l.map (cI .i64)) false, .box 27 [.own 9, .nils], .mapN 2 (mapC Gedge.pr (cI .i64) ((Zc Y9).1)) none, .vec 113 2 (((Zc Y9).2).map Gedge.cells) false, .mapS 111 (some .i64) (Xk YK ((((Zc Y9).2).getD Y1.toNat default).e0,(((Zc Y9).2).getD Y1.toNat default).e1) (YE.length:Int)) none, .vec 32 3 ((YE.map Gv.c) ++ ([[.f .f32 ((ZZ Y9 Y1).X), .f .f32 ((ZZ Y9 Y1).Y), .f .f32 ((ZZ Y9 Y1).Z)]]:List (List AV))) false]⟩) (sB Yp<|sX Gedge.cells ((Zc Y9).2) Y1 YO YL<|sV Gedge.cells ((Zc Y9).2) Y1.toNat YU<|sK [15,15]<|sC (show (0:Int)≤0∧0 < ((2:Nat):Int) from (by decide))<|sC (show 0≤((((Zc Y9).2).getD Y1.toNat default).e0)∧Int.toNat ((((Zc Y9).2).getD Y1.toNat default).e0) < ([[.f .f32 Y9, .f .f32 0, .f .f32 0],[.f .f32 (fneg .f32 Y9), .f .f32 0, .f .f32 0],[.f .f32 0, .f .f32 Y9, .f .f32 0],[.f .f32 0, .f .f32 (fneg .f32 Y9), .f .f32 0],[.f .f32 0, .f .f32 0, .f .f32 Y9],[.f .f32 0, .f .f32 0, .f .f32 (fneg .f32 Y9)]]:List (List AV)).length from (by simpa using XP (c:=Gv.c) (l:=[(⟨Y9,0,0⟩:Gv),(⟨(fneg .f32 Y9),0,0⟩:Gv),(⟨0,Y9,0⟩:Gv),(⟨0,(fneg .f32 Y9),0⟩:Gv),(⟨0,0,Y9⟩:Gv),(⟨0,0,(fneg .f32 Y9)⟩:Gv)]) (i:=(((Zc Y9).2).getD Y1.toNat default).e0) YR YZ))<|sE (show ([[.f .f32 Y9, .f .f32 0, .f .f32 0],[.f .f32 (fneg .f32 Y9), .f .f32 0, .f .f32 0],[.f .f32 0, .f .f32 Y9, .f .f32 0],[.f .f32 0, .f .f32 (fneg .f32 Y9), .f .f32 0],[.f .f32 0, .f .f32 0, .f .f32 Y9],[.f .f32 0, .f .f32 0, .f .f32 (fneg .f32 Y9)]]:List (List AV))[((((Zc Y9).2).getD Y1.toNat default).e0).toNat]? = some [.f .f32 ((([(⟨Y9,0,0⟩:Gv),(⟨(fneg .f32 Y9),0,0⟩:Gv),(⟨0,Y9,0⟩:Gv),(⟨0,(fneg .f32 Y9),0⟩:Gv),(⟨0,0,Y9⟩:Gv),(⟨0,0,(fneg .f32 Y9)⟩:Gv)]).getD (((((Zc Y9).2).getD Y1.toNat default).e0).toNat) default).X), .f .f32 ((([(⟨Y9,0,0⟩:Gv),(⟨(fneg .f32 Y9),0,0⟩:Gv),(⟨0,Y9,0⟩:Gv),(⟨0,(fneg .f32 Y9),0⟩:Gv),(⟨0,0,Y9⟩:Gv),(⟨0,0,(fneg .f32 Y9)⟩:Gv)]).getD (((((Zc Y9).2).getD Y1.toNat default).e0).toNat) default).Y), .f .f32 ((([(⟨Y9,0,0⟩:Gv),(⟨(fneg .f32 Y9),0,0⟩:Gv),(⟨0,Y9,0⟩:Gv),(⟨0,(fneg .f32 Y9),0⟩:Gv),(⟨0,0,Y9⟩:Gv),(⟨0,0,(fneg .f32 Y9)⟩:Gv)]).getD (((((Zc Y9).2).getD Y1.toNat default).e0).toNat) default).Z)] from (by have q:=Xy (c:=Gv.c) (l:=[(⟨Y9,0,0⟩:Gv),(⟨(fneg .f32 Y9),0,0⟩:Gv),(⟨0,Y9,0⟩:Gv),(⟨0,(fneg .f32 Y9),0⟩:Gv),(⟨0,0,Y9⟩:Gv),(⟨0,0,(fneg .f32 Y9)⟩:Gv)]) (k:=((((Zc Y9).2).getD Y1.toNat default).e0).toNat) y_5;(simp only [List.map_set,List.map_append,List.map_cons,List.map_nil,List.map_replicate] at q;exact q)))<|sC (show (0:Int)≤1∧1 < ((2:Nat):Int) from (by decide))<|sC (show 0≤((((Zc Y9).2).getD Y1.toNat default).e1)∧Int.toNat ((((Zc Y9).2).getD Y1.toNat default).e1) < ([[.f .f32 Y9, .f .f32 0, .f .f32 0],[.f .f32 (fneg .f32 Y9), .f .f32 0, .f .f32 0],[.f .f32 0, .f .f32 Y9, .f .f32 0],[.f .f32 0, .f .f32 (fneg .f32 Y9), .f .f32 0],[.f .f32 0, .f .f32 0, .f .f32 Y9],[.f .f32 0, .f .f32 0, .f .f32 (fneg .f32 Y9)]]:List (List AV)).length from (by simpa using XP (c:=Gv.c) (l:=[(⟨Y9,0,0⟩:Gv),(⟨(fneg .f32 Y9),0,0⟩:Gv),(⟨0,Y9,0⟩:Gv),(⟨0,(fneg .f32 Y9),0⟩:Gv),(⟨0,0,Y9⟩:Gv),(⟨0,0,(fneg .f32 Y9)⟩:Gv)]) (i:=(((Zc Y9).2).getD Y1.toNat default).e1) y_6 y_7))<|sE (show ([[.f .f32 Y9, .f .f32 0, .f .f32 0],[.f .f32 (fneg .f32 Y9), .f .f32 0, .f .f32 0],[.f .f32 0, .f .f32 Y9, .f .f32 0],[.f .f32 0, .f .f32 (fneg .f32 Y9), .f .f32 0],[.f .f32 0, .f .f32 0, .f .f32 Y9],[.f .f32 0, .f .f32 0, .f .f32 (fneg .f32 Y9)]]:List (List AV))[((((Zc Y9).2).getD Y1.toNat default).e1).toNat]? = some [.f .f32 ((([(⟨Y9,0,0⟩:Gv),(⟨(fneg .f32 Y9),0,0⟩:Gv),(⟨0,Y9,0⟩:Gv),(⟨0,(fneg .f32 Y9),0⟩:Gv),(⟨0,0,Y9⟩:Gv),(⟨0,0,(fneg .f32 Y9)⟩:Gv)]).getD (((((Zc Y9).2).getD Y1.toNat default).e1).toNat) default).X), .f .f32 ((([(⟨Y9,0,0⟩:Gv),(⟨(fneg .f32 Y9),0,0⟩:Gv),(⟨0,Y9,0⟩:Gv),(⟨0,(fneg .f32 Y9),0⟩:Gv),(⟨0,0,Y9⟩:Gv),(⟨0,0,(fneg .f32 Y9)⟩:Gv)]).getD (((((Zc Y9).2).getD Y1.toNat default).e1).toNat) default).Y), .f .f32 ((([(⟨Y9,0,0⟩:Gv),(⟨(fneg .f32 Y9),0,0⟩:Gv),(⟨0,Y9,0⟩:Gv),(⟨0,(fneg .f32 Y9),0⟩:Gv),(⟨0,0,Y9⟩:Gv),(⟨0,0,(fneg .f32 Y9)⟩:Gv)]).getD (((((Zc Y9).2).getD Y1.toNat default).e1).toNat) default).Z)] from (by have q:=Xy (c:=Gv.c) (l:=[(⟨Y9,0,0⟩:Gv),(⟨(fneg .f32 Y9),0,0⟩:Gv),(⟨0,Y9,0⟩:Gv),(⟨0,(fneg .f32 Y9),0⟩:Gv),(⟨0,0,Y9⟩:Gv),(⟨0,0,(fneg .f32 Y9)⟩:Gv)]) (k:=((((Zc Y9).2).getD Y1.toNat default).e1).toNat) y_8;(simp only [List.map_set,List.map_append,List.map_cons,List.map_nil,List.map_replicate] at q;exact q)))<|sF (Z50 (([(⟨Y9,0,0⟩:Gv),(⟨(fneg .f32 Y9),0,0⟩:Gv),(⟨0,Y9,0⟩:Gv),(⟨0,(fneg .f32 Y9),0⟩:Gv),(⟨0,0,Y9⟩:Gv),(⟨0,0,(fneg .f32 Y9)⟩:Gv)]).getD (((((Zc Y9).2).getD Y1.toNat default).e0).toNat) default) (([(⟨Y9,0,0⟩:Gv),(⟨(fneg .f32 Y9),0,0⟩:Gv),(⟨0,Y9,0⟩:Gv),(⟨0,(fneg .f32 Y9),0⟩:Gv),(⟨0,0,Y9⟩:Gv),(⟨0,0,(fneg .f32 Y9)⟩:Gv)]).getD (((((Zc Y9).2).getD Y1.toNat default).e1).toNat) default))<|sF (Z2J (Z20 Y9 Y1) 1056964608)<|sZ Gv.c YE<|sK [9,9]<|sF (Z4Y (ZY (Z20 Y9 Y1) 1056964608))<|sF (Z2J (ZY (Z20 Y9 Y1) 1056964608) (fop .quo .f32 Y9 (Z1s (ZY (Z20 Y9 Y1) 1056964608))))<|sC (show (YE.map Gv.c).length + ([[.f .f32 ((ZZ Y9 Y1).X), .f .f32 ((ZZ Y9 Y1).Y), .f .f32 ((ZZ Y9 Y1).Z)]]:List (List AV)).length≤1073741824 from (by simpa using y_9))<|sI (Y1 + 1) Y1j Y1k<|sN) (by kernel_rfl) (by simp [Z3t,Gv.c,cI]) (ih (Y1 + 1) (Xk YK ((((Zc Y9).2).getD Y1.toNat default).e0,(((Zc Y9).2).getD Y1.toNat default).e1) (YE.length:Int)) (YE ++ [(ZZ Y9 Y1)]) (show 1≤(Y1 + 1) from (by omega)) (show ((YE ++ [(ZZ Y9 Y1)]).length:Int)=6 + (Y1 + 1) from (by simp_all<;>omega)) (by omega))
  | false =>
   have YF:=odf Yp
   have e:Z1n Y0 Y9 (k + 1) Y1 YK YE=(YK,YE):=by simp only [Z1n,Yp,cond_false]
   rw [e]
   exact outR (e:=(.exit 0)) E0Ok Zo [] Z5B [0,2,5,7,8,1,3,4,6,9] (sB Yp<|sN) (by kernel_rfl) (by intro h;cases h)
end Go.Ab
