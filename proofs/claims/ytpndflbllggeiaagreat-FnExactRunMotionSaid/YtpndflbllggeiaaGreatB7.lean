/- The functions of this seat as plain Lean, and that the program's are these. Printed by a program of the prover's own. -/
import Derived.Test.YtpndflbllggeiaaGreatB6
set_option linter.unusedVariables false
set_option linter.unusedSimpArgs false
set_option maxRecDepth 100000
namespace Go.Ab
open Go.RowKit Go.Proofs.Tryz
def Z6B (Y7:Int) (Yo:Int):Gedge:=(⟨(if Yo < Y7 then Yo else Y7),(if Yo > Y7 then Yo else Y7)⟩:Gedge)
theorem Zh5 (Y7:Int) (Yo:Int)   : Fn prog 149 [.i .i64 Y7, .i .i64 Yo] (.agg [.i .i64 ((Z6B Y7 Yo).e0), .i .i64 ((Z6B Y7 Yo).e1)]) []:=by
 refine fnS E0Ok Z4 (c:=X0 f149) [] (.agg [.i .i64 (if Yo < Y7 then Yo else Y7), .i .i64 (if Yo > Y7 then Yo else Y7)]) [] func149 (sC (show (if false=true then (if Yo > Y7 then Yo else Y7) else (if Yo < Y7 then Yo else Y7))=(if Yo < Y7 then Yo else Y7) from (by simp)) <| sA (.num (if Yo < Y7 then Yo else Y7)) <| sC (show (if true=true then (if Yo > Y7 then Yo else Y7) else (if Yo < Y7 then Yo else Y7))=(if Yo > Y7 then Yo else Y7) from (by simp)) <| sA (.num (if Yo > Y7 then Yo else Y7)) <| sK [] sN) rfl (by kernel_rfl) (by kernel_rfl) rfl ?_ ?_
 · rfl
 · rfl
theorem Zis (a b:Int):Z6B a b=mkE a b:=by
  unfold Z6B mkE
  by_cases h:a≤b
  · rw [if_pos h,if_neg (by omega)]
    by_cases h2:b > a
    · rw [if_pos h2]
    · rw [if_neg h2,show a=b from by omega]
  · rw [if_neg h,if_pos (by omega),if_neg (by omega)]
def Z3M (x_0:Int):Bool:=(x_0 != x_0)
theorem ZaH (x_0:Int)   : Fn prog 172 [.i .i64 x_0] (.b (Z3M x_0)) []:=by
 refine fnS E0Ok Z4 (c:=X0 f172) [] (.b (x_0 != x_0)) [] func172 (sK [] sN) rfl (by kernel_rfl) (by kernel_rfl) rfl ?_ ?_
 · rfl
 · rfl
def Z1W (x_0:Int) (YT:Int):Int:=(cond (Z3M x_0)
  (cond (Z3M YT)
    0
    (-1))
  (cond (Z3M YT)
    1
    (cond (decide (x_0 < YT))
      (-1)
      (cond (decide (x_0 > YT))
        1
        0))))
theorem Zdg (x_0:Int) (YT:Int)   : Fn prog 166 [.i .i64 x_0, .i .i64 YT] (.i .i64 (Z1W x_0 YT)) []:=by
 have p {a C} (s:Scr a C):=sF (ZaH x_0) <| sF (ZaH YT) <| s
 cases h0:(Z3M x_0) with
 | true =>
  have q {a C} (s:Scr a C):=p (sB h0 <| s)
  clear p
  cases h1:(Z3M YT) with
  | true =>
   refine fnS E0Ok Z4 (c:=X0 f166) [] (.i .i64 0) [] func166 (q (sB h1 <| sK [] sN)) rfl (by kernel_rfl) (by kernel_rfl) rfl ?_ ?_
   · simp only [Z1W,h0,h1,cond_true]
   · rfl
  | false =>
   refine fnS E0Ok Z4 (c:=X0 f166) [] (.i .i64 (-1)) [] func166 (q (sB h1 <| sK [] sN)) rfl (by kernel_rfl) (by kernel_rfl) rfl ?_ ?_
   · simp only [Z1W,h0,h1,cond_true,cond_false]
   · rfl
 | false =>
  have q {a C} (s:Scr a C):=p (sB h0 <| s)
  clear p
  cases h1:(Z3M YT) with
  | true =>
   refine fnS E0Ok Z4 (c:=X0 f166) [] (.i .i64 1) [] func166 (q (sB h1 <| sK [] sN)) rfl (by kernel_rfl) (by kernel_rfl) rfl ?_ ?_
   · simp only [Z1W,h0,h1,cond_true,cond_false]
   · rfl
  | false =>
   have p {a C} (s:Scr a C):=q (sB h1 <| s)
   clear q
   cases h2:(decide (x_0 < YT)) with
   | true =>
    have gh2:=odt h2
    refine fnS E0Ok Z4 (c:=X0 f166) [] (.i .i64 (-1)) [] func166 (p (sB h2 <| sK [] sN)) rfl (by kernel_rfl) (by kernel_rfl) rfl ?_ ?_
    · simp only [Z1W,h0,h1,h2,cond_true,cond_false]
    · rfl
   | false =>
    have gh2:=odf h2
    have q {a C} (s:Scr a C):=p (sB h2 <| s)
    clear p
    cases h3:(decide (x_0 > YT)) with
    | true =>
     have gh3:=odt h3
     refine fnS E0Ok Z4 (c:=X0 f166) [] (.i .i64 1) [] func166 (q (sB h3 <| sK [] sN)) rfl (by kernel_rfl) (by kernel_rfl) rfl ?_ ?_
     · simp only [Z1W,h0,h1,h2,h3,cond_true,cond_false]
     · rfl
    | false =>
     have gh3:=odf h3
     refine fnS E0Ok Z4 (c:=X0 f166) [] (.i .i64 0) [] func166 (q (sB h3 <| sK [] sN)) rfl (by kernel_rfl) (by kernel_rfl) rfl ?_ ?_
     · simp only [Z1W,h0,h1,h2,h3,cond_false]
     · rfl
def Zw (Y10:(List Int)) (Y13:(List Int)):Nat→Int→(Int) ⊕ (Unit)
  | 0,_ => .inl default
  | k + 1,Y1 => (cond (decide (Y1 < (Y10.length:Int)))
    (cond (decide (Y1 ≥ (Y13.length:Int)))
      (.inl 1)
      (cond ((Z1W (Y10.getD Y1.toNat default) (Y13.getD Y1.toNat default)) != 0)
        (.inl (Z1W (Y10.getD Y1.toNat default) (Y13.getD Y1.toNat default)))
        (Zw Y10 Y13 k (Y1 + 1))))
    (.inr ()))
def Z3x (Y10:(List Int)) (Y13:(List Int)):(Int) ⊕ (Unit)→Ex × St
  | .inl r => (.ret,⟨an 4 (.i .i64 r :: an 31 []),[]⟩)
  | .inr r => ((.exit 0),⟨.sl (Y10.map (cI .i64)) :: .sl (Y13.map (cI .i64)) :: an 7 (.sl (Y10.map (cI .i64)) :: an 26 []),[]⟩)
def Z7Y (Y10:(List Int)) (Y13:(List Int)) (Y1:Int):St:=⟨.sl (Y10.map (cI .i64)) :: .sl (Y13.map (cI .i64)) :: an 7 (.sl (Y10.map (cI .i64)) :: .i .i64 (Y10.length:Int) :: .i .i64 Y1 :: an 24 []),[]⟩
theorem Z5b (Y10:(List Int)) (Y13:(List Int)) (hp0:Y10.length≤1073741824) (hp1:Y13.length≤1073741824):∀ (k:Nat) (Y1:Int) (Z4S:0≤Y1) (hk:((Y10.length:Int) - Y1).toNat < k),Lp prog 0 (sub (X0 f155) [1,0,1,0,0]) (Z7Y Y10 Y13 Y1) (Z3x Y10 Y13 (Zw Y10 Y13 k Y1)).1 (Z3x Y10 Y13 (Zw Y10 Y13 k Y1)).2:=by
 intro k
 induction k with
 | zero => intro Y1 Z4S hk; exact absurd hk (Nat.not_lt_zero _)
 | succ k ih =>
  intro Y1 Z4S hk
  cases Yn:(decide (Y1 < (Y10.length:Int))) with
  | true =>
   have YM:=odt Yn
   have YS:(0:Int)≤Y1:=(by assumption)
   have YT:Y1 < (Y10.length:Int):=(by assumption)
   have p {a C} (s:Scr a C):=sB Yn <| sG (cI .i64) Y10 Y1 YS YT <| sZ (cI .i64) Y13 <| s
   cases YL:(decide (Y1 ≥ (Y13.length:Int))) with
   | true =>
    have Y1a:=odt YL
    have e:Zw Y10 Y13 (k + 1) Y1=(.inl 1):=by simp only [Zw,Yn,YL,cond_true]
    rw [e]
    exact outR (e := .ret) E0Ok Z4 [] (mR false [4,1,31]) [] (p (sB YL <| sN)) (by kernel_rfl) (by intro h; cases h)
   | false =>
    have Y1a:=odf YL
    have YY:Y1 < (Y13.length:Int):=by clear p; exact (by omega)
    have q {a C} (s:Scr a C):=p (sB YL <| sG (cI .i64) Y13 Y1 YS YY <| sF (Zdg (Y10.getD Y1.toNat default) (Y13.getD Y1.toNat default)) <| s)
    clear p
    cases h_2:((Z1W (Y10.getD Y1.toNat default) (Y13.getD Y1.toNat default)) != 0) with
    | true =>
     have Y1p:=bne_iff_ne.1 h_2
     have e:Zw Y10 Y13 (k + 1) Y1=(.inl (Z1W (Y10.getD Y1.toNat default) (Y13.getD Y1.toNat default))):=by simp only [Zw,Yn,YL,h_2,cond_true,cond_false]
     rw [e]
     exact outR (e := .ret) E0Ok Z4 [] (mR false [4,1,31]) [] (q (sB h_2 <| sN)) (by kernel_rfl) (by intro h; cases h)
    | false =>
     have Y1p:=bne_eq_false_iff_eq.1 h_2
     have YZ:(-9223372036854775808:Int)≤(Y1 + 1):=by clear q; exact (by omega)
     have y_4:(Y1 + 1)≤(9223372036854775807:Int):=by clear q; exact (by omega)
     have e:Zw Y10 Y13 (k + 1) Y1=(Zw Y10 Y13 k (Y1 + 1)):=by simp only [Zw,Yn,YL,h_2,cond_true,cond_false]
     rw [e]
     exact X9 E0Ok Z4 [] (mR false [0,2,7,3,24]) [] (ih (Y1 + 1) (show 0≤(Y1 + 1) from (by omega)) (by omega)) (q (sB h_2 <| sI (Y1 + 1) YZ y_4 <| sN)) (by kernel_rfl)
  | false =>
   have YM:=odf Yn
   have e:Zw Y10 Y13 (k + 1) Y1=(.inr ()):=by simp only [Zw,Yn,cond_false]
   rw [e]
   exact outR (e:=(.exit 0)) E0Ok Z4 [] (mR false [0,2,7,1,26]) [] (sB Yn <| sN) (by kernel_rfl) (by intro h; cases h)
def Z2K (Y10:(List Int)) (Y13:(List Int)):(Int) ⊕ (Unit):=(Zw Y10 Y13 (((Y10.length:Int) - 0).toNat + 1) 0)
def Z2i (Y10:(List Int)) (Y13:(List Int)):Int:=(match (Z2K Y10 Y13) with
  | .inl r1 => r1
  | .inr r1 => (cond (decide ((Y10.length:Int) < (Y13.length:Int)))
    (-1)
    0))
theorem Z90 (Y10:(List Int)) (Y13:(List Int)) (hp0:Y10.length≤1073741824) (hp1:Y13.length≤1073741824)  : Fn prog 155 [.sl (Y10.map (cI .i64)), .sl (Y13.map (cI .i64))] (.i .i64 (Z2i Y10 Y13)) []:=by
 have p {a C} (s:Scr a C):=sZ (cI .i64) Y10 <| s
 cases h0:(Z2K Y10 Y13) with
 | inl r1 =>
  refine fnS E0Ok Z4 (c:=X0 f155) [] (.i .i64 r1) [] func155 (p (sL (mR false [0,2,7,3,24]) 0 (X1 (Z3x Y10 Y13) (x:=(Z2K Y10 Y13)) (Z5b Y10 Y13 hp0 hp1 (((Y10.length:Int) - 0).toNat + 1) 0 (show 0≤0 from (by omega)) (Nat.lt_succ_self _)) h0) <| sK [] sN)) rfl (by kernel_rfl) (by kernel_rfl) rfl ?_ ?_
  · simp only [Z2i,h0]
  · rfl
 | inr r1 =>
  have q {a C} (s:Scr a C):=p (sL (mR false [0,2,7,3,24]) 0 (X1 (Z3x Y10 Y13) (x:=(Z2K Y10 Y13)) (Z5b Y10 Y13 hp0 hp1 (((Y10.length:Int) - 0).toNat + 1) 0 (show 0≤0 from (by omega)) (Nat.lt_succ_self _)) h0) <| sZ (cI .i64) Y10 <| sZ (cI .i64) Y13 <| s)
  clear p
  cases h1:(decide ((Y10.length:Int) < (Y13.length:Int))) with
  | true =>
   have gh1:=odt h1
   refine fnS E0Ok Z4 (c:=X0 f155) [] (.i .i64 (-1)) [] func155 (q (sB h1 <| sK [] sN)) rfl (by kernel_rfl) (by kernel_rfl) rfl ?_ ?_
   · simp only [Z2i,h0,h1,cond_true]
   · rfl
  | false =>
   have gh1:=odf h1
   refine fnS E0Ok Z4 (c:=X0 f155) [] (.i .i64 0) [] func155 (q (sB h1 <| sK [] sN)) rfl (by kernel_rfl) (by kernel_rfl) rfl ?_ ?_
   · simp only [Z2i,h0,h1,cond_false]
   · rfl
def Z73 (Y7:Gedge) (Yo:Gedge):Int:=(Z2i ([Y7.e0,Y7.e1]) ([Yo.e0,Yo.e1]))
theorem Za0 (Y7:Gedge) (Yo:Gedge)   : Fn prog 151 [.agg [.i .i64 Y7.e0, .i .i64 Y7.e1], .agg [.i .i64 Yo.e0, .i .i64 Yo.e1]] (.i .i64 (Z73 Y7 Yo)) []:=by
 have y0:([Y7.e0,Y7.e1]).length≤1073741824:=(by simp_all <;> omega)
 have y1:([Yo.e0,Yo.e1]).length≤1073741824:=(by assumption)
 refine fnS E0Ok Z4 (c:=X0 f151) [] (.i .i64 (Z2i ([Y7.e0,Y7.e1]) ([Yo.e0,Yo.e1]))) [] func151 (sK [2,2] <| sF (Z90 ([Y7.e0,Y7.e1]) ([Yo.e0,Yo.e1]) y0 y1) <| sK [] sN) rfl (by kernel_rfl) (by kernel_rfl) rfl ?_ ?_
 · rfl
 · rfl
def Z5 (Y3:Gm) (Y1:Int) (Y8:Int):Gedge:=(Z6B ((Y3.Tr.getD Y1.toNat default).getD Y8.toNat default) ((Y3.Tr.getD Y1.toNat default).getD (Int.tmod (Y8 + 1) 3).toNat default))
def Zi (Y3:Gm) (Y1:Int) (Yd:(List (Gedge × List Int))) (YR:(List Gedge)):Nat→Int→(List (Gedge × List Int))→(List Gedge)→(List (Gedge × List Int)) × (List Gedge)
  | 0,_,_,_ => default
  | k + 1,Y8,Yi,YP => (cond (decide (Y8 < 3))
    (cond (mhas Yi (Z5 Y3 Y1 Y8))
      (cond (((Yi.getD (midx Yi (Z5 Y3 Y1 Y8)) default).2.length:Int) == 0)
        (Zi Y3 Y1 Yd YR k (Y8 + 1) (mput Yi (midx Yi (Z5 Y3 Y1 Y8)) ((Yi.getD (midx Yi (Z5 Y3 Y1 Y8)) default).2 ++ [Y1])) (YP ++ [(Z5 Y3 Y1 Y8)]))
        (Zi Y3 Y1 Yd YR k (Y8 + 1) (mput Yi (midx Yi (Z5 Y3 Y1 Y8)) ((Yi.getD (midx Yi (Z5 Y3 Y1 Y8)) default).2 ++ [Y1])) YP))
      (Zi Y3 Y1 Yd YR k (Y8 + 1) (Yi ++ [((Z5 Y3 Y1 Y8),[Y1])]) (YP ++ [(Z5 Y3 Y1 Y8)])))
    (Yi,YP))
def Z5k (Y3:Gm) (Y1:Int) (Yd:(List (Gedge × List Int))) (YR:(List Gedge)) (r:(List (Gedge × List Int)) × (List Gedge)):Ex × St:=((.exit 2),⟨.agg [.sl (Y3.Pq.map Gv.c), .sl (Y3.Tr.map (cL (cI .i64)))] :: .ptr 0 0 0 :: .any :: .nils :: .mp 1 :: .own 2 :: .i .i64 Y1 :: .sl ((Y3.Tr.getD Y1.toNat default).map (cI .i64)) :: .any :: .any :: .mp 1 :: .any :: .ptr 0 0 1 :: .sl (Y3.Tr.map (cL (cI .i64))) :: .i .i64 (Y3.Tr.length:Int) :: .i .i64 Y1 :: .b (decide (Y1 < (Y3.Tr.length:Int))) :: .i .i64 Y1 :: .ref [.sl ((Y3.Tr.getD Y1.toNat default).map (cI .i64))] 0 :: .sl ((Y3.Tr.getD Y1.toNat default).map (cI .i64)) :: an 37 [],[.box 38 [.sl (Y3.Pq.map Gv.c), .sl (Y3.Tr.map (cL (cI .i64)))], .mapN 2 (mapC Gedge.pr (cI .i64) r.1) none, .vec 167 2 (r.2.map Gedge.cells) false]⟩)
def Zbr (Y3:Gm) (Y1:Int) (Yd:(List (Gedge × List Int))) (YR:(List Gedge)) (Y8:Int) (Yi:(List (Gedge × List Int))) (YP:(List Gedge)):St:=⟨.agg [.sl (Y3.Pq.map Gv.c), .sl (Y3.Tr.map (cL (cI .i64)))] :: .ptr 0 0 0 :: .any :: .nils :: .mp 1 :: .own 2 :: .i .i64 Y1 :: .sl ((Y3.Tr.getD Y1.toNat default).map (cI .i64)) :: .any :: .any :: .mp 1 :: .any :: .ptr 0 0 1 :: .sl (Y3.Tr.map (cL (cI .i64))) :: .i .i64 (Y3.Tr.length:Int) :: .i .i64 Y1 :: .b (decide (Y1 < (Y3.Tr.length:Int))) :: .i .i64 Y1 :: .ref [.sl ((Y3.Tr.getD Y1.toNat default).map (cI .i64))] 0 :: .sl ((Y3.Tr.getD Y1.toNat default).map (cI .i64)) :: .i .i64 Y8 :: an 36 [],[.box 38 [.sl (Y3.Pq.map Gv.c), .sl (Y3.Tr.map (cL (cI .i64)))], .mapN 2 (mapC Gedge.pr (cI .i64) Yi) none, .vec 167 2 (YP.map Gedge.cells) false]⟩
set_option maxHeartbeats 1000000 in
theorem Zbs (Y3:Gm) (Y1:Int) (Yd:(List (Gedge × List Int))) (YR:(List Gedge)) (hp0:Y3.Pq.length≤1073741824) (hp1:Y3.Tr.length≤1073741824) (hp2:∀ t∈Y3.Tr,t.length≤1073741824) (hp3:OkE Y3.Pq.length Y3.Tr) (ZZ:0≤Y1) (Z4l:(YR.length:Int)≤3 * Y1) (Z3N:∀ y∈Yd,(y.2.length:Int)≤3 * Y1) (Z2L:(decide (Y1 < (Y3.Tr.length:Int)))=true):∀ (k:Nat) (Y8:Int) (Yi:(List (Gedge × List Int))) (YP:(List Gedge)) (Z22:0≤Y8) (Z68:(YP.length:Int)≤(YR.length:Int) + Y8) (Z69:∀ y∈Yi,(y.2.length:Int)≤3 * Y1 + Y8) (hk:((3:Int) - Y8).toNat < k),Lp prog 0 (sub (X0 f141) [1,1,0,1,0,0,1,1,0,0,1,1,0,0]) (Zbr Y3 Y1 Yd YR Y8 Yi YP) (Z5k Y3 Y1 Yd YR (Zi Y3 Y1 Yd YR k Y8 Yi YP)).1 (Z5k Y3 Y1 Yd YR (Zi Y3 Y1 Yd YR k Y8 Yi YP)).2:=by
 intro k
 induction k with
 | zero => intro Y8 Yi YP Z22 Z68 Z69 hk; exact absurd hk (Nat.not_lt_zero _)
 | succ k ih =>
  intro Y8 Yi YP Z22 Z68 Z69 hk
  cases YW:(decide (Y8 < 3)) with
  | true =>
   have YU:=odt YW
   have Y1d:(0:Int)≤Y8:=(by assumption)
   have Y1e:Y8 < ((Y3.Tr.getD Y1.toNat default).length:Int):=(by ((have g5:=odt Z2L; have q:=OkE.at hp3 ZZ g5 Z22 (odt (by assumption)); omega)))
   have Y1b:(-9223372036854775808:Int)≤(Y8 + 1):=(by omega)
   have Y18:(Y8 + 1)≤(9223372036854775807:Int):=(by omega)
   have Y1f:(0:Int)≤(Int.tmod (Y8 + 1) 3):=(by ((have g5:=odt Z2L; have q:=OkE.at hp3 ZZ g5 Z22 (odt (by assumption)); omega)))
   have Y1m:(Int.tmod (Y8 + 1) 3) < ((Y3.Tr.getD Y1.toNat default).length:Int):=(by ((have g5:=odt Z2L; have q:=OkE.at hp3 ZZ g5 Z22 (odt (by assumption)); omega)))
   have p {a C} (s:Scr a C):=sB YW <| sK [12,12] <| sG (cI .i64) (Y3.Tr.getD Y1.toNat default) Y8 Y1d Y1e <| sI (Y8 + 1) Y1b Y18 <| sC (show (3:Int)≠0 from (by decide)) <| sQ (Int.tmod (Y8 + 1) 3) <| sG (cI .i64) (Y3.Tr.getD Y1.toNat default) (Int.tmod (Y8 + 1) 3) Y1f Y1m <| sF (Zh5 ((Y3.Tr.getD Y1.toNat default).getD Y8.toNat default) ((Y3.Tr.getD Y1.toNat default).getD (Int.tmod (Y8 + 1) 3).toNat default)) <| s
   cases Y17:(mhas Yi (Z5 Y3 Y1 Y8)) with
   | true =>
    have m__16:=X2J Y17
    have q {a C} (s:Scr a C):=p (sA (.keep [midx Yi (Z5 Y3 Y1 Y8)]) <| sC (X3q (ck:=Gedge.pr) (cv:=(cI .i64)) Y17) <| sM (X5F (ck:=Gedge.pr) (cv:=(cI .i64)) (l:=Yi) (j:=(midx Yi (Z5 Y3 Y1 Y8)))) <| s)
    clear p
    cases Y1F:(((Yi.getD (midx Yi (Z5 Y3 Y1 Y8)) default).2.length:Int) == 0) with
    | true =>
     have gh__2:=eq_of_beq Y1F
     have Y1i:YP.length + ([(Z5 Y3 Y1 Y8)]).length≤1073741824:=by clear q; exact (by ((have g5:=odt Z2L; have q:=OkE.at hp3 ZZ g5 Z22 (odt (by assumption)); (simp only [List.length_append,List.length_cons,List.length_nil]; omega))))
     have Y1n:(midx Yi (Z5 Y3 Y1 Y8)) < Yi.length:=by clear q; exact (by assumption)
     have Y1A:((Yi.getD (midx Yi (Z5 Y3 Y1 Y8)) default).2).length + ([Y1]).length≤1073741824:=by clear q; exact (by ((have g5:=odt Z2L; have q:=OkE.at hp3 ZZ g5 Z22 (odt (by assumption)); (simp only [List.length_append,List.length_cons,List.length_nil]; omega))))
     have e:Zi Y3 Y1 Yd YR (k + 1) Y8 Yi YP=(Zi Y3 Y1 Yd YR k (Y8 + 1) (mput Yi (midx Yi (Z5 Y3 Y1 Y8)) ((Yi.getD (midx Yi (Z5 Y3 Y1 Y8)) default).2 ++ [Y1])) (YP ++ [(Z5 Y3 Y1 Y8)])):=by simp only [Zi,YW,Y17,Y1F,cond_true]
     rw [e]
     exact X8 E0Ok Z4 [] (mR false [0,2,1,5,2,1,1,9,36]) [0,1,2] (⟨.agg [.sl (Y3.Pq.map Gv.c), .sl (Y3.Tr.map (cL (cI .i64)))] :: .ptr 0 0 0 :: .any :: .nils :: .mp 1 :: .own 2 :: .i .i64 Y1 :: .sl ((Y3.Tr.getD Y1.toNat default).map (cI .i64)) :: .any :: .any :: .mp 1 :: .any :: .ptr 0 0 1 :: .sl (Y3.Tr.map (cL (cI .i64))) :: .i .i64 (Y3.Tr.length:Int) :: .i .i64 Y1 :: .b (decide (Y1 < (Y3.Tr.length:Int))) :: .i .i64 Y1 :: .ref [.sl ((Y3.Tr.getD Y1.toNat default).map (cI .i64))] 0 :: .sl ((Y3.Tr.getD Y1.toNat default).map (cI .i64)) :: .i .i64 (Y8 + 1) :: an 36 [],[.box 38 [.sl (Y3.Pq.map Gv.c), .sl (Y3.Tr.map (cL (cI .i64)))], .mapN 2 (((mapC Gedge.pr (cI .i64) Yi).set (midx Yi (Z5 Y3 Y1 Y8)) (((mapC Gedge.pr (cI .i64) Yi).getD (midx Yi (Z5 Y3 Y1 Y8)) default).1,[])).set (midx Yi (Z5 Y3 Y1 Y8)) ((((mapC Gedge.pr (cI .i64) Yi).set (midx Yi (Z5 Y3 Y1 Y8)) (((mapC Gedge.pr (cI .i64) Yi).getD (midx Yi (Z5 Y3 Y1 Y8)) default).1,[])).getD (midx Yi (Z5 Y3 Y1 Y8)) default).1,(((mapC Gedge.pr (cI .i64) Yi).getD (midx Yi (Z5 Y3 Y1 Y8)) default).2 ++ ([Y1].map (cI .i64))))) none, .vec 167 2 ((YP.map Gedge.cells) ++ ([[.i .i64 ((Z5 Y3 Y1 Y8).e0), .i .i64 ((Z5 Y3 Y1 Y8).e1)]]:List (List AV))) false]⟩) (q (sB Y1F <| sC (show (YP.map Gedge.cells).length + ([[.i .i64 ((Z5 Y3 Y1 Y8).e0), .i .i64 ((Z5 Y3 Y1 Y8).e1)]]:List (List AV)).length≤1073741824 from (by simpa using Y1i)) <| sA (.keep [midx Yi (Z5 Y3 Y1 Y8)]) <| sC (X3q (ck:=Gedge.pr) (cv:=(cI .i64)) Y17) <| sC (show (midx Yi (Z5 Y3 Y1 Y8)) < (mapC Gedge.pr (cI .i64) Yi).length from (by simpa using Y1n)) <| sC (show (((mapC Gedge.pr (cI .i64) Yi).getD (midx Yi (Z5 Y3 Y1 Y8)) default).2).length + ([[.i .i64 Y1]]:List (List AV)).length≤1073741824 from (by simpa using Y1A)) <| sA (.keep [(midx Yi (Z5 Y3 Y1 Y8))]) <| sC (show ((midx Yi (Z5 Y3 Y1 Y8)):Int)=(((midx Yi (Z5 Y3 Y1 Y8)):Nat):Int) from rfl) <| sC (show (midx Yi (Z5 Y3 Y1 Y8)) < ((mapC Gedge.pr (cI .i64) Yi).set (midx Yi (Z5 Y3 Y1 Y8)) (((mapC Gedge.pr (cI .i64) Yi).getD (midx Yi (Z5 Y3 Y1 Y8)) default).1,[])).length from (by simpa using Y1n)) <| sC (show ∀ i,some (midx Yi (Z5 Y3 Y1 Y8))=some i→i=(midx Yi (Z5 Y3 Y1 Y8)) from (fun i h => by cases h; rfl)) <| sI (Y8 + 1) Y1b Y18 <| sN)) (by kernel_rfl) (show _=⟨.agg [.sl (Y3.Pq.map Gv.c), .sl (Y3.Tr.map (cL (cI .i64)))] :: .ptr 0 0 0 :: .any :: .nils :: .mp 1 :: .own 2 :: .i .i64 Y1 :: .sl ((Y3.Tr.getD Y1.toNat default).map (cI .i64)) :: .any :: .any :: .mp 1 :: .any :: .ptr 0 0 1 :: .sl (Y3.Tr.map (cL (cI .i64))) :: .i .i64 (Y3.Tr.length:Int) :: .i .i64 Y1 :: .b (decide (Y1 < (Y3.Tr.length:Int))) :: .i .i64 Y1 :: .ref [.sl ((Y3.Tr.getD Y1.toNat default).map (cI .i64))] 0 :: .sl ((Y3.Tr.getD Y1.toNat default).map (cI .i64)) :: .i .i64 (Y8 + 1) :: an 36 [],[.box 38 [.sl (Y3.Pq.map Gv.c), .sl (Y3.Tr.map (cL (cI .i64)))], .mapN 2 (mapC Gedge.pr (cI .i64) (mput Yi (midx Yi (Z5 Y3 Y1 Y8)) ((Yi.getD (midx Yi (Z5 Y3 Y1 Y8)) default).2 ++ [Y1]))) none, .vec 167 2 ((YP ++ [(Z5 Y3 Y1 Y8)]).map Gedge.cells) false]⟩ from (by rw [X5G (X2J Y17)]; simp [List.map_set,Gedge.cells])) (ih (Y8 + 1) (mput Yi (midx Yi (Z5 Y3 Y1 Y8)) ((Yi.getD (midx Yi (Z5 Y3 Y1 Y8)) default).2 ++ [Y1])) (YP ++ [(Z5 Y3 Y1 Y8)]) (show 0≤(Y8 + 1) from (by omega)) (show ((YP ++ [(Z5 Y3 Y1 Y8)]).length:Int)≤(YR.length:Int) + (Y8 + 1) from (by simp only [List.length_append,List.length_cons,List.length_nil]; omega)) (show ∀ y∈(mput Yi (midx Yi (Z5 Y3 Y1 Y8)) ((Yi.getD (midx Yi (Z5 Y3 Y1 Y8)) default).2 ++ [Y1])),(y.2.length:Int)≤3 * Y1 + (Y8 + 1) from (by exact X2Z (by assumption) (by omega) (by omega))) (by omega))
    | false =>
     have gh__2:=ne_of_beq_false Y1F
     have Y1i:(midx Yi (Z5 Y3 Y1 Y8)) < Yi.length:=by clear q; exact (by assumption)
     have Y1n:((Yi.getD (midx Yi (Z5 Y3 Y1 Y8)) default).2).length + ([Y1]).length≤1073741824:=by clear q; exact (by ((have g5:=odt Z2L; have q:=OkE.at hp3 ZZ g5 Z22 (odt (by assumption)); (have q3:=X5H (N:=3 * Y1 + Y8) (by omega) (by assumption) (midx Yi (Z5 Y3 Y1 Y8)); simp only [List.length_cons,List.length_nil]; omega))))
     have e:Zi Y3 Y1 Yd YR (k + 1) Y8 Yi YP=(Zi Y3 Y1 Yd YR k (Y8 + 1) (mput Yi (midx Yi (Z5 Y3 Y1 Y8)) ((Yi.getD (midx Yi (Z5 Y3 Y1 Y8)) default).2 ++ [Y1])) YP):=by simp only [Zi,YW,Y17,Y1F,cond_true,cond_false]
     rw [e]
     exact X8 E0Ok Z4 [] (mR false [0,2,1,5,2,1,1,9,36]) [0,1,2] (⟨.agg [.sl (Y3.Pq.map Gv.c), .sl (Y3.Tr.map (cL (cI .i64)))] :: .ptr 0 0 0 :: .any :: .nils :: .mp 1 :: .own 2 :: .i .i64 Y1 :: .sl ((Y3.Tr.getD Y1.toNat default).map (cI .i64)) :: .any :: .any :: .mp 1 :: .any :: .ptr 0 0 1 :: .sl (Y3.Tr.map (cL (cI .i64))) :: .i .i64 (Y3.Tr.length:Int) :: .i .i64 Y1 :: .b (decide (Y1 < (Y3.Tr.length:Int))) :: .i .i64 Y1 :: .ref [.sl ((Y3.Tr.getD Y1.toNat default).map (cI .i64))] 0 :: .sl ((Y3.Tr.getD Y1.toNat default).map (cI .i64)) :: .i .i64 (Y8 + 1) :: an 36 [],[.box 38 [.sl (Y3.Pq.map Gv.c), .sl (Y3.Tr.map (cL (cI .i64)))], .mapN 2 (((mapC Gedge.pr (cI .i64) Yi).set (midx Yi (Z5 Y3 Y1 Y8)) (((mapC Gedge.pr (cI .i64) Yi).getD (midx Yi (Z5 Y3 Y1 Y8)) default).1,[])).set (midx Yi (Z5 Y3 Y1 Y8)) ((((mapC Gedge.pr (cI .i64) Yi).set (midx Yi (Z5 Y3 Y1 Y8)) (((mapC Gedge.pr (cI .i64) Yi).getD (midx Yi (Z5 Y3 Y1 Y8)) default).1,[])).getD (midx Yi (Z5 Y3 Y1 Y8)) default).1,(((mapC Gedge.pr (cI .i64) Yi).getD (midx Yi (Z5 Y3 Y1 Y8)) default).2 ++ ([Y1].map (cI .i64))))) none, .vec 167 2 (YP.map Gedge.cells) false]⟩) (q (sB Y1F <| sA (.keep [midx Yi (Z5 Y3 Y1 Y8)]) <| sC (X3q (ck:=Gedge.pr) (cv:=(cI .i64)) Y17) <| sC (show (midx Yi (Z5 Y3 Y1 Y8)) < (mapC Gedge.pr (cI .i64) Yi).length from (by simpa using Y1i)) <| sC (show (((mapC Gedge.pr (cI .i64) Yi).getD (midx Yi (Z5 Y3 Y1 Y8)) default).2).length + ([[.i .i64 Y1]]:List (List AV)).length≤1073741824 from (by simpa using Y1n)) <| sA (.keep [(midx Yi (Z5 Y3 Y1 Y8))]) <| sC (show ((midx Yi (Z5 Y3 Y1 Y8)):Int)=(((midx Yi (Z5 Y3 Y1 Y8)):Nat):Int) from rfl) <| sC (show (midx Yi (Z5 Y3 Y1 Y8)) < ((mapC Gedge.pr (cI .i64) Yi).set (midx Yi (Z5 Y3 Y1 Y8)) (((mapC Gedge.pr (cI .i64) Yi).getD (midx Yi (Z5 Y3 Y1 Y8)) default).1,[])).length from (by simpa using Y1i)) <| sC (show ∀ i,some (midx Yi (Z5 Y3 Y1 Y8))=some i→i=(midx Yi (Z5 Y3 Y1 Y8)) from (fun i h => by cases h; rfl)) <| sI (Y8 + 1) Y1b Y18 <| sN)) (by kernel_rfl) (show _=⟨.agg [.sl (Y3.Pq.map Gv.c), .sl (Y3.Tr.map (cL (cI .i64)))] :: .ptr 0 0 0 :: .any :: .nils :: .mp 1 :: .own 2 :: .i .i64 Y1 :: .sl ((Y3.Tr.getD Y1.toNat default).map (cI .i64)) :: .any :: .any :: .mp 1 :: .any :: .ptr 0 0 1 :: .sl (Y3.Tr.map (cL (cI .i64))) :: .i .i64 (Y3.Tr.length:Int) :: .i .i64 Y1 :: .b (decide (Y1 < (Y3.Tr.length:Int))) :: .i .i64 Y1 :: .ref [.sl ((Y3.Tr.getD Y1.toNat default).map (cI .i64))] 0 :: .sl ((Y3.Tr.getD Y1.toNat default).map (cI .i64)) :: .i .i64 (Y8 + 1) :: an 36 [],[.box 38 [.sl (Y3.Pq.map Gv.c), .sl (Y3.Tr.map (cL (cI .i64)))], .mapN 2 (mapC Gedge.pr (cI .i64) (mput Yi (midx Yi (Z5 Y3 Y1 Y8)) ((Yi.getD (midx Yi (Z5 Y3 Y1 Y8)) default).2 ++ [Y1]))) none, .vec 167 2 (YP.map Gedge.cells) false]⟩ from (by rw [X5G (X2J Y17)]; done)) (ih (Y8 + 1) (mput Yi (midx Yi (Z5 Y3 Y1 Y8)) ((Yi.getD (midx Yi (Z5 Y3 Y1 Y8)) default).2 ++ [Y1])) YP (show 0≤(Y8 + 1) from (by omega)) (show (YP.length:Int)≤(YR.length:Int) + (Y8 + 1) from (by omega)) (show ∀ y∈(mput Yi (midx Yi (Z5 Y3 Y1 Y8)) ((Yi.getD (midx Yi (Z5 Y3 Y1 Y8)) default).2 ++ [Y1])),(y.2.length:Int)≤3 * Y1 + (Y8 + 1) from (by exact X2Z (by assumption) (by omega) (by omega))) (by omega))
   | false =>
    have Y1i:YP.length + ([(Z5 Y3 Y1 Y8)]).length≤1073741824:=by clear p; exact (by ((have g5:=odt Z2L; have q:=OkE.at hp3 ZZ g5 Z22 (odt (by assumption)); (simp only [List.length_append,List.length_cons,List.length_nil]; omega))))
    have e:Zi Y3 Y1 Yd YR (k + 1) Y8 Yi YP=(Zi Y3 Y1 Yd YR k (Y8 + 1) (Yi ++ [((Z5 Y3 Y1 Y8),[Y1])]) (YP ++ [(Z5 Y3 Y1 Y8)])):=by simp only [Zi,YW,Y17,cond_true,cond_false]
    rw [e]
    exact X8 E0Ok Z4 [] (mR false [0,2,1,5,2,1,1,9,36]) [0,1,2] (⟨.agg [.sl (Y3.Pq.map Gv.c), .sl (Y3.Tr.map (cL (cI .i64)))] :: .ptr 0 0 0 :: .any :: .nils :: .mp 1 :: .own 2 :: .i .i64 Y1 :: .sl ((Y3.Tr.getD Y1.toNat default).map (cI .i64)) :: .any :: .any :: .mp 1 :: .any :: .ptr 0 0 1 :: .sl (Y3.Tr.map (cL (cI .i64))) :: .i .i64 (Y3.Tr.length:Int) :: .i .i64 Y1 :: .b (decide (Y1 < (Y3.Tr.length:Int))) :: .i .i64 Y1 :: .ref [.sl ((Y3.Tr.getD Y1.toNat default).map (cI .i64))] 0 :: .sl ((Y3.Tr.getD Y1.toNat default).map (cI .i64)) :: .i .i64 (Y8 + 1) :: an 36 [],[.box 38 [.sl (Y3.Pq.map Gv.c), .sl (Y3.Tr.map (cL (cI .i64)))], .mapN 2 (((mapC Gedge.pr (cI .i64) Yi) ++ [((Gedge.pr (Z5 Y3 Y1 Y8)),[])]).set (mapC Gedge.pr (cI .i64) Yi).length ((((mapC Gedge.pr (cI .i64) Yi) ++ [((Gedge.pr (Z5 Y3 Y1 Y8)),[])]).getD (mapC Gedge.pr (cI .i64) Yi).length default).1,(([Y1]).map (cI .i64)))) none, .vec 167 2 ((YP.map Gedge.cells) ++ ([[.i .i64 ((Z5 Y3 Y1 Y8).e0), .i .i64 ((Z5 Y3 Y1 Y8).e1)]]:List (List AV))) false]⟩) (p (sA (.keep []) <| sC (X4e (ck:=Gedge.pr) (cv:=(cI .i64)) Gedge.inj Y17) <| sM (show ((0:Nat):Int)=0 from rfl) <| sB (show (0 == 0)=true from rfl) <| sC (show (YP.map Gedge.cells).length + ([[.i .i64 ((Z5 Y3 Y1 Y8).e0), .i .i64 ((Z5 Y3 Y1 Y8).e1)]]:List (List AV)).length≤1073741824 from (by simpa using Y1i)) <| sA (.keep []) <| sC (X4e (ck:=Gedge.pr) (cv:=(cI .i64)) Gedge.inj Y17) <| sC (show ([[.i .i64 Y1]]:List (List AV))≠[] from (by simp)) <| sC (show ([[.i .i64 Y1]]:List (List AV)).length≤1073741824 from (by simp)) <| sA (.keep [(mapC Gedge.pr (cI .i64) Yi).length]) <| sC (show ((mapC Gedge.pr (cI .i64) Yi).length:Int)=(((mapC Gedge.pr (cI .i64) Yi).length:Nat):Int) from rfl) <| sC (show (mapC Gedge.pr (cI .i64) Yi).length < ((mapC Gedge.pr (cI .i64) Yi) ++ [((Gedge.pr (Z5 Y3 Y1 Y8)),[])]).length from (by simp)) <| sC (show ∀ i,(none:Option Nat)=some i→i=(mapC Gedge.pr (cI .i64) Yi).length from (fun i h => by cases h)) <| sI (Y8 + 1) Y1b Y18 <| sN)) (by kernel_rfl) (show _=⟨.agg [.sl (Y3.Pq.map Gv.c), .sl (Y3.Tr.map (cL (cI .i64)))] :: .ptr 0 0 0 :: .any :: .nils :: .mp 1 :: .own 2 :: .i .i64 Y1 :: .sl ((Y3.Tr.getD Y1.toNat default).map (cI .i64)) :: .any :: .any :: .mp 1 :: .any :: .ptr 0 0 1 :: .sl (Y3.Tr.map (cL (cI .i64))) :: .i .i64 (Y3.Tr.length:Int) :: .i .i64 Y1 :: .b (decide (Y1 < (Y3.Tr.length:Int))) :: .i .i64 Y1 :: .ref [.sl ((Y3.Tr.getD Y1.toNat default).map (cI .i64))] 0 :: .sl ((Y3.Tr.getD Y1.toNat default).map (cI .i64)) :: .i .i64 (Y8 + 1) :: an 36 [],[.box 38 [.sl (Y3.Pq.map Gv.c), .sl (Y3.Tr.map (cL (cI .i64)))], .mapN 2 (mapC Gedge.pr (cI .i64) (Yi ++ [((Z5 Y3 Y1 Y8),[Y1])])) none, .vec 167 2 ((YP ++ [(Z5 Y3 Y1 Y8)]).map Gedge.cells) false]⟩ from (by rw [X7x]; simp [List.map_set,Gedge.cells])) (ih (Y8 + 1) (Yi ++ [((Z5 Y3 Y1 Y8),[Y1])]) (YP ++ [(Z5 Y3 Y1 Y8)]) (show 0≤(Y8 + 1) from (by omega)) (show ((YP ++ [(Z5 Y3 Y1 Y8)]).length:Int)≤(YR.length:Int) + (Y8 + 1) from (by simp only [List.length_append,List.length_cons,List.length_nil]; omega)) (show ∀ y∈(Yi ++ [((Z5 Y3 Y1 Y8),[Y1])]),(y.2.length:Int)≤3 * Y1 + (Y8 + 1) from (by exact X5I (by assumption) (by omega) (by omega))) (by omega))
  | false =>
   have YU:=odf YW
   have e:Zi Y3 Y1 Yd YR (k + 1) Y8 Yi YP=(Yi,YP):=by simp only [Zi,YW,cond_false]
   rw [e]
   exact outR (e:=(.exit 2)) E0Ok Z4 [] (mR false [0,2,1,5,2,1,1,8,37]) [0,1,2] (sB YW <| sN) (by kernel_rfl) (by intro h; cases h)
def Z10 (Y3:Gm) (Y1:Int) (Yd:(List (Gedge × List Int))) (YR:(List Gedge)):(List (Gedge × List Int)) × (List Gedge):=(Zi Y3 Y1 Yd YR (((3:Int) - 0).toNat + 1) 0 Yd YR)
theorem ZiL (m:Gm) (i:Int) (b0:List (Gedge × List Int)) (l0:List Gedge) (h0:0≤i):∀ (k:Nat) (x:Int) (b:List (Gedge × List Int)) (l:List Gedge),0≤x→(3 - x).toNat < k→x≤3→(l.length:Int)≤3 * i + x→(∀ y∈b,(y.2.length:Int)≤3 * i + x)→((Zi m i b0 l0 k x b l).2.length:Int)≤3 * (i + 1)∧∀ y∈(Zi m i b0 l0 k x b l).1,(y.2.length:Int)≤3 * (i + 1):=by
  intro k
  induction k with
  | zero => intro x b l _ hk; exact absurd hk (Nat.not_lt_zero _)
  | succ k ih =>
    intro x b l hx hk h3 hl hb
    rw [Zi]
    cases hc:decide (x < 3) with
    | false => rw [cond_false]; exact ⟨by simp only; omega,fun y hy => by have:=hb y hy; omega⟩
    | true =>
      have hc':=odt hc
      rw [cond_true]
      cases mhas b (Z5 m i x) with
      | true =>
        rw [cond_true]
        cases (((b.getD (midx b (Z5 m i x)) default).2.length:Int) == 0) with
        | true => rw [cond_true]; exact ih _ _ _ (by omega) (by omega) (by omega) (by simp only [List.length_append,List.length_cons,List.length_nil]; omega) (X2Z hb (by omega) (by omega))
        | false => rw [cond_false]; exact ih _ _ _ (by omega) (by omega) (by omega) (by omega) (X2Z hb (by omega) (by omega))
      | false => rw [cond_false]; exact ih _ _ _ (by omega) (by omega) (by omega) (by simp only [List.length_append,List.length_cons,List.length_nil]; omega) (X5I hb (by omega) (by omega))
theorem Zi1 (m:Gm) (i:Int) (b:List (Gedge × List Int)) (l:List Gedge) (h0:0≤i) (hl:(l.length:Int)≤3 * i) (hb:∀ y∈b,(y.2.length:Int)≤3 * i) :
    ((Z10 m i b l).2.length:Int)≤3 * (i + 1)∧∀ y∈(Z10 m i b l).1,(y.2.length:Int)≤3 * (i + 1) :=
  ZiL m i b l h0 _ 0 b l (Int.le_refl 0) (by omega) (by omega) (by omega) (fun y hy => by have:=hb y hy; omega)
def Z1k (Y3:Gm):Nat→Int→(List (Gedge × List Int))→(List Gedge)→(List (Gedge × List Int)) × (List Gedge)
  | 0,_,_,_ => default
  | k + 1,Y1,Yd,YR => (cond (decide (Y1 < (Y3.Tr.length:Int)))
    (Z1k Y3 k (Y1 + 1) ((Z10 Y3 Y1 Yd YR).1) ((Z10 Y3 Y1 Yd YR).2))
    (Yd,YR))
def Z5l (Y3:Gm) (r:(List (Gedge × List Int)) × (List Gedge)):Ex × St:=((.exit 0),⟨.agg [.sl (Y3.Pq.map Gv.c), .sl (Y3.Tr.map (cL (cI .i64)))] :: .ptr 0 0 0 :: .any :: .nils :: .mp 1 :: .own 2 :: an 4 (.mp 1 :: .any :: .ptr 0 0 1 :: .sl (Y3.Tr.map (cL (cI .i64))) :: an 43 []),[.box 38 [.sl (Y3.Pq.map Gv.c), .sl (Y3.Tr.map (cL (cI .i64)))], .mapN 2 (mapC Gedge.pr (cI .i64) r.1) none, .vec 167 2 (r.2.map Gedge.cells) false]⟩)
def Z7c (Y3:Gm) (Y1:Int) (Yd:(List (Gedge × List Int))) (YR:(List Gedge)):St:=⟨.agg [.sl (Y3.Pq.map Gv.c), .sl (Y3.Tr.map (cL (cI .i64)))] :: .ptr 0 0 0 :: .any :: .nils :: .mp 1 :: .own 2 :: an 4 (.mp 1 :: .any :: .ptr 0 0 1 :: .sl (Y3.Tr.map (cL (cI .i64))) :: .i .i64 (Y3.Tr.length:Int) :: .i .i64 Y1 :: an 41 []),[.box 38 [.sl (Y3.Pq.map Gv.c), .sl (Y3.Tr.map (cL (cI .i64)))], .mapN 2 (mapC Gedge.pr (cI .i64) Yd) none, .vec 167 2 (YR.map Gedge.cells) false]⟩
theorem Zbt (Y3:Gm) (hp0:Y3.Pq.length≤1073741824) (hp1:Y3.Tr.length≤1073741824) (hp2:∀ t∈Y3.Tr,t.length≤1073741824) (hp3:OkE Y3.Pq.length Y3.Tr):∀ (k:Nat) (Y1:Int) (Yd:(List (Gedge × List Int))) (YR:(List Gedge)) (ZZ:0≤Y1) (Z4l:(YR.length:Int)≤3 * Y1) (Z3N:∀ y∈Yd,(y.2.length:Int)≤3 * Y1) (hk:((Y3.Tr.length:Int) - Y1).toNat < k),Lp prog 0 (sub (X0 f141) [1,1,0,1,0,0]) (Z7c Y3 Y1 Yd YR) (Z5l Y3 (Z1k Y3 k Y1 Yd YR)).1 (Z5l Y3 (Z1k Y3 k Y1 Yd YR)).2:=by
 intro k
 induction k with
 | zero => intro Y1 Yd YR ZZ Z4l Z3N hk; exact absurd hk (Nat.not_lt_zero _)
 | succ k ih =>
  intro Y1 Yd YR ZZ Z4l Z3N hk
  cases Yn:(decide (Y1 < (Y3.Tr.length:Int))) with
  | true =>
   have YM:=odt Yn
   have YS:(0:Int)≤Y1:=(by assumption)
   have YT:Y1 < (Y3.Tr.length:Int):=(by assumption)
   have YY:(-9223372036854775808:Int)≤(Y1 + 1):=(by omega)
   have YZ:(Y1 + 1)≤(9223372036854775807:Int):=(by omega)
   have e:Z1k Y3 (k + 1) Y1 Yd YR=(Z1k Y3 k (Y1 + 1) ((Z10 Y3 Y1 Yd YR).1) ((Z10 Y3 Y1 Yd YR).2)):=by simp only [Z1k,Yn,cond_true]
   rw [e]
   exact X9 E0Ok Z4 [] (mR false [0,2,1,3,4,1,1,4,41]) [0,1,2] (ih (Y1 + 1) ((Z10 Y3 Y1 Yd YR).1) ((Z10 Y3 Y1 Yd YR).2) (show 0≤(Y1 + 1) from (by omega)) (show (((Z10 Y3 Y1 Yd YR).2).length:Int)≤3 * (Y1 + 1) from (by exact (Zi1 _ _ _ _ ZZ (by assumption) (by assumption)).1)) (show ∀ y∈((Z10 Y3 Y1 Yd YR).1),(y.2.length:Int)≤3 * (Y1 + 1) from (by exact (Zi1 _ _ _ _ ZZ (by assumption) (by assumption)).2)) (by omega)) (sB Yn <| sG (cL (cI .i64)) Y3.Tr Y1 YS YT <| sL (mR false [0,2,1,5,2,1,1,9,36]) 3 (X1 (Z5k Y3 Y1 Yd YR) (x:=(Z10 Y3 Y1 Yd YR)) (Zbs Y3 Y1 Yd YR hp0 hp1 hp2 hp3 ZZ Z4l Z3N Yn (((3:Int) - 0).toNat + 1) 0 Yd YR (show 0≤0 from (by omega)) (show (YR.length:Int)≤(YR.length:Int) + 0 from (by omega)) (show ∀ y∈Yd,(y.2.length:Int)≤3 * Y1 + 0 from (by intro y hy; have q:=Z3N y hy; omega)) (Nat.lt_succ_self _)) rfl) <| sI (Y1 + 1) YY YZ <| sN) (by kernel_rfl)
  | false =>
   have YM:=odf Yn
   have e:Z1k Y3 (k + 1) Y1 Yd YR=(Yd,YR):=by simp only [Z1k,Yn,cond_false]
   rw [e]
   exact outR (e:=(.exit 0)) E0Ok Z4 [] (mR false [0,2,1,3,4,1,1,2,43]) [0,1,2] (sB Yn <| sN) (by kernel_rfl) (by intro h; cases h)
def Z1e (Y3:Gm):(List (Gedge × List Int)) × (List Gedge):=(Z1k Y3 (((Y3.Tr.length:Int) - 0).toNat + 1) 0 ([]:(List (Gedge × List Int))) ([]:List Gedge))
theorem ZiV (m:Gm) (k:Nat) (i:Int) (b:List (Gedge × List Int)) (l:List Gedge) (h0:0≤i):Z1k m (k + 1) i b l=cond (decide (i < (m.Tr.length:Int))) (Z1k m k (i + 1) (stT (b,l) (m.Tr.getD i.toNat default) i).1 (stT (b,l) (m.Tr.getD i.toNat default) i).2) (b,l):=by
  have st:∀ (x:Int) (k:Nat) (b:List (Gedge × List Int)) (l:List Gedge),x < 3→Zi m i b l (k + 1) x b l=Zi m i b l (k + 1) x b l:=fun _ _ _ _ _ => rfl
  have one:∀ (b0:List (Gedge × List Int)) (l0:List Gedge) (k:Nat) (x:Int) (s:List (Gedge × List Int) × List Gedge),x < 3→Zi m i b0 l0 (k + 1) x s.1 s.2=Zi m i b0 l0 k (x + 1) (stE s (Z5 m i x) i).1 (stE s (Z5 m i x) i).2:=by
    intro b0 l0 k x s hx
    rw [Zi,decide_eq_true hx,cond_true]
    unfold stE
    cases mhas s.1 (Z5 m i x) with
    | true =>
      rw [cond_true,cond_true]
      cases (((s.1.getD (midx s.1 (Z5 m i x)) default).2.length:Int) == 0) <;> rfl
    | false => rfl
  have tri:Z10 m i b l=stT (b,l) (m.Tr.getD i.toNat default) i:=by
    unfold Z10
    show Zi m i b l 4 0 (b,l).1 (b,l).2=_
    rw [one b l 3 0 (b,l) (by omega),one b l 2 (0 + 1) _ (by omega),one b l 1 (0 + 1 + 1) _ (by omega),Zi]
    show cond (decide ((3:Int) < 3)) _ _=_
    rw [decide_eq_false (by omega),cond_false]
    unfold Z5 stT
    simp only [Zis]
    rfl
  rw [Z1k,tri]
theorem Zgu (m:Gm) (ok:OkE m.Pq.length m.Tr):ETab m.Tr m.Tr.length (Z1e m):=by
  unfold Z1e
  exact ETab.loop ok (ZiV m) _ 0 ([],[]) (Nat.zero_le _) (ETab.nil _) (by omega)
theorem ZiM (m:Gm) (ok:OkE m.Pq.length m.Tr):(Z1e m).2.length≤4096:=by
  have h:=congrArg List.length ((Zgu m ok).sorted ok)
  rw [X5J] at h
  rw [h]; exact X30 ok
end Go.Ab
namespace Go.Proofs
open Go.Shelf
def Tryz.laysF0n6_ren:Go.Shelf.Ren:=⟨fun | 6 => 150 | 15 => 154 | 14 => 153 | 28 => 164 | 29 => 165 | 20 => 156 | 21 => 157 | 22 => 158 | 23 => 159 | 24 => 160 | 25 => 161 | 26 => 162 | 27 => 163 | 46 => 167 | 47 => 168 | 48 => 169 | 49 => 170 | 50 => 171 | 57 => 173 | n => n,fun | 22 => 163 | 24 => 167 | 25 => 175 | 3 => 3 | 39 => 178 | 0 => 0 | 53 => 189 | 55 => 191 | 4 => 4 | 46 => 182 | 45 => 181 | 50 => 186 | 5 => 5 | 9 => 9 | 66 => 193 | 70 => 197 | 76 => 200 | 77 => 201 | n => n,fun | n => n⟩
theorem Tryz.laysF0n6:Go.Proofs.SlLaysF0.n6 Tryz.prog Tryz.laysF0n6_ren:={
  mixed:=by kernel_rfl
  f6:=⟨Tryz.f150.name,by decide,Tryz.func150.trans (congrArg some (by kernel_rfl))⟩
  f14:=⟨Tryz.f153.name,by decide,Tryz.func153.trans (congrArg some (by kernel_rfl))⟩
  f15:=Tryz.func154.trans (congrArg some (by kernel_rfl))
  f20:=⟨Tryz.f156.name,by decide,Tryz.func156.trans (congrArg some (by kernel_rfl))⟩
  f21:=⟨Tryz.f157.name,by decide,Tryz.func157.trans (congrArg some (by kernel_rfl))⟩
  f22:=⟨Tryz.f158.name,by decide,Tryz.func158.trans (congrArg some (by kernel_rfl))⟩
  f23:=⟨Tryz.f159.name,by decide,Tryz.func159.trans (congrArg some (by kernel_rfl))⟩
  f24:=⟨Tryz.f160.name,by decide,Tryz.func160.trans (congrArg some (by kernel_rfl))⟩
  f25:=⟨Tryz.f161.name,by decide,Tryz.func161.trans (congrArg some (by kernel_rfl))⟩
  f26:=⟨Tryz.f162.name,by decide,Tryz.func162.trans (congrArg some (by kernel_rfl))⟩
  f27:=⟨Tryz.f163.name,by decide,Tryz.func163.trans (congrArg some (by kernel_rfl))⟩
  f28:=Tryz.func164.trans (congrArg some (by kernel_rfl))
  f29:=Tryz.func165.trans (congrArg some (by kernel_rfl))
  f46:=⟨Tryz.f167.name,by decide,Tryz.func167.trans (congrArg some (by kernel_rfl))⟩
  f47:=Tryz.func168.trans (congrArg some (by kernel_rfl))
  f48:=Tryz.func169.trans (congrArg some (by kernel_rfl))
  f49:=⟨Tryz.f170.name,by decide,Tryz.func170.trans (congrArg some (by kernel_rfl))⟩
  f50:=⟨Tryz.f171.name,by decide,Tryz.func171.trans (congrArg some (by kernel_rfl))⟩
  f57:=⟨Tryz.f173.name,by decide,Tryz.func173.trans (congrArg some (by kernel_rfl))⟩
  t0:=Tryz.underlying0
  a0:=Tryz.isAgg0
  z0:=Tryz.sizeOf0
  v0:=Tryz.zeroValue0
  t3:=Tryz.underlying3
  a3:=Tryz.isAgg3
  z3:=Tryz.sizeOf3
  v3:=Tryz.zeroValue3
  t4:=Tryz.underlying4
  a4:=Tryz.isAgg4
  z4:=Tryz.sizeOf4
  v4:=Tryz.zeroValue4
  t5:=Tryz.underlying5
  a5:=Tryz.isAgg5
  z5:=Tryz.sizeOf5
  v5:=Tryz.zeroValue5
  t9:=Tryz.underlying9
  a9:=Tryz.isAgg9
  z9:=Tryz.sizeOf9
  v9:=Tryz.zeroValue9
  t22:=Tryz.underlying163
  a22:=Tryz.isAgg163
  z22:=Tryz.sizeOf163
  v22:=Tryz.zeroValue163
  t25:=Tryz.underlying175
  a25:=Tryz.isAgg175
  z25:=Tryz.sizeOf175
  v25:=Tryz.zeroValue175
  t39:=Tryz.underlying178
  a39:=Tryz.isAgg178
  z39:=Tryz.sizeOf178
  v39:=Tryz.zeroValue178
  t45:=Tryz.underlying181
  a45:=Tryz.isAgg181
  z45:=Tryz.sizeOf181
  v45:=Tryz.zeroValue181
  t46:=Tryz.underlying182
  a46:=Tryz.isAgg182
  z46:=Tryz.sizeOf182
  v46:=Tryz.zeroValue182
  t50:=Tryz.underlying186
  a50:=Tryz.isAgg186
  z50:=Tryz.sizeOf186
  v50:=Tryz.zeroValue186
  t53:=Tryz.underlying189
  a53:=Tryz.isAgg189
  z53:=Tryz.sizeOf189
  v53:=Tryz.zeroValue189
  t55:=Tryz.underlying191
  a55:=Tryz.isAgg191
  z55:=Tryz.sizeOf191
  v55:=Tryz.zeroValue191
  t66:=Tryz.underlying193
  a66:=Tryz.isAgg193
  z66:=Tryz.sizeOf193
  v66:=Tryz.zeroValue193
  t70:=Tryz.underlying197
  a70:=Tryz.isAgg197
  z70:=Tryz.sizeOf197
  v70:=Tryz.zeroValue197
  t76:=Tryz.underlying200
  a76:=Tryz.isAgg200
  z76:=Tryz.sizeOf200
  v76:=Tryz.zeroValue200
  t77:=Tryz.underlying201
  a77:=Tryz.isAgg201
  z77:=Tryz.sizeOf201
  v77:=Tryz.zeroValue201 }
end Go.Proofs
namespace Go.Ab
open Go.RowKit Go.Proofs.Tryz
theorem Zj0 (x y:Int):Z1W x y=if x < y then -1 else if x > y then 1 else 0:=by
  unfold Z1W Z3M
  simp only [bne_self_eq_false,cond_false]
  by_cases h1:x < y
  · simp [h1]
  · by_cases h2:x > y <;> simp [h1,h2]
theorem Zj1 (a b:Gedge):Z73 a b=cmpP a.pr b.pr:=by
  unfold Z73 Z2i Z2K cmpP Gedge.pr
  show (match Zw [a.e0,a.e1] [b.e0,b.e1] 3 0 with | .inl r1 => r1 | .inr r1 => cond (decide (((2:Nat):Int) < ((2:Nat):Int))) (-1) 0)=_
  simp only [Zw,Zj0,List.length_cons,List.length_nil]
  by_cases h1:a.e0 < b.e0
  · simp [h1]
  · by_cases h2:a.e0 > b.e0
    · simp [h1,h2]
    · by_cases h3:a.e1 < b.e1
      · simp [h1,h2,h3]
      · by_cases h4:a.e1 > b.e1 <;> simp [h1,h2,h3,h4]
def Z5S (l:List Gedge):List Gedge:=X26 Gedge.pr l
theorem ZbP (l:List Gedge) (h:l.length≤1073741824):X3 prog 150 [.vec 167 2 (l.map Gedge.cells) false] [.own 0, .fn 151 []] (.tup []) [.vec 167 2 ((Z5S l).map Gedge.cells) false] :=
  X7B laysF0n6 isAgg167 sizeOf167 Gedge.pr Gedge.inj Gedge.cells (fun _ => rfl) 167 151 ⟨_,func150,rfl,by kernel_rfl⟩ (Za0 default default).1
    (fun a b W => ((Za0 a b).2 W #[keyV a.pr,keyV b.pr] ⟨rfl,fun j c e => by match j,e with | 0,e => cases e; exact Rep.agg _ _ rfl (fun i c e => by match i,e with | 0,e => cases e; exact .i _ _ | 1,e => cases e; exact .i _ _) | 1,e => cases e; exact Rep.agg _ _ rfl (fun i c e => by match i,e with | 0,e => cases e; exact .i _ _ | 1,e => cases e; exact .i _ _)⟩).mono fun e w' ⟨v,μ',he,hb,_,hr⟩ => by
      cases hr; rw [Zj1] at he; exact ⟨he,hb⟩) l h
def Z3 (Y3:Gm):(List (Gedge × List Int)) × (List Gedge):=((Z1e Y3).1,(Z5S ((Z1e Y3).2)))
theorem ZbQ (m:Gm) (ok:OkE m.Pq.length m.Tr):(Z3 m).2=edgL m.Pq.length m.Tr:=(Zgu m ok).sorted ok
theorem Zhv (m:Gm) (ok:OkE m.Pq.length m.Tr) {e:Gedge} (he:e∈(Z3 m).2):mhas (Z3 m).1 e=true∧((Z3 m).1.getD (midx (Z3 m).1 e) default).2=idxP m.Tr e.e0 e.e1:=by
  rw [ZbQ m ok] at he
  have h:=(Zgu m ok).at ok he
  exact ⟨h.1,h.2.trans (X7S ok (X3G.1 he).1.2.1)⟩
theorem Zit (m:Gm) (ok:OkE m.Pq.length m.Tr):(Z3 m).2.length≤4096:=by
  rw [ZbQ m ok]; exact X30 ok
theorem ZeA (m:Gm) (ok:OkE m.Pq.length m.Tr) {i:Int} (h0:0≤i) (hi:i < ((Z3 m).2.length:Int)):(Z3 m).2.getD i.toNat default∈(Z3 m).2:=by
  have hn:i.toNat < (Z3 m).2.length:=by omega
  rw [List.getD_eq_getElem?_getD,List.getElem?_eq_getElem hn]; exact List.getElem_mem hn
theorem Z8P (m:Gm) (ok:OkE m.Pq.length m.Tr) {i:Int} (h0:0≤i) (hi:i < ((Z3 m).2.length:Int)) :
    0≤((Z3 m).2.getD i.toNat default).e0∧((Z3 m).2.getD i.toNat default).e0 < ((Z3 m).2.getD i.toNat default).e1∧((Z3 m).2.getD i.toNat default).e1 < (m.Pq.length:Int)∧(m.Pq.length:Int)≤64∧((Z3 m).2.length:Int)≤4096:=by
  have hl:=Zit m ok
  have h64:=ok.1
  have hm:=ZeA m ok h0 hi
  rw [ZbQ m ok] at hm
  have hb:=X4g hm
  rw [← ZbQ m ok] at hb
  exact ⟨hb.1,hb.2.1,hb.2.2,by omega,by omega⟩
theorem Zcb (m:Gm) (ok:OkE m.Pq.length m.Tr) {i:Int} (h0:0≤i) (hi:i < ((Z3 m).2.length:Int))
    (h2:((((Z3 m).1.getD (midx (Z3 m).1 ((Z3 m).2.getD i.toNat default)) default).2.length:Int))=2) :
    0≤((Z3 m).1.getD (midx (Z3 m).1 ((Z3 m).2.getD i.toNat default)) default).2.getD 0 default∧((Z3 m).1.getD (midx (Z3 m).1 ((Z3 m).2.getD i.toNat default)) default).2.getD 0 default < (m.Tr.length:Int) ∧
    0≤((Z3 m).1.getD (midx (Z3 m).1 ((Z3 m).2.getD i.toNat default)) default).2.getD 1 default∧((Z3 m).1.getD (midx (Z3 m).1 ((Z3 m).2.getD i.toNat default)) default).2.getD 1 default < (m.Tr.length:Int)∧(m.Tr.length:Int)≤128:=by
  obtain ⟨g1,g2⟩:=Zhv m ok (ZeA m ok h0 hi)
  rw [g2] at h2 ⊢
  have a1:=X4h (ts:=m.Tr) (a:=((Z3 m).2.getD i.toNat default).e0) (b:=((Z3 m).2.getD i.toNat default).e1) (k:=0) (by omega)
  have a2:=X4h (ts:=m.Tr) (a:=((Z3 m).2.getD i.toNat default).e0) (b:=((Z3 m).2.getD i.toNat default).e1) (k:=1) (by omega)
  have:=ok.2.1
  exact ⟨a1.1,a1.2.1,a2.1,a2.2.1,by omega⟩
theorem Zco (Y3:Gm) (hp0:Y3.Pq.length≤1073741824) (hp1:Y3.Tr.length≤1073741824) (hp2:∀ t∈Y3.Tr,t.length≤1073741824) (hp3:OkE Y3.Pq.length Y3.Tr)  : Fn prog 141 [.agg [.sl (Y3.Pq.map Gv.c), .sl (Y3.Tr.map (cL (cI .i64)))]] (.tup [.mp 0, .own 1]) [.mapN 2 (mapC Gedge.pr (cI .i64) ((Z3 Y3).1)) none, .vec 167 2 (((Z3 Y3).2).map Gedge.cells) false]:=by
 have y0:((Z1e Y3).2).length≤1073741824:=(by (have q:=ZiM Y3 hp3; omega))
 refine fnS E0Ok Z4 (c:=X0 f141) [] (.tup [.mp 0, .own 1]) [.mapN 2 (mapC Gedge.pr (cI .i64) ((Z1e Y3).1)) none, .vec 167 2 ((Z5S ((Z1e Y3).2)).map Gedge.cells) false] func141 (sZ (cL (cI .i64)) Y3.Tr <| sL (mR false [0,2,1,3,4,1,1,4,41]) 3 (Xj (st2:=⟨.agg [.sl (Y3.Pq.map Gv.c), .sl (Y3.Tr.map (cL (cI .i64)))] :: .ptr 0 0 0 :: .any :: .nils :: .mp 1 :: .own 2 :: an 4 (.mp 1 :: .any :: .ptr 0 0 1 :: .sl (Y3.Tr.map (cL (cI .i64))) :: .i .i64 (Y3.Tr.length:Int) :: .i .i64 0 :: an 41 []),[.box 38 [.sl (Y3.Pq.map Gv.c), .sl (Y3.Tr.map (cL (cI .i64)))], .mapN 2 [] none, .vec 167 2 ([]:List (List AV)) false]⟩) (X1 (Z5l Y3) (x:=(Z1e Y3)) (Zbt Y3 hp0 hp1 hp2 hp3 (((Y3.Tr.length:Int) - 0).toNat + 1) 0 ([]:(List (Gedge × List Int))) ([]:List Gedge) (show 0≤0 from (by omega)) (show (([]:List Gedge).length:Int)≤3 * 0 from (by simp; done)) (show ∀ y∈([]:(List (Gedge × List Int))),(y.2.length:Int)≤3 * 0 from (by simp; done)) (Nat.lt_succ_self _)) rfl) (by simp [Z7c,mapC,Gedge.cells])) <| sS (X3.frame (ZbP ((Z1e Y3).2) y0) [2] (R:=[.box 38 [.sl (Y3.Pq.map Gv.c), .sl (Y3.Tr.map (cL (cI .i64)))], .mapN 2 (mapC Gedge.pr (cI .i64) ((Z1e Y3).1)) none, .vec 167 2 (((Z1e Y3).2).map Gedge.cells) false]) (args':=[.own 2, .fn 151 []]) rfl rfl rfl rfl rfl rfl) <| sK [1,2] sN) rfl (by kernel_rfl) (by kernel_rfl) rfl ?_ ?_
 · rfl
 · simp [Z3]
def Z5W (YV:(List Int)) (e_1:Gedge):Int:=(IntKind.wrap .i64 ((IntKind.wrap .i64 ((IntKind.wrap .i64 ((IntKind.wrap .i64 ((YV.getD 0 default) + (YV.getD 1 default))) + (YV.getD 2 default))) - e_1.e0)) - e_1.e1))
def Z61 (YV:(List Int)) (e_1:Gedge):Int:=(Z5W YV e_1)
theorem ZcK (YV:(List Int)) (e_1:Gedge) (hp0:YV.length≤1073741824) (hp1:YV.length=3)  : Fn prog 142 [.sl (YV.map (cI .i64)), .agg [.i .i64 e_1.e0, .i .i64 e_1.e1]] (.i .i64 (Z61 YV e_1)) []:=by
 have y0:(0:Int)≤0:=(by omega)
 have y1:0 < (YV.length:Int):=(by omega)
 have y2:(0:Int)≤1:=(by omega)
 have y3:1 < (YV.length:Int):=(by omega)
 have y4:(0:Int)≤2:=(by omega)
 have y5:2 < (YV.length:Int):=(by omega)
 refine fnS E0Ok Z4 (c:=X0 f142) [] (.i .i64 (Z5W YV e_1)) [] func142 (sK [16,16] <| sG (cI .i64) YV 0 y0 y1 <| sG (cI .i64) YV 1 y2 y3 <| sW .i64 ((YV.getD 0 default) + (YV.getD 1 default)) <| sG (cI .i64) YV 2 y4 y5 <| sW .i64 ((IntKind.wrap .i64 ((YV.getD 0 default) + (YV.getD 1 default))) + (YV.getD 2 default)) <| sC (show (0:Int)≤0∧0 < ((2:Nat):Int) from (by decide)) <| sW .i64 ((IntKind.wrap .i64 ((IntKind.wrap .i64 ((YV.getD 0 default) + (YV.getD 1 default))) + (YV.getD 2 default))) - e_1.e0) <| sC (show (0:Int)≤1∧1 < ((2:Nat):Int) from (by decide)) <| sM (show IntKind.wrap .i64 ((IntKind.wrap .i64 ((IntKind.wrap .i64 ((IntKind.wrap .i64 ((YV.getD 0 default) + (YV.getD 1 default))) + (YV.getD 2 default))) - e_1.e0)) - e_1.e1)=(Z5W YV e_1) from rfl) <| sK [] sN) rfl (by kernel_rfl) (by kernel_rfl) rfl ?_ ?_
 · rfl
 · rfl
def Z3O (Y3:Gm) (Y1:Int):Int:=(Z61 (Y3.Tr.getD ((((Z3 Y3).1).getD (midx ((Z3 Y3).1) (((Z3 Y3).2).getD Y1.toNat default)) default).2.getD 0 default).toNat default) (((Z3 Y3).2).getD Y1.toNat default))
def Z3P (Y3:Gm) (Y1:Int):Int:=(Z61 (Y3.Tr.getD ((((Z3 Y3).1).getD (midx ((Z3 Y3).1) (((Z3 Y3).2).getD Y1.toNat default)) default).2.getD 1 default).toNat default) (((Z3 Y3).2).getD Y1.toNat default))
def Z11 (Y3:Gm):Nat→Int→(List (List Int))→(List (List Int))
  | 0,_,_ => default
  | k + 1,Y1,Yd => (cond (decide (Y1 < (((Z3 Y3).2).length:Int)))
    (cond (mhas ((Z3 Y3).1) (((Z3 Y3).2).getD Y1.toNat default))
      (cond (((((Z3 Y3).1).getD (midx ((Z3 Y3).1) (((Z3 Y3).2).getD Y1.toNat default)) default).2.length:Int) == 2)
        (Z11 Y3 k (Y1 + 1) (Yd ++ [[(((Z3 Y3).2).getD Y1.toNat default).e0,(((Z3 Y3).2).getD Y1.toNat default).e1,(Z3O Y3 Y1),(Z3P Y3 Y1)]]))
        (Z11 Y3 k (Y1 + 1) Yd))
      (Z11 Y3 k (Y1 + 1) Yd))
    Yd)
def Z7y (Y3:Gm) (r:(List (List Int))):Ex × St:=((.exit 0),⟨.agg [.sl (Y3.Pq.map Gv.c), .sl (Y3.Tr.map (cL (cI .i64)))] :: .ptr 0 0 0 :: .nils :: .own 1 :: .any :: .own 2 :: an 5 (.agg [.sl (Y3.Pq.map Gv.c), .sl (Y3.Tr.map (cL (cI .i64)))] :: .any :: .mp 3 :: .own 2 :: .own 2 :: an 39 []),[.box 38 [.sl (Y3.Pq.map Gv.c), .sl (Y3.Tr.map (cL (cI .i64)))], .nest 49 (r.map fun l => l.map (cI .i64)) false, .vec 167 2 (((Z3 Y3).2).map Gedge.cells) false, .mapN 2 (mapC Gedge.pr (cI .i64) ((Z3 Y3).1)) none]⟩)
def Z7z (Y3:Gm) (Y1:Int) (Yd:(List (List Int))):St:=⟨.agg [.sl (Y3.Pq.map Gv.c), .sl (Y3.Tr.map (cL (cI .i64)))] :: .ptr 0 0 0 :: .nils :: .own 1 :: .mp 2 :: .own 3 :: an 5 (.agg [.sl (Y3.Pq.map Gv.c), .sl (Y3.Tr.map (cL (cI .i64)))] :: .any :: .mp 2 :: .own 3 :: .own 3 :: .i .i64 (((Z3 Y3).2).length:Int) :: .i .i64 Y1 :: an 37 []),[.box 38 [.sl (Y3.Pq.map Gv.c), .sl (Y3.Tr.map (cL (cI .i64)))], .nest 49 (Yd.map fun l => l.map (cI .i64)) false, .mapN 2 (mapC Gedge.pr (cI .i64) ((Z3 Y3).1)) none, .vec 167 2 (((Z3 Y3).2).map Gedge.cells) false]⟩
set_option maxHeartbeats 1000000 in
theorem ZeB (Y3:Gm) (hp0:Y3.Pq.length≤1073741824) (hp1:Y3.Tr.length≤1073741824) (hp2:∀ t∈Y3.Tr,t.length≤1073741824) (hp3:OkE Y3.Pq.length Y3.Tr):∀ (k:Nat) (Y1:Int) (Yd:(List (List Int))) (Z1w:0≤Y1) (Z9r:(Yd.length:Int)≤Y1) (hk:((((Z3 Y3).2).length:Int) - Y1).toNat < k),Lp prog 0 (sub (X0 f115) [1,1,1,0,1,0,0]) (Z7z Y3 Y1 Yd) (Z7y Y3 (Z11 Y3 k Y1 Yd)).1 (Z7y Y3 (Z11 Y3 k Y1 Yd)).2:=by
 intro k
 induction k with
 | zero => intro Y1 Yd Z1w Z9r hk; exact absurd hk (Nat.not_lt_zero _)
 | succ k ih =>
  intro Y1 Yd Z1w Z9r hk
  cases Yn:(decide (Y1 < (((Z3 Y3).2).length:Int))) with
  | true =>
   have YM:=odt Yn
   have YS:(0:Int)≤Y1:=(by assumption)
   have YT:Y1 < (((Z3 Y3).2).length:Int):=(by assumption)
   have YY:Y1.toNat < ((Z3 Y3).2).length:=(by omega)
   have p {a C} (s:Scr a C):=sB Yn <| sX Gedge.cells ((Z3 Y3).2) Y1 YS YT <| sV Gedge.cells ((Z3 Y3).2) Y1.toNat YY <| s
   cases YL:(mhas ((Z3 Y3).1) (((Z3 Y3).2).getD Y1.toNat default)) with
   | true =>
    have m_8:=X2J YL
    have q {a C} (s:Scr a C):=p (sA (.keep [midx ((Z3 Y3).1) (((Z3 Y3).2).getD Y1.toNat default)]) <| sC (X3q (ck:=Gedge.pr) (cv:=(cI .i64)) YL) <| sM (X5F (ck:=Gedge.pr) (cv:=(cI .i64)) (l:=(Z3 Y3).1) (j:=(midx ((Z3 Y3).1) (((Z3 Y3).2).getD Y1.toNat default)))) <| s)
    clear p
    cases h_2:(((((Z3 Y3).1).getD (midx ((Z3 Y3).1) (((Z3 Y3).2).getD Y1.toNat default)) default).2.length:Int) == 2) with
    | true =>
     have Y1p:=eq_of_beq h_2
     have YZ:(0:Int)≤0:=by clear q; exact (by omega)
     have y_4:0 < ((((Z3 Y3).1).getD (midx ((Z3 Y3).1) (((Z3 Y3).2).getD Y1.toNat default)) default).2.length:Int):=by clear q; exact (by omega)
     have y_5:0 < (((Z3 Y3).1).getD (midx ((Z3 Y3).1) (((Z3 Y3).2).getD Y1.toNat default)) default).2.length:=by clear q; exact (by omega)
     have y_6:(0:Int)≤((((Z3 Y3).1).getD (midx ((Z3 Y3).1) (((Z3 Y3).2).getD Y1.toNat default)) default).2.getD 0 default):=by clear q; exact (by ((have q:=Zcb Y3 hp3 Z1w (odt (by assumption)) (by assumption); omega)))
     have y_7:((((Z3 Y3).1).getD (midx ((Z3 Y3).1) (((Z3 Y3).2).getD Y1.toNat default)) default).2.getD 0 default) < (Y3.Tr.length:Int):=by clear q; exact (by ((have q:=Zcb Y3 hp3 Z1w (odt (by assumption)) (by assumption); omega)))
     have y_8:(Y3.Tr.getD ((((Z3 Y3).1).getD (midx ((Z3 Y3).1) (((Z3 Y3).2).getD Y1.toNat default)) default).2.getD 0 default).toNat default).length≤1073741824:=by clear q; exact (by (have q:=Zcb Y3 hp3 Z1w (odt (by assumption)) (by assumption); have q1:=(hp3.tris.at q.1 q.2.1).1; have q2:=(hp3.tris.at q.2.2.1 q.2.2.2.1).1; omega))
     have y_9:(Y3.Tr.getD ((((Z3 Y3).1).getD (midx ((Z3 Y3).1) (((Z3 Y3).2).getD Y1.toNat default)) default).2.getD 0 default).toNat default).length=3:=by clear q; exact (by (have q:=Zcb Y3 hp3 Z1w (odt (by assumption)) (by assumption); have q1:=(hp3.tris.at q.1 q.2.1).1; have q2:=(hp3.tris.at q.2.2.1 q.2.2.2.1).1; exact q1))
     have Y19:(0:Int)≤1:=by clear q; exact (by omega)
     have Y1g:1 < ((((Z3 Y3).1).getD (midx ((Z3 Y3).1) (((Z3 Y3).2).getD Y1.toNat default)) default).2.length:Int):=by clear q; exact (by omega)
     have Y1j:1 < (((Z3 Y3).1).getD (midx ((Z3 Y3).1) (((Z3 Y3).2).getD Y1.toNat default)) default).2.length:=by clear q; exact (by omega)
     have Y1k:(0:Int)≤((((Z3 Y3).1).getD (midx ((Z3 Y3).1) (((Z3 Y3).2).getD Y1.toNat default)) default).2.getD 1 default):=by clear q; exact (by ((have q:=Zcb Y3 hp3 Z1w (odt (by assumption)) (by assumption); omega)))
     have Y1r:((((Z3 Y3).1).getD (midx ((Z3 Y3).1) (((Z3 Y3).2).getD Y1.toNat default)) default).2.getD 1 default) < (Y3.Tr.length:Int):=by clear q; exact (by ((have q:=Zcb Y3 hp3 Z1w (odt (by assumption)) (by assumption); omega)))
     have Y1s:(Y3.Tr.getD ((((Z3 Y3).1).getD (midx ((Z3 Y3).1) (((Z3 Y3).2).getD Y1.toNat default)) default).2.getD 1 default).toNat default).length≤1073741824:=by clear q; exact (by (have q:=Zcb Y3 hp3 Z1w (odt (by assumption)) (by assumption); have q1:=(hp3.tris.at q.1 q.2.1).1; have q2:=(hp3.tris.at q.2.2.1 q.2.2.2.1).1; omega))
     have Y1t:(Y3.Tr.getD ((((Z3 Y3).1).getD (midx ((Z3 Y3).1) (((Z3 Y3).2).getD Y1.toNat default)) default).2.getD 1 default).toNat default).length=3:=by clear q; exact (by (have q:=Zcb Y3 hp3 Z1w (odt (by assumption)) (by assumption); have q1:=(hp3.tris.at q.1 q.2.1).1; have q2:=(hp3.tris.at q.2.2.1 q.2.2.2.1).1; exact q2))
     have Y1u:Yd.length + [[(((Z3 Y3).2).getD Y1.toNat default).e0,(((Z3 Y3).2).getD Y1.toNat default).e1,(Z3O Y3 Y1),(Z3P Y3 Y1)]].length≤1073741824:=by clear q; exact (by ((have q:=Z8P Y3 hp3 Z1w (odt (by assumption)); (simp only [List.length_append,List.length_cons,List.length_nil]; omega))))
     have Y1D:(-9223372036854775808:Int)≤(Y1 + 1):=by clear q; exact (by omega)
     have Y1E:(Y1 + 1)≤(9223372036854775807:Int):=by clear q; exact (by ((have q:=Z8P Y3 hp3 Z1w (odt (by assumption)); omega)))
     have e:Z11 Y3 (k + 1) Y1 Yd=(Z11 Y3 k (Y1 + 1) (Yd ++ [[(((Z3 Y3).2).getD Y1.toNat default).e0,(((Z3 Y3).2).getD Y1.toNat default).e1,(Z3O Y3 Y1),(Z3P Y3 Y1)]])):=by simp only [Z11,Yn,YL,h_2,cond_true]
     rw [e]
     exact X8 E0Ok Z4 [] (mR false [0,6,5,1,1,5,37]) [0,1,2,3] (⟨.agg [.sl (Y3.Pq.map Gv.c), .sl (Y3.Tr.map (cL (cI .i64)))] :: .ptr 0 0 0 :: .nils :: .own 1 :: .mp 2 :: .own 3 :: an 5 (.agg [.sl (Y3.Pq.map Gv.c), .sl (Y3.Tr.map (cL (cI .i64)))] :: .any :: .mp 2 :: .own 3 :: .own 3 :: .i .i64 (((Z3 Y3).2).length:Int) :: .i .i64 (Y1 + 1) :: an 37 []),[.box 38 [.sl (Y3.Pq.map Gv.c), .sl (Y3.Tr.map (cL (cI .i64)))], .nest 49 ((Yd.map fun l => l.map (cI .i64)) ++ [([[.i .i64 ((((Z3 Y3).2).getD Y1.toNat default).e0)],[.i .i64 ((((Z3 Y3).2).getD Y1.toNat default).e1)],[.i .i64 (Z3O Y3 Y1)],[.i .i64 (Z3P Y3 Y1)]]:List (List AV))]) false, .mapN 2 (mapC Gedge.pr (cI .i64) ((Z3 Y3).1)) none, .vec 167 2 (((Z3 Y3).2).map Gedge.cells) false]⟩) (q (sB h_2 <| sK [25,25] <| sC (show (0:Int)≤0∧0 < ((2:Nat):Int) from (by decide)) <| sC (show (0:Int)≤1∧1 < ((2:Nat):Int) from (by decide)) <| sC (X6a (ck:=Gedge.pr) (cv:=(cI .i64)) (l:=(Z3 Y3).1) (j:=(midx ((Z3 Y3).1) (((Z3 Y3).2).getD Y1.toNat default))) (i:=0) YZ y_4) <| sE (X69 (ck:=Gedge.pr) (cv:=(cI .i64)) (l:=(Z3 Y3).1) (j:=(midx ((Z3 Y3).1) (((Z3 Y3).2).getD Y1.toNat default))) (i:=0) y_5) <| sG (cL (cI .i64)) Y3.Tr ((((Z3 Y3).1).getD (midx ((Z3 Y3).1) (((Z3 Y3).2).getD Y1.toNat default)) default).2.getD 0 default) y_6 y_7 <| sF (ZcK (Y3.Tr.getD ((((Z3 Y3).1).getD (midx ((Z3 Y3).1) (((Z3 Y3).2).getD Y1.toNat default)) default).2.getD 0 default).toNat default) (((Z3 Y3).2).getD Y1.toNat default) y_8 y_9) <| sC (X6a (ck:=Gedge.pr) (cv:=(cI .i64)) (l:=(Z3 Y3).1) (j:=(midx ((Z3 Y3).1) (((Z3 Y3).2).getD Y1.toNat default))) (i:=1) Y19 Y1g) <| sE (X69 (ck:=Gedge.pr) (cv:=(cI .i64)) (l:=(Z3 Y3).1) (j:=(midx ((Z3 Y3).1) (((Z3 Y3).2).getD Y1.toNat default))) (i:=1) Y1j) <| sG (cL (cI .i64)) Y3.Tr ((((Z3 Y3).1).getD (midx ((Z3 Y3).1) (((Z3 Y3).2).getD Y1.toNat default)) default).2.getD 1 default) Y1k Y1r <| sF (ZcK (Y3.Tr.getD ((((Z3 Y3).1).getD (midx ((Z3 Y3).1) (((Z3 Y3).2).getD Y1.toNat default)) default).2.getD 1 default).toNat default) (((Z3 Y3).2).getD Y1.toNat default) Y1s Y1t) <| sC (show (Yd.map fun l => l.map (cI .i64)).length + [([[.i .i64 ((((Z3 Y3).2).getD Y1.toNat default).e0)],[.i .i64 ((((Z3 Y3).2).getD Y1.toNat default).e1)],[.i .i64 (Z3O Y3 Y1)],[.i .i64 (Z3P Y3 Y1)]]:List (List AV))].length≤1073741824 from (by simpa using Y1u)) <| sI (Y1 + 1) Y1D Y1E <| sN)) (by kernel_rfl) (by simp [Z7z,cL,cI]) (ih (Y1 + 1) (Yd ++ [[(((Z3 Y3).2).getD Y1.toNat default).e0,(((Z3 Y3).2).getD Y1.toNat default).e1,(Z3O Y3 Y1),(Z3P Y3 Y1)]]) (show 0≤(Y1 + 1) from (by omega)) (show ((Yd ++ [[(((Z3 Y3).2).getD Y1.toNat default).e0,(((Z3 Y3).2).getD Y1.toNat default).e1,(Z3O Y3 Y1),(Z3P Y3 Y1)]]).length:Int)≤(Y1 + 1) from (by ((have q:=Z8P Y3 hp3 Z1w (odt (by assumption)); (simp only [List.length_append,List.length_cons,List.length_nil]; omega))))) (by omega))
    | false =>
     have Y1p:=ne_of_beq_false h_2
     have YZ:(-9223372036854775808:Int)≤(Y1 + 1):=by clear q; exact (by omega)
     have y_4:(Y1 + 1)≤(9223372036854775807:Int):=by clear q; exact (by ((have q:=Z8P Y3 hp3 Z1w (odt (by assumption)); omega)))
     have e:Z11 Y3 (k + 1) Y1 Yd=(Z11 Y3 k (Y1 + 1) Yd):=by simp only [Z11,Yn,YL,h_2,cond_true,cond_false]
     rw [e]
     exact X9 E0Ok Z4 [] (mR false [0,6,5,1,1,5,37]) [0,1,2,3] (ih (Y1 + 1) Yd (show 0≤(Y1 + 1) from (by omega)) (show (Yd.length:Int)≤(Y1 + 1) from (by omega)) (by omega)) (q (sB h_2 <| sI (Y1 + 1) YZ y_4 <| sN)) (by kernel_rfl)
   | false =>
    have YZ:(-9223372036854775808:Int)≤(Y1 + 1):=by clear p; exact (by omega)
    have y_4:(Y1 + 1)≤(9223372036854775807:Int):=by clear p; exact (by ((have q:=Z8P Y3 hp3 Z1w (odt (by assumption)); omega)))
    have e:Z11 Y3 (k + 1) Y1 Yd=(Z11 Y3 k (Y1 + 1) Yd):=by simp only [Z11,Yn,YL,cond_true,cond_false]
    rw [e]
    exact X9 E0Ok Z4 [] (mR false [0,6,5,1,1,5,37]) [0,1,2,3] (ih (Y1 + 1) Yd (show 0≤(Y1 + 1) from (by omega)) (show (Yd.length:Int)≤(Y1 + 1) from (by omega)) (by omega)) (p (sA (.keep []) <| sC (X4e (ck:=Gedge.pr) (cv:=(cI .i64)) Gedge.inj YL) <| sM (show ((0:Nat):Int)=0 from rfl) <| sB (show (0 == 2)=false from rfl) <| sI (Y1 + 1) YZ y_4 <| sN)) (by kernel_rfl)
  | false =>
   have YM:=odf Yn
   have e:Z11 Y3 (k + 1) Y1 Yd=Yd:=by simp only [Z11,Yn,cond_false]
   rw [e]
   exact outR (e:=(.exit 0)) E0Ok Z4 [] (mR false [0,4,1,1,5,1,1,3,39]) [0,1,3,2] (sB Yn <| sN) (by kernel_rfl) (by intro h; cases h)
def Z5m (Y3:Gm):(List (List Int)):=(Z11 Y3 (((((Z3 Y3).2).length:Int) - 0).toNat + 1) 0 ([]:List (List Int)))
def Z6 (Y3:Gm):(List (List Int)):=(Z5m Y3)
theorem Z6q (m:Gm) (ok:OkE m.Pq.length m.Tr):Z6 m=hgL m.Pq.length m.Tr:=by
  unfold Z6 Z5m
  refine (X40 (a:=(Z3 m).2) (p:=fun e => decide ((idxP m.Tr e.e0 e.e1).length=2)) (f:=fun e => [e.e0,e.e1] ++ (idxP m.Tr e.e0 e.e1).map fun i => thd (m.Tr.getD i.toNat default) e.e0 e.e1) (lo:=Z11 m) (fun k i r h0 hi => ?_) (fun k i r hi => ?_)).trans ?_
  · have q:=Z8P m ok h0 hi
    have hm:=ZeA m ok h0 hi
    obtain ⟨g1,g2⟩:=Zhv m ok hm
    rw [Z11,decide_eq_true hi,cond_true,g1,cond_true,g2]
    unfold Z3O Z3P
    rw [g2]
    generalize (Z3 m).2.getD i.toNat default=e at *
    by_cases h2:(idxP m.Tr e.e0 e.e1).length=2
    · rw [decide_eq_true h2,show (((idxP m.Tr e.e0 e.e1).length:Int) == 2)=true from by rw [beq_iff_eq]; omega,cond_true,cond_true]
      have hthd:∀ k:Nat,k < 2→Z61 (m.Tr.getD ((idxP m.Tr e.e0 e.e1).getD k default).toNat default) e=thd (m.Tr.getD ((idxP m.Tr e.e0 e.e1).getD k default).toNat default) e.e0 e.e1:=by
        intro k hk
        obtain ⟨a1,a2,a3⟩:=X4h (ts:=m.Tr) (a:=e.e0) (b:=e.e1) (k:=k) (by omega)
        generalize (idxP m.Tr e.e0 e.e1).getD k default=i' at *
        have q2:=ok.tris.at a1 a2
        generalize m.Tr.getD i'.toNat default=t at *
        have h64:=ok.1
        unfold Z61 Z5W thd
        rw [Xb (n:=t.getD 0 default + t.getD 1 default) (by omega) (by omega),Xb (n:=t.getD 0 default + t.getD 1 default + t.getD 2 default) (by omega) (by omega),Xb (n:=t.getD 0 default + t.getD 1 default + t.getD 2 default - e.e0) (by omega) (by omega),Xb (n:=t.getD 0 default + t.getD 1 default + t.getD 2 default - e.e0 - e.e1) (by omega) (by omega)]
      rw [hthd 0 (by omega),hthd 1 (by omega)]
      generalize idxP m.Tr e.e0 e.e1=l at *
      match l,h2 with
      | [a,b],_ => rfl
    · rw [decide_eq_false h2,show (((idxP m.Tr e.e0 e.e1).length:Int) == 2)=false from by rw [beq_eq_false_iff_ne]; omega,cond_false,cond_false]
  · rw [Z11,decide_eq_false (by omega),cond_false]
  · rw [ZbQ m ok]; rfl
theorem ZhG (m:Gm) (ok:OkE m.Pq.length m.Tr) {i:Int} (h0:0≤i) (hi:i < ((Z6 m).length:Int)):((Z6 m).getD i.toNat default).length=4∧∀ x∈(Z6 m).getD i.toNat default,0≤x∧x < (m.Pq.length:Int):=by
  refine X6g ok ?_
  rw [← Z6q m ok,List.getD_eq_getElem?_getD,List.getElem?_eq_getElem (by omega)]; exact List.getElem_mem _
theorem Z7d {m:Gm} (ok:OkE m.Pq.length m.Tr) {i:Int} (h0:0≤i) (hi:decide (i < ((Z6 m).length:Int))=true):((Z6 m).getD i.toNat default).length=4∧∀ x∈(Z6 m).getD i.toNat default,0≤x∧x < (m.Pq.length:Int):=ZhG m ok h0 (odt hi)
theorem Ziu {m:Gm} (ok:OkE m.Pq.length m.Tr) {i:Int} (h0:0≤i) (hi:decide (i < ((Z6 m).length:Int))=true):((Z6 m).getD i.toNat default).length≤1073741824:=by have:=(Z7d ok h0 hi).1; omega
theorem Zbj (m:Gm) (ok:OkE m.Pq.length m.Tr):(Z6 m).length≤4096:=by rw [Z6q m ok]; exact X6f ok
theorem Zcc (Y3:Gm) (hp0:Y3.Pq.length≤1073741824) (hp1:Y3.Tr.length≤1073741824) (hp2:∀ t∈Y3.Tr,t.length≤1073741824) (hp3:OkE Y3.Pq.length Y3.Tr)  : Fn prog 115 [.agg [.sl (Y3.Pq.map Gv.c), .sl (Y3.Tr.map (cL (cI .i64)))]] (.own 0) [.nest 49 ((Z6 Y3).map fun l => l.map (cI .i64)) false]:=by
 refine fnS E0Ok Z4 (c:=X0 f115) [] (.own 0) [.nest 49 ((Z5m Y3).map fun l => l.map (cI .i64)) false] func115 (sF (Zco Y3 hp0 hp1 hp2 hp3) <| sZ Gedge.cells ((Z3 Y3).2) <| sL (mR false [0,6,5,1,1,5,37]) 4 (Xj (st2:=⟨.agg [.sl (Y3.Pq.map Gv.c), .sl (Y3.Tr.map (cL (cI .i64)))] :: .ptr 0 0 0 :: .nils :: .own 1 :: .mp 2 :: .own 3 :: an 5 (.agg [.sl (Y3.Pq.map Gv.c), .sl (Y3.Tr.map (cL (cI .i64)))] :: .any :: .mp 2 :: .own 3 :: .own 3 :: .i .i64 (((Z3 Y3).2).length:Int) :: .i .i64 0 :: an 37 []),[.box 38 [.sl (Y3.Pq.map Gv.c), .sl (Y3.Tr.map (cL (cI .i64)))], .nest 49 [] false, .mapN 2 (mapC Gedge.pr (cI .i64) ((Z3 Y3).1)) none, .vec 167 2 (((Z3 Y3).2).map Gedge.cells) false]⟩) (X1 (Z7y Y3) (x:=(Z5m Y3)) (ZeB Y3 hp0 hp1 hp2 hp3 (((((Z3 Y3).2).length:Int) - 0).toNat + 1) 0 ([]:List (List Int)) (show 0≤0 from (by omega)) (show (([]:List (List Int)).length:Int)≤0 from (by simp)) (Nat.lt_succ_self _)) rfl) (by simp [Z7z,cL,cI])) <| sK [1] sN) rfl (by kernel_rfl) (by kernel_rfl) rfl ?_ ?_
 · rfl
 · simp [Z6]
def Z6r (Y3:Gm) (YL:(List Int)):Gv:=(Z2d (Z16 (Y3.Pq.getD (YL.getD 2 default).toNat default) (Y3.Pq.getD (YL.getD 3 default).toNat default)) (Z16 (Y3.Pq.getD (YL.getD 0 default).toNat default) (Y3.Pq.getD (YL.getD 1 default).toNat default)))
def Zy (Y3:Gm) (YL:(List Int)):Gv:=(Z6r Y3 YL)
theorem ZdA (Y3:Gm) (YL:(List Int)) (hp0:Y3.Pq.length≤1073741824) (hp1:Y3.Tr.length≤1073741824) (hp2:∀ t∈Y3.Tr,t.length≤1073741824) (hp3:YL.length≤1073741824) (hp4:YL.length=4∧∀ x∈YL,0≤x∧x < (Y3.Pq.length:Int))  : Fn prog 116 [.agg [.sl (Y3.Pq.map Gv.c), .sl (Y3.Tr.map (cL (cI .i64)))], .sl (YL.map (cI .i64))] (.agg [.f .f32 ((Zy Y3 YL).X), .f .f32 ((Zy Y3 YL).Y), .f .f32 ((Zy Y3 YL).Z)]) []:=by
 have y0:(0:Int)≤2:=(by omega)
 have y1:2 < (YL.length:Int):=(by omega)
 have y2:(0:Int)≤(YL.getD 2 default):=(by have q:=Okh.at hp4; omega)
 have y3:(YL.getD 2 default) < (Y3.Pq.length:Int):=(by have q:=Okh.at hp4; omega)
 have y4:(0:Int)≤3:=(by omega)
 have y5:3 < (YL.length:Int):=(by omega)
 have y6:(0:Int)≤(YL.getD 3 default):=(by have q:=Okh.at hp4; omega)
 have y7:(YL.getD 3 default) < (Y3.Pq.length:Int):=(by have q:=Okh.at hp4; omega)
 have y8:(0:Int)≤0:=(by omega)
 have y9:0 < (YL.length:Int):=(by omega)
 have y10:(0:Int)≤(YL.getD 0 default):=(by have q:=Okh.at hp4; omega)
 have y11:(YL.getD 0 default) < (Y3.Pq.length:Int):=(by have q:=Okh.at hp4; omega)
 have y12:(0:Int)≤1:=(by omega)
 have y13:1 < (YL.length:Int):=(by omega)
 have y14:(0:Int)≤(YL.getD 1 default):=(by have q:=Okh.at hp4; omega)
 have y15:(YL.getD 1 default) < (Y3.Pq.length:Int):=(by have q:=Okh.at hp4; omega)
 refine fnS E0Ok Z4 (c:=X0 f116) [] (.agg [.f .f32 ((Z6r Y3 YL).X), .f .f32 ((Z6r Y3 YL).Y), .f .f32 ((Z6r Y3 YL).Z)]) [] func116 (sK [25,25] <| sG (cI .i64) YL 2 y0 y1 <| sG Gv.c Y3.Pq (YL.getD 2 default) y2 y3 <| sG (cI .i64) YL 3 y4 y5 <| sG Gv.c Y3.Pq (YL.getD 3 default) y6 y7 <| sF (Z5a (Y3.Pq.getD (YL.getD 2 default).toNat default) (Y3.Pq.getD (YL.getD 3 default).toNat default)) <| sG (cI .i64) YL 0 y8 y9 <| sG Gv.c Y3.Pq (YL.getD 0 default) y10 y11 <| sG (cI .i64) YL 1 y12 y13 <| sG Gv.c Y3.Pq (YL.getD 1 default) y14 y15 <| sF (Z5a (Y3.Pq.getD (YL.getD 0 default).toNat default) (Y3.Pq.getD (YL.getD 1 default).toNat default)) <| sF (Z4y (Z16 (Y3.Pq.getD (YL.getD 2 default).toNat default) (Y3.Pq.getD (YL.getD 3 default).toNat default)) (Z16 (Y3.Pq.getD (YL.getD 0 default).toNat default) (Y3.Pq.getD (YL.getD 1 default).toNat default))) <| sK [] sN) rfl (by kernel_rfl) (by kernel_rfl) rfl ?_ ?_
 · rfl
 · rfl
end Go.Ab
