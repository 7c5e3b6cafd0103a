/- The functions of this seat as plain Lean, and that the program's are these. Printed by a program of the prover's own. -/
import Derived.Test.YtiddhiepmakopaaB2
set_option linter.unusedVariables false
set_option linter.unusedSimpArgs false
set_option maxRecDepth 100000
namespace Go.Ab
open Go.RowKit Go.Proofs.Try
theorem Z5q (a:Int) (p:Nat):(Zm a p).1.Pl.length≤18:=by
  unfold Zm Z1b
  have h:=Z6R a p
  cases Z1F a 0 1<;>cases Z1s p<;>cases (a == 0)<;>simp [h]
theorem Z5r (a:Int) (p:Nat):(Zm a p).1.Tr.length≤32:=by
  unfold Zm Z1b
  rw [Z5g]
  have h:Z2C.flatten.length≤32:=by decide
  cases Z1F a 0 1<;>cases Z1s p<;>cases (a == 0)<;>first | exact h | exact Nat.le_of_ble_eq_true rfl
theorem Z5h (a:Int) (p:Nat):∀ t∈(Zm a p).1.Tr,t.length≤3:=by
  unfold Zm Z1b
  rw [Z5g]
  have h:∀ t∈Z2C.flatten,t.length≤3:=by decide
  cases Z1F a 0 1<;>cases Z1s p<;>cases (a == 0)<;>first | exact h | exact Z6h | (intro t ht;cases ht)
theorem Z5K (Yv:Int) (Yw:Nat)   : Fn prog 26 [.i .i64 Yv, .f .f32 Yw] (.tup [.agg [.own 0, .own 1], .b ((Zm Yv Yw).2)]) [.vec 62 3 (((Zm Yv Yw).1.Pl).map Gv.c) false, .nest 79 (((Zm Yv Yw).1.Tr).map fun l=>l.map (cI .i64)) false]:=by
 have p {a C} (s:Scr a C):=sF (Z6d Yv 0 1)<|s
 cases h0:(Z1F Yv 0 1) with
 | true =>
  have q {a C} (s:Scr a C):=p (sB' h0<|sB' h0<|sF (Z5P Yw)<|sB' h0<|sB' h0<|s)
  clear p
  cases h1:(Z1s Yw) with
  | true =>
   refine fnS E0Ok Z5 (c:=X0 f26) [] (.tup [.agg [.own 0, .own 1], .b true]) [.vec 62 3 (((Z1b Yv Yw).Pl).map Gv.c) false, .nest 79 (((Z1b Yv Yw).Tr).map fun l=>l.map (cI .i64)) false] func26 (q (sB' h1<|sF (Z5S Yv Yw)<|sK [1,2] sN)) rfl (by kernel_rfl) (by kernel_rfl) rfl ?_ ?_
   · simp only [Zm,h0,h1,cond_true]
   · simp [Zm,h0,h1]
  | false =>
   refine fnS E0Ok Z5 (c:=X0 f26) [(.row 0 0, .vec 62 3 [] false),(.row 0 1, .nest 79 [] false)] (.tup [.agg [.own 0, .own 1], .b false]) [.vec 62 3 [] false, .nest 79 [] false] func26 (q (sB' h1<|sK [1,2] sN)) rfl (by kernel_rfl) (by kernel_rfl) rfl ?_ ?_
   · simp only [Zm,h0,h1,cond_true,cond_false]
   · simp [Zm,h0,h1,Gv.c,cL,cI]
 | false =>
  refine fnS E0Ok Z5 (c:=X0 f26) [(.row 0 0, .vec 62 3 [] false),(.row 0 1, .nest 79 [] false)] (.tup [.agg [.own 0, .own 1], .b false]) [.vec 62 3 [] false, .nest 79 [] false] func26 (p (sB' h0<|sB' h0<|sB' h0<|sB' h0<|sB (show true=true from rfl)<|sK [1,2] sN)) rfl (by kernel_rfl) (by kernel_rfl) rfl ?_ ?_
  · simp only [Zm,h0,cond_false]
  · simp [Zm,h0,Gv.c,cL,cI]
def Zf (n_0:Int) (YP:Int) (YG:Int):Bool:=(cond (decide (n_0 ≥ YP))
  (decide (n_0≤YG))
  false)
theorem Z51 (n_0:Int) (YP:Int) (YG:Int)   : Fn prog 75 [.i .i64 n_0, .i .i64 YP, .i .i64 YG] (.b (Zf n_0 YP YG)) []:=by
 cases h0:(decide (n_0 ≥ YP)) with
 | true =>
  have gh0:=odt h0
  refine fnS E0Ok Z5 (c:=X0 f75) [] (.b (decide (n_0≤YG))) [] func75 (sB h0<|sB h0<|sB h0<|sB h0<|sK [] sN) rfl (by kernel_rfl) (by kernel_rfl) rfl ?_ ?_
  · simp only [Zf,h0,cond_true]
  · rfl
 | false =>
  have gh0:=odf h0
  refine fnS E0Ok Z5 (c:=X0 f75) [] (.b false) [] func75 (sB h0<|sB h0<|sB h0<|sB h0<|sK [] sN) rfl (by kernel_rfl) (by kernel_rfl) rfl ?_ ?_
  · simp only [Zf,h0,cond_false]
  · rfl
def Z3x (Ys:Nat):Bool:=(fcmp .eql .f32 (fop .sub .f32 Ys Ys) 0)
theorem Z5L (Ys:Nat)   : Fn prog 35 [.f .f32 Ys] (.b (Z3x Ys)) []:=by
 refine fnS E0Ok Z5 (c:=X0 f35) [] (.b (fcmp .eql .f32 (fop .sub .f32 Ys Ys) 0)) [] func35 (sK [] sN) rfl (by kernel_rfl) (by kernel_rfl) rfl ?_ ?_
 · rfl
 · rfl
def Zj (Ys:Nat):Bool:=(cond (Z3x Ys)
  (fcmp .gtr .f32 Ys 0)
  false)
theorem Z69 (Ys:Nat)   : Fn prog 36 [.f .f32 Ys] (.b (Zj Ys)) []:=by
 have p {a C} (s:Scr a C):=sF (Z5L Ys)<|s
 cases h0:(Z3x Ys) with
 | true =>
  refine fnS E0Ok Z5 (c:=X0 f36) [] (.b (fcmp .gtr .f32 Ys 0)) [] func36 (p (sB h0<|sB h0<|sB h0<|sK [] sN)) rfl (by kernel_rfl) (by kernel_rfl) rfl ?_ ?_
  · simp only [Zj,h0,cond_true]
  · rfl
 | false =>
  refine fnS E0Ok Z5 (c:=X0 f36) [] (.b false) [] func36 (p (sB h0<|sB h0<|sB h0<|sK [] sN)) rfl (by kernel_rfl) (by kernel_rfl) rfl ?_ ?_
  · simp only [Zj,h0,cond_false]
  · rfl
def ZW (Yd:(List Int)):Nat→Int→(List (List Int))→(List (List Int))
  | 0,_,_=>default
  | k + 1,Y5,Yh=>(cond (decide ((Y5 + 2) < (Yd.length:Int)))
    (ZW Yd k (Y5 + 3) (Yh ++ [[(Yd.getD Y5.toNat default),(Yd.getD (Y5 + 1).toNat default),(Yd.getD (Y5 + 2).toNat default)]]))
    Yh)
def Z2l (Yd:(List Int)) (r:(List (List Int))):Ex × St:=((.exit 0),⟨.any :: .any :: .nils :: .own 0 :: an 28 [],[.nest 79 (r.map fun l=>l.map (cI .i64)) false]⟩)
def Z2m (Yd:(List Int)) (Y5:Int) (Yh:(List (List Int))):St:=⟨.sl (Yd.map (cI .i64)) :: .any :: .nils :: .own 0 :: .i .i64 Y5 :: an 27 [],[.nest 79 (Yh.map fun l=>l.map (cI .i64)) false]⟩
theorem Z4v (Yd:(List Int)) (hp0:Yd.length≤1073741824) (hp1:Yd.length≤100000):∀ (k:Nat) (Y5:Int) (Yh:(List (List Int))) (Z2L:0≤Y5) (Z2M:Y5≤(Yd.length:Int) + 3) (Z2N:(Yh.length:Int)≤Y5) (hk:((Yd.length:Int) - Y5).toNat < k),Lp prog 0 (sub (X0 f76) [1,1,0,1,0,0]) (Z2m Yd Y5 Yh) (Z2l Yd (ZW Yd k Y5 Yh)).1 (Z2l Yd (ZW Yd k Y5 Yh)).2:=by
 intro k
 induction k with
 | zero=>intro Y5 Yh Z2L Z2M Z2N hk;exact absurd hk (Nat.not_lt_zero _)
 | succ k ih =>
  intro Y5 Yh Z2L Z2M Z2N hk
  have YE:(-9223372036854775808:Int)≤(Y5 + 2):=(by omega)
  have YC:(Y5 + 2)≤(9223372036854775807:Int):=(by omega)
  have p {a C} (s:Scr a C):=sI (Y5 + 2) YE YC<|sZ (cI .i64) Yd<|s
  cases Yj:(decide ((Y5 + 2) < (Yd.length:Int))) with
  | true =>
   have Yt:=odt Yj
   have YI:(0:Int)≤Y5:=by clear p;exact (by assumption)
   have YL:Y5 < (Yd.length:Int):=by clear p;exact (by omega)
   have YO:(-9223372036854775808:Int)≤(Y5 + 1):=by clear p;exact (by omega)
   have YS:(Y5 + 1)≤(9223372036854775807:Int):=by clear p;exact (by omega)
   have YY:(0:Int)≤(Y5 + 1):=by clear p;exact (by omega)
   have y_7:(Y5 + 1) < (Yd.length:Int):=by clear p;exact (by omega)
   have y_8:(0:Int)≤(Y5 + 2):=by clear p;exact (by omega)
   have y_9:(Y5 + 2) < (Yd.length:Int):=by clear p;exact (by assumption)
   have YW:Yh.length + [[(Yd.getD Y5.toNat default),(Yd.getD (Y5 + 1).toNat default),(Yd.getD (Y5 + 2).toNat default)]].length≤1073741824:=by clear p;exact (by (simp only [List.length_append,List.length_cons,List.length_nil];omega))
   have YX:(-9223372036854775808:Int)≤(Y5 + 3):=by clear p;exact (by omega)
   have YZ:(Y5 + 3)≤(9223372036854775807:Int):=by clear p;exact (by omega)
   have e:ZW Yd (k + 1) Y5 Yh=(ZW Yd k (Y5 + 3) (Yh ++ [[(Yd.getD Y5.toNat default),(Yd.getD (Y5 + 1).toNat default),(Yd.getD (Y5 + 2).toNat default)]])):=by simp only [ZW,Yj,cond_true]
   rw [e]
   exact XZ E0Ok Z5 [] (mR false [0,1,1,3,27]) [0] (⟨.sl (Yd.map (cI .i64)) :: .any :: .nils :: .own 0 :: .i .i64 (Y5 + 3) :: an 27 [],[.nest 79 ((Yh.map fun l=>l.map (cI .i64)) ++ [([[.i .i64 (Yd.getD Y5.toNat default)],[.i .i64 (Yd.getD (Y5 + 1).toNat default)],[.i .i64 (Yd.getD (Y5 + 2).toNat default)]]:List (List AV))]) false]⟩) (p (sB Yj<|sK [17,17]<|sG (cI .i64) Yd Y5 YI YL<|sI (Y5 + 1) YO YS<|sG (cI .i64) Yd (Y5 + 1) YY y_7<|sI (Y5 + 2) YE YC<|sG (cI .i64) Yd (Y5 + 2) y_8 y_9<|sC (show (Yh.map fun l=>l.map (cI .i64)).length + [([[.i .i64 (Yd.getD Y5.toNat default)],[.i .i64 (Yd.getD (Y5 + 1).toNat default)],[.i .i64 (Yd.getD (Y5 + 2).toNat default)]]:List (List AV))].length≤1073741824 from (by simpa using YW))<|sI (Y5 + 3) YX YZ<|sN)) (by kernel_rfl) (by simp [Z2m,cL,cI]) (ih (Y5 + 3) (Yh ++ [[(Yd.getD Y5.toNat default),(Yd.getD (Y5 + 1).toNat default),(Yd.getD (Y5 + 2).toNat default)]]) (show 0≤(Y5 + 3) from (by omega)) (show (Y5 + 3)≤(Yd.length:Int) + 3 from (by omega)) (show ((Yh ++ [[(Yd.getD Y5.toNat default),(Yd.getD (Y5 + 1).toNat default),(Yd.getD (Y5 + 2).toNat default)]]).length:Int)≤(Y5 + 3) from (by simp only [List.length_append,List.length_cons,List.length_nil];omega)) (by omega))
  | false =>
   have Yt:=odf Yj
   have e:ZW Yd (k + 1) Y5 Yh=Yh:=by simp only [ZW,Yj,cond_false]
   rw [e]
   exact outR (e:=(.exit 0)) E0Ok Z5 [] (mR false [2,2,28]) [0] (p (sB Yj<|sN)) (by kernel_rfl) (by intro h;cases h)
def Z29 (Yd:(List Int)):(List (List Int)):=(ZW Yd (((Yd.length:Int) - 0).toNat + 1) 0 ([]:List (List Int)))
def Z3 (Yd:(List Int)):(List (List Int)):=(Z29 Yd)
theorem Z4S (Yd:(List Int)) (hp0:Yd.length≤1073741824) (hp1:Yd.length≤100000)  : Fn prog 76 [.sl (Yd.map (cI .i64))] (.own 0) [.nest 79 ((Z3 Yd).map fun l=>l.map (cI .i64)) false]:=by
 refine fnS E0Ok Z5 (c:=X0 f76) [] (.own 0) [.nest 79 ((Z29 Yd).map fun l=>l.map (cI .i64)) false] func76 (sL (mR false [0,1,1,3,27]) 1 (X1I (st2:=⟨.sl (Yd.map (cI .i64)) :: .any :: .nils :: .own 0 :: .i .i64 0 :: an 27 [],[.nest 79 [] false]⟩) (X7 (Z2l Yd) (x:=(Z29 Yd)) (Z4v Yd hp0 hp1 (((Yd.length:Int) - 0).toNat + 1) 0 ([]:List (List Int)) (show 0≤0 from (by omega)) (show 0≤(Yd.length:Int) + 3 from (by omega)) (show (([]:List (List Int)).length:Int)≤0 from (by simp)) (Nat.lt_succ_self _)) rfl) (by simp [Z2m,cL,cI]))<|sK [0] sN) rfl (by kernel_rfl) (by kernel_rfl) rfl ?_ ?_
 · rfl
 · simp [Z3]
def Z1O (Y7:Int) (Ye:Int):Gedge:=(⟨(if Ye < Y7 then Ye else Y7),(if Ye > Y7 then Ye else Y7)⟩:Gedge)
theorem Z3f (Y7:Int) (Ye:Int)   : Fn prog 79 [.i .i64 Y7, .i .i64 Ye] (.agg [.i .i64 ((Z1O Y7 Ye).e0), .i .i64 ((Z1O Y7 Ye).e1)]) []:=by
 refine fnS E0Ok Z5 (c:=X0 f79) [] (.agg [.i .i64 (if Ye < Y7 then Ye else Y7), .i .i64 (if Ye > Y7 then Ye else Y7)]) [] func79 (sC (show (if false=true then (if Ye > Y7 then Ye else Y7) else (if Ye < Y7 then Ye else Y7))=(if Ye < Y7 then Ye else Y7) from (by simp))<|sA (.num (if Ye < Y7 then Ye else Y7))<|sC (show (if true=true then (if Ye > Y7 then Ye else Y7) else (if Ye < Y7 then Ye else Y7))=(if Ye > Y7 then Ye else Y7) from (by simp))<|sA (.num (if Ye > Y7 then Ye else Y7))<|sK [] sN) rfl (by kernel_rfl) (by kernel_rfl) rfl ?_ ?_
 · rfl
 · rfl
theorem Z6K (a b:Int):Z1O a b=mkE a b:=by
  unfold Z1O mkE
  by_cases h:a≤b
  · rw [if_pos h,if_neg (by omega)]
    by_cases h2:b > a
    · rw [if_pos h2]
    · rw [if_neg h2,show a=b from by omega]
  · rw [if_neg h,if_pos (by omega),if_neg (by omega)]
def Z1m (Ys:Int):Bool:=(Ys != Ys)
theorem Z3W (Ys:Int)   : Fn prog 145 [.i .i64 Ys] (.b (Z1m Ys)) []:=by
 refine fnS E0Ok Z5 (c:=X0 f145) [] (.b (Ys != Ys)) [] func145 (sK [] sN) rfl (by kernel_rfl) (by kernel_rfl) rfl ?_ ?_
 · rfl
 · rfl
def ZK (Ys:Int) (YC:Int):Int:=(cond (Z1m Ys)
  (cond (Z1m YC)
    0
    (-1))
  (cond (Z1m YC)
    1
    (cond (decide (Ys < YC))
      (-1)
      (cond (decide (Ys > YC))
        1
        0))))
theorem Z4T (Ys:Int) (YC:Int)   : Fn prog 137 [.i .i64 Ys, .i .i64 YC] (.i .i64 (ZK Ys YC)) []:=by
 have p {a C} (s:Scr a C):=sF (Z3W Ys)<|sF (Z3W YC)<|s
 cases h0:(Z1m Ys) with
 | true =>
  have q {a C} (s:Scr a C):=p (sB h0<|s)
  clear p
  cases h1:(Z1m YC) with
  | true =>
   refine fnS E0Ok Z5 (c:=X0 f137) [] (.i .i64 0) [] func137 (q (sB h1<|sK [] sN)) rfl (by kernel_rfl) (by kernel_rfl) rfl ?_ ?_
   · simp only [ZK,h0,h1,cond_true]
   · rfl
  | false =>
   refine fnS E0Ok Z5 (c:=X0 f137) [] (.i .i64 (-1)) [] func137 (q (sB h1<|sK [] sN)) rfl (by kernel_rfl) (by kernel_rfl) rfl ?_ ?_
   · simp only [ZK,h0,h1,cond_true,cond_false]
   · rfl
 | false =>
  have q {a C} (s:Scr a C):=p (sB h0<|s)
  clear p
  cases h1:(Z1m YC) with
  | true =>
   refine fnS E0Ok Z5 (c:=X0 f137) [] (.i .i64 1) [] func137 (q (sB h1<|sK [] sN)) rfl (by kernel_rfl) (by kernel_rfl) rfl ?_ ?_
   · simp only [ZK,h0,h1,cond_true,cond_false]
   · rfl
  | false =>
   have p {a C} (s:Scr a C):=q (sB h1<|s)
   clear q
   cases h2:(decide (Ys < YC)) with
   | true =>
    have gh2:=odt h2
    refine fnS E0Ok Z5 (c:=X0 f137) [] (.i .i64 (-1)) [] func137 (p (sB h2<|sK [] sN)) rfl (by kernel_rfl) (by kernel_rfl) rfl ?_ ?_
    · simp only [ZK,h0,h1,h2,cond_true,cond_false]
    · rfl
   | false =>
    have gh2:=odf h2
    have q {a C} (s:Scr a C):=p (sB h2<|s)
    clear p
    cases h3:(decide (Ys > YC)) with
    | true =>
     have gh3:=odt h3
     refine fnS E0Ok Z5 (c:=X0 f137) [] (.i .i64 1) [] func137 (q (sB h3<|sK [] sN)) rfl (by kernel_rfl) (by kernel_rfl) rfl ?_ ?_
     · simp only [ZK,h0,h1,h2,h3,cond_true,cond_false]
     · rfl
    | false =>
     have gh3:=odf h3
     refine fnS E0Ok Z5 (c:=X0 f137) [] (.i .i64 0) [] func137 (q (sB h3<|sK [] sN)) rfl (by kernel_rfl) (by kernel_rfl) rfl ?_ ?_
     · simp only [ZK,h0,h1,h2,h3,cond_false]
     · rfl
def Zk (Yo:(List Int)) (Yr:(List Int)):Nat→Int→(Int) ⊕ (Unit)
  | 0,_ => .inl default
  | k + 1,Y0=>(cond (decide (Y0 < (Yo.length:Int)))
    (cond (decide (Y0 ≥ (Yr.length:Int)))
      (.inl 1)
      (cond ((ZK (Yo.getD Y0.toNat default) (Yr.getD Y0.toNat default)) != 0)
        (.inl (ZK (Yo.getD Y0.toNat default) (Yr.getD Y0.toNat default)))
        (Zk Yo Yr k (Y0 + 1))))
    (.inr ()))
def Z1j (Yo:(List Int)) (Yr:(List Int)):(Int) ⊕ (Unit)→Ex × St
  | .inl r=>(.ret,⟨an 4 (.i .i64 r :: an 31 []),[]⟩)
  | .inr r=>((.exit 0),⟨.sl (Yo.map (cI .i64)) :: .sl (Yr.map (cI .i64)) :: an 7 (.sl (Yo.map (cI .i64)) :: an 26 []),[]⟩)
def Z3a (Yo:(List Int)) (Yr:(List Int)) (Y0:Int):St:=⟨.sl (Yo.map (cI .i64)) :: .sl (Yr.map (cI .i64)) :: an 7 (.sl (Yo.map (cI .i64)) :: .i .i64 (Yo.length:Int) :: .i .i64 Y0 :: an 24 []),[]⟩
theorem Z20 (Yo:(List Int)) (Yr:(List Int)) (hp0:Yo.length≤1073741824) (hp1:Yr.length≤1073741824):∀ (k:Nat) (Y0:Int) (Z1R:0≤Y0) (hk:((Yo.length:Int) - Y0).toNat < k),Lp prog 0 (sub (X0 f123) [1,0,1,0,0]) (Z3a Yo Yr Y0) (Z1j Yo Yr (Zk Yo Yr k Y0)).1 (Z1j Yo Yr (Zk Yo Yr k Y0)).2:=by
 intro k
 induction k with
 | zero=>intro Y0 Z1R hk;exact absurd hk (Nat.not_lt_zero _)
 | succ k ih =>
  intro Y0 Z1R hk
  cases Yj:(decide (Y0 < (Yo.length:Int))) with
  | true =>
   have Yt:=odt Yj
   have YE:(0:Int)≤Y0:=(by assumption)
   have YC:Y0 < (Yo.length:Int):=(by assumption)
   have p {a C} (s:Scr a C):=sB Yj<|sG (cI .i64) Yo Y0 YE YC<|sZ (cI .i64) Yr<|s
   cases Yq:(decide (Y0 ≥ (Yr.length:Int))) with
   | true =>
    have YV:=odt Yq
    have e:Zk Yo Yr (k + 1) Y0=(.inl 1):=by simp only [Zk,Yj,Yq,cond_true]
    rw [e]
    exact outR (e := .ret) E0Ok Z5 [] (mR false [4,1,31]) [] (p (sB Yq<|sN)) (by kernel_rfl) (by intro h;cases h)
   | false =>
    have YV:=odf Yq
    have YI:Y0 < (Yr.length:Int):=by clear p;exact (by omega)
    have q {a C} (s:Scr a C):=p (sB Yq<|sG (cI .i64) Yr Y0 YE YI<|sF (Z4T (Yo.getD Y0.toNat default) (Yr.getD Y0.toNat default))<|s)
    clear p
    cases YK:((ZK (Yo.getD Y0.toNat default) (Yr.getD Y0.toNat default)) != 0) with
    | true =>
     have Y19:=bne_iff_ne.1 YK
     have e:Zk Yo Yr (k + 1) Y0=(.inl (ZK (Yo.getD Y0.toNat default) (Yr.getD Y0.toNat default))):=by simp only [Zk,Yj,Yq,YK,cond_true,cond_false]
     rw [e]
     exact outR (e := .ret) E0Ok Z5 [] (mR false [4,1,31]) [] (q (sB YK<|sN)) (by kernel_rfl) (by intro h;cases h)
    | false =>
     have Y19:=bne_eq_false_iff_eq.1 YK
     have YL:(-9223372036854775808:Int)≤(Y0 + 1):=by clear q;exact (by omega)
     have YO:(Y0 + 1)≤(9223372036854775807:Int):=by clear q;exact (by omega)
     have e:Zk Yo Yr (k + 1) Y0=(Zk Yo Yr k (Y0 + 1)):=by simp only [Zk,Yj,Yq,YK,cond_true,cond_false]
     rw [e]
     exact XM E0Ok Z5 [] (mR false [0,2,7,3,24]) [] (ih (Y0 + 1) (show 0≤(Y0 + 1) from (by omega)) (by omega)) (q (sB YK<|sI (Y0 + 1) YL YO<|sN)) (by kernel_rfl)
  | false =>
   have Yt:=odf Yj
   have e:Zk Yo Yr (k + 1) Y0=(.inr ()):=by simp only [Zk,Yj,cond_false]
   rw [e]
   exact outR (e:=(.exit 0)) E0Ok Z5 [] (mR false [0,2,7,1,26]) [] (sB Yj<|sN) (by kernel_rfl) (by intro h;cases h)
def ZZ (Yo:(List Int)) (Yr:(List Int)):(Int) ⊕ (Unit):=(Zk Yo Yr (((Yo.length:Int) - 0).toNat + 1) 0)
def ZR (Yo:(List Int)) (Yr:(List Int)):Int:=(match (ZZ Yo Yr) with
  | .inl r1=>r1
  | .inr r1=>(cond (decide ((Yo.length:Int) < (Yr.length:Int)))
    (-1)
    0))
theorem Z3r (Yo:(List Int)) (Yr:(List Int)) (hp0:Yo.length≤1073741824) (hp1:Yr.length≤1073741824)  : Fn prog 123 [.sl (Yo.map (cI .i64)), .sl (Yr.map (cI .i64))] (.i .i64 (ZR Yo Yr)) []:=by
 have p {a C} (s:Scr a C):=sZ (cI .i64) Yo<|s
 cases h0:(ZZ Yo Yr) with
 | inl r1 =>
  refine fnS E0Ok Z5 (c:=X0 f123) [] (.i .i64 r1) [] func123 (p (sL (mR false [0,2,7,3,24]) 0 (X7 (Z1j Yo Yr) (x:=(ZZ Yo Yr)) (Z20 Yo Yr hp0 hp1 (((Yo.length:Int) - 0).toNat + 1) 0 (show 0≤0 from (by omega)) (Nat.lt_succ_self _)) h0)<|sK [] sN)) rfl (by kernel_rfl) (by kernel_rfl) rfl ?_ ?_
  · simp only [ZR,h0]
  · rfl
 | inr r1 =>
  have q {a C} (s:Scr a C):=p (sL (mR false [0,2,7,3,24]) 0 (X7 (Z1j Yo Yr) (x:=(ZZ Yo Yr)) (Z20 Yo Yr hp0 hp1 (((Yo.length:Int) - 0).toNat + 1) 0 (show 0≤0 from (by omega)) (Nat.lt_succ_self _)) h0)<|sZ (cI .i64) Yo<|sZ (cI .i64) Yr<|s)
  clear p
  cases h1:(decide ((Yo.length:Int) < (Yr.length:Int))) with
  | true =>
   have gh1:=odt h1
   refine fnS E0Ok Z5 (c:=X0 f123) [] (.i .i64 (-1)) [] func123 (q (sB h1<|sK [] sN)) rfl (by kernel_rfl) (by kernel_rfl) rfl ?_ ?_
   · simp only [ZR,h0,h1,cond_true]
   · rfl
  | false =>
   have gh1:=odf h1
   refine fnS E0Ok Z5 (c:=X0 f123) [] (.i .i64 0) [] func123 (q (sB h1<|sK [] sN)) rfl (by kernel_rfl) (by kernel_rfl) rfl ?_ ?_
   · simp only [ZR,h0,h1,cond_false]
   · rfl
def Z2J (Y7:Gedge) (Ye:Gedge):Int:=(ZR ([Y7.e0,Y7.e1]) ([Ye.e0,Ye.e1]))
theorem Z3H (Y7:Gedge) (Ye:Gedge)   : Fn prog 112 [.agg [.i .i64 Y7.e0, .i .i64 Y7.e1], .agg [.i .i64 Ye.e0, .i .i64 Ye.e1]] (.i .i64 (Z2J Y7 Ye)) []:=by
 have y0:([Y7.e0,Y7.e1]).length≤1073741824:=(by simp_all<;>omega)
 have y1:([Ye.e0,Ye.e1]).length≤1073741824:=(by assumption)
 refine fnS E0Ok Z5 (c:=X0 f112) [] (.i .i64 (ZR ([Y7.e0,Y7.e1]) ([Ye.e0,Ye.e1]))) [] func112 (sK [2,2]<|sF (Z3r ([Y7.e0,Y7.e1]) ([Ye.e0,Ye.e1]) y0 y1)<|sK [] sN) rfl (by kernel_rfl) (by kernel_rfl) rfl ?_ ?_
 · rfl
 · rfl
def Z0 (Y2:Gm) (Y0:Int) (Y6:Int):Gedge:=(Z1O ((Y2.Tr.getD Y0.toNat default).getD Y6.toNat default) ((Y2.Tr.getD Y0.toNat default).getD (Int.tmod (Y6 + 1) 3).toNat default))
def Zb (Y2:Gm) (Y0:Int) (Yf:(List (Gedge × List Int))) (Yn:(List Gedge)):Nat→Int→(List (Gedge × List Int))→(List Gedge)→(List (Gedge × List Int)) × (List Gedge)
  | 0,_,_,_=>default
  | k + 1,Y6,Y4,Yl=>(cond (decide (Y6 < 3))
    (cond (mhas Y4 (Z0 Y2 Y0 Y6))
      (cond (((Y4.getD (midx Y4 (Z0 Y2 Y0 Y6)) default).2.length:Int) == 0)
        (Zb Y2 Y0 Yf Yn k (Y6 + 1) (mput Y4 (midx Y4 (Z0 Y2 Y0 Y6)) ((Y4.getD (midx Y4 (Z0 Y2 Y0 Y6)) default).2 ++ [Y0])) (Yl ++ [(Z0 Y2 Y0 Y6)]))
        (Zb Y2 Y0 Yf Yn k (Y6 + 1) (mput Y4 (midx Y4 (Z0 Y2 Y0 Y6)) ((Y4.getD (midx Y4 (Z0 Y2 Y0 Y6)) default).2 ++ [Y0])) Yl))
      (Zb Y2 Y0 Yf Yn k (Y6 + 1) (Y4 ++ [((Z0 Y2 Y0 Y6),[Y0])]) (Yl ++ [(Z0 Y2 Y0 Y6)])))
    (Y4,Yl))
def Z2a (Y2:Gm) (Y0:Int) (Yf:(List (Gedge × List Int))) (Yn:(List Gedge)) (r:(List (Gedge × List Int)) × (List Gedge)):Ex × St:=((.exit 2),⟨.agg [.sl (Y2.Pl.map Gv.c), .sl (Y2.Tr.map (cL (cI .i64)))] :: .ptr 0 0 0 :: .any :: .nils :: .mp 1 :: .own 2 :: .i .i64 Y0 :: .sl ((Y2.Tr.getD Y0.toNat default).map (cI .i64)) :: .any :: .any :: .mp 1 :: .any :: .ptr 0 0 1 :: .sl (Y2.Tr.map (cL (cI .i64))) :: .i .i64 (Y2.Tr.length:Int) :: .i .i64 Y0 :: .b (decide (Y0 < (Y2.Tr.length:Int))) :: .i .i64 Y0 :: .ref [.sl ((Y2.Tr.getD Y0.toNat default).map (cI .i64))] 0 :: .sl ((Y2.Tr.getD Y0.toNat default).map (cI .i64)) :: an 37 [],[.box 35 [.sl (Y2.Pl.map Gv.c), .sl (Y2.Tr.map (cL (cI .i64)))], .mapN 2 (mapC Gedge.pr (cI .i64) r.1) none, .vec 92 2 (r.2.map Gedge.cells) false]⟩)
def Z4c (Y2:Gm) (Y0:Int) (Yf:(List (Gedge × List Int))) (Yn:(List Gedge)) (Y6:Int) (Y4:(List (Gedge × List Int))) (Yl:(List Gedge)):St:=⟨.agg [.sl (Y2.Pl.map Gv.c), .sl (Y2.Tr.map (cL (cI .i64)))] :: .ptr 0 0 0 :: .any :: .nils :: .mp 1 :: .own 2 :: .i .i64 Y0 :: .sl ((Y2.Tr.getD Y0.toNat default).map (cI .i64)) :: .any :: .any :: .mp 1 :: .any :: .ptr 0 0 1 :: .sl (Y2.Tr.map (cL (cI .i64))) :: .i .i64 (Y2.Tr.length:Int) :: .i .i64 Y0 :: .b (decide (Y0 < (Y2.Tr.length:Int))) :: .i .i64 Y0 :: .ref [.sl ((Y2.Tr.getD Y0.toNat default).map (cI .i64))] 0 :: .sl ((Y2.Tr.getD Y0.toNat default).map (cI .i64)) :: .i .i64 Y6 :: an 36 [],[.box 35 [.sl (Y2.Pl.map Gv.c), .sl (Y2.Tr.map (cL (cI .i64)))], .mapN 2 (mapC Gedge.pr (cI .i64) Y4) none, .vec 92 2 (Yl.map Gedge.cells) false]⟩
set_option maxHeartbeats 1000000 in
theorem Z4d (Y2:Gm) (Y0:Int) (Yf:(List (Gedge × List Int))) (Yn:(List Gedge)) (hp0:Y2.Pl.length≤1073741824) (hp1:Y2.Tr.length≤1073741824) (hp2:∀ t∈Y2.Tr,t.length≤1073741824) (hp3:OkE Y2.Pl.length Y2.Tr) (Zt:0≤Y0) (Z1E:(Yn.length:Int)≤3 * Y0) (Z1n:∀ y∈Yf,(y.2.length:Int)≤3 * Y0) (Z10:(decide (Y0 < (Y2.Tr.length:Int)))=true):∀ (k:Nat) (Y6:Int) (Y4:(List (Gedge × List Int))) (Yl:(List Gedge)) (ZN:0≤Y6) (Z2u:(Yl.length:Int)≤(Yn.length:Int) + Y6) (Z2v:∀ y∈Y4,(y.2.length:Int)≤3 * Y0 + Y6) (hk:((3:Int) - Y6).toNat < k),Lp prog 0 (sub (X0 f77) [1,1,0,1,0,0,1,1,0,0,1,1,0,0]) (Z4c Y2 Y0 Yf Yn Y6 Y4 Yl) (Z2a Y2 Y0 Yf Yn (Zb Y2 Y0 Yf Yn k Y6 Y4 Yl)).1 (Z2a Y2 Y0 Yf Yn (Zb Y2 Y0 Yf Yn k Y6 Y4 Yl)).2:=by
 intro k
 induction k with
 | zero=>intro Y6 Y4 Yl ZN Z2u Z2v hk;exact absurd hk (Nat.not_lt_zero _)
 | succ k ih =>
  intro Y6 Y4 Yl ZN Z2u Z2v hk
  cases Yy:(decide (Y6 < 3)) with
  | true =>
   have YT:=odt Yy
   have Y11:(0:Int)≤Y6:=(by assumption)
   have Y12:Y6 < ((Y2.Tr.getD Y0.toNat default).length:Int):=(by ((have g5:=odt Z10;have q:=OkE.at hp3 Zt g5 ZN (odt (by assumption));omega)))
   have YU:(-9223372036854775808:Int)≤(Y6 + 1):=(by omega)
   have YQ:(Y6 + 1)≤(9223372036854775807:Int):=(by omega)
   have Y13:(0:Int)≤(Int.tmod (Y6 + 1) 3):=(by ((have g5:=odt Z10;have q:=OkE.at hp3 Zt g5 ZN (odt (by assumption));omega)))
   have Y18:(Int.tmod (Y6 + 1) 3) < ((Y2.Tr.getD Y0.toNat default).length:Int):=(by ((have g5:=odt Z10;have q:=OkE.at hp3 Zt g5 ZN (odt (by assumption));omega)))
   have p {a C} (s:Scr a C):=sB Yy<|sK [12,12]<|sG (cI .i64) (Y2.Tr.getD Y0.toNat default) Y6 Y11 Y12<|sI (Y6 + 1) YU YQ<|sC (show (3:Int)≠0 from (by decide))<|sQ (Int.tmod (Y6 + 1) 3)<|sG (cI .i64) (Y2.Tr.getD Y0.toNat default) (Int.tmod (Y6 + 1) 3) Y13 Y18<|sF (Z3f ((Y2.Tr.getD Y0.toNat default).getD Y6.toNat default) ((Y2.Tr.getD Y0.toNat default).getD (Int.tmod (Y6 + 1) 3).toNat default))<|s
   cases YJ:(mhas Y4 (Z0 Y2 Y0 Y6)) with
   | true =>
    have m__16:=X3m YJ
    have q {a C} (s:Scr a C):=p (sA (.keep [midx Y4 (Z0 Y2 Y0 Y6)])<|sC (X4a (ck:=Gedge.pr) (cv:=(cI .i64)) YJ)<|sM (X7t (ck:=Gedge.pr) (cv:=(cI .i64)) (l:=Y4) (j:=(midx Y4 (Z0 Y2 Y0 Y6))))<|s)
    clear p
    cases Y17:(((Y4.getD (midx Y4 (Z0 Y2 Y0 Y6)) default).2.length:Int) == 0) with
    | true =>
     have gh__2:=eq_of_beq Y17
     have Y10:Yl.length + ([(Z0 Y2 Y0 Y6)]).length≤1073741824:=by clear q;exact (by ((have g5:=odt Z10;have q:=OkE.at hp3 Zt g5 ZN (odt (by assumption));(simp only [List.length_append,List.length_cons,List.length_nil];omega))))
     have Y16:(midx Y4 (Z0 Y2 Y0 Y6)) < Y4.length:=by clear q;exact (by assumption)
     have Y1a:((Y4.getD (midx Y4 (Z0 Y2 Y0 Y6)) default).2).length + ([Y0]).length≤1073741824:=by clear q;exact (by ((have g5:=odt Z10;have q:=OkE.at hp3 Zt g5 ZN (odt (by assumption));(simp only [List.length_append,List.length_cons,List.length_nil];omega))))
     have e:Zb Y2 Y0 Yf Yn (k + 1) Y6 Y4 Yl=(Zb Y2 Y0 Yf Yn k (Y6 + 1) (mput Y4 (midx Y4 (Z0 Y2 Y0 Y6)) ((Y4.getD (midx Y4 (Z0 Y2 Y0 Y6)) default).2 ++ [Y0])) (Yl ++ [(Z0 Y2 Y0 Y6)])):=by simp only [Zb,Yy,YJ,Y17,cond_true]
     rw [e]
     exact XZ E0Ok Z5 [] (mR false [0,2,1,5,2,1,1,9,36]) [0,1,2] (⟨.agg [.sl (Y2.Pl.map Gv.c), .sl (Y2.Tr.map (cL (cI .i64)))] :: .ptr 0 0 0 :: .any :: .nils :: .mp 1 :: .own 2 :: .i .i64 Y0 :: .sl ((Y2.Tr.getD Y0.toNat default).map (cI .i64)) :: .any :: .any :: .mp 1 :: .any :: .ptr 0 0 1 :: .sl (Y2.Tr.map (cL (cI .i64))) :: .i .i64 (Y2.Tr.length:Int) :: .i .i64 Y0 :: .b (decide (Y0 < (Y2.Tr.length:Int))) :: .i .i64 Y0 :: .ref [.sl ((Y2.Tr.getD Y0.toNat default).map (cI .i64))] 0 :: .sl ((Y2.Tr.getD Y0.toNat default).map (cI .i64)) :: .i .i64 (Y6 + 1) :: an 36 [],[.box 35 [.sl (Y2.Pl.map Gv.c), .sl (Y2.Tr.map (cL (cI .i64)))], .mapN 2 (((mapC Gedge.pr (cI .i64) Y4).set (midx Y4 (Z0 Y2 Y0 Y6)) (((mapC Gedge.pr (cI .i64) Y4).getD (midx Y4 (Z0 Y2 Y0 Y6)) default).1,[])).set (midx Y4 (Z0 Y2 Y0 Y6)) ((((mapC Gedge.pr (cI .i64) Y4).set (midx Y4 (Z0 Y2 Y0 Y6)) (((mapC Gedge.pr (cI .i64) Y4).getD (midx Y4 (Z0 Y2 Y0 Y6)) default).1,[])).getD (midx Y4 (Z0 Y2 Y0 Y6)) default).1,(((mapC Gedge.pr (cI .i64) Y4).getD (midx Y4 (Z0 Y2 Y0 Y6)) default).2 ++ ([Y0].map (cI .i64))))) none, .vec 92 2 ((Yl.map Gedge.cells) ++ ([[.i .i64 ((Z0 Y2 Y0 Y6).e0), .i .i64 ((Z0 Y2 Y0 Y6).e1)]]:List (List AV))) false]⟩) (q (sB Y17<|sC (show (Yl.map Gedge.cells).length + ([[.i .i64 ((Z0 Y2 Y0 Y6).e0), .i .i64 ((Z0 Y2 Y0 Y6).e1)]]:List (List AV)).length≤1073741824 from (by simpa using Y10))<|sA (.keep [midx Y4 (Z0 Y2 Y0 Y6)])<|sC (X4a (ck:=Gedge.pr) (cv:=(cI .i64)) YJ)<|sC (show (midx Y4 (Z0 Y2 Y0 Y6)) < (mapC Gedge.pr (cI .i64) Y4).length from (by simpa using Y16))<|sC (show (((mapC Gedge.pr (cI .i64) Y4).getD (midx Y4 (Z0 Y2 Y0 Y6)) default).2).length + ([[.i .i64 Y0]]:List (List AV)).length≤1073741824 from (by simpa using Y1a))<|sA (.keep [(midx Y4 (Z0 Y2 Y0 Y6))])<|sC (show ((midx Y4 (Z0 Y2 Y0 Y6)):Int)=(((midx Y4 (Z0 Y2 Y0 Y6)):Nat):Int) from rfl)<|sC (show (midx Y4 (Z0 Y2 Y0 Y6)) < ((mapC Gedge.pr (cI .i64) Y4).set (midx Y4 (Z0 Y2 Y0 Y6)) (((mapC Gedge.pr (cI .i64) Y4).getD (midx Y4 (Z0 Y2 Y0 Y6)) default).1,[])).length from (by simpa using Y16))<|sC (show ∀ i,some (midx Y4 (Z0 Y2 Y0 Y6))=some i→i=(midx Y4 (Z0 Y2 Y0 Y6)) from (fun i h=>by cases h;rfl))<|sI (Y6 + 1) YU YQ<|sN)) (by kernel_rfl) (show _=⟨.agg [.sl (Y2.Pl.map Gv.c), .sl (Y2.Tr.map (cL (cI .i64)))] :: .ptr 0 0 0 :: .any :: .nils :: .mp 1 :: .own 2 :: .i .i64 Y0 :: .sl ((Y2.Tr.getD Y0.toNat default).map (cI .i64)) :: .any :: .any :: .mp 1 :: .any :: .ptr 0 0 1 :: .sl (Y2.Tr.map (cL (cI .i64))) :: .i .i64 (Y2.Tr.length:Int) :: .i .i64 Y0 :: .b (decide (Y0 < (Y2.Tr.length:Int))) :: .i .i64 Y0 :: .ref [.sl ((Y2.Tr.getD Y0.toNat default).map (cI .i64))] 0 :: .sl ((Y2.Tr.getD Y0.toNat default).map (cI .i64)) :: .i .i64 (Y6 + 1) :: an 36 [],[.box 35 [.sl (Y2.Pl.map Gv.c), .sl (Y2.Tr.map (cL (cI .i64)))], .mapN 2 (mapC Gedge.pr (cI .i64) (mput Y4 (midx Y4 (Z0 Y2 Y0 Y6)) ((Y4.getD (midx Y4 (Z0 Y2 Y0 Y6)) default).2 ++ [Y0]))) none, .vec 92 2 ((Yl ++ [(Z0 Y2 Y0 Y6)]).map Gedge.cells) false]⟩ from (by rw [X5H (X3m YJ)];simp [List.map_set,Gedge.cells])) (ih (Y6 + 1) (mput Y4 (midx Y4 (Z0 Y2 Y0 Y6)) ((Y4.getD (midx Y4 (Z0 Y2 Y0 Y6)) default).2 ++ [Y0])) (Yl ++ [(Z0 Y2 Y0 Y6)]) (show 0≤(Y6 + 1) from (by omega)) (show ((Yl ++ [(Z0 Y2 Y0 Y6)]).length:Int)≤(Yn.length:Int) + (Y6 + 1) from (by simp only [List.length_append,List.length_cons,List.length_nil];omega)) (show ∀ y∈(mput Y4 (midx Y4 (Z0 Y2 Y0 Y6)) ((Y4.getD (midx Y4 (Z0 Y2 Y0 Y6)) default).2 ++ [Y0])),(y.2.length:Int)≤3 * Y0 + (Y6 + 1) from (by exact X2Q (by assumption) (by omega) (by omega))) (by omega))
    | false =>
     have gh__2:=ne_of_beq_false Y17
     have Y10:(midx Y4 (Z0 Y2 Y0 Y6)) < Y4.length:=by clear q;exact (by assumption)
     have Y16:((Y4.getD (midx Y4 (Z0 Y2 Y0 Y6)) default).2).length + ([Y0]).length≤1073741824:=by clear q;exact (by ((have g5:=odt Z10;have q:=OkE.at hp3 Zt g5 ZN (odt (by assumption));(have q3:=X5I (N:=3 * Y0 + Y6) (by omega) (by assumption) (midx Y4 (Z0 Y2 Y0 Y6));simp only [List.length_cons,List.length_nil];omega))))
     have e:Zb Y2 Y0 Yf Yn (k + 1) Y6 Y4 Yl=(Zb Y2 Y0 Yf Yn k (Y6 + 1) (mput Y4 (midx Y4 (Z0 Y2 Y0 Y6)) ((Y4.getD (midx Y4 (Z0 Y2 Y0 Y6)) default).2 ++ [Y0])) Yl):=by simp only [Zb,Yy,YJ,Y17,cond_true,cond_false]
     rw [e]
     exact XZ E0Ok Z5 [] (mR false [0,2,1,5,2,1,1,9,36]) [0,1,2] (⟨.agg [.sl (Y2.Pl.map Gv.c), .sl (Y2.Tr.map (cL (cI .i64)))] :: .ptr 0 0 0 :: .any :: .nils :: .mp 1 :: .own 2 :: .i .i64 Y0 :: .sl ((Y2.Tr.getD Y0.toNat default).map (cI .i64)) :: .any :: .any :: .mp 1 :: .any :: .ptr 0 0 1 :: .sl (Y2.Tr.map (cL (cI .i64))) :: .i .i64 (Y2.Tr.length:Int) :: .i .i64 Y0 :: .b (decide (Y0 < (Y2.Tr.length:Int))) :: .i .i64 Y0 :: .ref [.sl ((Y2.Tr.getD Y0.toNat default).map (cI .i64))] 0 :: .sl ((Y2.Tr.getD Y0.toNat default).map (cI .i64)) :: .i .i64 (Y6 + 1) :: an 36 [],[.box 35 [.sl (Y2.Pl.map Gv.c), .sl (Y2.Tr.map (cL (cI .i64)))], .mapN 2 (((mapC Gedge.pr (cI .i64) Y4).set (midx Y4 (Z0 Y2 Y0 Y6)) (((mapC Gedge.pr (cI .i64) Y4).getD (midx Y4 (Z0 Y2 Y0 Y6)) default).1,[])).set (midx Y4 (Z0 Y2 Y0 Y6)) ((((mapC Gedge.pr (cI .i64) Y4).set (midx Y4 (Z0 Y2 Y0 Y6)) (((mapC Gedge.pr (cI .i64) Y4).getD (midx Y4 (Z0 Y2 Y0 Y6)) default).1,[])).getD (midx Y4 (Z0 Y2 Y0 Y6)) default).1,(((mapC Gedge.pr (cI .i64) Y4).getD (midx Y4 (Z0 Y2 Y0 Y6)) default).2 ++ ([Y0].map (cI .i64))))) none, .vec 92 2 (Yl.map Gedge.cells) false]⟩) (q (sB Y17<|sA (.keep [midx Y4 (Z0 Y2 Y0 Y6)])<|sC (X4a (ck:=Gedge.pr) (cv:=(cI .i64)) YJ)<|sC (show (midx Y4 (Z0 Y2 Y0 Y6)) < (mapC Gedge.pr (cI .i64) Y4).length from (by simpa using Y10))<|sC (show (((mapC Gedge.pr (cI .i64) Y4).getD (midx Y4 (Z0 Y2 Y0 Y6)) default).2).length + ([[.i .i64 Y0]]:List (List AV)).length≤1073741824 from (by simpa using Y16))<|sA (.keep [(midx Y4 (Z0 Y2 Y0 Y6))])<|sC (show ((midx Y4 (Z0 Y2 Y0 Y6)):Int)=(((midx Y4 (Z0 Y2 Y0 Y6)):Nat):Int) from rfl)<|sC (show (midx Y4 (Z0 Y2 Y0 Y6)) < ((mapC Gedge.pr (cI .i64) Y4).set (midx Y4 (Z0 Y2 Y0 Y6)) (((mapC Gedge.pr (cI .i64) Y4).getD (midx Y4 (Z0 Y2 Y0 Y6)) default).1,[])).length from (by simpa using Y10))<|sC (show ∀ i,some (midx Y4 (Z0 Y2 Y0 Y6))=some i→i=(midx Y4 (Z0 Y2 Y0 Y6)) from (fun i h=>by cases h;rfl))<|sI (Y6 + 1) YU YQ<|sN)) (by kernel_rfl) (show _=⟨.agg [.sl (Y2.Pl.map Gv.c), .sl (Y2.Tr.map (cL (cI .i64)))] :: .ptr 0 0 0 :: .any :: .nils :: .mp 1 :: .own 2 :: .i .i64 Y0 :: .sl ((Y2.Tr.getD Y0.toNat default).map (cI .i64)) :: .any :: .any :: .mp 1 :: .any :: .ptr 0 0 1 :: .sl (Y2.Tr.map (cL (cI .i64))) :: .i .i64 (Y2.Tr.length:Int) :: .i .i64 Y0 :: .b (decide (Y0 < (Y2.Tr.length:Int))) :: .i .i64 Y0 :: .ref [.sl ((Y2.Tr.getD Y0.toNat default).map (cI .i64))] 0 :: .sl ((Y2.Tr.getD Y0.toNat default).map (cI .i64)) :: .i .i64 (Y6 + 1) :: an 36 [],[.box 35 [.sl (Y2.Pl.map Gv.c), .sl (Y2.Tr.map (cL (cI .i64)))], .mapN 2 (mapC Gedge.pr (cI .i64) (mput Y4 (midx Y4 (Z0 Y2 Y0 Y6)) ((Y4.getD (midx Y4 (Z0 Y2 Y0 Y6)) default).2 ++ [Y0]))) none, .vec 92 2 (Yl.map Gedge.cells) false]⟩ from (by rw [X5H (X3m YJ)];done)) (ih (Y6 + 1) (mput Y4 (midx Y4 (Z0 Y2 Y0 Y6)) ((Y4.getD (midx Y4 (Z0 Y2 Y0 Y6)) default).2 ++ [Y0])) Yl (show 0≤(Y6 + 1) from (by omega)) (show (Yl.length:Int)≤(Yn.length:Int) + (Y6 + 1) from (by omega)) (show ∀ y∈(mput Y4 (midx Y4 (Z0 Y2 Y0 Y6)) ((Y4.getD (midx Y4 (Z0 Y2 Y0 Y6)) default).2 ++ [Y0])),(y.2.length:Int)≤3 * Y0 + (Y6 + 1) from (by exact X2Q (by assumption) (by omega) (by omega))) (by omega))
   | false =>
    have Y10:Yl.length + ([(Z0 Y2 Y0 Y6)]).length≤1073741824:=by clear p;exact (by ((have g5:=odt Z10;have q:=OkE.at hp3 Zt g5 ZN (odt (by assumption));(simp only [List.length_append,List.length_cons,List.length_nil];omega))))
    have e:Zb Y2 Y0 Yf Yn (k + 1) Y6 Y4 Yl=(Zb Y2 Y0 Yf Yn k (Y6 + 1) (Y4 ++ [((Z0 Y2 Y0 Y6),[Y0])]) (Yl ++ [(Z0 Y2 Y0 Y6)])):=by simp only [Zb,Yy,YJ,cond_true,cond_false]
    rw [e]
    exact XZ E0Ok Z5 [] (mR false [0,2,1,5,2,1,1,9,36]) [0,1,2] (⟨.agg [.sl (Y2.Pl.map Gv.c), .sl (Y2.Tr.map (cL (cI .i64)))] :: .ptr 0 0 0 :: .any :: .nils :: .mp 1 :: .own 2 :: .i .i64 Y0 :: .sl ((Y2.Tr.getD Y0.toNat default).map (cI .i64)) :: .any :: .any :: .mp 1 :: .any :: .ptr 0 0 1 :: .sl (Y2.Tr.map (cL (cI .i64))) :: .i .i64 (Y2.Tr.length:Int) :: .i .i64 Y0 :: .b (decide (Y0 < (Y2.Tr.length:Int))) :: .i .i64 Y0 :: .ref [.sl ((Y2.Tr.getD Y0.toNat default).map (cI .i64))] 0 :: .sl ((Y2.Tr.getD Y0.toNat default).map (cI .i64)) :: .i .i64 (Y6 + 1) :: an 36 [],[.box 35 [.sl (Y2.Pl.map Gv.c), .sl (Y2.Tr.map (cL (cI .i64)))], .mapN 2 (((mapC Gedge.pr (cI .i64) Y4) ++ [((Gedge.pr (Z0 Y2 Y0 Y6)),[])]).set (mapC Gedge.pr (cI .i64) Y4).length ((((mapC Gedge.pr (cI .i64) Y4) ++ [((Gedge.pr (Z0 Y2 Y0 Y6)),[])]).getD (mapC Gedge.pr (cI .i64) Y4).length default).1,(([Y0]).map (cI .i64)))) none, .vec 92 2 ((Yl.map Gedge.cells) ++ ([[.i .i64 ((Z0 Y2 Y0 Y6).e0), .i .i64 ((Z0 Y2 Y0 Y6).e1)]]:List (List AV))) false]⟩) (p (sA (.keep [])<|sC (X6a (ck:=Gedge.pr) (cv:=(cI .i64)) Gedge.inj YJ)<|sM (show ((0:Nat):Int)=0 from rfl)<|sB (show (0 == 0)=true from rfl)<|sC (show (Yl.map Gedge.cells).length + ([[.i .i64 ((Z0 Y2 Y0 Y6).e0), .i .i64 ((Z0 Y2 Y0 Y6).e1)]]:List (List AV)).length≤1073741824 from (by simpa using Y10))<|sA (.keep [])<|sC (X6a (ck:=Gedge.pr) (cv:=(cI .i64)) Gedge.inj YJ)<|sC (show ([[.i .i64 Y0]]:List (List AV))≠[] from (by simp))<|sC (show ([[.i .i64 Y0]]:List (List AV)).length≤1073741824 from (by simp))<|sA (.keep [(mapC Gedge.pr (cI .i64) Y4).length])<|sC (show ((mapC Gedge.pr (cI .i64) Y4).length:Int)=(((mapC Gedge.pr (cI .i64) Y4).length:Nat):Int) from rfl)<|sC (show (mapC Gedge.pr (cI .i64) Y4).length < ((mapC Gedge.pr (cI .i64) Y4) ++ [((Gedge.pr (Z0 Y2 Y0 Y6)),[])]).length from (by simp))<|sC (show ∀ i,(none:Option Nat)=some i→i=(mapC Gedge.pr (cI .i64) Y4).length from (fun i h=>by cases h))<|sI (Y6 + 1) YU YQ<|sN)) (by kernel_rfl) (show _=⟨.agg [.sl (Y2.Pl.map Gv.c), .sl (Y2.Tr.map (cL (cI .i64)))] :: .ptr 0 0 0 :: .any :: .nils :: .mp 1 :: .own 2 :: .i .i64 Y0 :: .sl ((Y2.Tr.getD Y0.toNat default).map (cI .i64)) :: .any :: .any :: .mp 1 :: .any :: .ptr 0 0 1 :: .sl (Y2.Tr.map (cL (cI .i64))) :: .i .i64 (Y2.Tr.length:Int) :: .i .i64 Y0 :: .b (decide (Y0 < (Y2.Tr.length:Int))) :: .i .i64 Y0 :: .ref [.sl ((Y2.Tr.getD Y0.toNat default).map (cI .i64))] 0 :: .sl ((Y2.Tr.getD Y0.toNat default).map (cI .i64)) :: .i .i64 (Y6 + 1) :: an 36 [],[.box 35 [.sl (Y2.Pl.map Gv.c), .sl (Y2.Tr.map (cL (cI .i64)))], .mapN 2 (mapC Gedge.pr (cI .i64) (Y4 ++ [((Z0 Y2 Y0 Y6),[Y0])])) none, .vec 92 2 ((Yl ++ [(Z0 Y2 Y0 Y6)]).map Gedge.cells) false]⟩ from (by rw [X7u];simp [List.map_set,Gedge.cells])) (ih (Y6 + 1) (Y4 ++ [((Z0 Y2 Y0 Y6),[Y0])]) (Yl ++ [(Z0 Y2 Y0 Y6)]) (show 0≤(Y6 + 1) from (by omega)) (show ((Yl ++ [(Z0 Y2 Y0 Y6)]).length:Int)≤(Yn.length:Int) + (Y6 + 1) from (by simp only [List.length_append,List.length_cons,List.length_nil];omega)) (show ∀ y∈(Y4 ++ [((Z0 Y2 Y0 Y6),[Y0])]),(y.2.length:Int)≤3 * Y0 + (Y6 + 1) from (by exact X5J (by assumption) (by omega) (by omega))) (by omega))
  | false =>
   have YT:=odf Yy
   have e:Zb Y2 Y0 Yf Yn (k + 1) Y6 Y4 Yl=(Y4,Yl):=by simp only [Zb,Yy,cond_false]
   rw [e]
   exact outR (e:=(.exit 2)) E0Ok Z5 [] (mR false [0,2,1,5,2,1,1,8,37]) [0,1,2] (sB Yy<|sN) (by kernel_rfl) (by intro h;cases h)
def Zu (Y2:Gm) (Y0:Int) (Yf:(List (Gedge × List Int))) (Yn:(List Gedge)):(List (Gedge × List Int)) × (List Gedge):=(Zb Y2 Y0 Yf Yn (((3:Int) - 0).toNat + 1) 0 Yf Yn)
theorem Z6S (m:Gm) (i:Int) (b0:List (Gedge × List Int)) (l0:List Gedge) (h0:0≤i):∀ (k:Nat) (x:Int) (b:List (Gedge × List Int)) (l:List Gedge),0≤x→(3 - x).toNat < k→x≤3→(l.length:Int)≤3 * i + x→(∀ y∈b,(y.2.length:Int)≤3 * i + x)→((Zb m i b0 l0 k x b l).2.length:Int)≤3 * (i + 1)∧∀ y∈(Zb m i b0 l0 k x b l).1,(y.2.length:Int)≤3 * (i + 1):=by
  intro k
  induction k with
  | zero=>intro x b l _ hk;exact absurd hk (Nat.not_lt_zero _)
  | succ k ih =>
    intro x b l hx hk h3 hl hb
    rw [Zb]
    cases hc:decide (x < 3) with
    | false=>rw [cond_false];exact ⟨by simp only;omega,fun y hy=>by have:=hb y hy;omega⟩
    | true =>
      have hc':=odt hc
      rw [cond_true]
      cases mhas b (Z0 m i x) with
      | true =>
        rw [cond_true]
        cases (((b.getD (midx b (Z0 m i x)) default).2.length:Int) == 0) with
        | true=>rw [cond_true];exact ih _ _ _ (by omega) (by omega) (by omega) (by simp only [List.length_append,List.length_cons,List.length_nil];omega) (X2Q hb (by omega) (by omega))
        | false=>rw [cond_false];exact ih _ _ _ (by omega) (by omega) (by omega) (by omega) (X2Q hb (by omega) (by omega))
      | false=>rw [cond_false];exact ih _ _ _ (by omega) (by omega) (by omega) (by simp only [List.length_append,List.length_cons,List.length_nil];omega) (X5J hb (by omega) (by omega))
theorem Z6t (m:Gm) (i:Int) (b:List (Gedge × List Int)) (l:List Gedge) (h0:0≤i) (hl:(l.length:Int)≤3 * i) (hb:∀ y∈b,(y.2.length:Int)≤3 * i) :
    ((Zu m i b l).2.length:Int)≤3 * (i + 1)∧∀ y∈(Zu m i b l).1,(y.2.length:Int)≤3 * (i + 1) :=
  Z6S m i b l h0 _ 0 b l (Int.le_refl 0) (by omega) (by omega) (by omega) (fun y hy=>by have:=hb y hy;omega)
def ZA (Y2:Gm):Nat→Int→(List (Gedge × List Int))→(List Gedge)→(List (Gedge × List Int)) × (List Gedge)
  | 0,_,_,_=>default
  | k + 1,Y0,Yf,Yn=>(cond (decide (Y0 < (Y2.Tr.length:Int)))
    (ZA Y2 k (Y0 + 1) ((Zu Y2 Y0 Yf Yn).1) ((Zu Y2 Y0 Yf Yn).2))
    (Yf,Yn))
def Z2b (Y2:Gm) (r:(List (Gedge × List Int)) × (List Gedge)):Ex × St:=((.exit 0),⟨.agg [.sl (Y2.Pl.map Gv.c), .sl (Y2.Tr.map (cL (cI .i64)))] :: .ptr 0 0 0 :: .any :: .nils :: .mp 1 :: .own 2 :: an 4 (.mp 1 :: .any :: .ptr 0 0 1 :: .sl (Y2.Tr.map (cL (cI .i64))) :: an 43 []),[.box 35 [.sl (Y2.Pl.map Gv.c), .sl (Y2.Tr.map (cL (cI .i64)))], .mapN 2 (mapC Gedge.pr (cI .i64) r.1) none, .vec 92 2 (r.2.map Gedge.cells) false]⟩)
def Z2O (Y2:Gm) (Y0:Int) (Yf:(List (Gedge × List Int))) (Yn:(List Gedge)):St:=⟨.agg [.sl (Y2.Pl.map Gv.c), .sl (Y2.Tr.map (cL (cI .i64)))] :: .ptr 0 0 0 :: .any :: .nils :: .mp 1 :: .own 2 :: an 4 (.mp 1 :: .any :: .ptr 0 0 1 :: .sl (Y2.Tr.map (cL (cI .i64))) :: .i .i64 (Y2.Tr.length:Int) :: .i .i64 Y0 :: an 41 []),[.box 35 [.sl (Y2.Pl.map Gv.c), .sl (Y2.Tr.map (cL (cI .i64)))], .mapN 2 (mapC Gedge.pr (cI .i64) Yf) none, .vec 92 2 (Yn.map Gedge.cells) false]⟩
theorem Z4e (Y2:Gm) (hp0:Y2.Pl.length≤1073741824) (hp1:Y2.Tr.length≤1073741824) (hp2:∀ t∈Y2.Tr,t.length≤1073741824) (hp3:OkE Y2.Pl.length Y2.Tr):∀ (k:Nat) (Y0:Int) (Yf:(List (Gedge × List Int))) (Yn:(List Gedge)) (Zt:0≤Y0) (Z1E:(Yn.length:Int)≤3 * Y0) (Z1n:∀ y∈Yf,(y.2.length:Int)≤3 * Y0) (hk:((Y2.Tr.length:Int) - Y0).toNat < k),Lp prog 0 (sub (X0 f77) [1,1,0,1,0,0]) (Z2O Y2 Y0 Yf Yn) (Z2b Y2 (ZA Y2 k Y0 Yf Yn)).1 (Z2b Y2 (ZA Y2 k Y0 Yf Yn)).2:=by
 intro k
 induction k with
 | zero=>intro Y0 Yf Yn Zt Z1E Z1n hk;exact absurd hk (Nat.not_lt_zero _)
 | succ k ih =>
  intro Y0 Yf Yn Zt Z1E Z1n hk
  cases Yj:(decide (Y0 < (Y2.Tr.length:Int))) with
  | true =>
   have Yt:=odt Yj
   have YE:(0:Int)≤Y0:=(by assumption)
   have YC:Y0 < (Y2.Tr.length:Int):=(by assumption)
   have YI:(-9223372036854775808:Int)≤(Y0 + 1):=(by omega)
   have YL:(Y0 + 1)≤(9223372036854775807:Int):=(by omega)
   have e:ZA Y2 (k + 1) Y0 Yf Yn=(ZA Y2 k (Y0 + 1) ((Zu Y2 Y0 Yf Yn).1) ((Zu Y2 Y0 Yf Yn).2)):=by simp only [ZA,Yj,cond_true]
   rw [e]
   exact XM E0Ok Z5 [] (mR false [0,2,1,3,4,1,1,4,41]) [0,1,2] (ih (Y0 + 1) ((Zu Y2 Y0 Yf Yn).1) ((Zu Y2 Y0 Yf Yn).2) (show 0≤(Y0 + 1) from (by omega)) (show (((Zu Y2 Y0 Yf Yn).2).length:Int)≤3 * (Y0 + 1) from (by exact (Z6t _ _ _ _ Zt (by assumption) (by assumption)).1)) (show ∀ y∈((Zu Y2 Y0 Yf Yn).1),(y.2.length:Int)≤3 * (Y0 + 1) from (by exact (Z6t _ _ _ _ Zt (by assumption) (by assumption)).2)) (by omega)) (sB Yj<|sG (cL (cI .i64)) Y2.Tr Y0 YE YC<|sL (mR false [0,2,1,5,2,1,1,9,36]) 3 (X7 (Z2a Y2 Y0 Yf Yn) (x:=(Zu Y2 Y0 Yf Yn)) (Z4d Y2 Y0 Yf Yn hp0 hp1 hp2 hp3 Zt Z1E Z1n Yj (((3:Int) - 0).toNat + 1) 0 Yf Yn (show 0≤0 from (by omega)) (show (Yn.length:Int)≤(Yn.length:Int) + 0 from (by omega)) (show ∀ y∈Yf,(y.2.length:Int)≤3 * Y0 + 0 from (by intro y hy;have q:=Z1n y hy;omega)) (Nat.lt_succ_self _)) rfl)<|sI (Y0 + 1) YI YL<|sN) (by kernel_rfl)
  | false =>
   have Yt:=odf Yj
   have e:ZA Y2 (k + 1) Y0 Yf Yn=(Yf,Yn):=by simp only [ZA,Yj,cond_false]
   rw [e]
   exact outR (e:=(.exit 0)) E0Ok Z5 [] (mR false [0,2,1,3,4,1,1,2,43]) [0,1,2] (sB Yj<|sN) (by kernel_rfl) (by intro h;cases h)
def Zz (Y2:Gm):(List (Gedge × List Int)) × (List Gedge):=(ZA Y2 (((Y2.Tr.length:Int) - 0).toNat + 1) 0 ([]:(List (Gedge × List Int))) ([]:List Gedge))
theorem Z72 (m:Gm) (k:Nat) (i:Int) (b:List (Gedge × List Int)) (l:List Gedge) (h0:0≤i):ZA m (k + 1) i b l=cond (decide (i < (m.Tr.length:Int))) (ZA m k (i + 1) (stT (b,l) (m.Tr.getD i.toNat default) i).1 (stT (b,l) (m.Tr.getD i.toNat default) i).2) (b,l):=by
  have st:∀ (x:Int) (k:Nat) (b:List (Gedge × List Int)) (l:List Gedge),x < 3→Zb m i b l (k + 1) x b l=Zb m i b l (k + 1) x b l:=fun _ _ _ _ _=>rfl
  have one:∀ (b0:List (Gedge × List Int)) (l0:List Gedge) (k:Nat) (x:Int) (s:List (Gedge × List Int) × List Gedge),x < 3→Zb m i b0 l0 (k + 1) x s.1 s.2=Zb m i b0 l0 k (x + 1) (stE s (Z0 m i x) i).1 (stE s (Z0 m i x) i).2:=by
    intro b0 l0 k x s hx
    rw [Zb,decide_eq_true hx,cond_true]
    unfold stE
    cases mhas s.1 (Z0 m i x) with
    | true =>
      rw [cond_true,cond_true]
      cases (((s.1.getD (midx s.1 (Z0 m i x)) default).2.length:Int) == 0)<;>rfl
    | false=>rfl
  have tri:Zu m i b l=stT (b,l) (m.Tr.getD i.toNat default) i:=by
    unfold Zu
    show Zb m i b l 4 0 (b,l).1 (b,l).2=_
    rw [one b l 3 0 (b,l) (by omega),one b l 2 (0 + 1) _ (by omega),one b l 1 (0 + 1 + 1) _ (by omega),Zb]
    show cond (decide ((3:Int) < 3)) _ _=_
    rw [decide_eq_false (by omega),cond_false]
    unfold Z0 stT
    simp only [Z6K]
    rfl
  rw [ZA,tri]
theorem Z6u (m:Gm) (ok:OkE m.Pl.length m.Tr):ETab m.Tr m.Tr.length (Zz m):=by
  unfold Zz
  exact ETab.loop ok (Z72 m) _ 0 ([],[]) (Nat.zero_le _) (ETab.nil _) (by omega)
theorem Z6T (m:Gm) (ok:OkE m.Pl.length m.Tr):(Zz m).2.length≤4096:=by
  have h:=congrArg List.length ((Z6u m ok).sorted ok)
  rw [X5K] at h
  rw [h];exact X7y ok
end Go.Ab
namespace Go.Proofs
open Go.Shelf
def Try.laysF0n6_ren:Go.Shelf.Ren:=⟨fun | 6=>111 | 15=>122 | 14=>121 | 28=>135 | 29=>136 | 20=>127 | 21=>128 | 22=>129 | 23=>130 | 24=>131 | 25=>132 | 26=>133 | 27=>134 | 46=>140 | 47=>141 | 48=>142 | 49=>143 | 50=>144 | 57=>146 | n=>n,fun | 22=>76 | 24=>92 | 25=>121 | 3=>3 | 39=>130 | 0=>0 | 53=>141 | 55=>125 | 4=>4 | 46=>134 | 45=>133 | 50=>138 | 5=>5 | 9=>9 | 66=>145 | 70=>149 | 76=>152 | 77=>153 | n=>n,fun | n=>n⟩
theorem Try.laysF0n6:Go.Proofs.SlLaysF0.n6 Try.prog Try.laysF0n6_ren:={
  mixed:=by kernel_rfl
  f6:=⟨Try.f111.name,by decide,Try.func111.trans (congrArg some (by kernel_rfl))⟩
  f14:=⟨Try.f121.name,by decide,Try.func121.trans (congrArg some (by kernel_rfl))⟩
  f15:=Try.func122.trans (congrArg some (by kernel_rfl))
  f20:=⟨Try.f127.name,by decide,Try.func127.trans (congrArg some (by kernel_rfl))⟩
  f21:=⟨Try.f128.name,by decide,Try.func128.trans (congrArg some (by kernel_rfl))⟩
  f22:=⟨Try.f129.name,by decide,Try.func129.trans (congrArg some (by kernel_rfl))⟩
  f23:=⟨Try.f130.name,by decide,Try.func130.trans (congrArg some (by kernel_rfl))⟩
  f24:=⟨Try.f131.name,by decide,Try.func131.trans (congrArg some (by kernel_rfl))⟩
  f25:=⟨Try.f132.name,by decide,Try.func132.trans (congrArg some (by kernel_rfl))⟩
  f26:=⟨Try.f133.name,by decide,Try.func133.trans (congrArg some (by kernel_rfl))⟩
  f27:=⟨Try.f134.name,by decide,Try.func134.trans (congrArg some (by kernel_rfl))⟩
  f28:=Try.func135.trans (congrArg some (by kernel_rfl))
  f29:=Try.func136.trans (congrArg some (by kernel_rfl))
  f46:=⟨Try.f140.name,by decide,Try.func140.trans (congrArg some (by kernel_rfl))⟩
  f47:=Try.func141.trans (congrArg some (by kernel_rfl))
  f48:=Try.func142.trans (congrArg some (by kernel_rfl))
  f49:=⟨Try.f143.name,by decide,Try.func143.trans (congrArg some (by kernel_rfl))⟩
  f50:=⟨Try.f144.name,by decide,Try.func144.trans (congrArg some (by kernel_rfl))⟩
  f57:=⟨Try.f146.name,by decide,Try.func146.trans (congrArg some (by kernel_rfl))⟩
  t0:=Try.underlying0
  a0:=Try.isAgg0
  z0:=Try.sizeOf0
  v0:=Try.zeroValue0
  t3:=Try.underlying3
  a3:=Try.isAgg3
  z3:=Try.sizeOf3
  v3:=Try.zeroValue3
  t4:=Try.underlying4
  a4:=Try.isAgg4
  z4:=Try.sizeOf4
  v4:=Try.zeroValue4
  t5:=Try.underlying5
  a5:=Try.isAgg5
  z5:=Try.sizeOf5
  v5:=Try.zeroValue5
  t9:=Try.underlying9
  a9:=Try.isAgg9
  z9:=Try.sizeOf9
  v9:=Try.zeroValue9
  t22:=Try.underlying76
  a22:=Try.isAgg76
  z22:=Try.sizeOf76
  v22:=Try.zeroValue76
  t25:=Try.underlying121
  a25:=Try.isAgg121
  z25:=Try.sizeOf121
  v25:=Try.zeroValue121
  t39:=Try.underlying130
  a39:=Try.isAgg130
  z39:=Try.sizeOf130
  v39:=Try.zeroValue130
  t45:=Try.underlying133
  a45:=Try.isAgg133
  z45:=Try.sizeOf133
  v45:=Try.zeroValue133
  t46:=Try.underlying134
  a46:=Try.isAgg134
  z46:=Try.sizeOf134
  v46:=Try.zeroValue134
  t50:=Try.underlying138
  a50:=Try.isAgg138
  z50:=Try.sizeOf138
  v50:=Try.zeroValue138
  t53:=Try.underlying141
  a53:=Try.isAgg141
  z53:=Try.sizeOf141
  v53:=Try.zeroValue141
  t55:=Try.underlying125
  a55:=Try.isAgg125
  z55:=Try.sizeOf125
  v55:=Try.zeroValue125
  t66:=Try.underlying145
  a66:=Try.isAgg145
  z66:=Try.sizeOf145
  v66:=Try.zeroValue145
  t70:=Try.underlying149
  a70:=Try.isAgg149
  z70:=Try.sizeOf149
  v70:=Try.zeroValue149
  t76:=Try.underlying152
  a76:=Try.isAgg152
  z76:=Try.sizeOf152
  v76:=Try.zeroValue152
  t77:=Try.underlying153
  a77:=Try.isAgg153
  z77:=Try.sizeOf153
  v77:=Try.zeroValue153 }
end Go.Proofs
namespace Go.Ab
open Go.RowKit Go.Proofs.Try
theorem Z73 (x y:Int):ZK x y=if x < y then -1 else if x > y then 1 else 0:=by
  unfold ZK Z1m
  simp only [bne_self_eq_false,cond_false]
  by_cases h1:x < y
  · simp [h1]
  · by_cases h2:x > y<;>simp [h1,h2]
theorem Z74 (a b:Gedge):Z2J a b=cmpP a.pr b.pr:=by
  unfold Z2J ZR ZZ cmpP Gedge.pr
  show (match Zk [a.e0,a.e1] [b.e0,b.e1] 3 0 with | .inl r1=>r1 | .inr r1=>cond (decide (((2:Nat):Int) < ((2:Nat):Int))) (-1) 0)=_
  simp only [Zk,Z73,List.length_cons,List.length_nil]
  by_cases h1:a.e0 < b.e0
  · simp [h1]
  · by_cases h2:a.e0 > b.e0
    · simp [h1,h2]
    · by_cases h3:a.e1 < b.e1
      · simp [h1,h2,h3]
      · by_cases h4:a.e1 > b.e1<;>simp [h1,h2,h3,h4]
def Z2s (l:List Gedge):List Gedge:=X22 Gedge.pr l
theorem Z4k (l:List Gedge) (h:l.length≤1073741824):X8 prog 111 [.vec 92 2 (l.map Gedge.cells) false] [.own 0, .fn 112 []] (.tup []) [.vec 92 2 ((Z2s l).map Gedge.cells) false] :=
  X7A laysF0n6 isAgg92 sizeOf92 Gedge.pr Gedge.inj Gedge.cells (fun _=>rfl) 92 112 ⟨_,func111,rfl,by kernel_rfl⟩ (Z3H default default).1
    (fun a b W=>((Z3H a b).2 W #[keyV a.pr,keyV b.pr] ⟨rfl,fun j c e=>by match j,e with | 0,e=>cases e;exact Rep.agg _ _ rfl (fun i c e=>by match i,e with | 0,e=>cases e;exact .i _ _ | 1,e=>cases e;exact .i _ _) | 1,e=>cases e;exact Rep.agg _ _ rfl (fun i c e=>by match i,e with | 0,e=>cases e;exact .i _ _ | 1,e=>cases e;exact .i _ _)⟩).mono fun e w' ⟨v,μ',he,hb,_,hr⟩=>by
      cases hr;rw [Z74] at he;exact ⟨he,hb⟩) l h
def Z1t (Y2:Gm):(List (Gedge × List Int)) × (List Gedge):=((Zz Y2).1,(Z2s ((Zz Y2).2)))
theorem Z6U (m:Gm) (ok:OkE m.Pl.length m.Tr):(Z1t m).2=edgL m.Pl.length m.Tr:=(Z6u m ok).sorted ok
theorem Z4B (Y2:Gm) (hp0:Y2.Pl.length≤1073741824) (hp1:Y2.Tr.length≤1073741824) (hp2:∀ t∈Y2.Tr,t.length≤1073741824) (hp3:OkE Y2.Pl.length Y2.Tr)  : Fn prog 77 [.agg [.sl (Y2.Pl.map Gv.c), .sl (Y2.Tr.map (cL (cI .i64)))]] (.tup [.mp 0, .own 1]) [.mapN 2 (mapC Gedge.pr (cI .i64) ((Z1t Y2).1)) none, .vec 92 2 (((Z1t Y2).2).map Gedge.cells) false]:=by
 have y0:((Zz Y2).2).length≤1073741824:=(by (have q:=Z6T Y2 hp3;omega))
 refine fnS E0Ok Z5 (c:=X0 f77) [] (.tup [.mp 0, .own 1]) [.mapN 2 (mapC Gedge.pr (cI .i64) ((Zz Y2).1)) none, .vec 92 2 ((Z2s ((Zz Y2).2)).map Gedge.cells) false] func77 (sZ (cL (cI .i64)) Y2.Tr<|sL (mR false [0,2,1,3,4,1,1,4,41]) 3 (X1I (st2:=⟨.agg [.sl (Y2.Pl.map Gv.c), .sl (Y2.Tr.map (cL (cI .i64)))] :: .ptr 0 0 0 :: .any :: .nils :: .mp 1 :: .own 2 :: an 4 (.mp 1 :: .any :: .ptr 0 0 1 :: .sl (Y2.Tr.map (cL (cI .i64))) :: .i .i64 (Y2.Tr.length:Int) :: .i .i64 0 :: an 41 []),[.box 35 [.sl (Y2.Pl.map Gv.c), .sl (Y2.Tr.map (cL (cI .i64)))], .mapN 2 [] none, .vec 92 2 ([]:List (List AV)) false]⟩) (X7 (Z2b Y2) (x:=(Zz Y2)) (Z4e Y2 hp0 hp1 hp2 hp3 (((Y2.Tr.length:Int) - 0).toNat + 1) 0 ([]:(List (Gedge × List Int))) ([]:List Gedge) (show 0≤0 from (by omega)) (show (([]:List Gedge).length:Int)≤3 * 0 from (by simp;done)) (show ∀ y∈([]:(List (Gedge × List Int))),(y.2.length:Int)≤3 * 0 from (by simp;done)) (Nat.lt_succ_self _)) rfl) (by simp [Z2O,mapC,Gedge.cells]))<|sS (X8.frame (Z4k ((Zz Y2).2) y0) [2] (R:=[.box 35 [.sl (Y2.Pl.map Gv.c), .sl (Y2.Tr.map (cL (cI .i64)))], .mapN 2 (mapC Gedge.pr (cI .i64) ((Zz Y2).1)) none, .vec 92 2 (((Zz Y2).2).map Gedge.cells) false]) (args':=[.own 2, .fn 112 []]) rfl rfl rfl rfl rfl rfl)<|sK [1,2] sN) rfl (by kernel_rfl) (by kernel_rfl) rfl ?_ ?_
 · rfl
 · simp [Z1t]
def Z21 (Y7:Gv) (Ye:Gv):Gv:=(⟨(fop .add .f32 Y7.X Ye.X),(fop .add .f32 Y7.Y Ye.Y),(fop .add .f32 Y7.Z Ye.Z)⟩:Gv)
theorem Z48 (Y7:Gv) (Ye:Gv)   : Fn prog 57 [.agg [.f .f32 Y7.X, .f .f32 Y7.Y, .f .f32 Y7.Z], .agg [.f .f32 Ye.X, .f .f32 Ye.Y, .f .f32 Ye.Z]] (.agg [.f .f32 ((Z21 Y7 Ye).X), .f .f32 ((Z21 Y7 Ye).Y), .f .f32 ((Z21 Y7 Ye).Z)]) []:=by
 refine fnS E0Ok Z5 (c:=X0 f57) [] (.agg [.f .f32 (fop .add .f32 Y7.X Ye.X), .f .f32 (fop .add .f32 Y7.Y Ye.Y), .f .f32 (fop .add .f32 Y7.Z Ye.Z)]) [] func57 (sK [] sN) rfl (by kernel_rfl) (by kernel_rfl) rfl ?_ ?_
 · rfl
 · rfl
def ZJ (YD:Gv) (YH:Nat):Gv:=(⟨(fop .mul .f32 YD.X YH),(fop .mul .f32 YD.Y YH),(fop .mul .f32 YD.Z YH)⟩:Gv)
theorem Z2p (YD:Gv) (YH:Nat)   : Fn prog 58 [.agg [.f .f32 YD.X, .f .f32 YD.Y, .f .f32 YD.Z], .f .f32 YH] (.agg [.f .f32 ((ZJ YD YH).X), .f .f32 ((ZJ YD YH).Y), .f .f32 ((ZJ YD YH).Z)]) []:=by
 refine fnS E0Ok Z5 (c:=X0 f58) [] (.agg [.f .f32 (fop .mul .f32 YD.X YH), .f .f32 (fop .mul .f32 YD.Y YH), .f .f32 (fop .mul .f32 YD.Z YH)]) [] func58 (sK [] sN) rfl (by kernel_rfl) (by kernel_rfl) rfl ?_ ?_
 · rfl
 · rfl
def Z32 (Y7:Gv) (Ye:Gv):Nat:=(fop .add .f32 (fop .add .f32 (fop .mul .f32 Y7.X Ye.X) (fop .mul .f32 Y7.Y Ye.Y)) (fop .mul .f32 Y7.Z Ye.Z))
theorem Z5T (Y7:Gv) (Ye:Gv)   : Fn prog 100 [.agg [.f .f32 Y7.X, .f .f32 Y7.Y, .f .f32 Y7.Z], .agg [.f .f32 Ye.X, .f .f32 Ye.Y, .f .f32 Ye.Z]] (.f .f32 (Z32 Y7 Ye)) []:=by
 refine fnS E0Ok Z5 (c:=X0 f100) [] (.f .f32 (fop .add .f32 (fop .add .f32 (fop .mul .f32 Y7.X Ye.X) (fop .mul .f32 Y7.Y Ye.Y)) (fop .mul .f32 Y7.Z Ye.Z))) [] func100 (sK [] sN) rfl (by kernel_rfl) (by kernel_rfl) rfl ?_ ?_
 · rfl
 · rfl
def Z3b (Ys:Nat):Nat:=(fcv .f64 .f32 (Z2f (fcv .f32 .f64 Ys)))
theorem Z5s (Ys:Nat)   : Fn prog 113 [.f .f32 Ys] (.f .f32 (Z3b Ys)) []:=by
 have y0:X1s .f64 .f32 (Z2f (fcv .f32 .f64 Ys))=true:=(X3s _)
 refine fnS E0Ok Z5 (c:=X0 f113) [] (.f .f32 (fcv .f64 .f32 (Z2f (fcv .f32 .f64 Ys)))) [] func113 (sC (X1r Ys)<|sF (Z5u (fcv .f32 .f64 Ys))<|sC y0<|sK [] sN) rfl (by kernel_rfl) (by kernel_rfl) rfl ?_ ?_
 · rfl
 · rfl
def Z2E (YD:Gv):Nat:=(Z3b (Z32 YD YD))
theorem Z52 (YD:Gv)   : Fn prog 78 [.agg [.f .f32 YD.X, .f .f32 YD.Y, .f .f32 YD.Z]] (.f .f32 (Z2E YD)) []:=by
 refine fnS E0Ok Z5 (c:=X0 f78) [] (.f .f32 (Z3b (Z32 YD YD))) [] func78 (sF (Z5T YD YD)<|sF (Z5s (Z32 YD YD))<|sK [] sN) rfl (by kernel_rfl) (by kernel_rfl) rfl ?_ ?_
 · rfl
 · rfl
def ZX (Y2:Gm) (Y0:Int):Nat→Int→(Unit) ⊕ (Unit)
  | 0,_ => .inl default
  | k + 1,Y6=>(cond (decide (Y6 < ((Y2.Tr.getD Y0.toNat default).length:Int)))
    (cond (Zf ((Y2.Tr.getD Y0.toNat default).getD Y6.toNat default) 0 (IntKind.wrap .i64 ((Y2.Pl.length:Int) - 1)))
      (ZX Y2 Y0 k (Y6 + 1))
      (.inl ()))
    (.inr ()))
def Z2h (Y2:Gm) (Y0:Int):(Unit) ⊕ (Unit)→Ex × St
  | .inl r=>(.ret,⟨.any :: .any :: .b false :: an 66 [],[]⟩)
  | .inr r=>((.exit 2),⟨.agg [.sl (Y2.Pl.map Gv.c), .sl (Y2.Tr.map (cL (cI .i64)))] :: .ptr 0 0 0 :: .any :: .i .i64 (Y2.Pl.length:Int) :: .any :: .sl ((Y2.Tr.getD Y0.toNat default).map (cI .i64)) :: .any :: .any :: .ptr 0 0 0 :: .sl (Y2.Pl.map Gv.c) :: .i .i64 (Y2.Pl.length:Int) :: .i .i64 (Y2.Pl.length:Int) :: .b (decide ((Y2.Pl.length:Int) > 64)) :: .b (decide ((Y2.Pl.length:Int) > 64)) :: .ptr 0 0 1 :: .sl (Y2.Tr.map (cL (cI .i64))) :: .i .i64 (Y2.Tr.length:Int) :: .b (decide ((Y2.Tr.length:Int) > 128)) :: .b (decide ((Y2.Tr.length:Int) > 128)) :: .ptr 0 0 1 :: .sl (Y2.Tr.map (cL (cI .i64))) :: .i .i64 (Y2.Tr.length:Int) :: .i .i64 Y0 :: .b (decide (Y0 < (Y2.Tr.length:Int))) :: .ref [.sl ((Y2.Tr.getD Y0.toNat default).map (cI .i64))] 0 :: .sl ((Y2.Tr.getD Y0.toNat default).map (cI .i64)) :: .sl ((Y2.Tr.getD Y0.toNat default).map (cI .i64)) :: .i .i64 ((Y2.Tr.getD Y0.toNat default).length:Int) :: .b (((Y2.Tr.getD Y0.toNat default).length:Int) != 3) :: .b (((Y2.Tr.getD Y0.toNat default).length:Int) != 3) :: .sl ((Y2.Tr.getD Y0.toNat default).map (cI .i64)) :: .ref [.i .i64 ((Y2.Tr.getD Y0.toNat default).getD 0 default)] 0 :: .i .i64 ((Y2.Tr.getD Y0.toNat default).getD 0 default) :: .sl ((Y2.Tr.getD Y0.toNat default).map (cI .i64)) :: .ref [.i .i64 ((Y2.Tr.getD Y0.toNat default).getD 1 default)] 0 :: .i .i64 ((Y2.Tr.getD Y0.toNat default).getD 1 default) :: .b (((Y2.Tr.getD Y0.toNat default).getD 0 default) == ((Y2.Tr.getD Y0.toNat default).getD 1 default)) :: .b (((Y2.Tr.getD Y0.toNat default).getD 0 default) == ((Y2.Tr.getD Y0.toNat default).getD 1 default)) :: .b (((Y2.Tr.getD Y0.toNat default).getD 0 default) == ((Y2.Tr.getD Y0.toNat default).getD 1 default)) :: .sl ((Y2.Tr.getD Y0.toNat default).map (cI .i64)) :: .ref [.i .i64 ((Y2.Tr.getD Y0.toNat default).getD 1 default)] 0 :: .i .i64 ((Y2.Tr.getD Y0.toNat default).getD 1 default) :: .sl ((Y2.Tr.getD Y0.toNat default).map (cI .i64)) :: .ref [.i .i64 ((Y2.Tr.getD Y0.toNat default).getD 2 default)] 0 :: .i .i64 ((Y2.Tr.getD Y0.toNat default).getD 2 default) :: .b (((Y2.Tr.getD Y0.toNat default).getD 1 default) == ((Y2.Tr.getD Y0.toNat default).getD 2 default)) :: .b (((Y2.Tr.getD Y0.toNat default).getD 1 default) == ((Y2.Tr.getD Y0.toNat default).getD 2 default)) :: .b (((Y2.Tr.getD Y0.toNat default).getD 1 default) == ((Y2.Tr.getD Y0.toNat default).getD 2 default)) :: .sl ((Y2.Tr.getD Y0.toNat default).map (cI .i64)) :: .ref [.i .i64 ((Y2.Tr.getD Y0.toNat default).getD 0 default)] 0 :: .i .i64 ((Y2.Tr.getD Y0.toNat default).getD 0 default) :: .sl ((Y2.Tr.getD Y0.toNat default).map (cI .i64)) :: .ref [.i .i64 ((Y2.Tr.getD Y0.toNat default).getD 2 default)] 0 :: .i .i64 ((Y2.Tr.getD Y0.toNat default).getD 2 default) :: .b (((Y2.Tr.getD Y0.toNat default).getD 0 default) == ((Y2.Tr.getD Y0.toNat default).getD 2 default)) :: .b (((Y2.Tr.getD Y0.toNat default).getD 0 default) == ((Y2.Tr.getD Y0.toNat default).getD 2 default)) :: .sl ((Y2.Tr.getD Y0.toNat default).map (cI .i64)) :: .i .i64 ((Y2.Tr.getD Y0.toNat default).length:Int) :: an 11 [],[.box 35 [.sl (Y2.Pl.map Gv.c), .sl (Y2.Tr.map (cL (cI .i64)))]]⟩)
def Z56 (Y2:Gm) (Y0:Int) (Y6:Int):St:=⟨.agg [.sl (Y2.Pl.map Gv.c), .sl (Y2.Tr.map (cL (cI .i64)))] :: .ptr 0 0 0 :: .any :: .i .i64 (Y2.Pl.length:Int) :: .any :: .sl ((Y2.Tr.getD Y0.toNat default).map (cI .i64)) :: .any :: .any :: .ptr 0 0 0 :: .sl (Y2.Pl.map Gv.c) :: .i .i64 (Y2.Pl.length:Int) :: .i .i64 (Y2.Pl.length:Int) :: .b (decide ((Y2.Pl.length:Int) > 64)) :: .b (decide ((Y2.Pl.length:Int) > 64)) :: .ptr 0 0 1 :: .sl (Y2.Tr.map (cL (cI .i64))) :: .i .i64 (Y2.Tr.length:Int) :: .b (decide ((Y2.Tr.length:Int) > 128)) :: .b (decide ((Y2.Tr.length:Int) > 128)) :: .ptr 0 0 1 :: .sl (Y2.Tr.map (cL (cI .i64))) :: .i .i64 (Y2.Tr.length:Int) :: .i .i64 Y0 :: .b (decide (Y0 < (Y2.Tr.length:Int))) :: .ref [.sl ((Y2.Tr.getD Y0.toNat default).map (cI .i64))] 0 :: .sl ((Y2.Tr.getD Y0.toNat default).map (cI .i64)) :: .sl ((Y2.Tr.getD Y0.toNat default).map (cI .i64)) :: .i .i64 ((Y2.Tr.getD Y0.toNat default).length:Int) :: .b (((Y2.Tr.getD Y0.toNat default).length:Int) != 3) :: .b (((Y2.Tr.getD Y0.toNat default).length:Int) != 3) :: .sl ((Y2.Tr.getD Y0.toNat default).map (cI .i64)) :: .ref [.i .i64 ((Y2.Tr.getD Y0.toNat default).getD 0 default)] 0 :: .i .i64 ((Y2.Tr.getD Y0.toNat default).getD 0 default) :: .sl ((Y2.Tr.getD Y0.toNat default).map (cI .i64)) :: .ref [.i .i64 ((Y2.Tr.getD Y0.toNat default).getD 1 default)] 0 :: .i .i64 ((Y2.Tr.getD Y0.toNat default).getD 1 default) :: .b (((Y2.Tr.getD Y0.toNat default).getD 0 default) == ((Y2.Tr.getD Y0.toNat default).getD 1 default)) :: .b (((Y2.Tr.getD Y0.toNat default).getD 0 default) == ((Y2.Tr.getD Y0.toNat default).getD 1 default)) :: .b (((Y2.Tr.getD Y0.toNat default).getD 0 default) == ((Y2.Tr.getD Y0.toNat default).getD 1 default)) :: .sl ((Y2.Tr.getD Y0.toNat default).map (cI .i64)) :: .ref [.i .i64 ((Y2.Tr.getD Y0.toNat default).getD 1 default)] 0 :: .i .i64 ((Y2.Tr.getD Y0.toNat default).getD 1 default) :: .sl ((Y2.Tr.getD Y0.toNat default).map (cI .i64)) :: .ref [.i .i64 ((Y2.Tr.getD Y0.toNat default).getD 2 default)] 0 :: .i .i64 ((Y2.Tr.getD Y0.toNat default).getD 2 default) :: .b (((Y2.Tr.getD Y0.toNat default).getD 1 default) == ((Y2.Tr.getD Y0.toNat default).getD 2 default)) :: .b (((Y2.Tr.getD Y0.toNat default).getD 1 default) == ((Y2.Tr.getD Y0.toNat default).getD 2 default)) :: .b (((Y2.Tr.getD Y0.toNat default).getD 1 default) == ((Y2.Tr.getD Y0.toNat default).getD 2 default)) :: .sl ((Y2.Tr.getD Y0.toNat default).map (cI .i64)) :: .ref [.i .i64 ((Y2.Tr.getD Y0.toNat default).getD 0 default)] 0 :: .i .i64 ((Y2.Tr.getD Y0.toNat default).getD 0 default) :: .sl ((Y2.Tr.getD Y0.toNat default).map (cI .i64)) :: .ref [.i .i64 ((Y2.Tr.getD Y0.toNat default).getD 2 default)] 0 :: .i .i64 ((Y2.Tr.getD Y0.toNat default).getD 2 default) :: .b (((Y2.Tr.getD Y0.toNat default).getD 0 default) == ((Y2.Tr.getD Y0.toNat default).getD 2 default)) :: .b (((Y2.Tr.getD Y0.toNat default).getD 0 default) == ((Y2.Tr.getD Y0.toNat default).getD 2 default)) :: .sl ((Y2.Tr.getD Y0.toNat default).map (cI .i64)) :: .i .i64 ((Y2.Tr.getD Y0.toNat default).length:Int) :: .i .i64 Y6 :: an 10 [],[.box 35 [.sl (Y2.Pl.map Gv.c), .sl (Y2.Tr.map (cL (cI .i64)))]]⟩
def Z2t:List Bool:=(mR false [0,2,1,1,1,1,2,51,10])
def Z4G:List Bool:=(mR false [0,2,1,1,1,1,2,50,11])
theorem Z3I (Y2:Gm) (Y0:Int) (hp0:Y2.Pl.length≤1073741824) (hp1:Y2.Tr.length≤1073741824) (hp2:∀ t∈Y2.Tr,t.length≤1073741824) (Z1H:(decide ((Y2.Pl.length:Int) > 64))=false) (Z1I:(decide ((Y2.Tr.length:Int) > 128))=false) (Z1J:0≤Y0) (Z6v:(((Y2.Tr.getD Y0.toNat default).length:Int) != 3)=false) (Z6w:(decide ((Y2.Pl.length:Int) > 64))=false) (Z6x:(decide ((Y2.Tr.length:Int) > 128))=false) (Z6y:(decide (Y0 < (Y2.Tr.length:Int)))=true):∀ (k:Nat) (Y6:Int) (Z3m:0≤Y6) (hk:(((Y2.Tr.getD Y0.toNat default).length:Int) - Y6).toNat < k),Lp prog 0 (sub (X0 f68) [1,1,1,0,1,0,0,1,1,0,0,1,1,1,0,0]) (Z56 Y2 Y0 Y6) (Z2h Y2 Y0 (ZX Y2 Y0 k Y6)).1 (Z2h Y2 Y0 (ZX Y2 Y0 k Y6)).2:=by
 intro k
 induction k with
 | zero=>intro Y6 Z3m hk;exact absurd hk (Nat.not_lt_zero _)
 | succ k ih =>
  intro Y6 Z3m hk
  cases Yy:(decide (Y6 < ((Y2.Tr.getD Y0.toNat default).length:Int))) with
  | true =>
   have YT:=odt Yy
   have Y11:(0:Int)≤Y6:=(by assumption)
   have Y12:Y6 < ((Y2.Tr.getD Y0.toNat default).length:Int):=(by assumption)
   have p {a C} (s:Scr a C):=sB Yy<|sG (cI .i64) (Y2.Tr.getD Y0.toNat default) Y6 Y11 Y12<|sW .i64 ((Y2.Pl.length:Int) - 1)<|sF (Z51 ((Y2.Tr.getD Y0.toNat default).getD Y6.toNat default) 0 (IntKind.wrap .i64 ((Y2.Pl.length:Int) - 1)))<|s
   cases YJ:(Zf ((Y2.Tr.getD Y0.toNat default).getD Y6.toNat default) 0 (IntKind.wrap .i64 ((Y2.Pl.length:Int) - 1))) with
   | true =>
    have YU:(-9223372036854775808:Int)≤(Y6 + 1):=by clear p;exact (by omega)
    have YQ:(Y6 + 1)≤(9223372036854775807:Int):=by clear p;exact (by simp_all<;>omega)
    have e:ZX Y2 Y0 (k + 1) Y6=(ZX Y2 Y0 k (Y6 + 1)):=by simp only [ZX,Yy,YJ,cond_true]
    rw [e]
    exact XM E0Ok Z5 [] Z2t [0] (ih (Y6 + 1) (show 0≤(Y6 + 1) from (by omega)) (by omega)) (p (sB' YJ<|sI (Y6 + 1) YU YQ<|sN)) (by kernel_rfl)
   | false =>
    have e:ZX Y2 Y0 (k + 1) Y6=(.inl ()):=by simp only [ZX,Yy,YJ,cond_true,cond_false]
    rw [e]
    exact outR (e := .ret) E0Ok Z5 [] (mR false [2,1,66]) [] (p (sB' YJ<|sN)) (by kernel_rfl) (by intro h;cases h)
  | false =>
   have YT:=odf Yy
   have e:ZX Y2 Y0 (k + 1) Y6=(.inr ()):=by simp only [ZX,Yy,cond_false]
   rw [e]
   exact outR (e:=(.exit 2)) E0Ok Z5 [] Z4G [0] (sB Yy<|sN) (by kernel_rfl) (by intro h;cases h)
def Z1V (Y2:Gm) (Y0:Int):(Unit) ⊕ (Unit):=(ZX Y2 Y0 ((((Y2.Tr.getD Y0.toNat default).length:Int) - 0).toNat + 1) 0)
def Zr (Y2:Gm):Nat→Int→(Unit) ⊕ (Unit)
  | 0,_ => .inl default
  | k + 1,Y0=>(cond (decide (Y0 < (Y2.Tr.length:Int)))
    (cond (((Y2.Tr.getD Y0.toNat default).length:Int) != 3)
      (.inl ())
      (cond (((Y2.Tr.getD Y0.toNat default).getD 0 default) == ((Y2.Tr.getD Y0.toNat default).getD 1 default))
        (.inl ())
        (cond (((Y2.Tr.getD Y0.toNat default).getD 1 default) == ((Y2.Tr.getD Y0.toNat default).getD 2 default))
          (.inl ())
          (cond (((Y2.Tr.getD Y0.toNat default).getD 0 default) == ((Y2.Tr.getD Y0.toNat default).getD 2 default))
            (.inl ())
            (match (Z1V Y2 Y0) with
              | .inl r_6=>(.inl ())
              | .inr r_6=>(Zr Y2 k (Y0 + 1)))))))
    (.inr ()))
def Z2i (Y2:Gm):(Unit) ⊕ (Unit)→Ex × St
  | .inl r=>(.ret,⟨.any :: .any :: .b false :: an 66 [],[]⟩)
  | .inr r=>((.exit 0),⟨.agg [.sl (Y2.Pl.map Gv.c), .sl (Y2.Tr.map (cL (cI .i64)))] :: .ptr 0 0 0 :: .any :: .i .i64 (Y2.Pl.length:Int) :: an 4 (.ptr 0 0 0 :: .sl (Y2.Pl.map Gv.c) :: .i .i64 (Y2.Pl.length:Int) :: .i .i64 (Y2.Pl.length:Int) :: .b (decide ((Y2.Pl.length:Int) > 64)) :: .b (decide ((Y2.Pl.length:Int) > 64)) :: .ptr 0 0 1 :: .sl (Y2.Tr.map (cL (cI .i64))) :: .i .i64 (Y2.Tr.length:Int) :: .b (decide ((Y2.Tr.length:Int) > 128)) :: .b (decide ((Y2.Tr.length:Int) > 128)) :: .ptr 0 0 1 :: .sl (Y2.Tr.map (cL (cI .i64))) :: an 48 []),[.box 35 [.sl (Y2.Pl.map Gv.c), .sl (Y2.Tr.map (cL (cI .i64)))]]⟩)
def Z57 (Y2:Gm) (Y0:Int):St:=⟨.agg [.sl (Y2.Pl.map Gv.c), .sl (Y2.Tr.map (cL (cI .i64)))] :: .ptr 0 0 0 :: .any :: .i .i64 (Y2.Pl.length:Int) :: an 4 (.ptr 0 0 0 :: .sl (Y2.Pl.map Gv.c) :: .i .i64 (Y2.Pl.length:Int) :: .i .i64 (Y2.Pl.length:Int) :: .b (decide ((Y2.Pl.length:Int) > 64)) :: .b (decide ((Y2.Pl.length:Int) > 64)) :: .ptr 0 0 1 :: .sl (Y2.Tr.map (cL (cI .i64))) :: .i .i64 (Y2.Tr.length:Int) :: .b (decide ((Y2.Tr.length:Int) > 128)) :: .b (decide ((Y2.Tr.length:Int) > 128)) :: .ptr 0 0 1 :: .sl (Y2.Tr.map (cL (cI .i64))) :: .i .i64 (Y2.Tr.length:Int) :: .i .i64 Y0 :: an 46 []),[.box 35 [.sl (Y2.Pl.map Gv.c), .sl (Y2.Tr.map (cL (cI .i64)))]]⟩
theorem Z3J (Y2:Gm) (hp0:Y2.Pl.length≤1073741824) (hp1:Y2.Tr.length≤1073741824) (hp2:∀ t∈Y2.Tr,t.length≤1073741824) (Z1H:(decide ((Y2.Pl.length:Int) > 64))=false) (Z1I:(decide ((Y2.Tr.length:Int) > 128))=false):∀ (k:Nat) (Y0:Int) (Z1J:0≤Y0) (hk:((Y2.Tr.length:Int) - Y0).toNat < k),Lp prog 0 (sub (X0 f68) [1,1,1,0,1,0,0]) (Z57 Y2 Y0) (Z2i Y2 (Zr Y2 k Y0)).1 (Z2i Y2 (Zr Y2 k Y0)).2:=by
 intro k
 induction k with
 | zero=>intro Y0 Z1J hk;exact absurd hk (Nat.not_lt_zero _)
 | succ k ih =>
  intro Y0 Z1J hk
  cases Yj:(decide (Y0 < (Y2.Tr.length:Int))) with
  | true =>
   have Yt:=odt Yj
   have YE:(0:Int)≤Y0:=(by assumption)
   have YC:Y0 < (Y2.Tr.length:Int):=(by assumption)
   have p {a C} (s:Scr a C):=sB Yj<|sG (cL (cI .i64)) Y2.Tr Y0 YE YC<|sK [28,28]<|sZ (cI .i64) (Y2.Tr.getD Y0.toNat default)<|s
   cases Yq:(((Y2.Tr.getD Y0.toNat default).length:Int) != 3) with
   | true =>
    have YV:=bne_iff_ne.1 Yq
    have e:Zr Y2 (k + 1) Y0=(.inl ()):=by simp only [Zr,Yj,Yq,cond_true]
    rw [e]
    exact outR (e := .ret) E0Ok Z5 [] (mR false [2,1,66]) [] (p (sB Yq<|sB Yq<|sB Yq<|sB Yq<|sB Yq<|sB Yq<|sB Yq<|sB Yq<|sB (show true=true from rfl)<|sB (show true=true from rfl)<|sB (show true=true from rfl)<|sB (show true=true from rfl)<|sB (show true=true from rfl)<|sB (show true=true from rfl)<|sB (show true=true from rfl)<|sB (show true=true from rfl)<|sB (show true=true from rfl)<|sB (show true=true from rfl)<|sB (show true=true from rfl)<|sB (show true=true from rfl)<|sB (show true=true from rfl)<|sB (show true=true from rfl)<|sB (show true=true from rfl)<|sB (show true=true from rfl)<|sB (show true=true from rfl)<|sN)) (by kernel_rfl) (by intro h;cases h)
   | false =>
    have YV:=bne_eq_false_iff_eq.1 Yq
    have YI:(0:Int)≤0:=by clear p;exact (by omega)
    have YL:0 < ((Y2.Tr.getD Y0.toNat default).length:Int):=by clear p;exact (by omega)
    have YO:(0:Int)≤1:=by clear p;exact (by omega)
    have YS:1 < ((Y2.Tr.getD Y0.toNat default).length:Int):=by clear p;exact (by omega)
    have q {a C} (s:Scr a C):=p (sB Yq<|sB Yq<|sG (cI .i64) (Y2.Tr.getD Y0.toNat default) 0 YI YL<|sB Yq<|sB Yq<|sB Yq<|sG (cI .i64) (Y2.Tr.getD Y0.toNat default) 1 YO YS<|sB Yq<|sB Yq<|sB Yq<|s)
    clear p
    cases YK:(((Y2.Tr.getD Y0.toNat default).getD 0 default) == ((Y2.Tr.getD Y0.toNat default).getD 1 default)) with
    | true =>
     have Y19:=eq_of_beq YK
     have e:Zr Y2 (k + 1) Y0=(.inl ()):=by simp only [Zr,Yj,Yq,YK,cond_true,cond_false]
     rw [e]
     exact outR (e := .ret) E0Ok Z5 [] (mR false [2,1,66]) [] (q (sB YK<|sB YK<|sB YK<|sB YK<|sB YK<|sB YK<|sB YK<|sB YK<|sB (show true=true from rfl)<|sB (show true=true from rfl)<|sB (show true=true from rfl)<|sB (show true=true from rfl)<|sB (show true=true from rfl)<|sB (show true=true from rfl)<|sB (show true=true from rfl)<|sB (show true=true from rfl)<|sB (show true=true from rfl)<|sN)) (by kernel_rfl) (by intro h;cases h)
    | false =>
     have Y19:=ne_of_beq_false YK
     have YY:(0:Int)≤2:=by clear q;exact (by omega)
     have y_7:2 < ((Y2.Tr.getD Y0.toNat default).length:Int):=by clear q;exact (by omega)
     have p {a C} (s:Scr a C):=q (sB YK<|sB YK<|sG (cI .i64) (Y2.Tr.getD Y0.toNat default) 1 YO YS<|sB YK<|sB YK<|sB YK<|sG (cI .i64) (Y2.Tr.getD Y0.toNat default) 2 YY y_7<|sB YK<|sB YK<|sB YK<|s)
     clear q
     cases YR:(((Y2.Tr.getD Y0.toNat default).getD 1 default) == ((Y2.Tr.getD Y0.toNat default).getD 2 default)) with
     | true =>
      have gh_3:=eq_of_beq YR
      have e:Zr Y2 (k + 1) Y0=(.inl ()):=by simp only [Zr,Yj,Yq,YK,YR,cond_true,cond_false]
      rw [e]
      exact outR (e := .ret) E0Ok Z5 [] (mR false [2,1,66]) [] (p (sB YR<|sB YR<|sB YR<|sB YR<|sB YR<|sB YR<|sB YR<|sB YR<|sB (show true=true from rfl)<|sN)) (by kernel_rfl) (by intro h;cases h)
     | false =>
      have gh_3:=ne_of_beq_false YR
      have q {a C} (s:Scr a C):=p (sB YR<|sB YR<|sG (cI .i64) (Y2.Tr.getD Y0.toNat default) 0 YI YL<|sB YR<|sB YR<|sB YR<|sG (cI .i64) (Y2.Tr.getD Y0.toNat default) 2 YY y_7<|sB YR<|sB YR<|sB YR<|s)
      clear p
      cases h_4:(((Y2.Tr.getD Y0.toNat default).getD 0 default) == ((Y2.Tr.getD Y0.toNat default).getD 2 default)) with
      | true =>
       have gh_4:=eq_of_beq h_4
       have e:Zr Y2 (k + 1) Y0=(.inl ()):=by simp only [Zr,Yj,Yq,YK,YR,h_4,cond_true,cond_false]
       rw [e]
       exact outR (e := .ret) E0Ok Z5 [] (mR false [2,1,66]) [] (q (sB h_4<|sN)) (by kernel_rfl) (by intro h;cases h)
      | false =>
       have gh_4:=ne_of_beq_false h_4
       have p {a C} (s:Scr a C):=q (sB h_4<|sZ (cI .i64) (Y2.Tr.getD Y0.toNat default)<|s)
       clear q
       cases h_5:(Z1V Y2 Y0) with
       | inl r_6 =>
        have e:Zr Y2 (k + 1) Y0=(.inl ()):=by simp only [Zr,Yj,Yq,YK,YR,h_4,h_5,cond_true,cond_false]
        rw [e]
        exact outR (e := .ret) E0Ok Z5 [] (mR false [2,1,66]) [] (p (sL Z2t 1 (X7 (Z2h Y2 Y0) (x:=(Z1V Y2 Y0)) (Z3I Y2 Y0 hp0 hp1 hp2 Z1H Z1I Z1J Yq Z1H Z1I Yj ((((Y2.Tr.getD Y0.toNat default).length:Int) - 0).toNat + 1) 0 (show 0≤0 from (by assumption)) (Nat.lt_succ_self _)) h_5)<|sN)) (by kernel_rfl) (by intro h;cases h)
       | inr r_6 =>
        have y_8:(-9223372036854775808:Int)≤(Y0 + 1):=by clear p;exact (by omega)
        have y_9:(Y0 + 1)≤(9223372036854775807:Int):=by clear p;exact (by omega)
        have e:Zr Y2 (k + 1) Y0=(Zr Y2 k (Y0 + 1)):=by simp only [Zr,Yj,Yq,YK,YR,h_4,h_5,cond_true,cond_false]
        rw [e]
        exact XM E0Ok Z5 [] (mR false [0,2,1,1,4,15,46]) [0] (ih (Y0 + 1) (show 0≤(Y0 + 1) from (by omega)) (by omega)) (p (sL Z2t 1 (X7 (Z2h Y2 Y0) (x:=(Z1V Y2 Y0)) (Z3I Y2 Y0 hp0 hp1 hp2 Z1H Z1I Z1J Yq Z1H Z1I Yj ((((Y2.Tr.getD Y0.toNat default).length:Int) - 0).toNat + 1) 0 (show 0≤0 from (by assumption)) (Nat.lt_succ_self _)) h_5)<|sI (Y0 + 1) y_8 y_9<|sN)) (by kernel_rfl)
  | false =>
   have Yt:=odf Yj
   have e:Zr Y2 (k + 1) Y0=(.inr ()):=by simp only [Zr,Yj,cond_false]
   rw [e]
   exact outR (e:=(.exit 0)) E0Ok Z5 [] (mR false [0,2,1,1,4,13,48]) [0] (sB Yj<|sN) (by kernel_rfl) (by intro h;cases h)
end Go.Ab
