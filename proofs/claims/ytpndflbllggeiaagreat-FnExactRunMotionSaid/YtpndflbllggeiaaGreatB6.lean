/- The functions of this seat as plain Lean, and that the program's are these. Printed by a program of the prover's own. -/
import Derived.Test.YtpndflbllggeiaaGreatB5
set_option linter.unusedVariables false
set_option linter.unusedSimpArgs false
set_option maxRecDepth 100000
namespace Go.Ab
open Go.RowKit Go.Proofs.Tryz
def Zv (Y3:Gn) (Y2:(List Int)) (Y6:Nat) (Y9:Nat) (Y5:Nat) (Yf:Int):Int × Nat × Nat × Nat × Nat × Nat × (List Nat) × (List Gv) × (List (List Int)) × (List Gs) × (List Nat) × (List Gv):=(Z26 Y3 Y2 Y6 Y9 Y5 Yf (Yf.toNat + 1) Yf Y3.Body.Me.Pq Y3.Body.Me.Tr Y3.Body.Sp Y3.Body.We (([]:List Gv) ++ Y3.Sd) Y3.Body.Film Y3.Body.Bend Y3.Body.Fall.X Y3.Body.Fall.Y Y3.Body.Fall.Z ([]:List Nat))
def Z7 (Y3:Gn) (Y2:(List Int)) (Y6:Nat) (Y9:Nat) (Y5:Nat) (Yf:Int):Gn × (List Nat) × Bool:=(cond (ZM Y3 Y2 Y6 Y5)
  (cond (Zj Yf 0 40)
    ((⟨(⟨(⟨(Zv Y3 Y2 Y6 Y9 Y5 Yf).2.2.2.2.2.2.2.1,(Zv Y3 Y2 Y6 Y9 Y5 Yf).2.2.2.2.2.2.2.2.1⟩:Gm),(Zv Y3 Y2 Y6 Y9 Y5 Yf).2.2.2.2.2.2.2.2.2.1,(Zv Y3 Y2 Y6 Y9 Y5 Yf).2.1,(Zv Y3 Y2 Y6 Y9 Y5 Yf).2.2.1,(Zv Y3 Y2 Y6 Y9 Y5 Yf).2.2.2.2.2.2.2.2.2.2.1,(⟨(Zv Y3 Y2 Y6 Y9 Y5 Yf).2.2.2.1,(Zv Y3 Y2 Y6 Y9 Y5 Yf).2.2.2.2.1,(Zv Y3 Y2 Y6 Y9 Y5 Yf).2.2.2.2.2.1⟩:Gv)⟩:Gb),(Zv Y3 Y2 Y6 Y9 Y5 Yf).2.2.2.2.2.2.2.2.2.2.2⟩:Gn),(Zv Y3 Y2 Y6 Y9 Y5 Yf).2.2.2.2.2.2.1,true)
    ((⟨(⟨(⟨([]:List Gv),([]:List (List Int))⟩:Gm),([]:List Gs),0,0,([]:List Nat),(⟨0,0,0⟩:Gv)⟩:Gb),([]:List Gv)⟩:Gn),([]:List Nat),false))
  ((⟨(⟨(⟨([]:List Gv),([]:List (List Int))⟩:Gm),([]:List Gs),0,0,([]:List Nat),(⟨0,0,0⟩:Gv)⟩:Gb),([]:List Gv)⟩:Gn),([]:List Nat),false))
theorem ZiT (m:Gn) (h:List Int) (a d t:Nat) (n:Int):∀ (k:Nat) (y:Int) P T S W V f g x1 x2 x3 E,y.toNat < k→Z4P m ⟨⟨⟨P,T⟩,S,f,g,W,⟨x1,x2,x3⟩⟩,V⟩→∀ r,Z26 m h a d t n k y P T S W V f g x1 x2 x3 E=r →
    Z4P m ⟨⟨⟨r.2.2.2.2.2.2.2.1,r.2.2.2.2.2.2.2.2.1⟩,r.2.2.2.2.2.2.2.2.2.1,r.2.1,r.2.2.1,r.2.2.2.2.2.2.2.2.2.2.1,⟨r.2.2.2.1,r.2.2.2.2.1,r.2.2.2.2.2.1⟩⟩,r.2.2.2.2.2.2.2.2.2.2.2⟩∧r.2.2.2.2.2.2.1.length≤E.length + y.toNat:=by
  intro k
  induction k with
  | zero => intro y P T S W V f g x1 x2 x3 E hk; exact absurd hk (Nat.not_lt_zero _)
  | succ k ih =>
    intro y P T S W V f g x1 x2 x3 E hk hL r e
    rw [Z26] at e
    cases h1:decide (y > 0) with
    | false => rw [h1,cond_false] at e; subst e; exact ⟨hL,Nat.le_add_right _ _⟩
    | true =>
      have hy:=odt h1
      rw [h1,cond_true] at e
      have:=ih _ _ _ _ _ _ _ _ _ _ _ _ (by omega) (Zd7 (Z7P hL _ _ _ _)) r e
      refine ⟨this.1,Nat.le_trans this.2 ?_⟩
      rw [List.length_append]; simp only [List.length_cons,List.length_nil]; omega
theorem Z4N (m:Gn) (h:List Int) (a d t:Nat) (n:Int):(Z7 m h a d t n=((⟨(⟨(⟨([]:List Gv),([]:List (List Int))⟩:Gm),([]:List Gs),0,0,([]:List Nat),(⟨0,0,0⟩:Gv)⟩:Gb),([]:List Gv)⟩:Gn),([]:List Nat),false))∨(Z4P m (Z7 m h a d t n).1∧(Z7 m h a d t n).2.1.length≤41):=by
  unfold Z7
  cases ZM m h a t with
  | false => left; rfl
  | true =>
    cases h1:Zj n 0 40 with
    | false => left; rfl
    | true =>
      right
      simp only [cond_true]
      have q:=ZiT m h a d t n _ n m.Body.Me.Pq m.Body.Me.Tr m.Body.Sp m.Body.We (([]:List Gv) ++ m.Sd) m.Body.Film m.Body.Bend m.Body.Fall.X m.Body.Fall.Y m.Body.Fall.Z ([]:List Nat) (Nat.lt_succ_self _) ⟨⟨rfl,rfl,rfl,rfl⟩,rfl⟩ (Zv m h a d t n) rfl
      refine ⟨q.1,Nat.le_trans q.2 ?_⟩
      have:=in40 h1
      simp only [List.length_nil]
      omega
theorem Zay (m:Gn) (h:List Int) (a d t:Nat) (n:Int):(Z7 m h a d t n).1.Body.Me.Pq.length≤m.Body.Me.Pq.length:=by
  rcases Z4N m h a d t n with e | ⟨h1,h2⟩
  · rw [e]; exact Nat.zero_le _
  · exact Nat.le_of_eq (Z42 h1).1
theorem Zaz (m:Gn) (h:List Int) (a d t:Nat) (n:Int):(Z7 m h a d t n).1.Body.Me.Tr.length≤m.Body.Me.Tr.length:=by
  rcases Z4N m h a d t n with e | ⟨h1,h2⟩
  · rw [e]; exact Nat.zero_le _
  · exact Nat.le_of_eq (Z42 h1).2.1
theorem ZaA (m:Gn) (h:List Int) (a d t:Nat) (n:Int):(Z7 m h a d t n).1.Body.We.length≤m.Body.We.length:=by
  rcases Z4N m h a d t n with e | ⟨h1,h2⟩
  · rw [e]; exact Nat.zero_le _
  · exact Nat.le_of_eq (Z42 h1).2.2.2.1
theorem ZaB (m:Gn) (h:List Int) (a d t:Nat) (n:Int):(Z7 m h a d t n).1.Body.Sp.length≤m.Body.Sp.length:=by
  rcases Z4N m h a d t n with e | ⟨h1,h2⟩
  · rw [e]; exact Nat.zero_le _
  · exact Nat.le_of_eq (Z42 h1).2.2.1
theorem ZaC (m:Gn) (h:List Int) (a d t:Nat) (n:Int):(Z7 m h a d t n).1.Sd.length≤m.Sd.length:=by
  rcases Z4N m h a d t n with e | ⟨h1,h2⟩
  · rw [e]; exact Nat.zero_le _
  · exact Nat.le_of_eq (Z42 h1).2.2.2.2
theorem ZaD (m:Gn) (h:List Int) (a d t:Nat) (n:Int):(Z7 m h a d t n).2.1.length≤41:=by
  rcases Z4N m h a d t n with e | ⟨h1,h2⟩
  · rw [e]; exact Nat.zero_le _
  · exact h2
theorem ZaE (m:Gn) (h:List Int) (a d t:Nat) (n:Int):∀ u∈(Z7 m h a d t n).1.Body.Me.Tr,u∈m.Body.Me.Tr:=by
  rcases Z4N m h a d t n with e | ⟨h1,h2⟩
  · rw [e]; (intro u hu; cases hu)
  · rw [h1.1.2.1]; exact fun u hu => hu
set_option maxHeartbeats 1000000 in
theorem ZfH (Y3:Gn) (Y2:(List Int)) (Y6:Nat) (Y9:Nat) (Y5:Nat) (Yf:Int) (hp0:Y3.Body.Me.Pq.length≤1073741824) (hp1:Y3.Body.Me.Tr.length≤1073741824) (hp2:∀ t∈Y3.Body.Me.Tr,t.length≤1073741824) (hp3:Y3.Body.Sp.length≤1073741824) (hp4:Y3.Body.We.length≤1073741824) (hp5:Y3.Sd.length≤1073741824) (hp6:Y2.length≤1073741824)  : Fn prog 45 [.agg [.sl (Y3.Body.Me.Pq.map Gv.c), .sl (Y3.Body.Me.Tr.map (cL (cI .i64))), .sl (Y3.Body.Sp.map Gs.c), .f .f32 Y3.Body.Film, .f .f32 Y3.Body.Bend, .sl (Y3.Body.We.map (cF .f32)), .f .f32 Y3.Body.Fall.X, .f .f32 Y3.Body.Fall.Y, .f .f32 Y3.Body.Fall.Z, .sl (Y3.Sd.map Gv.c)], .sl (Y2.map (cI .i64)), .f .f32 Y6, .f .f32 Y9, .f .f32 Y5, .i .i64 Yf] (.tup [.agg [.own 0, .own 1, .own 2, .f .f32 ((Z7 Y3 Y2 Y6 Y9 Y5 Yf).1.Body.Film), .f .f32 ((Z7 Y3 Y2 Y6 Y9 Y5 Yf).1.Body.Bend), .own 3, .f .f32 ((Z7 Y3 Y2 Y6 Y9 Y5 Yf).1.Body.Fall.X), .f .f32 ((Z7 Y3 Y2 Y6 Y9 Y5 Yf).1.Body.Fall.Y), .f .f32 ((Z7 Y3 Y2 Y6 Y9 Y5 Yf).1.Body.Fall.Z), .own 4], .own 5, .b ((Z7 Y3 Y2 Y6 Y9 Y5 Yf).2.2)]) [.vec 40 3 (((Z7 Y3 Y2 Y6 Y9 Y5 Yf).1.Body.Me.Pq).map Gv.c) false, .nest 49 (((Z7 Y3 Y2 Y6 Y9 Y5 Yf).1.Body.Me.Tr).map fun l => l.map (cI .i64)) false, .vec 133 4 (((Z7 Y3 Y2 Y6 Y9 Y5 Yf).1.Body.Sp).map Gs.c) false, .vec 27 1 (((Z7 Y3 Y2 Y6 Y9 Y5 Yf).1.Body.We).map (cF .f32)) false, .vec 40 3 (((Z7 Y3 Y2 Y6 Y9 Y5 Yf).1.Sd).map Gv.c) false, .vec 27 1 (((Z7 Y3 Y2 Y6 Y9 Y5 Yf).2.1).map (cF .f32)) false]:=by
 have p {a C} (s:Scr a C):=sF (ZgT Y3 Y2 Y6 Y5 hp0 hp1 hp2 hp3 hp4 hp5 hp6) <| s
 cases h0:(ZM Y3 Y2 Y6 Y5) with
 | true =>
  have q {a C} (s:Scr a C):=p (sB' h0 <| sB' h0 <| sF (Z5w Yf 0 40) <| sB' h0 <| sB' h0 <| s)
  clear p
  cases h1:(Zj Yf 0 40) with
  | true =>
   have y0:([]:List Gv).length + Y3.Sd.length≤1073741824:=by clear q; exact (by simp_all <;> omega)
   refine fnS E0Ok Z4 (c:=X0 f45) [] (.tup [.agg [.own 0, .own 1, .own 2, .f .f32 ((Zv Y3 Y2 Y6 Y9 Y5 Yf).2.1), .f .f32 ((Zv Y3 Y2 Y6 Y9 Y5 Yf).2.2.1), .own 3, .f .f32 ((Zv Y3 Y2 Y6 Y9 Y5 Yf).2.2.2.1), .f .f32 ((Zv Y3 Y2 Y6 Y9 Y5 Yf).2.2.2.2.1), .f .f32 ((Zv Y3 Y2 Y6 Y9 Y5 Yf).2.2.2.2.2.1), .own 4], .own 5, .b true]) [.vec 40 3 (((Zv Y3 Y2 Y6 Y9 Y5 Yf).2.2.2.2.2.2.2.1).map Gv.c) false, .nest 49 (((Zv Y3 Y2 Y6 Y9 Y5 Yf).2.2.2.2.2.2.2.2.1).map fun l => l.map (cI .i64)) false, .vec 133 4 (((Zv Y3 Y2 Y6 Y9 Y5 Yf).2.2.2.2.2.2.2.2.2.1).map Gs.c) false, .vec 27 1 (((Zv Y3 Y2 Y6 Y9 Y5 Yf).2.2.2.2.2.2.2.2.2.2.1).map (cF .f32)) false, .vec 40 3 (((Zv Y3 Y2 Y6 Y9 Y5 Yf).2.2.2.2.2.2.2.2.2.2.2).map Gv.c) false, .vec 27 1 (((Zv Y3 Y2 Y6 Y9 Y5 Yf).2.2.2.2.2.2.1).map (cF .f32)) false] func45 (q (sB' h1 <| sR (X6h E0Ok Z4 (id:=3) (ops:=X7D (sub (X0 f45) [1,1,0])) (⟨.agg [.sl (Y3.Body.Me.Pq.map Gv.c), .sl (Y3.Body.Me.Tr.map (cL (cI .i64))), .sl (Y3.Body.Sp.map Gs.c), .f .f32 Y3.Body.Film, .f .f32 Y3.Body.Bend, .sl (Y3.Body.We.map (cF .f32)), .f .f32 Y3.Body.Fall.X, .f .f32 Y3.Body.Fall.Y, .f .f32 Y3.Body.Fall.Z, .sl (Y3.Sd.map Gv.c)] :: .sl (Y2.map (cI .i64)) :: .f .f32 Y6 :: .f .f32 Y9 :: .f .f32 Y5 :: .i .i64 Yf :: .ptr 0 0 0 :: an 5 (.ptr 1 0 0 :: .nils :: .b false :: .any :: .any :: .sl (Y2.map (cI .i64)) :: .f .f32 Y6 :: .f .f32 Y5 :: .b (ZM Y3 Y2 Y6 Y5) :: .b (!(ZM Y3 Y2 Y6 Y5)) :: .b (!(ZM Y3 Y2 Y6 Y5)) :: .i .i64 Yf :: .b (Zj Yf 0 40) :: .b (!(Zj Yf 0 40)) :: .b (!(Zj Yf 0 40)) :: an 25 []),[.box 66 [.sl (Y3.Body.Me.Pq.map Gv.c), .sl (Y3.Body.Me.Tr.map (cL (cI .i64))), .sl (Y3.Body.Sp.map Gs.c), .f .f32 Y3.Body.Film, .f .f32 Y3.Body.Bend, .sl (Y3.Body.We.map (cF .f32)), .f .f32 Y3.Body.Fall.X, .f .f32 Y3.Body.Fall.Y, .f .f32 Y3.Body.Fall.Z, .sl (Y3.Sd.map Gv.c)], .box 66 [.nils, .nils, .nils, .f .f32 0, .f .f32 0, .nils, .f .f32 0, .f .f32 0, .f .f32 0, .nils]]⟩) (⟨.agg [.sl (Y3.Body.Me.Pq.map Gv.c), .sl (Y3.Body.Me.Tr.map (cL (cI .i64))), .sl (Y3.Body.Sp.map Gs.c), .f .f32 Y3.Body.Film, .f .f32 Y3.Body.Bend, .sl (Y3.Body.We.map (cF .f32)), .f .f32 Y3.Body.Fall.X, .f .f32 Y3.Body.Fall.Y, .f .f32 Y3.Body.Fall.Z, .sl (Y3.Sd.map Gv.c)] :: .sl (Y2.map (cI .i64)) :: .f .f32 Y6 :: .f .f32 Y9 :: .f .f32 Y5 :: .i .i64 Yf :: .ptr 0 0 0 :: an 5 (.ptr 1 0 0 :: .nils :: .b false :: .ptr 7 0 0 :: .any :: .sl (Y2.map (cI .i64)) :: .f .f32 Y6 :: .f .f32 Y5 :: .b (ZM Y3 Y2 Y6 Y5) :: .b (!(ZM Y3 Y2 Y6 Y5)) :: .b (!(ZM Y3 Y2 Y6 Y5)) :: .i .i64 Yf :: .b (Zj Yf 0 40) :: .b (!(Zj Yf 0 40)) :: .b (!(Zj Yf 0 40)) :: .any :: .ptr 0 0 0 :: .agg [.own 2, .own 3, .own 4, .f .f32 Y3.Body.Film, .f .f32 Y3.Body.Bend, .own 5, .f .f32 Y3.Body.Fall.X, .f .f32 Y3.Body.Fall.Y, .f .f32 Y3.Body.Fall.Z] :: .any :: .ptr 0 0 9 :: .sl (Y3.Sd.map Gv.c) :: .own 6 :: .agg [.own 2, .own 3, .own 4, .f .f32 Y3.Body.Film, .f .f32 Y3.Body.Bend, .own 5, .f .f32 Y3.Body.Fall.X, .f .f32 Y3.Body.Fall.Y, .f .f32 Y3.Body.Fall.Z, .own 6] :: an 17 []),[.box 66 [.sl (Y3.Body.Me.Pq.map Gv.c), .sl (Y3.Body.Me.Tr.map (cL (cI .i64))), .sl (Y3.Body.Sp.map Gs.c), .f .f32 Y3.Body.Film, .f .f32 Y3.Body.Bend, .sl (Y3.Body.We.map (cF .f32)), .f .f32 Y3.Body.Fall.X, .f .f32 Y3.Body.Fall.Y, .f .f32 Y3.Body.Fall.Z, .sl (Y3.Sd.map Gv.c)], .box 66 [.nils, .nils, .nils, .f .f32 0, .f .f32 0, .nils, .f .f32 0, .f .f32 0, .f .f32 0, .nils], .vec 40 3 (Y3.Body.Me.Pq.map Gv.c) false, .nest 49 (Y3.Body.Me.Tr.map fun l => l.map (cI .i64)) false, .vec 133 4 (Y3.Body.Sp.map Gs.c) false, .vec 27 1 (Y3.Body.We.map (cF .f32)) false, .vec 40 3 (([]:List (List AV)) ++ (Y3.Sd.map Gv.c)) false, .box 66 [.own 2, .own 3, .own 4, .f .f32 Y3.Body.Film, .f .f32 Y3.Body.Bend, .own 5, .f .f32 Y3.Body.Fall.X, .f .f32 Y3.Body.Fall.Y, .f .f32 Y3.Body.Fall.Z, .own 6]]⟩) 6 [(0,28, .ptr 0 0 0),(1,29, .agg [.own 2, .own 3, .own 4, .f .f32 Y3.Body.Film, .f .f32 Y3.Body.Bend, .own 5, .f .f32 Y3.Body.Fall.X, .f .f32 Y3.Body.Fall.Y, .f .f32 Y3.Body.Fall.Z]),(2,30, .own 6),(3,31, .ptr 0 0 9),(4,32, .sl (Y3.Sd.map Gv.c)),(5,30, .any),(5,33, .own 6),(6,34, .agg [.own 2, .own 3, .own 4, .f .f32 Y3.Body.Film, .f .f32 Y3.Body.Bend, .own 5, .f .f32 Y3.Body.Fall.X, .f .f32 Y3.Body.Fall.Y, .f .f32 Y3.Body.Fall.Z, .own 6]),(7,15, .ptr 7 0 0)] [(1,2, .vec 40 3 (Y3.Body.Me.Pq.map Gv.c) false),(1,3, .nest 49 (Y3.Body.Me.Tr.map fun l => l.map (cI .i64)) false),(1,4, .vec 133 4 (Y3.Body.Sp.map Gs.c) false),(1,5, .vec 27 1 (Y3.Body.We.map (cF .f32)) false),(2,6, .vec 40 3 ([]:List (List AV)) true),(5,6, .vec 40 3 (([]:List (List AV)) ++ (Y3.Sd.map Gv.c)) false),(7,7, .box 66 [.nils, .nils, .nils, .f .f32 0, .f .f32 0, .nils, .f .f32 0, .f .f32 0, .f .f32 0, .nils]),(8,7, .box 66 [.own 2, .own 3, .own 4, .f .f32 Y3.Body.Film, .f .f32 Y3.Body.Bend, .own 5, .f .f32 Y3.Body.Fall.X, .f .f32 Y3.Body.Fall.Y, .f .f32 Y3.Body.Fall.Z, .own 6])] [2,2,6,7,7,7,7,7,8] [⟨_,_,sN⟩,⟨_,_,sF (Fn.sub (args:=[.ref (Gn.c Y3) 0]) (r := .agg [.own 0, .own 1, .own 2, .f .f32 Y3.Body.Film, .f .f32 Y3.Body.Bend, .own 3, .f .f32 Y3.Body.Fall.X, .f .f32 Y3.Body.Fall.Y, .f .f32 Y3.Body.Fall.Z]) (new:=[.vec 40 3 (Y3.Body.Me.Pq.map Gv.c) false, .nest 49 (Y3.Body.Me.Tr.map fun l => l.map (cI .i64)) false, .vec 133 4 (Y3.Body.Sp.map Gs.c) false, .vec 27 1 (Y3.Body.We.map (cF .f32)) false]) [some 9] (Zdy Y3.Body hp0 hp1 hp2 hp3 hp4)) <| sN⟩,⟨_,_,sN⟩,⟨_,_,sN⟩,⟨_,_,sN⟩,⟨_,_,sC (show ([]:List (List AV)).length + (Y3.Sd.map Gv.c).length≤1073741824 from (by simpa using y0)) <| sC (show (Y3.Sd.map Gv.c).all (fun cs => cs.length == 3 && cs.all isS)=true from (X1f (fun _ => rfl))) <| sN⟩,⟨_,_,sN⟩,⟨_,_,sN⟩,⟨_,_,sN⟩] [0,1,4,8,128,3,5,9,129,12,132,24,136,7,11,131,13,133,25,137,28,140,152,15,135,27,139,29,141,153,156,31,143,155,157,63,159,127,191,255,511] (by kernel_rfl) (by kernel_rfl) (by kernel_rfl) (by kernel_rfl)) <| sL Z8J 9 (Xj (st2:=⟨.agg [.sl (Y3.Body.Me.Pq.map Gv.c), .sl (Y3.Body.Me.Tr.map (cL (cI .i64))), .sl (Y3.Body.Sp.map Gs.c), .f .f32 Y3.Body.Film, .f .f32 Y3.Body.Bend, .sl (Y3.Body.We.map (cF .f32)), .f .f32 Y3.Body.Fall.X, .f .f32 Y3.Body.Fall.Y, .f .f32 Y3.Body.Fall.Z, .sl (Y3.Sd.map Gv.c)] :: .sl (Y2.map (cI .i64)) :: .f .f32 Y6 :: .f .f32 Y9 :: .f .f32 Y5 :: .i .i64 Yf :: .ptr 0 0 0 :: an 5 (.ptr 1 0 0 :: .nils :: .b false :: .ptr 7 0 0 :: .own 8 :: .sl (Y2.map (cI .i64)) :: .f .f32 Y6 :: .f .f32 Y5 :: .b (ZM Y3 Y2 Y6 Y5) :: .b (!(ZM Y3 Y2 Y6 Y5)) :: .b (!(ZM Y3 Y2 Y6 Y5)) :: .i .i64 Yf :: .b (Zj Yf 0 40) :: .b (!(Zj Yf 0 40)) :: .b (!(Zj Yf 0 40)) :: .any :: .ptr 0 0 0 :: .any :: .any :: .ptr 0 0 9 :: .sl (Y3.Sd.map Gv.c) :: an 19 []),[.box 66 [.sl (Y3.Body.Me.Pq.map Gv.c), .sl (Y3.Body.Me.Tr.map (cL (cI .i64))), .sl (Y3.Body.Sp.map Gs.c), .f .f32 Y3.Body.Film, .f .f32 Y3.Body.Bend, .sl (Y3.Body.We.map (cF .f32)), .f .f32 Y3.Body.Fall.X, .f .f32 Y3.Body.Fall.Y, .f .f32 Y3.Body.Fall.Z, .sl (Y3.Sd.map Gv.c)], .box 66 [.nils, .nils, .nils, .f .f32 0, .f .f32 0, .nils, .f .f32 0, .f .f32 0, .f .f32 0, .nils], .vec 40 3 (Y3.Body.Me.Pq.map Gv.c) false, .nest 49 (Y3.Body.Me.Tr.map fun l => l.map (cI .i64)) false, .vec 133 4 (Y3.Body.Sp.map Gs.c) false, .vec 27 1 (Y3.Body.We.map (cF .f32)) false, .vec 40 3 (([]:List (List AV)) ++ (Y3.Sd.map Gv.c)) false, .box 66 [.own 2, .own 3, .own 4, .f .f32 Y3.Body.Film, .f .f32 Y3.Body.Bend, .own 5, .f .f32 Y3.Body.Fall.X, .f .f32 Y3.Body.Fall.Y, .f .f32 Y3.Body.Fall.Z, .own 6], .vec 27 1 ([]:List (List AV)) false]⟩) (X1 (Z71 Y3 Y2 Y6 Y9 Y5 Yf) (x:=(Zv Y3 Y2 Y6 Y9 Y5 Yf)) (ZdQ Y3 Y2 Y6 Y9 Y5 Yf hp0 hp1 hp2 hp3 hp4 hp5 hp6 h1 h0 (Yf.toNat + 1) Yf Y3.Body.Me.Pq Y3.Body.Me.Tr Y3.Body.Sp Y3.Body.We (([]:List Gv) ++ Y3.Sd) Y3.Body.Film Y3.Body.Bend Y3.Body.Fall.X Y3.Body.Fall.Y Y3.Body.Fall.Z ([]:List Nat) (show 0≤Yf from (by have w:=in40 (n:=Yf) (by assumption); omega)) (show Z4P Y3 (⟨(⟨(⟨Y3.Body.Me.Pq,Y3.Body.Me.Tr⟩:Gm),Y3.Body.Sp,Y3.Body.Film,Y3.Body.Bend,Y3.Body.We,(⟨Y3.Body.Fall.X,Y3.Body.Fall.Y,Y3.Body.Fall.Z⟩:Gv)⟩:Gb),(([]:List Gv) ++ Y3.Sd)⟩:Gn) from (by exact ⟨⟨rfl,rfl,rfl,rfl⟩,rfl⟩)) (show (([]:List Nat).length:Int) + Yf≤Yf from (by have w:=in40 (n:=Yf) (by assumption); (simp; done))) (Nat.lt_succ_self _)) rfl) (by simp [Z72,Gv.c,cF])) <| sK [4,5,6,7,8,3] sN)) rfl (by kernel_rfl) (by kernel_rfl) rfl ?_ ?_
   · simp only [Z7,h0,h1,cond_true]
   · simp [Z7,h0,h1]
  | false =>
   refine fnS E0Ok Z4 (c:=X0 f45) [(.row 1 0, .vec 40 3 [] false),(.row 1 1, .nest 49 [] false),(.row 1 2, .vec 133 4 [] false),(.row 1 5, .vec 27 1 [] false),(.row 1 9, .vec 40 3 [] false),(.tm 13, .vec 27 1 [] false)] (.tup [.agg [.own 0, .own 1, .own 2, .f .f32 0, .f .f32 0, .own 3, .f .f32 0, .f .f32 0, .f .f32 0, .own 4], .own 5, .b false]) [.vec 40 3 [] false, .nest 49 [] false, .vec 133 4 [] false, .vec 27 1 [] false, .vec 40 3 [] false, .vec 27 1 [] false] func45 (q (sB' h1 <| sK [2,3,4,5,6,7] sN)) rfl (by kernel_rfl) (by kernel_rfl) rfl ?_ ?_
   · simp only [Z7,h0,h1,cond_true,cond_false]
   · simp [Z7,h0,h1,Gv.c,cL,cI,Gs.c,cF]
 | false =>
  refine fnS E0Ok Z4 (c:=X0 f45) [(.row 1 0, .vec 40 3 [] false),(.row 1 1, .nest 49 [] false),(.row 1 2, .vec 133 4 [] false),(.row 1 5, .vec 27 1 [] false),(.row 1 9, .vec 40 3 [] false),(.tm 13, .vec 27 1 [] false)] (.tup [.agg [.own 0, .own 1, .own 2, .f .f32 0, .f .f32 0, .own 3, .f .f32 0, .f .f32 0, .f .f32 0, .own 4], .own 5, .b false]) [.vec 40 3 [] false, .nest 49 [] false, .vec 133 4 [] false, .vec 27 1 [] false, .vec 40 3 [] false, .vec 27 1 [] false] func45 (p (sB' h0 <| sB' h0 <| sB' h0 <| sB' h0 <| sB (show true=true from rfl) <| sK [2,3,4,5,6,7] sN)) rfl (by kernel_rfl) (by kernel_rfl) rfl ?_ ?_
  · simp only [Z7,h0,cond_false]
  · simp [Z7,h0,Gv.c,cL,cI,Gs.c,cF]
def Zs (n_0:Int) (YX:Int) (YO:Int):Bool:=(cond (decide (n_0 ≥ YX))
  (decide (n_0≤YO))
  false)
theorem Z6A (n_0:Int) (YX:Int) (YO:Int)   : Fn prog 83 [.i .i64 n_0, .i .i64 YX, .i .i64 YO] (.b (Zs n_0 YX YO)) []:=by
 cases h0:(decide (n_0 ≥ YX)) with
 | true =>
  have gh0:=odt h0
  refine fnS E0Ok Z4 (c:=X0 f83) [] (.b (decide (n_0≤YO))) [] func83 (sB h0 <| sB h0 <| sB h0 <| sB h0 <| sK [] sN) rfl (by kernel_rfl) (by kernel_rfl) rfl ?_ ?_
  · simp only [Zs,h0,cond_true]
  · rfl
 | false =>
  have gh0:=odf h0
  refine fnS E0Ok Z4 (c:=X0 f83) [] (.b false) [] func83 (sB h0 <| sB h0 <| sB h0 <| sB h0 <| sK [] sN) rfl (by kernel_rfl) (by kernel_rfl) rfl ?_ ?_
  · simp only [Zs,h0,cond_false]
  · rfl
def Z2j (Y3:Gm) (Y1:Int):Nat→Int→(Unit) ⊕ (Unit)
  | 0,_ => .inl default
  | k + 1,Y8 => (cond (decide (Y8 < ((Y3.Tr.getD Y1.toNat default).length:Int)))
    (cond (Zs ((Y3.Tr.getD Y1.toNat default).getD Y8.toNat default) 0 (IntKind.wrap .i64 ((Y3.Pq.length:Int) - 1)))
      (Z2j Y3 Y1 k (Y8 + 1))
      (.inl ()))
    (.inr ()))
def Z5D (Y3:Gm) (Y1:Int):(Unit) ⊕ (Unit)→Ex × St
  | .inl r => (.ret,⟨.any :: .any :: .b false :: an 66 [],[]⟩)
  | .inr r => ((.exit 2),⟨.agg [.sl (Y3.Pq.map Gv.c), .sl (Y3.Tr.map (cL (cI .i64)))] :: .ptr 0 0 0 :: .any :: .i .i64 (Y3.Pq.length:Int) :: .any :: .sl ((Y3.Tr.getD Y1.toNat default).map (cI .i64)) :: .any :: .any :: .ptr 0 0 0 :: .sl (Y3.Pq.map Gv.c) :: .i .i64 (Y3.Pq.length:Int) :: .i .i64 (Y3.Pq.length:Int) :: .b (decide ((Y3.Pq.length:Int) > 64)) :: .b (decide ((Y3.Pq.length:Int) > 64)) :: .ptr 0 0 1 :: .sl (Y3.Tr.map (cL (cI .i64))) :: .i .i64 (Y3.Tr.length:Int) :: .b (decide ((Y3.Tr.length:Int) > 128)) :: .b (decide ((Y3.Tr.length:Int) > 128)) :: .ptr 0 0 1 :: .sl (Y3.Tr.map (cL (cI .i64))) :: .i .i64 (Y3.Tr.length:Int) :: .i .i64 Y1 :: .b (decide (Y1 < (Y3.Tr.length:Int))) :: .ref [.sl ((Y3.Tr.getD Y1.toNat default).map (cI .i64))] 0 :: .sl ((Y3.Tr.getD Y1.toNat default).map (cI .i64)) :: .sl ((Y3.Tr.getD Y1.toNat default).map (cI .i64)) :: .i .i64 ((Y3.Tr.getD Y1.toNat default).length:Int) :: .b (((Y3.Tr.getD Y1.toNat default).length:Int) != 3) :: .b (((Y3.Tr.getD Y1.toNat default).length:Int) != 3) :: .sl ((Y3.Tr.getD Y1.toNat default).map (cI .i64)) :: .ref [.i .i64 ((Y3.Tr.getD Y1.toNat default).getD 0 default)] 0 :: .i .i64 ((Y3.Tr.getD Y1.toNat default).getD 0 default) :: .sl ((Y3.Tr.getD Y1.toNat default).map (cI .i64)) :: .ref [.i .i64 ((Y3.Tr.getD Y1.toNat default).getD 1 default)] 0 :: .i .i64 ((Y3.Tr.getD Y1.toNat default).getD 1 default) :: .b (((Y3.Tr.getD Y1.toNat default).getD 0 default) == ((Y3.Tr.getD Y1.toNat default).getD 1 default)) :: .b (((Y3.Tr.getD Y1.toNat default).getD 0 default) == ((Y3.Tr.getD Y1.toNat default).getD 1 default)) :: .b (((Y3.Tr.getD Y1.toNat default).getD 0 default) == ((Y3.Tr.getD Y1.toNat default).getD 1 default)) :: .sl ((Y3.Tr.getD Y1.toNat default).map (cI .i64)) :: .ref [.i .i64 ((Y3.Tr.getD Y1.toNat default).getD 1 default)] 0 :: .i .i64 ((Y3.Tr.getD Y1.toNat default).getD 1 default) :: .sl ((Y3.Tr.getD Y1.toNat default).map (cI .i64)) :: .ref [.i .i64 ((Y3.Tr.getD Y1.toNat default).getD 2 default)] 0 :: .i .i64 ((Y3.Tr.getD Y1.toNat default).getD 2 default) :: .b (((Y3.Tr.getD Y1.toNat default).getD 1 default) == ((Y3.Tr.getD Y1.toNat default).getD 2 default)) :: .b (((Y3.Tr.getD Y1.toNat default).getD 1 default) == ((Y3.Tr.getD Y1.toNat default).getD 2 default)) :: .b (((Y3.Tr.getD Y1.toNat default).getD 1 default) == ((Y3.Tr.getD Y1.toNat default).getD 2 default)) :: .sl ((Y3.Tr.getD Y1.toNat default).map (cI .i64)) :: .ref [.i .i64 ((Y3.Tr.getD Y1.toNat default).getD 0 default)] 0 :: .i .i64 ((Y3.Tr.getD Y1.toNat default).getD 0 default) :: .sl ((Y3.Tr.getD Y1.toNat default).map (cI .i64)) :: .ref [.i .i64 ((Y3.Tr.getD Y1.toNat default).getD 2 default)] 0 :: .i .i64 ((Y3.Tr.getD Y1.toNat default).getD 2 default) :: .b (((Y3.Tr.getD Y1.toNat default).getD 0 default) == ((Y3.Tr.getD Y1.toNat default).getD 2 default)) :: .b (((Y3.Tr.getD Y1.toNat default).getD 0 default) == ((Y3.Tr.getD Y1.toNat default).getD 2 default)) :: .sl ((Y3.Tr.getD Y1.toNat default).map (cI .i64)) :: .i .i64 ((Y3.Tr.getD Y1.toNat default).length:Int) :: an 11 [],[.box 38 [.sl (Y3.Pq.map Gv.c), .sl (Y3.Tr.map (cL (cI .i64)))]]⟩)
def ZdR (Y3:Gm) (Y1:Int) (Y8:Int):St:=⟨.agg [.sl (Y3.Pq.map Gv.c), .sl (Y3.Tr.map (cL (cI .i64)))] :: .ptr 0 0 0 :: .any :: .i .i64 (Y3.Pq.length:Int) :: .any :: .sl ((Y3.Tr.getD Y1.toNat default).map (cI .i64)) :: .any :: .any :: .ptr 0 0 0 :: .sl (Y3.Pq.map Gv.c) :: .i .i64 (Y3.Pq.length:Int) :: .i .i64 (Y3.Pq.length:Int) :: .b (decide ((Y3.Pq.length:Int) > 64)) :: .b (decide ((Y3.Pq.length:Int) > 64)) :: .ptr 0 0 1 :: .sl (Y3.Tr.map (cL (cI .i64))) :: .i .i64 (Y3.Tr.length:Int) :: .b (decide ((Y3.Tr.length:Int) > 128)) :: .b (decide ((Y3.Tr.length:Int) > 128)) :: .ptr 0 0 1 :: .sl (Y3.Tr.map (cL (cI .i64))) :: .i .i64 (Y3.Tr.length:Int) :: .i .i64 Y1 :: .b (decide (Y1 < (Y3.Tr.length:Int))) :: .ref [.sl ((Y3.Tr.getD Y1.toNat default).map (cI .i64))] 0 :: .sl ((Y3.Tr.getD Y1.toNat default).map (cI .i64)) :: .sl ((Y3.Tr.getD Y1.toNat default).map (cI .i64)) :: .i .i64 ((Y3.Tr.getD Y1.toNat default).length:Int) :: .b (((Y3.Tr.getD Y1.toNat default).length:Int) != 3) :: .b (((Y3.Tr.getD Y1.toNat default).length:Int) != 3) :: .sl ((Y3.Tr.getD Y1.toNat default).map (cI .i64)) :: .ref [.i .i64 ((Y3.Tr.getD Y1.toNat default).getD 0 default)] 0 :: .i .i64 ((Y3.Tr.getD Y1.toNat default).getD 0 default) :: .sl ((Y3.Tr.getD Y1.toNat default).map (cI .i64)) :: .ref [.i .i64 ((Y3.Tr.getD Y1.toNat default).getD 1 default)] 0 :: .i .i64 ((Y3.Tr.getD Y1.toNat default).getD 1 default) :: .b (((Y3.Tr.getD Y1.toNat default).getD 0 default) == ((Y3.Tr.getD Y1.toNat default).getD 1 default)) :: .b (((Y3.Tr.getD Y1.toNat default).getD 0 default) == ((Y3.Tr.getD Y1.toNat default).getD 1 default)) :: .b (((Y3.Tr.getD Y1.toNat default).getD 0 default) == ((Y3.Tr.getD Y1.toNat default).getD 1 default)) :: .sl ((Y3.Tr.getD Y1.toNat default).map (cI .i64)) :: .ref [.i .i64 ((Y3.Tr.getD Y1.toNat default).getD 1 default)] 0 :: .i .i64 ((Y3.Tr.getD Y1.toNat default).getD 1 default) :: .sl ((Y3.Tr.getD Y1.toNat default).map (cI .i64)) :: .ref [.i .i64 ((Y3.Tr.getD Y1.toNat default).getD 2 default)] 0 :: .i .i64 ((Y3.Tr.getD Y1.toNat default).getD 2 default) :: .b (((Y3.Tr.getD Y1.toNat default).getD 1 default) == ((Y3.Tr.getD Y1.toNat default).getD 2 default)) :: .b (((Y3.Tr.getD Y1.toNat default).getD 1 default) == ((Y3.Tr.getD Y1.toNat default).getD 2 default)) :: .b (((Y3.Tr.getD Y1.toNat default).getD 1 default) == ((Y3.Tr.getD Y1.toNat default).getD 2 default)) :: .sl ((Y3.Tr.getD Y1.toNat default).map (cI .i64)) :: .ref [.i .i64 ((Y3.Tr.getD Y1.toNat default).getD 0 default)] 0 :: .i .i64 ((Y3.Tr.getD Y1.toNat default).getD 0 default) :: .sl ((Y3.Tr.getD Y1.toNat default).map (cI .i64)) :: .ref [.i .i64 ((Y3.Tr.getD Y1.toNat default).getD 2 default)] 0 :: .i .i64 ((Y3.Tr.getD Y1.toNat default).getD 2 default) :: .b (((Y3.Tr.getD Y1.toNat default).getD 0 default) == ((Y3.Tr.getD Y1.toNat default).getD 2 default)) :: .b (((Y3.Tr.getD Y1.toNat default).getD 0 default) == ((Y3.Tr.getD Y1.toNat default).getD 2 default)) :: .sl ((Y3.Tr.getD Y1.toNat default).map (cI .i64)) :: .i .i64 ((Y3.Tr.getD Y1.toNat default).length:Int) :: .i .i64 Y8 :: an 10 [],[.box 38 [.sl (Y3.Pq.map Gv.c), .sl (Y3.Tr.map (cL (cI .i64)))]]⟩
def Z60:List Bool:=(mR false [0,2,1,1,1,1,2,51,10])
def ZcJ:List Bool:=(mR false [0,2,1,1,1,1,2,50,11])
theorem Z9X (Y3:Gm) (Y1:Int) (hp0:Y3.Pq.length≤1073741824) (hp1:Y3.Tr.length≤1073741824) (hp2:∀ t∈Y3.Tr,t.length≤1073741824) (Z4t:(decide ((Y3.Pq.length:Int) > 64))=false) (Z4u:(decide ((Y3.Tr.length:Int) > 128))=false) (Z4v:0≤Y1) (ZhU:(((Y3.Tr.getD Y1.toNat default).length:Int) != 3)=false) (ZhV:(decide ((Y3.Pq.length:Int) > 64))=false) (ZhW:(decide ((Y3.Tr.length:Int) > 128))=false) (ZhX:(decide (Y1 < (Y3.Tr.length:Int)))=true):∀ (k:Nat) (Y8:Int) (Z8N:0≤Y8) (hk:(((Y3.Tr.getD Y1.toNat default).length:Int) - Y8).toNat < k),Lp prog 0 (sub (X0 f105) [1,1,1,0,1,0,0,1,1,0,0,1,1,1,0,0]) (ZdR Y3 Y1 Y8) (Z5D Y3 Y1 (Z2j Y3 Y1 k Y8)).1 (Z5D Y3 Y1 (Z2j Y3 Y1 k Y8)).2:=by
 intro k
 induction k with
 | zero => intro Y8 Z8N hk; exact absurd hk (Nat.not_lt_zero _)
 | succ k ih =>
  intro Y8 Z8N hk
  cases YW:(decide (Y8 < ((Y3.Tr.getD Y1.toNat default).length:Int))) with
  | true =>
   have YU:=odt YW
   have Y1d:(0:Int)≤Y8:=(by assumption)
   have Y1e:Y8 < ((Y3.Tr.getD Y1.toNat default).length:Int):=(by assumption)
   have p {a C} (s:Scr a C):=sB YW <| sG (cI .i64) (Y3.Tr.getD Y1.toNat default) Y8 Y1d Y1e <| sW .i64 ((Y3.Pq.length:Int) - 1) <| sF (Z6A ((Y3.Tr.getD Y1.toNat default).getD Y8.toNat default) 0 (IntKind.wrap .i64 ((Y3.Pq.length:Int) - 1))) <| s
   cases Y17:(Zs ((Y3.Tr.getD Y1.toNat default).getD Y8.toNat default) 0 (IntKind.wrap .i64 ((Y3.Pq.length:Int) - 1))) with
   | true =>
    have Y1b:(-9223372036854775808:Int)≤(Y8 + 1):=by clear p; exact (by omega)
    have Y18:(Y8 + 1)≤(9223372036854775807:Int):=by clear p; exact (by simp_all <;> omega)
    have e:Z2j Y3 Y1 (k + 1) Y8=(Z2j Y3 Y1 k (Y8 + 1)):=by simp only [Z2j,YW,Y17,cond_true]
    rw [e]
    exact X9 E0Ok Z4 [] Z60 [0] (ih (Y8 + 1) (show 0≤(Y8 + 1) from (by omega)) (by omega)) (p (sB' Y17 <| sI (Y8 + 1) Y1b Y18 <| sN)) (by kernel_rfl)
   | false =>
    have e:Z2j Y3 Y1 (k + 1) Y8=(.inl ()):=by simp only [Z2j,YW,Y17,cond_true,cond_false]
    rw [e]
    exact outR (e := .ret) E0Ok Z4 [] (mR false [2,1,66]) [] (p (sB' Y17 <| sN)) (by kernel_rfl) (by intro h; cases h)
  | false =>
   have YU:=odf YW
   have e:Z2j Y3 Y1 (k + 1) Y8=(.inr ()):=by simp only [Z2j,YW,cond_false]
   rw [e]
   exact outR (e:=(.exit 2)) E0Ok Z4 [] ZcJ [0] (sB YW <| sN) (by kernel_rfl) (by intro h; cases h)
def Z41 (Y3:Gm) (Y1:Int):(Unit) ⊕ (Unit):=(Z2j Y3 Y1 ((((Y3.Tr.getD Y1.toNat default).length:Int) - 0).toNat + 1) 0)
def ZH (Y3:Gm):Nat→Int→(Unit) ⊕ (Unit)
  | 0,_ => .inl default
  | k + 1,Y1 => (cond (decide (Y1 < (Y3.Tr.length:Int)))
    (cond (((Y3.Tr.getD Y1.toNat default).length:Int) != 3)
      (.inl ())
      (cond (((Y3.Tr.getD Y1.toNat default).getD 0 default) == ((Y3.Tr.getD Y1.toNat default).getD 1 default))
        (.inl ())
        (cond (((Y3.Tr.getD Y1.toNat default).getD 1 default) == ((Y3.Tr.getD Y1.toNat default).getD 2 default))
          (.inl ())
          (cond (((Y3.Tr.getD Y1.toNat default).getD 0 default) == ((Y3.Tr.getD Y1.toNat default).getD 2 default))
            (.inl ())
            (match (Z41 Y3 Y1) with
              | .inl r_6 => (.inl ())
              | .inr r_6 => (ZH Y3 k (Y1 + 1)))))))
    (.inr ()))
def Z5E (Y3:Gm):(Unit) ⊕ (Unit)→Ex × St
  | .inl r => (.ret,⟨.any :: .any :: .b false :: an 66 [],[]⟩)
  | .inr r => ((.exit 0),⟨.agg [.sl (Y3.Pq.map Gv.c), .sl (Y3.Tr.map (cL (cI .i64)))] :: .ptr 0 0 0 :: .any :: .i .i64 (Y3.Pq.length:Int) :: an 4 (.ptr 0 0 0 :: .sl (Y3.Pq.map Gv.c) :: .i .i64 (Y3.Pq.length:Int) :: .i .i64 (Y3.Pq.length:Int) :: .b (decide ((Y3.Pq.length:Int) > 64)) :: .b (decide ((Y3.Pq.length:Int) > 64)) :: .ptr 0 0 1 :: .sl (Y3.Tr.map (cL (cI .i64))) :: .i .i64 (Y3.Tr.length:Int) :: .b (decide ((Y3.Tr.length:Int) > 128)) :: .b (decide ((Y3.Tr.length:Int) > 128)) :: .ptr 0 0 1 :: .sl (Y3.Tr.map (cL (cI .i64))) :: an 48 []),[.box 38 [.sl (Y3.Pq.map Gv.c), .sl (Y3.Tr.map (cL (cI .i64)))]]⟩)
def ZdS (Y3:Gm) (Y1:Int):St:=⟨.agg [.sl (Y3.Pq.map Gv.c), .sl (Y3.Tr.map (cL (cI .i64)))] :: .ptr 0 0 0 :: .any :: .i .i64 (Y3.Pq.length:Int) :: an 4 (.ptr 0 0 0 :: .sl (Y3.Pq.map Gv.c) :: .i .i64 (Y3.Pq.length:Int) :: .i .i64 (Y3.Pq.length:Int) :: .b (decide ((Y3.Pq.length:Int) > 64)) :: .b (decide ((Y3.Pq.length:Int) > 64)) :: .ptr 0 0 1 :: .sl (Y3.Tr.map (cL (cI .i64))) :: .i .i64 (Y3.Tr.length:Int) :: .b (decide ((Y3.Tr.length:Int) > 128)) :: .b (decide ((Y3.Tr.length:Int) > 128)) :: .ptr 0 0 1 :: .sl (Y3.Tr.map (cL (cI .i64))) :: .i .i64 (Y3.Tr.length:Int) :: .i .i64 Y1 :: an 46 []),[.box 38 [.sl (Y3.Pq.map Gv.c), .sl (Y3.Tr.map (cL (cI .i64)))]]⟩
theorem Z9Y (Y3:Gm) (hp0:Y3.Pq.length≤1073741824) (hp1:Y3.Tr.length≤1073741824) (hp2:∀ t∈Y3.Tr,t.length≤1073741824) (Z4t:(decide ((Y3.Pq.length:Int) > 64))=false) (Z4u:(decide ((Y3.Tr.length:Int) > 128))=false):∀ (k:Nat) (Y1:Int) (Z4v:0≤Y1) (hk:((Y3.Tr.length:Int) - Y1).toNat < k),Lp prog 0 (sub (X0 f105) [1,1,1,0,1,0,0]) (ZdS Y3 Y1) (Z5E Y3 (ZH Y3 k Y1)).1 (Z5E Y3 (ZH Y3 k Y1)).2:=by
 intro k
 induction k with
 | zero => intro Y1 Z4v hk; exact absurd hk (Nat.not_lt_zero _)
 | succ k ih =>
  intro Y1 Z4v hk
  cases Yn:(decide (Y1 < (Y3.Tr.length:Int))) with
  | true =>
   have YM:=odt Yn
   have YS:(0:Int)≤Y1:=(by assumption)
   have YT:Y1 < (Y3.Tr.length:Int):=(by assumption)
   have p {a C} (s:Scr a C):=sB Yn <| sG (cL (cI .i64)) Y3.Tr Y1 YS YT <| sK [28,28] <| sZ (cI .i64) (Y3.Tr.getD Y1.toNat default) <| s
   cases YL:(((Y3.Tr.getD Y1.toNat default).length:Int) != 3) with
   | true =>
    have Y1a:=bne_iff_ne.1 YL
    have e:ZH Y3 (k + 1) Y1=(.inl ()):=by simp only [ZH,Yn,YL,cond_true]
    rw [e]
    exact outR (e := .ret) E0Ok Z4 [] (mR false [2,1,66]) [] (p (sB YL <| sB YL <| sB YL <| sB YL <| sB YL <| sB YL <| sB YL <| sB YL <| sB (show true=true from rfl) <| sB (show true=true from rfl) <| sB (show true=true from rfl) <| sB (show true=true from rfl) <| sB (show true=true from rfl) <| sB (show true=true from rfl) <| sB (show true=true from rfl) <| sB (show true=true from rfl) <| sB (show true=true from rfl) <| sB (show true=true from rfl) <| sB (show true=true from rfl) <| sB (show true=true from rfl) <| sB (show true=true from rfl) <| sB (show true=true from rfl) <| sB (show true=true from rfl) <| sB (show true=true from rfl) <| sB (show true=true from rfl) <| sN)) (by kernel_rfl) (by intro h; cases h)
   | false =>
    have Y1a:=bne_eq_false_iff_eq.1 YL
    have YY:(0:Int)≤0:=by clear p; exact (by omega)
    have YZ:0 < ((Y3.Tr.getD Y1.toNat default).length:Int):=by clear p; exact (by omega)
    have y_4:(0:Int)≤1:=by clear p; exact (by omega)
    have y_5:1 < ((Y3.Tr.getD Y1.toNat default).length:Int):=by clear p; exact (by omega)
    have q {a C} (s:Scr a C):=p (sB YL <| sB YL <| sG (cI .i64) (Y3.Tr.getD Y1.toNat default) 0 YY YZ <| sB YL <| sB YL <| sB YL <| sG (cI .i64) (Y3.Tr.getD Y1.toNat default) 1 y_4 y_5 <| sB YL <| sB YL <| sB YL <| s)
    clear p
    cases h_2:(((Y3.Tr.getD Y1.toNat default).getD 0 default) == ((Y3.Tr.getD Y1.toNat default).getD 1 default)) with
    | true =>
     have Y1p:=eq_of_beq h_2
     have e:ZH Y3 (k + 1) Y1=(.inl ()):=by simp only [ZH,Yn,YL,h_2,cond_true,cond_false]
     rw [e]
     exact outR (e := .ret) E0Ok Z4 [] (mR false [2,1,66]) [] (q (sB h_2 <| sB h_2 <| sB h_2 <| sB h_2 <| sB h_2 <| sB h_2 <| sB h_2 <| sB h_2 <| sB (show true=true from rfl) <| sB (show true=true from rfl) <| sB (show true=true from rfl) <| sB (show true=true from rfl) <| sB (show true=true from rfl) <| sB (show true=true from rfl) <| sB (show true=true from rfl) <| sB (show true=true from rfl) <| sB (show true=true from rfl) <| sN)) (by kernel_rfl) (by intro h; cases h)
    | false =>
     have Y1p:=ne_of_beq_false h_2
     have y_6:(0:Int)≤2:=by clear q; exact (by omega)
     have y_7:2 < ((Y3.Tr.getD Y1.toNat default).length:Int):=by clear q; exact (by omega)
     have p {a C} (s:Scr a C):=q (sB h_2 <| sB h_2 <| sG (cI .i64) (Y3.Tr.getD Y1.toNat default) 1 y_4 y_5 <| sB h_2 <| sB h_2 <| sB h_2 <| sG (cI .i64) (Y3.Tr.getD Y1.toNat default) 2 y_6 y_7 <| sB h_2 <| sB h_2 <| sB h_2 <| s)
     clear q
     cases h_3:(((Y3.Tr.getD Y1.toNat default).getD 1 default) == ((Y3.Tr.getD Y1.toNat default).getD 2 default)) with
     | true =>
      have Y1G:=eq_of_beq h_3
      have e:ZH Y3 (k + 1) Y1=(.inl ()):=by simp only [ZH,Yn,YL,h_2,h_3,cond_true,cond_false]
      rw [e]
      exact outR (e := .ret) E0Ok Z4 [] (mR false [2,1,66]) [] (p (sB h_3 <| sB h_3 <| sB h_3 <| sB h_3 <| sB h_3 <| sB h_3 <| sB h_3 <| sB h_3 <| sB (show true=true from rfl) <| sN)) (by kernel_rfl) (by intro h; cases h)
     | false =>
      have Y1G:=ne_of_beq_false h_3
      have q {a C} (s:Scr a C):=p (sB h_3 <| sB h_3 <| sG (cI .i64) (Y3.Tr.getD Y1.toNat default) 0 YY YZ <| sB h_3 <| sB h_3 <| sB h_3 <| sG (cI .i64) (Y3.Tr.getD Y1.toNat default) 2 y_6 y_7 <| sB h_3 <| sB h_3 <| sB h_3 <| s)
      clear p
      cases h_4:(((Y3.Tr.getD Y1.toNat default).getD 0 default) == ((Y3.Tr.getD Y1.toNat default).getD 2 default)) with
      | true =>
       have gh_4:=eq_of_beq h_4
       have e:ZH Y3 (k + 1) Y1=(.inl ()):=by simp only [ZH,Yn,YL,h_2,h_3,h_4,cond_true,cond_false]
       rw [e]
       exact outR (e := .ret) E0Ok Z4 [] (mR false [2,1,66]) [] (q (sB h_4 <| sN)) (by kernel_rfl) (by intro h; cases h)
      | false =>
       have gh_4:=ne_of_beq_false h_4
       have p {a C} (s:Scr a C):=q (sB h_4 <| sZ (cI .i64) (Y3.Tr.getD Y1.toNat default) <| s)
       clear q
       cases h_5:(Z41 Y3 Y1) with
       | inl r_6 =>
        have e:ZH Y3 (k + 1) Y1=(.inl ()):=by simp only [ZH,Yn,YL,h_2,h_3,h_4,h_5,cond_true,cond_false]
        rw [e]
        exact outR (e := .ret) E0Ok Z4 [] (mR false [2,1,66]) [] (p (sL Z60 1 (X1 (Z5D Y3 Y1) (x:=(Z41 Y3 Y1)) (Z9X Y3 Y1 hp0 hp1 hp2 Z4t Z4u Z4v YL Z4t Z4u Yn ((((Y3.Tr.getD Y1.toNat default).length:Int) - 0).toNat + 1) 0 (show 0≤0 from (by assumption)) (Nat.lt_succ_self _)) h_5) <| sN)) (by kernel_rfl) (by intro h; cases h)
       | inr r_6 =>
        have y_8:(-9223372036854775808:Int)≤(Y1 + 1):=by clear p; exact (by omega)
        have y_9:(Y1 + 1)≤(9223372036854775807:Int):=by clear p; exact (by omega)
        have e:ZH Y3 (k + 1) Y1=(ZH Y3 k (Y1 + 1)):=by simp only [ZH,Yn,YL,h_2,h_3,h_4,h_5,cond_true,cond_false]
        rw [e]
        exact X9 E0Ok Z4 [] (mR false [0,2,1,1,4,15,46]) [0] (ih (Y1 + 1) (show 0≤(Y1 + 1) from (by omega)) (by omega)) (p (sL Z60 1 (X1 (Z5D Y3 Y1) (x:=(Z41 Y3 Y1)) (Z9X Y3 Y1 hp0 hp1 hp2 Z4t Z4u Z4v YL Z4t Z4u Yn ((((Y3.Tr.getD Y1.toNat default).length:Int) - 0).toNat + 1) 0 (show 0≤0 from (by assumption)) (Nat.lt_succ_self _)) h_5) <| sI (Y1 + 1) y_8 y_9 <| sN)) (by kernel_rfl)
  | false =>
   have YM:=odf Yn
   have e:ZH Y3 (k + 1) Y1=(.inr ()):=by simp only [ZH,Yn,cond_false]
   rw [e]
   exact outR (e:=(.exit 0)) E0Ok Z4 [] (mR false [0,2,1,1,4,13,48]) [0] (sB Yn <| sN) (by kernel_rfl) (by intro h; cases h)
def Z4w (Y3:Gm):(Unit) ⊕ (Unit):=(ZH Y3 (((Y3.Tr.length:Int) - 0).toNat + 1) 0)
def Z21 (Y3:Gm):Bool:=(cond (decide ((Y3.Pq.length:Int) > 64))
  false
  (cond (decide ((Y3.Tr.length:Int) > 128))
    false
    (match (Z4w Y3) with
      | .inl r3 => false
      | .inr r3 => true)))
theorem ZfI (Y3:Gm) (hp0:Y3.Pq.length≤1073741824) (hp1:Y3.Tr.length≤1073741824) (hp2:∀ t∈Y3.Tr,t.length≤1073741824)  : Fn prog 105 [.agg [.sl (Y3.Pq.map Gv.c), .sl (Y3.Tr.map (cL (cI .i64)))]] (.b (Z21 Y3)) []:=by
 have p {a C} (s:Scr a C):=sZ Gv.c Y3.Pq <| s
 cases h0:(decide ((Y3.Pq.length:Int) > 64)) with
 | true =>
  have gh0:=odt h0
  refine fnS E0Ok Z4 (c:=X0 f105) [] (.b false) [] func105 (p (sB h0 <| sB h0 <| sB h0 <| sB h0 <| sB h0 <| sB (show true=true from rfl) <| sK [] sN)) rfl (by kernel_rfl) (by kernel_rfl) rfl ?_ ?_
  · simp only [Z21,h0,cond_true]
  · rfl
 | false =>
  have gh0:=odf h0
  have q {a C} (s:Scr a C):=p (sB h0 <| sB h0 <| sB h0 <| sZ (cL (cI .i64)) Y3.Tr <| sB h0 <| sB h0 <| s)
  clear p
  cases h1:(decide ((Y3.Tr.length:Int) > 128)) with
  | true =>
   have gh1:=odt h1
   refine fnS E0Ok Z4 (c:=X0 f105) [] (.b false) [] func105 (q (sB h1 <| sK [] sN)) rfl (by kernel_rfl) (by kernel_rfl) rfl ?_ ?_
   · simp only [Z21,h0,h1,cond_true,cond_false]
   · rfl
  | false =>
   have gh1:=odf h1
   have p {a C} (s:Scr a C):=q (sB h1 <| sZ (cL (cI .i64)) Y3.Tr <| s)
   clear q
   cases h2:(Z4w Y3) with
   | inl r3 =>
    refine fnS E0Ok Z4 (c:=X0 f105) [] (.b false) [] func105 (p (sL (mR false [0,2,1,1,4,15,46]) 1 (X1 (Z5E Y3) (x:=(Z4w Y3)) (Z9Y Y3 hp0 hp1 hp2 h0 h1 (((Y3.Tr.length:Int) - 0).toNat + 1) 0 (show 0≤0 from (by omega)) (Nat.lt_succ_self _)) h2) <| sK [] sN)) rfl (by kernel_rfl) (by kernel_rfl) rfl ?_ ?_
    · simp only [Z21,h0,h1,h2,cond_false]
    · rfl
   | inr r3 =>
    refine fnS E0Ok Z4 (c:=X0 f105) [] (.b true) [] func105 (p (sL (mR false [0,2,1,1,4,15,46]) 1 (X1 (Z5E Y3) (x:=(Z4w Y3)) (Z9Y Y3 hp0 hp1 hp2 h0 h1 (((Y3.Tr.length:Int) - 0).toNat + 1) 0 (show 0≤0 from (by omega)) (Nat.lt_succ_self _)) h2) <| sK [] sN)) rfl (by kernel_rfl) (by kernel_rfl) rfl ?_ ?_
    · simp only [Z21,h0,h1,h2,cond_false]
    · rfl
theorem triB (t:List Int) (n:Int):(!((t.length:Int) != 3) && (!(t.getD 0 default == t.getD 1 default) && (!(t.getD 1 default == t.getD 2 default) && (!(t.getD 0 default == t.getD 2 default) && t.all fun x => Zs x 0 (IntKind.wrap .i64 (n - 1))))))=ZV t n:=by
  unfold ZV
  cases hl:((t.length:Int) != 3) with
  | true => rfl
  | false =>
    have hl3:t.length=3:=by simp at hl; omega
    match t,hl3 with
    | [a,b,c],_ =>
      simp only [List.getD_cons_zero,List.getD_cons_succ,List.all_cons,List.all_nil,Bool.and_true]
      rw [show Zs=Zj from rfl]
      cases (a == b) <;> cases (b == c) <;> cases (a == c) <;> cases Zj a 0 (IntKind.wrap .i64 (n - 1)) <;> cases Zj b 0 (IntKind.wrap .i64 (n - 1)) <;> cases Zj c 0 (IntKind.wrap .i64 (n - 1)) <;> rfl
theorem Zhr (m:Gm) (k:Nat) (i:Int):ZH m (k + 1) i=cond (decide (i < (m.Tr.length:Int))) (cond (ZV (m.Tr.getD i.toNat default) (m.Pq.length:Int)) (ZH m k (i + 1)) (.inl ())) (.inr ()):=by
  rw [ZH,← triB]
  have hin:Z41 m i=cond ((m.Tr.getD i.toNat default).all fun x => Zs x 0 (IntKind.wrap .i64 ((m.Pq.length:Int) - 1))) (.inr ()) (.inl ()):=by
    unfold Z41
    exact XJ (a:=m.Tr.getD i.toNat default) (p:=fun x => Zs x 0 (IntKind.wrap .i64 ((m.Pq.length:Int) - 1))) (lo:=Z2j m i) (x:=()) (y:=()) (fun k i => rfl)
  rw [hin]
  generalize m.Tr.getD i.toNat default=t
  generalize (t.all fun x => Zs x 0 (IntKind.wrap .i64 ((m.Pq.length:Int) - 1)))=q
  cases ((t.length:Int) != 3) <;> cases (t.getD 0 default == t.getD 1 default) <;> cases (t.getD 1 default == t.getD 2 default) <;> cases (t.getD 0 default == t.getD 2 default) <;> cases q <;> rfl
theorem Zhs (m:Gm):Z21 m=Z1y m:=by
  rw [Zae]
  unfold Z21 Z4w
  rw [XJ (a:=m.Tr) (p:=fun t => ZV t (m.Pq.length:Int)) (lo:=ZH m) (x:=()) (y:=()) (Zhr m)]
  cases (m.Tr.all fun t => ZV t (m.Pq.length:Int)) <;> rfl
def ZS (Ya:Gb):Nat→Int→(Unit) ⊕ (Unit)
  | 0,_ => .inl default
  | k + 1,Y1 => (cond (decide (Y1 < (Ya.Sp.length:Int)))
    (cond (Zs ((Ya.Sp.getD Y1.toNat default).A) 0 (IntKind.wrap .i64 ((Ya.Me.Pq.length:Int) - 1)))
      (cond (Zs ((Ya.Sp.getD Y1.toNat default).B) 0 (IntKind.wrap .i64 ((Ya.Me.Pq.length:Int) - 1)))
        (cond ((Ya.Sp.getD Y1.toNat default).A == (Ya.Sp.getD Y1.toNat default).B)
          (.inl ())
          (cond (fcmp .geq .f32 ((Ya.Sp.getD Y1.toNat default).Long) 0)
            (ZS Ya k (Y1 + 1))
            (.inl ())))
        (.inl ()))
      (.inl ()))
    (.inr ()))
def Z5F (Ya:Gb):(Unit) ⊕ (Unit)→Ex × St
  | .inl r => (.ret,⟨.any :: .any :: .b false :: an 59 [],[]⟩)
  | .inr r => ((.exit 0),⟨.agg [.sl (Ya.Me.Pq.map Gv.c), .sl (Ya.Me.Tr.map (cL (cI .i64))), .sl (Ya.Sp.map Gs.c), .f .f32 Ya.Film, .f .f32 Ya.Bend, .sl (Ya.We.map (cF .f32)), .f .f32 Ya.Fall.X, .f .f32 Ya.Fall.Y, .f .f32 Ya.Fall.Z] :: .ptr 0 0 0 :: .any :: .i .i64 (Ya.Me.Pq.length:Int) :: .any :: .any :: .ptr 0 0 0 :: .ptr 0 0 0 :: .sl (Ya.Me.Pq.map Gv.c) :: .i .i64 (Ya.Me.Pq.length:Int) :: .ptr 0 0 0 :: .agg [.sl (Ya.Me.Pq.map Gv.c), .sl (Ya.Me.Tr.map (cL (cI .i64)))] :: .b (Z21 Ya.Me) :: .b (!(Z21 Ya.Me)) :: .b (!(Z21 Ya.Me)) :: .ptr 0 0 2 :: .sl (Ya.Sp.map Gs.c) :: .i .i64 (Ya.Sp.length:Int) :: .b (decide ((Ya.Sp.length:Int) > 200)) :: .b (decide ((Ya.Sp.length:Int) > 200)) :: .b (decide ((Ya.Sp.length:Int) > 200)) :: .ptr 0 0 5 :: .sl (Ya.We.map (cF .f32)) :: .i .i64 (Ya.We.length:Int) :: .i .i64 (Ya.Me.Pq.length:Int) :: .b ((Ya.We.length:Int) != (Ya.Me.Pq.length:Int)) :: .b ((Ya.We.length:Int) != (Ya.Me.Pq.length:Int)) :: .ptr 0 0 2 :: .sl (Ya.Sp.map Gs.c) :: an 33 [],[.box 42 [.sl (Ya.Me.Pq.map Gv.c), .sl (Ya.Me.Tr.map (cL (cI .i64))), .sl (Ya.Sp.map Gs.c), .f .f32 Ya.Film, .f .f32 Ya.Bend, .sl (Ya.We.map (cF .f32)), .f .f32 Ya.Fall.X, .f .f32 Ya.Fall.Y, .f .f32 Ya.Fall.Z]]⟩)
def ZdT (Ya:Gb) (Y1:Int):St:=⟨.agg [.sl (Ya.Me.Pq.map Gv.c), .sl (Ya.Me.Tr.map (cL (cI .i64))), .sl (Ya.Sp.map Gs.c), .f .f32 Ya.Film, .f .f32 Ya.Bend, .sl (Ya.We.map (cF .f32)), .f .f32 Ya.Fall.X, .f .f32 Ya.Fall.Y, .f .f32 Ya.Fall.Z] :: .ptr 0 0 0 :: .any :: .i .i64 (Ya.Me.Pq.length:Int) :: .any :: .any :: .ptr 0 0 0 :: .ptr 0 0 0 :: .sl (Ya.Me.Pq.map Gv.c) :: .i .i64 (Ya.Me.Pq.length:Int) :: .ptr 0 0 0 :: .agg [.sl (Ya.Me.Pq.map Gv.c), .sl (Ya.Me.Tr.map (cL (cI .i64)))] :: .b (Z21 Ya.Me) :: .b (!(Z21 Ya.Me)) :: .b (!(Z21 Ya.Me)) :: .ptr 0 0 2 :: .sl (Ya.Sp.map Gs.c) :: .i .i64 (Ya.Sp.length:Int) :: .b (decide ((Ya.Sp.length:Int) > 200)) :: .b (decide ((Ya.Sp.length:Int) > 200)) :: .b (decide ((Ya.Sp.length:Int) > 200)) :: .ptr 0 0 5 :: .sl (Ya.We.map (cF .f32)) :: .i .i64 (Ya.We.length:Int) :: .i .i64 (Ya.Me.Pq.length:Int) :: .b ((Ya.We.length:Int) != (Ya.Me.Pq.length:Int)) :: .b ((Ya.We.length:Int) != (Ya.Me.Pq.length:Int)) :: .ptr 0 0 2 :: .sl (Ya.Sp.map Gs.c) :: .i .i64 (Ya.Sp.length:Int) :: .i .i64 Y1 :: an 31 [],[.box 42 [.sl (Ya.Me.Pq.map Gv.c), .sl (Ya.Me.Tr.map (cL (cI .i64))), .sl (Ya.Sp.map Gs.c), .f .f32 Ya.Film, .f .f32 Ya.Bend, .sl (Ya.We.map (cF .f32)), .f .f32 Ya.Fall.X, .f .f32 Ya.Fall.Y, .f .f32 Ya.Fall.Z]]⟩
theorem Z9Z (Ya:Gb) (hp0:Ya.Me.Pq.length≤1073741824) (hp1:Ya.Me.Tr.length≤1073741824) (hp2:∀ t∈Ya.Me.Tr,t.length≤1073741824) (hp3:Ya.Sp.length≤1073741824) (hp4:Ya.We.length≤1073741824) (ZhY:((Ya.We.length:Int) != (Ya.Me.Pq.length:Int))=false) (ZhZ:(decide ((Ya.Sp.length:Int) > 200))=false) (Zi0:(Z21 Ya.Me)=true):∀ (k:Nat) (Y1:Int) (Z8O:0≤Y1) (hk:((Ya.Sp.length:Int) - Y1).toNat < k),Lp prog 0 (sub (X0 f56) [1,1,1,0,1,0,0]) (ZdT Ya Y1) (Z5F Ya (ZS Ya k Y1)).1 (Z5F Ya (ZS Ya k Y1)).2:=by
 intro k
 induction k with
 | zero => intro Y1 Z8O hk; exact absurd hk (Nat.not_lt_zero _)
 | succ k ih =>
  intro Y1 Z8O hk
  cases Yn:(decide (Y1 < (Ya.Sp.length:Int))) with
  | true =>
   have YM:=odt Yn
   have YS:(0:Int)≤Y1:=(by assumption)
   have YT:Y1 < (Ya.Sp.length:Int):=(by assumption)
   have p {a C} (s:Scr a C):=sB Yn <| sG Gs.c Ya.Sp Y1 YS YT <| sW .i64 ((Ya.Me.Pq.length:Int) - 1) <| sF (Z6A ((Ya.Sp.getD Y1.toNat default).A) 0 (IntKind.wrap .i64 ((Ya.Me.Pq.length:Int) - 1))) <| s
   cases YL:(Zs ((Ya.Sp.getD Y1.toNat default).A) 0 (IntKind.wrap .i64 ((Ya.Me.Pq.length:Int) - 1))) with
   | true =>
    have q {a C} (s:Scr a C):=p (sB' YL <| sB' YL <| sB' YL <| sB' YL <| sW .i64 ((Ya.Me.Pq.length:Int) - 1) <| sB' YL <| sF (Z6A ((Ya.Sp.getD Y1.toNat default).B) 0 (IntKind.wrap .i64 ((Ya.Me.Pq.length:Int) - 1))) <| sB' YL <| sB' YL <| s)
    clear p
    cases h_2:(Zs ((Ya.Sp.getD Y1.toNat default).B) 0 (IntKind.wrap .i64 ((Ya.Me.Pq.length:Int) - 1))) with
    | true =>
     have p {a C} (s:Scr a C):=q (sB' h_2 <| sB' h_2 <| sB' h_2 <| sB' h_2 <| sB' h_2 <| sB' h_2 <| s)
     clear q
     cases h_3:((Ya.Sp.getD Y1.toNat default).A == (Ya.Sp.getD Y1.toNat default).B) with
     | true =>
      have Y1G:=eq_of_beq h_3
      have e:ZS Ya (k + 1) Y1=(.inl ()):=by simp only [ZS,Yn,YL,h_2,h_3,cond_true]
      rw [e]
      exact outR (e := .ret) E0Ok Z4 [] (mR false [2,1,59]) [] (p (sB h_3 <| sB h_3 <| sB h_3 <| sB h_3 <| sB h_3 <| sB (show true=true from rfl) <| sN)) (by kernel_rfl) (by intro h; cases h)
     | false =>
      have Y1G:=ne_of_beq_false h_3
      have q {a C} (s:Scr a C):=p (sB h_3 <| sB h_3 <| sB h_3 <| sB h_3 <| sB h_3 <| s)
      clear p
      cases h_4:(fcmp .geq .f32 ((Ya.Sp.getD Y1.toNat default).Long) 0) with
      | true =>
       have YY:(-9223372036854775808:Int)≤(Y1 + 1):=by clear q; exact (by omega)
       have YZ:(Y1 + 1)≤(9223372036854775807:Int):=by clear q; exact (by omega)
       have e:ZS Ya (k + 1) Y1=(ZS Ya k (Y1 + 1)):=by simp only [ZS,Yn,YL,h_2,h_3,h_4,cond_true,cond_false]
       rw [e]
       exact X9 E0Ok Z4 [] (mR false [0,2,1,1,2,25,31]) [0] (ih (Y1 + 1) (show 0≤(Y1 + 1) from (by omega)) (by omega)) (q (sB' h_4 <| sI (Y1 + 1) YY YZ <| sN)) (by kernel_rfl)
      | false =>
       have e:ZS Ya (k + 1) Y1=(.inl ()):=by simp only [ZS,Yn,YL,h_2,h_3,h_4,cond_true,cond_false]
       rw [e]
       exact outR (e := .ret) E0Ok Z4 [] (mR false [2,1,59]) [] (q (sB' h_4 <| sN)) (by kernel_rfl) (by intro h; cases h)
    | false =>
     have e:ZS Ya (k + 1) Y1=(.inl ()):=by simp only [ZS,Yn,YL,h_2,cond_true,cond_false]
     rw [e]
     exact outR (e := .ret) E0Ok Z4 [] (mR false [2,1,59]) [] (q (sB' h_2 <| sB' h_2 <| sB' h_2 <| sB' h_2 <| sB' h_2 <| sB' h_2 <| sB (show true=true from rfl) <| sB (show true=true from rfl) <| sB (show true=true from rfl) <| sB (show true=true from rfl) <| sB (show true=true from rfl) <| sB (show true=true from rfl) <| sN)) (by kernel_rfl) (by intro h; cases h)
   | false =>
    have e:ZS Ya (k + 1) Y1=(.inl ()):=by simp only [ZS,Yn,YL,cond_true,cond_false]
    rw [e]
    exact outR (e := .ret) E0Ok Z4 [] (mR false [2,1,59]) [] (p (sB' YL <| sB' YL <| sB' YL <| sB' YL <| sB' YL <| sB' YL <| sB' YL <| sB (show true=true from rfl) <| sB (show true=true from rfl) <| sB (show true=true from rfl) <| sB (show true=true from rfl) <| sB (show true=true from rfl) <| sB (show true=true from rfl) <| sB (show true=true from rfl) <| sB (show true=true from rfl) <| sB (show true=true from rfl) <| sB (show true=true from rfl) <| sB (show true=true from rfl) <| sB (show true=true from rfl) <| sN)) (by kernel_rfl) (by intro h; cases h)
  | false =>
   have YM:=odf Yn
   have e:ZS Ya (k + 1) Y1=(.inr ()):=by simp only [ZS,Yn,cond_false]
   rw [e]
   exact outR (e:=(.exit 0)) E0Ok Z4 [] (mR false [0,2,1,1,2,23,33]) [0] (sB Yn <| sN) (by kernel_rfl) (by intro h; cases h)
def Z4x (Ya:Gb):(Unit) ⊕ (Unit):=(ZS Ya (((Ya.Sp.length:Int) - 0).toNat + 1) 0)
def Z1I (Ya:Gb):Bool:=(cond (Z21 Ya.Me)
  (cond (decide ((Ya.Sp.length:Int) > 200))
    false
    (cond ((Ya.We.length:Int) != (Ya.Me.Pq.length:Int))
      false
      (match (Z4x Ya) with
        | .inl r4 => false
        | .inr r4 => true)))
  false)
theorem ZbN (Ya:Gb) (hp0:Ya.Me.Pq.length≤1073741824) (hp1:Ya.Me.Tr.length≤1073741824) (hp2:∀ t∈Ya.Me.Tr,t.length≤1073741824) (hp3:Ya.Sp.length≤1073741824) (hp4:Ya.We.length≤1073741824)  : Fn prog 56 [.agg [.sl (Ya.Me.Pq.map Gv.c), .sl (Ya.Me.Tr.map (cL (cI .i64))), .sl (Ya.Sp.map Gs.c), .f .f32 Ya.Film, .f .f32 Ya.Bend, .sl (Ya.We.map (cF .f32)), .f .f32 Ya.Fall.X, .f .f32 Ya.Fall.Y, .f .f32 Ya.Fall.Z]] (.b (Z1I Ya)) []:=by
 have p {a C} (s:Scr a C):=sZ Gv.c Ya.Me.Pq <| sF (ZfI Ya.Me hp0 hp1 hp2) <| s
 cases h0:(Z21 Ya.Me) with
 | true =>
  have q {a C} (s:Scr a C):=p (sB' h0 <| sB' h0 <| sB' h0 <| sZ Gs.c Ya.Sp <| sB' h0 <| sB' h0 <| s)
  clear p
  cases h1:(decide ((Ya.Sp.length:Int) > 200)) with
  | true =>
   have gh1:=odt h1
   refine fnS E0Ok Z4 (c:=X0 f56) [] (.b false) [] func56 (q (sB h1 <| sB h1 <| sB h1 <| sB h1 <| sB h1 <| sB h1 <| sB (show true=true from rfl) <| sK [] sN)) rfl (by kernel_rfl) (by kernel_rfl) rfl ?_ ?_
   · simp only [Z1I,h0,h1,cond_true]
   · rfl
  | false =>
   have gh1:=odf h1
   have p {a C} (s:Scr a C):=q (sB h1 <| sB h1 <| sB h1 <| sZ (cF .f32) Ya.We <| sB h1 <| sB h1 <| sB h1 <| s)
   clear q
   cases h2:((Ya.We.length:Int) != (Ya.Me.Pq.length:Int)) with
   | true =>
    have gh2:=bne_iff_ne.1 h2
    refine fnS E0Ok Z4 (c:=X0 f56) [] (.b false) [] func56 (p (sB h2 <| sK [] sN)) rfl (by kernel_rfl) (by kernel_rfl) rfl ?_ ?_
    · simp only [Z1I,h0,h1,h2,cond_true,cond_false]
    · rfl
   | false =>
    have gh2:=bne_eq_false_iff_eq.1 h2
    have q {a C} (s:Scr a C):=p (sB h2 <| sZ Gs.c Ya.Sp <| s)
    clear p
    cases h3:(Z4x Ya) with
    | inl r4 =>
     refine fnS E0Ok Z4 (c:=X0 f56) [] (.b false) [] func56 (q (sL (mR false [0,2,1,1,2,25,31]) 1 (X1 (Z5F Ya) (x:=(Z4x Ya)) (Z9Z Ya hp0 hp1 hp2 hp3 hp4 h2 h1 h0 (((Ya.Sp.length:Int) - 0).toNat + 1) 0 (show 0≤0 from (by omega)) (Nat.lt_succ_self _)) h3) <| sK [] sN)) rfl (by kernel_rfl) (by kernel_rfl) rfl ?_ ?_
     · simp only [Z1I,h0,h1,h2,h3,cond_true,cond_false]
     · rfl
    | inr r4 =>
     refine fnS E0Ok Z4 (c:=X0 f56) [] (.b true) [] func56 (q (sL (mR false [0,2,1,1,2,25,31]) 1 (X1 (Z5F Ya) (x:=(Z4x Ya)) (Z9Z Ya hp0 hp1 hp2 hp3 hp4 h2 h1 h0 (((Ya.Sp.length:Int) - 0).toNat + 1) 0 (show 0≤0 from (by omega)) (Nat.lt_succ_self _)) h3) <| sK [] sN)) rfl (by kernel_rfl) (by kernel_rfl) rfl ?_ ?_
     · simp only [Z1I,h0,h1,h2,h3,cond_true,cond_false]
     · rfl
 | false =>
  refine fnS E0Ok Z4 (c:=X0 f56) [] (.b false) [] func56 (p (sB' h0 <| sB' h0 <| sB' h0 <| sB' h0 <| sB' h0 <| sB (show true=true from rfl) <| sB (show true=true from rfl) <| sB (show true=true from rfl) <| sB (show true=true from rfl) <| sB (show true=true from rfl) <| sB (show true=true from rfl) <| sB (show true=true from rfl) <| sK [] sN)) rfl (by kernel_rfl) (by kernel_rfl) rfl ?_ ?_
  · simp only [Z1I,h0,cond_false]
  · rfl
theorem ZiU (s:Gs) (n:Int):cond (Zs s.A 0 (IntKind.wrap .i64 (n - 1))) (cond (Zs s.B 0 (IntKind.wrap .i64 (n - 1))) (cond (s.A == s.B) false (fcmp .geq .f32 s.Long 0)) false) false=Z1R s n:=by
  unfold Z1R
  rw [show Zs=Zj from rfl,show (s.A != s.B)=!(s.A == s.B) from rfl]
  cases (s.A == s.B) <;> rfl
theorem Zht (b:Gb) (k:Nat) (i:Int):ZS b (k + 1) i=cond (decide (i < (b.Sp.length:Int))) (cond (Z1R (b.Sp.getD i.toNat default) (b.Me.Pq.length:Int)) (ZS b k (i + 1)) (.inl ())) (.inr ()):=by
  rw [ZS,← ZiU]
  generalize b.Sp.getD i.toNat default=s
  cases Zs s.A 0 (IntKind.wrap .i64 ((b.Me.Pq.length:Int) - 1)) <;> cases Zs s.B 0 (IntKind.wrap .i64 ((b.Me.Pq.length:Int) - 1)) <;> cases (s.A == s.B) <;> cases fcmp .geq .f32 s.Long 0 <;> rfl
theorem Zew (b:Gb):Z1I b=Z1z b:=by
  unfold Z1I Z1z Z4x Z4I
  rw [Zhs,XJ (a:=b.Sp) (p:=fun s => Z1R s (b.Me.Pq.length:Int)) (lo:=ZS b) (x:=()) (y:=()) (Zht b),
    XJ (a:=b.Sp) (p:=fun s => Z1R s (b.Me.Pq.length:Int)) (lo:=Z2Q b) (x:=()) (y:=()) (fun k i => rfl)]
  rfl
theorem ZgL (b:Gb) (h:Z1z b=true):Z1y b.Me=true:=by
  cases hm:Z1y b.Me with
  | true => rfl
  | false => simp [Z1z,hm] at h
theorem ZgM (m:Gm) (h:Z1y m=true):m.Pq.length≤64∧m.Tr.length≤128:=by
  rw [Zae] at h
  cases h1:decide ((m.Pq.length:Int) > 64) <;> rw [h1] at h <;> (try (cases h; done))
  cases h2:decide ((m.Tr.length:Int) > 128) <;> rw [h2] at h <;> (try (cases h; done))
  simp only [decide_eq_false_iff_not] at h1 h2
  omega
def Zt (Y3:Gn):Bool:=(cond (Z1I Y3.Body)
  ((Y3.Sd.length:Int) == (Y3.Body.Me.Pq.length:Int))
  false)
theorem Zex (Y3:Gn) (hp0:Y3.Body.Me.Pq.length≤1073741824) (hp1:Y3.Body.Me.Tr.length≤1073741824) (hp2:∀ t∈Y3.Body.Me.Tr,t.length≤1073741824) (hp3:Y3.Body.Sp.length≤1073741824) (hp4:Y3.Body.We.length≤1073741824) (hp5:Y3.Sd.length≤1073741824)  : Fn prog 79 [.agg [.sl (Y3.Body.Me.Pq.map Gv.c), .sl (Y3.Body.Me.Tr.map (cL (cI .i64))), .sl (Y3.Body.Sp.map Gs.c), .f .f32 Y3.Body.Film, .f .f32 Y3.Body.Bend, .sl (Y3.Body.We.map (cF .f32)), .f .f32 Y3.Body.Fall.X, .f .f32 Y3.Body.Fall.Y, .f .f32 Y3.Body.Fall.Z, .sl (Y3.Sd.map Gv.c)]] (.b (Zt Y3)) []:=by
 have p {a C} (s:Scr a C):=sF (ZbN Y3.Body hp0 hp1 hp2 hp3 hp4) <| s
 cases h0:(Z1I Y3.Body) with
 | true =>
  refine fnS E0Ok Z4 (c:=X0 f79) [] (.b ((Y3.Sd.length:Int) == (Y3.Body.Me.Pq.length:Int))) [] func79 (p (sB h0 <| sB h0 <| sB h0 <| sZ Gv.c Y3.Sd <| sB h0 <| sB h0 <| sB h0 <| sB h0 <| sB h0 <| sZ Gv.c Y3.Body.Me.Pq <| sB h0 <| sB h0 <| sK [] sN)) rfl (by kernel_rfl) (by kernel_rfl) rfl ?_ ?_
  · simp only [Zt,h0,cond_true]
  · rfl
 | false =>
  refine fnS E0Ok Z4 (c:=X0 f79) [] (.b false) [] func79 (p (sB h0 <| sB h0 <| sB h0 <| sB h0 <| sB h0 <| sB h0 <| sB h0 <| sB h0 <| sB h0 <| sB h0 <| sK [] sN)) rfl (by kernel_rfl) (by kernel_rfl) rfl ?_ ?_
  · simp only [Zt,h0,cond_false]
  · rfl
theorem Zgt (m:Gn):Zt m=Z4C m:=by
  unfold Zt Z4C
  rw [Zew]
def Z2E (Ya:Gb) (Y2:(List Int)):Nat→Int→Int→(Unit) ⊕ (Unit)
  | 0,_,_ => .inl default
  | k + 1,Y14,Y15 => (cond (decide (Y15 < (Y2.length:Int)))
    (cond (Zs (Y2.getD Y15.toNat default) (IntKind.wrap .i64 (Y14 + 1)) (IntKind.wrap .i64 ((Ya.Me.Pq.length:Int) - 1)))
      (Z2E Ya Y2 k (Y2.getD Y15.toNat default) (Y15 + 1))
      (.inl ()))
    (.inr ()))
def Z6o (Ya:Gb) (Y2:(List Int)):(Unit) ⊕ (Unit)→Ex × St
  | .inl r => (.ret,⟨an 4 (.b false :: an 24 []),[]⟩)
  | .inr r => ((.exit 0),⟨.agg [.sl (Ya.Me.Pq.map Gv.c), .sl (Ya.Me.Tr.map (cL (cI .i64))), .sl (Ya.Sp.map Gs.c), .f .f32 Ya.Film, .f .f32 Ya.Bend, .sl (Ya.We.map (cF .f32)), .f .f32 Ya.Fall.X, .f .f32 Ya.Fall.Y, .f .f32 Ya.Fall.Z] :: .sl (Y2.map (cI .i64)) :: .ptr 0 0 0 :: an 5 (.agg [.sl (Ya.Me.Pq.map Gv.c), .sl (Ya.Me.Tr.map (cL (cI .i64))), .sl (Ya.Sp.map Gs.c), .f .f32 Ya.Film, .f .f32 Ya.Bend, .sl (Ya.We.map (cF .f32)), .f .f32 Ya.Fall.X, .f .f32 Ya.Fall.Y, .f .f32 Ya.Fall.Z] :: .b (Z1I Ya) :: .b (!(Z1I Ya)) :: .sl (Y2.map (cI .i64)) :: an 17 []),[.box 42 [.sl (Ya.Me.Pq.map Gv.c), .sl (Ya.Me.Tr.map (cL (cI .i64))), .sl (Ya.Sp.map Gs.c), .f .f32 Ya.Film, .f .f32 Ya.Bend, .sl (Ya.We.map (cF .f32)), .f .f32 Ya.Fall.X, .f .f32 Ya.Fall.Y, .f .f32 Ya.Fall.Z]]⟩)
def ZfJ (Ya:Gb) (Y2:(List Int)) (Y14:Int) (Y15:Int):St:=⟨.agg [.sl (Ya.Me.Pq.map Gv.c), .sl (Ya.Me.Tr.map (cL (cI .i64))), .sl (Ya.Sp.map Gs.c), .f .f32 Ya.Film, .f .f32 Ya.Bend, .sl (Ya.We.map (cF .f32)), .f .f32 Ya.Fall.X, .f .f32 Ya.Fall.Y, .f .f32 Ya.Fall.Z] :: .sl (Y2.map (cI .i64)) :: .ptr 0 0 0 :: .any :: .any :: .i .i64 Y14 :: .any :: .any :: .agg [.sl (Ya.Me.Pq.map Gv.c), .sl (Ya.Me.Tr.map (cL (cI .i64))), .sl (Ya.Sp.map Gs.c), .f .f32 Ya.Film, .f .f32 Ya.Bend, .sl (Ya.We.map (cF .f32)), .f .f32 Ya.Fall.X, .f .f32 Ya.Fall.Y, .f .f32 Ya.Fall.Z] :: .b (Z1I Ya) :: .b (!(Z1I Ya)) :: .sl (Y2.map (cI .i64)) :: .i .i64 (Y2.length:Int) :: .i .i64 Y15 :: an 15 [],[.box 42 [.sl (Ya.Me.Pq.map Gv.c), .sl (Ya.Me.Tr.map (cL (cI .i64))), .sl (Ya.Sp.map Gs.c), .f .f32 Ya.Film, .f .f32 Ya.Bend, .sl (Ya.We.map (cF .f32)), .f .f32 Ya.Fall.X, .f .f32 Ya.Fall.Y, .f .f32 Ya.Fall.Z]]⟩
theorem ZbO (Ya:Gb) (Y2:(List Int)) (hp0:Ya.Me.Pq.length≤1073741824) (hp1:Ya.Me.Tr.length≤1073741824) (hp2:∀ t∈Ya.Me.Tr,t.length≤1073741824) (hp3:Ya.Sp.length≤1073741824) (hp4:Ya.We.length≤1073741824) (hp5:Y2.length≤1073741824) (Ziq:(Z1I Ya)=true):∀ (k:Nat) (Y14:Int) (Y15:Int) (ZaF:0≤Y15) (hk:((Y2.length:Int) - Y15).toNat < k),Lp prog 0 (sub (X0 f67) [1,1,1,0,1,0,0]) (ZfJ Ya Y2 Y14 Y15) (Z6o Ya Y2 (Z2E Ya Y2 k Y14 Y15)).1 (Z6o Ya Y2 (Z2E Ya Y2 k Y14 Y15)).2:=by
 intro k
 induction k with
 | zero => intro Y14 Y15 ZaF hk; exact absurd hk (Nat.not_lt_zero _)
 | succ k ih =>
  intro Y14 Y15 ZaF hk
  cases Yn:(decide (Y15 < (Y2.length:Int))) with
  | true =>
   have YM:=odt Yn
   have YS:(0:Int)≤Y15:=(by assumption)
   have YT:Y15 < (Y2.length:Int):=(by assumption)
   have p {a C} (s:Scr a C):=sB Yn <| sG (cI .i64) Y2 Y15 YS YT <| sW .i64 (Y14 + 1) <| sZ Gv.c Ya.Me.Pq <| sW .i64 ((Ya.Me.Pq.length:Int) - 1) <| sF (Z6A (Y2.getD Y15.toNat default) (IntKind.wrap .i64 (Y14 + 1)) (IntKind.wrap .i64 ((Ya.Me.Pq.length:Int) - 1))) <| s
   cases YL:(Zs (Y2.getD Y15.toNat default) (IntKind.wrap .i64 (Y14 + 1)) (IntKind.wrap .i64 ((Ya.Me.Pq.length:Int) - 1))) with
   | true =>
    have YY:(-9223372036854775808:Int)≤(Y15 + 1):=by clear p; exact (by omega)
    have YZ:(Y15 + 1)≤(9223372036854775807:Int):=by clear p; exact (by omega)
    have e:Z2E Ya Y2 (k + 1) Y14 Y15=(Z2E Ya Y2 k (Y2.getD Y15.toNat default) (Y15 + 1)):=by simp only [Z2E,Yn,YL,cond_true]
    rw [e]
    exact X9 E0Ok Z4 [] (mR false [0,3,2,1,2,6,15]) [0] (ih (Y2.getD Y15.toNat default) (Y15 + 1) (show 0≤(Y15 + 1) from (by omega)) (by omega)) (p (sB' YL <| sI (Y15 + 1) YY YZ <| sN)) (by kernel_rfl)
   | false =>
    have e:Z2E Ya Y2 (k + 1) Y14 Y15=(.inl ()):=by simp only [Z2E,Yn,YL,cond_true,cond_false]
    rw [e]
    exact outR (e := .ret) E0Ok Z4 [] (mR false [4,1,24]) [] (p (sB' YL <| sN)) (by kernel_rfl) (by intro h; cases h)
  | false =>
   have YM:=odf Yn
   have e:Z2E Ya Y2 (k + 1) Y14 Y15=(.inr ()):=by simp only [Z2E,Yn,cond_false]
   rw [e]
   exact outR (e:=(.exit 0)) E0Ok Z4 [] (mR false [0,3,5,4,17]) [0] (sB Yn <| sN) (by kernel_rfl) (by intro h; cases h)
def Z4R (Ya:Gb) (Y2:(List Int)):(Unit) ⊕ (Unit):=(Z2E Ya Y2 (((Y2.length:Int) - 0).toNat + 1) (-1) 0)
def ZE (Ya:Gb) (Y2:(List Int)):Bool:=(cond (Z1I Ya)
  (match (Z4R Ya Y2) with
    | .inl r2 => false
    | .inr r2 => true)
  false)
theorem Zh3 (Ya:Gb) (Y2:(List Int)) (hp0:Ya.Me.Pq.length≤1073741824) (hp1:Ya.Me.Tr.length≤1073741824) (hp2:∀ t∈Ya.Me.Tr,t.length≤1073741824) (hp3:Ya.Sp.length≤1073741824) (hp4:Ya.We.length≤1073741824) (hp5:Y2.length≤1073741824)  : Fn prog 67 [.agg [.sl (Ya.Me.Pq.map Gv.c), .sl (Ya.Me.Tr.map (cL (cI .i64))), .sl (Ya.Sp.map Gs.c), .f .f32 Ya.Film, .f .f32 Ya.Bend, .sl (Ya.We.map (cF .f32)), .f .f32 Ya.Fall.X, .f .f32 Ya.Fall.Y, .f .f32 Ya.Fall.Z], .sl (Y2.map (cI .i64))] (.b (ZE Ya Y2)) []:=by
 have p {a C} (s:Scr a C):=sF (ZbN Ya hp0 hp1 hp2 hp3 hp4) <| s
 cases h0:(Z1I Ya) with
 | true =>
  have q {a C} (s:Scr a C):=p (sB' h0 <| sZ (cI .i64) Y2 <| s)
  clear p
  cases h1:(Z4R Ya Y2) with
  | inl r2 =>
   refine fnS E0Ok Z4 (c:=X0 f67) [] (.b false) [] func67 (q (sL (mR false [0,3,2,1,2,6,15]) 1 (X1 (Z6o Ya Y2) (x:=(Z4R Ya Y2)) (ZbO Ya Y2 hp0 hp1 hp2 hp3 hp4 hp5 h0 (((Y2.length:Int) - 0).toNat + 1) (-1) 0 (show 0≤0 from (by omega)) (Nat.lt_succ_self _)) h1) <| sK [] sN)) rfl (by kernel_rfl) (by kernel_rfl) rfl ?_ ?_
   · simp only [ZE,h0,h1,cond_true]
   · rfl
  | inr r2 =>
   refine fnS E0Ok Z4 (c:=X0 f67) [] (.b true) [] func67 (q (sL (mR false [0,3,2,1,2,6,15]) 1 (X1 (Z6o Ya Y2) (x:=(Z4R Ya Y2)) (ZbO Ya Y2 hp0 hp1 hp2 hp3 hp4 hp5 h0 (((Y2.length:Int) - 0).toNat + 1) (-1) 0 (show 0≤0 from (by omega)) (Nat.lt_succ_self _)) h1) <| sK [] sN)) rfl (by kernel_rfl) (by kernel_rfl) rfl ?_ ?_
   · simp only [ZE,h0,h1,cond_true]
   · rfl
 | false =>
  refine fnS E0Ok Z4 (c:=X0 f67) [] (.b false) [] func67 (p (sB' h0 <| sK [] sN)) rfl (by kernel_rfl) (by kernel_rfl) rfl ?_ ?_
  · simp only [ZE,h0,cond_false]
  · rfl
theorem Zhu (p last n:Int) (h0:-1≤last) (hn:0≤n) (hn':n≤64) (hl:last < n∨last=-1):Zs p (IntKind.wrap .i64 (last + 1)) (IntKind.wrap .i64 (n - 1))=(Zj p 0 (IntKind.wrap .i64 (n - 1)) && !(decide (last ≥ p))):=by
  rw [show Zs=Zj from rfl]
  unfold Zj
  rw [Xb (n:=last + 1) (by omega) (by omega),Xb (n:=n - 1) (by omega) (by omega)]
  by_cases h1:p ≥ last + 1 <;> by_cases h2:p≤n - 1 <;> by_cases h3:p ≥ 0 <;> by_cases h4:last ≥ p <;> simp [h1,h2,h3,h4] <;> omega
theorem Zir (b:Gb) (hs:List Int) (hn:b.Me.Pq.length≤64):∀ (k:Nat) (last i:Int),0≤i→(i=0∧last=-1∨0 < i∧last=hs.getD (i - 1).toNat default∧0≤last∧last < (b.Me.Pq.length:Int))→Z2E b hs k last i=ZK hs 0 (IntKind.wrap .i64 ((b.Me.Pq.length:Int) - 1)) k i:=by
  intro k
  induction k with
  | zero => intros; rfl
  | succ k ih =>
    intro last i h0 hl
    rw [Z2E,ZK]
    cases decide (i < (hs.length:Int)) with
    | false => rfl
    | true =>
      rw [cond_true,cond_true,Zhu _ last (b.Me.Pq.length:Int) (by omega) (by omega) (by omega) (by omega)]
      cases hP:Zj (hs.getD i.toNat default) 0 (IntKind.wrap .i64 ((b.Me.Pq.length:Int) - 1)) with
      | false => rfl
      | true =>
        rw [Bool.true_and,cond_true]
        have hb:0≤hs.getD i.toNat default∧hs.getD i.toNat default < (b.Me.Pq.length:Int):=by
          unfold Zj at hP
          rw [Xb (n:=(b.Me.Pq.length:Int) - 1) (by omega) (by omega)] at hP
          generalize hs.getD i.toNat default=P at hP ⊢
          by_cases h1:P ≥ 0 <;> simp [h1] at hP
          omega
        have hi:=ih (hs.getD i.toNat default) (i + 1) (by omega) (.inr ⟨by omega,by rw [show i + 1 - 1=i from by omega],hb.1,hb.2⟩)
        rw [hi]
        rcases hl with ⟨hi0,hl⟩ | ⟨hi0,hl,_⟩
        · rw [decide_eq_false (show ¬ last ≥ hs.getD i.toNat default from by omega),decide_eq_false (show ¬ i > 0 from by omega)]; rfl
        · rw [decide_eq_true (show i > 0 from hi0),cond_true,← hl]
          cases decide (last ≥ hs.getD i.toNat default) <;> rfl
theorem Zey (b:Gb) (hs:List Int):ZE b hs=cond (Z1z b) (Z3F b hs) false:=by
  unfold ZE
  rw [Zew]
  cases h:Z1z b with
  | false => rfl
  | true =>
    unfold Z3F Z4D Z4R Z4a
    rw [Zir b hs (ZgM _ (ZgL b h)).1 _ _ _ (Int.le_refl 0) (.inl ⟨rfl,rfl⟩)]
    rfl
def Z9p (x_0:Nat):Bool:=(fcmp .eql .f32 (fop .sub .f32 x_0 x_0) 0)
theorem Zg8 (x_0:Nat)   : Fn prog 123 [.f .f32 x_0] (.b (Z9p x_0)) []:=by
 refine fnS E0Ok Z4 (c:=X0 f123) [] (.b (fcmp .eql .f32 (fop .sub .f32 x_0 x_0) 0)) [] func123 (sK [] sN) rfl (by kernel_rfl) (by kernel_rfl) rfl ?_ ?_
 · rfl
 · rfl
def Zh (x_0:Nat):Bool:=(cond (Z9p x_0)
  (fcmp .gtr .f32 x_0 0)
  false)
theorem Zdz (x_0:Nat)   : Fn prog 71 [.f .f32 x_0] (.b (Zh x_0)) []:=by
 have p {a C} (s:Scr a C):=sF (Zg8 x_0) <| s
 cases h0:(Z9p x_0) with
 | true =>
  refine fnS E0Ok Z4 (c:=X0 f71) [] (.b (fcmp .gtr .f32 x_0 0)) [] func71 (p (sB h0 <| sB h0 <| sB h0 <| sK [] sN)) rfl (by kernel_rfl) (by kernel_rfl) rfl ?_ ?_
  · simp only [Zh,h0,cond_true]
  · rfl
 | false =>
  refine fnS E0Ok Z4 (c:=X0 f71) [] (.b false) [] func71 (p (sB h0 <| sB h0 <| sB h0 <| sK [] sN)) rfl (by kernel_rfl) (by kernel_rfl) rfl ?_ ?_
  · simp only [Zh,h0,cond_false]
  · rfl
def Z35 (Y3:Gm):Nat→Int→(List (List Int))→(List (List Int))
  | 0,_,_ => default
  | k + 1,Y1,Y16 => (cond (decide (Y1 < (Y3.Tr.length:Int)))
    (Z35 Y3 k (Y1 + 1) (Y16 ++ [(([]:List Int) ++ (Y3.Tr.getD Y1.toNat default))]))
    Y16)
def Z7w (Y3:Gm) (r:(List (List Int))):Ex × St:=((.exit 0),⟨.agg [.sl (Y3.Pq.map Gv.c), .sl (Y3.Tr.map (cL (cI .i64)))] :: .ptr 0 0 0 :: .ptr 1 0 0 :: .ptr 2 0 0 :: .any :: .any :: .any :: .ptr 0 0 0 :: .sl (Y3.Pq.map Gv.c) :: .own 3 :: .agg [.own 3, .nils] :: .ptr 0 0 1 :: .sl (Y3.Tr.map (cL (cI .i64))) :: an 15 [],[.box 38 [.sl (Y3.Pq.map Gv.c), .sl (Y3.Tr.map (cL (cI .i64)))], .box 38 [.nils, .nils], .box 38 [.own 3, .own 4], .vec 40 3 (([]:List (List AV)) ++ (Y3.Pq.map Gv.c)) false, .nest 49 (r.map fun l => l.map (cI .i64)) false]⟩)
def Z7x (Y3:Gm) (Y1:Int) (Y16:(List (List Int))):St:=⟨.agg [.sl (Y3.Pq.map Gv.c), .sl (Y3.Tr.map (cL (cI .i64)))] :: .ptr 0 0 0 :: .ptr 1 0 0 :: .ptr 3 0 0 :: .any :: .any :: .any :: .ptr 0 0 0 :: .sl (Y3.Pq.map Gv.c) :: .own 2 :: .agg [.own 2, .nils] :: .ptr 0 0 1 :: .sl (Y3.Tr.map (cL (cI .i64))) :: .i .i64 (Y3.Tr.length:Int) :: .i .i64 Y1 :: an 13 [],[.box 38 [.sl (Y3.Pq.map Gv.c), .sl (Y3.Tr.map (cL (cI .i64)))], .box 38 [.nils, .nils], .vec 40 3 (([]:List (List AV)) ++ (Y3.Pq.map Gv.c)) false, .box 38 [.own 2, .own 4], .nest 49 (Y16.map fun l => l.map (cI .i64)) false]⟩
theorem Zez (Y3:Gm) (hp0:Y3.Pq.length≤1073741824) (hp1:Y3.Tr.length≤1073741824) (hp2:∀ t∈Y3.Tr,t.length≤1073741824) (hp3:Xt Y3.Pq.length Y3.Tr):∀ (k:Nat) (Y1:Int) (Y16:(List (List Int))) (Z6p:0≤Y1) (Z9q:(Y16.length:Int)=Y1) (hk:((Y3.Tr.length:Int) - Y1).toNat < k),Lp prog 0 (sub (X0 f128) [1,1,0,1,0,0]) (Z7x Y3 Y1 Y16) (Z7w Y3 (Z35 Y3 k Y1 Y16)).1 (Z7w Y3 (Z35 Y3 k Y1 Y16)).2:=by
 intro k
 induction k with
 | zero => intro Y1 Y16 Z6p Z9q hk; exact absurd hk (Nat.not_lt_zero _)
 | succ k ih =>
  intro Y1 Y16 Z6p Z9q hk
  cases Yn:(decide (Y1 < (Y3.Tr.length:Int))) with
  | true =>
   have YM:=odt Yn
   have YS:(0:Int)≤Y1:=(by assumption)
   have YT:Y1 < (Y3.Tr.length:Int):=(by assumption)
   have YY:([]:List Int).length + (Y3.Tr.getD Y1.toNat default).length≤1073741824:=(by simp_all <;> omega)
   have YZ:Y16.length + [(([]:List Int) ++ (Y3.Tr.getD Y1.toNat default))].length≤1073741824:=(by simp_all <;> omega)
   have y_4:(-9223372036854775808:Int)≤(Y1 + 1):=(by omega)
   have y_5:(Y1 + 1)≤(9223372036854775807:Int):=(by omega)
   have e:Z35 Y3 (k + 1) Y1 Y16=(Z35 Y3 k (Y1 + 1) (Y16 ++ [(([]:List Int) ++ (Y3.Tr.getD Y1.toNat default))])):=by simp only [Z35,Yn,cond_true]
   rw [e]
   exact X8 E0Ok Z4 [] (mR false [0,4,3,8,13]) [0,1,2,3,4] (⟨.agg [.sl (Y3.Pq.map Gv.c), .sl (Y3.Tr.map (cL (cI .i64)))] :: .ptr 0 0 0 :: .ptr 1 0 0 :: .ptr 3 0 0 :: .any :: .any :: .any :: .ptr 0 0 0 :: .sl (Y3.Pq.map Gv.c) :: .own 2 :: .agg [.own 2, .nils] :: .ptr 0 0 1 :: .sl (Y3.Tr.map (cL (cI .i64))) :: .i .i64 (Y3.Tr.length:Int) :: .i .i64 (Y1 + 1) :: an 13 [],[.box 38 [.sl (Y3.Pq.map Gv.c), .sl (Y3.Tr.map (cL (cI .i64)))], .box 38 [.nils, .nils], .vec 40 3 (([]:List (List AV)) ++ (Y3.Pq.map Gv.c)) false, .box 38 [.own 2, .own 4], .nest 49 ((Y16.map fun l => l.map (cI .i64)) ++ [(([]:List (List AV)) ++ ((Y3.Tr.getD Y1.toNat default).map (cI .i64)))]) false]⟩) (sB Yn <| sG (cL (cI .i64)) Y3.Tr Y1 YS YT <| sK [6,6] <| sC (show ((Y3.Tr.getD Y1.toNat default).map (cI .i64))≠[] from (by have q:=(Xt.at hp3 Z6p (odt (by assumption))).1; have q2:(Y3.Tr.getD Y1.toNat default)≠[]:=(by intro hq; rw [hq] at q; simp at q); simpa using q2)) <| sC (show ([]:List (List AV)).length + ((Y3.Tr.getD Y1.toNat default).map (cI .i64)).length≤1073741824 from (by simpa using YY)) <| sC (show ((Y3.Tr.getD Y1.toNat default).map (cI .i64)).all (fun cs => cs.length == 1 && cs.all isS)=true from (X1f (fun _ => rfl))) <| sC (show (Y16.map fun l => l.map (cI .i64)).length + [(([]:List (List AV)) ++ ((Y3.Tr.getD Y1.toNat default).map (cI .i64)))].length≤1073741824 from (by simpa using YZ)) <| sI (Y1 + 1) y_4 y_5 <| sN) (by kernel_rfl) (by simp [Z7x,Gv.c,cL,cI]) (ih (Y1 + 1) (Y16 ++ [(([]:List Int) ++ (Y3.Tr.getD Y1.toNat default))]) (show 0≤(Y1 + 1) from (by omega)) (show ((Y16 ++ [(([]:List Int) ++ (Y3.Tr.getD Y1.toNat default))]).length:Int)=(Y1 + 1) from (by simp_all <;> omega)) (by omega))
  | false =>
   have YM:=odf Yn
   have e:Z35 Y3 (k + 1) Y1 Y16=Y16:=by simp only [Z35,Yn,cond_false]
   rw [e]
   exact outR (e:=(.exit 0)) E0Ok Z4 [] (mR false [0,4,3,6,15]) [0,1,3,2,4] (sB Yn <| sN) (by kernel_rfl) (by intro h; cases h)
def Z5j (Y3:Gm):(List (List Int)):=(Z35 Y3 (((Y3.Tr.length:Int) - 0).toNat + 1) 0 ([]:List (List Int)))
def Z5O (Y3:Gm):Gm:=(⟨(([]:List Gv) ++ Y3.Pq),(Z5j Y3)⟩:Gm)
theorem Zg9 (Y3:Gm) (hp0:Y3.Pq.length≤1073741824) (hp1:Y3.Tr.length≤1073741824) (hp2:∀ t∈Y3.Tr,t.length≤1073741824) (hp3:Xt Y3.Pq.length Y3.Tr)  : Fn prog 128 [.agg [.sl (Y3.Pq.map Gv.c), .sl (Y3.Tr.map (cL (cI .i64)))]] (.agg [.own 0, .own 1]) [.vec 40 3 (((Z5O Y3).Pq).map Gv.c) false, .nest 49 (((Z5O Y3).Tr).map fun l => l.map (cI .i64)) false]:=by
 have y0:([]:List Gv).length + Y3.Pq.length≤1073741824:=(by simp_all <;> omega)
 refine fnS E0Ok Z4 (c:=X0 f128) [] (.agg [.own 0, .own 1]) [.vec 40 3 (([]:List (List AV)) ++ (Y3.Pq.map Gv.c)) false, .nest 49 ((Z5j Y3).map fun l => l.map (cI .i64)) false] func128 (sC (show ([]:List (List AV)).length + (Y3.Pq.map Gv.c).length≤1073741824 from (by simpa using y0)) <| sC (show (Y3.Pq.map Gv.c).all (fun cs => cs.length == 3 && cs.all isS)=true from (X1f (fun _ => rfl))) <| sZ (cL (cI .i64)) Y3.Tr <| sL (mR false [0,4,3,8,13]) 4 (Lp.nil (st:=⟨.agg [.sl (Y3.Pq.map Gv.c), .sl (Y3.Tr.map (cL (cI .i64)))] :: .ptr 0 0 0 :: .ptr 1 0 0 :: .ptr 3 0 0 :: .any :: .any :: .any :: .ptr 0 0 0 :: .sl (Y3.Pq.map Gv.c) :: .own 2 :: .agg [.own 2, .nils] :: .ptr 0 0 1 :: .sl (Y3.Tr.map (cL (cI .i64))) :: .i .i64 (Y3.Tr.length:Int) :: .i .i64 0 :: an 13 [],[.box 38 [.sl (Y3.Pq.map Gv.c), .sl (Y3.Tr.map (cL (cI .i64)))], .box 38 [.nils, .nils], .vec 40 3 (([]:List (List AV)) ++ (Y3.Pq.map Gv.c)) false, .box 38 [.own 2, .nils]]⟩) (st2:=⟨.agg [.sl (Y3.Pq.map Gv.c), .sl (Y3.Tr.map (cL (cI .i64)))] :: .ptr 0 0 0 :: .ptr 1 0 0 :: .ptr 3 0 0 :: .any :: .any :: .any :: .ptr 0 0 0 :: .sl (Y3.Pq.map Gv.c) :: .own 2 :: .agg [.own 2, .nils] :: .ptr 0 0 1 :: .sl (Y3.Tr.map (cL (cI .i64))) :: .i .i64 (Y3.Tr.length:Int) :: .i .i64 0 :: an 13 [],[.box 38 [.sl (Y3.Pq.map Gv.c), .sl (Y3.Tr.map (cL (cI .i64)))], .box 38 [.nils, .nils], .vec 40 3 (([]:List (List AV)) ++ (Y3.Pq.map Gv.c)) false, .box 38 [.own 2, .own 4], .nest 49 [] false]⟩) (ps:=[(.row 3 1, .nest 49 [] false)]) rfl (Xj (st2:=⟨.agg [.sl (Y3.Pq.map Gv.c), .sl (Y3.Tr.map (cL (cI .i64)))] :: .ptr 0 0 0 :: .ptr 1 0 0 :: .ptr 3 0 0 :: .any :: .any :: .any :: .ptr 0 0 0 :: .sl (Y3.Pq.map Gv.c) :: .own 2 :: .agg [.own 2, .nils] :: .ptr 0 0 1 :: .sl (Y3.Tr.map (cL (cI .i64))) :: .i .i64 (Y3.Tr.length:Int) :: .i .i64 0 :: an 13 [],[.box 38 [.sl (Y3.Pq.map Gv.c), .sl (Y3.Tr.map (cL (cI .i64)))], .box 38 [.nils, .nils], .vec 40 3 (([]:List (List AV)) ++ (Y3.Pq.map Gv.c)) false, .box 38 [.own 2, .own 4], .nest 49 [] false]⟩) (X1 (Z7w Y3) (x:=(Z5j Y3)) (Zez Y3 hp0 hp1 hp2 hp3 (((Y3.Tr.length:Int) - 0).toNat + 1) 0 ([]:List (List Int)) (show 0≤0 from (by omega)) (show (([]:List (List Int)).length:Int)=0 from (by simp)) (Nat.lt_succ_self _)) rfl) (by simp [Z7x,Gv.c,cL,cI]))) <| sK [3,4] sN) rfl (by kernel_rfl) (by kernel_rfl) rfl ?_ ?_
 · rfl
 · simp [Z5O,Gv.c]
@[simp] theorem ZhE (m:Gm):Z5O m=m:=by
  unfold Z5O Z5j
  rw [X2W (f:=fun i => (m.Tr.getD i.toNat default)) (n:=(m.Tr.length:Int)) (lo:=Z35 m) (fun k i r => rfl) _ _ _ (Nat.lt_succ_self _)]
  simp [X3y]
theorem Zga (Y3:Gm) (hp0:Y3.Pq.length≤1073741824) (hp1:Y3.Tr.length≤1073741824) (hp2:∀ t∈Y3.Tr,t.length≤1073741824) (hp3:Xt Y3.Pq.length Y3.Tr):Fn prog 128 [.agg [.sl (Y3.Pq.map Gv.c), .sl (Y3.Tr.map (cL (cI .i64)))]] (.agg [.own 0, .own 1]) [.vec 40 3 (Y3.Pq.map Gv.c) false, .nest 49 (Y3.Tr.map fun l => l.map (cI .i64)) false]:=by
 simpa only [ZhE] using Zg9  Y3 hp0 hp1 hp2 hp3
def Z39 (Ya:Gb):Gb:=(⟨Ya.Me,(([]:List Gs) ++ Ya.Sp),Ya.Film,Ya.Bend,(([]:List Nat) ++ Ya.We),Ya.Fall⟩:Gb)
theorem Zgb (Ya:Gb) (hp0:Ya.Me.Pq.length≤1073741824) (hp1:Ya.Me.Tr.length≤1073741824) (hp2:∀ t∈Ya.Me.Tr,t.length≤1073741824) (hp3:Ya.Sp.length≤1073741824) (hp4:Ya.We.length≤1073741824) (hp5:Xt Ya.Me.Pq.length Ya.Me.Tr)  : Fn prog 84 [.agg [.sl (Ya.Me.Pq.map Gv.c), .sl (Ya.Me.Tr.map (cL (cI .i64))), .sl (Ya.Sp.map Gs.c), .f .f32 Ya.Film, .f .f32 Ya.Bend, .sl (Ya.We.map (cF .f32)), .f .f32 Ya.Fall.X, .f .f32 Ya.Fall.Y, .f .f32 Ya.Fall.Z]] (.agg [.own 0, .own 1, .own 2, .f .f32 ((Z39 Ya).Film), .f .f32 ((Z39 Ya).Bend), .own 3, .f .f32 ((Z39 Ya).Fall.X), .f .f32 ((Z39 Ya).Fall.Y), .f .f32 ((Z39 Ya).Fall.Z)]) [.vec 40 3 (((Z39 Ya).Me.Pq).map Gv.c) false, .nest 49 (((Z39 Ya).Me.Tr).map fun l => l.map (cI .i64)) false, .vec 133 4 (((Z39 Ya).Sp).map Gs.c) false, .vec 27 1 (((Z39 Ya).We).map (cF .f32)) false]:=by
 have y0:([]:List Gs).length + Ya.Sp.length≤1073741824:=(by simp_all <;> omega)
 have y1:([]:List Nat).length + Ya.We.length≤1073741824:=(by simp_all <;> omega)
 refine fnS E0Ok Z4 (c:=X0 f84) [] (.agg [.own 0, .own 1, .own 2, .f .f32 Ya.Film, .f .f32 Ya.Bend, .own 3, .f .f32 Ya.Fall.X, .f .f32 Ya.Fall.Y, .f .f32 Ya.Fall.Z]) [.vec 40 3 (Ya.Me.Pq.map Gv.c) false, .nest 49 (Ya.Me.Tr.map fun l => l.map (cI .i64)) false, .vec 133 4 (([]:List (List AV)) ++ (Ya.Sp.map Gs.c)) false, .vec 27 1 (([]:List (List AV)) ++ (Ya.We.map (cF .f32))) false] func84 (sF (Zga Ya.Me hp0 hp1 hp2 hp5) <| sC (show ([]:List (List AV)).length + (Ya.Sp.map Gs.c).length≤1073741824 from (by simpa using y0)) <| sC (show (Ya.Sp.map Gs.c).all (fun cs => cs.length == 4 && cs.all isS)=true from (X1f (fun _ => rfl))) <| sC (show ([]:List (List AV)).length + (Ya.We.map (cF .f32)).length≤1073741824 from (by simpa using y1)) <| sC (show (Ya.We.map (cF .f32)).all (fun cs => cs.length == 1 && cs.all isS)=true from (X1f (fun _ => rfl))) <| sK [2,3,4,5] sN) rfl (by kernel_rfl) (by kernel_rfl) rfl ?_ ?_
 · rfl
 · simp [Z39,Gs.c,cF]
@[simp] theorem ZhF (b:Gb):Z39 b=b:=by simp [Z39]
theorem Zc9 (Ya:Gb) (hp0:Ya.Me.Pq.length≤1073741824) (hp1:Ya.Me.Tr.length≤1073741824) (hp2:∀ t∈Ya.Me.Tr,t.length≤1073741824) (hp3:Ya.Sp.length≤1073741824) (hp4:Ya.We.length≤1073741824) (hp5:Xt Ya.Me.Pq.length Ya.Me.Tr):Fn prog 84 [.agg [.sl (Ya.Me.Pq.map Gv.c), .sl (Ya.Me.Tr.map (cL (cI .i64))), .sl (Ya.Sp.map Gs.c), .f .f32 Ya.Film, .f .f32 Ya.Bend, .sl (Ya.We.map (cF .f32)), .f .f32 Ya.Fall.X, .f .f32 Ya.Fall.Y, .f .f32 Ya.Fall.Z]] (.agg [.own 0, .own 1, .own 2, .f .f32 Ya.Film, .f .f32 Ya.Bend, .own 3, .f .f32 Ya.Fall.X, .f .f32 Ya.Fall.Y, .f .f32 Ya.Fall.Z]) [.vec 40 3 (Ya.Me.Pq.map Gv.c) false, .nest 49 (Ya.Me.Tr.map fun l => l.map (cI .i64)) false, .vec 133 4 (Ya.Sp.map Gs.c) false, .vec 27 1 (Ya.We.map (cF .f32)) false]:=by
 simpa only [ZhF] using Zgb  Ya hp0 hp1 hp2 hp3 hp4 hp5
def Z2d (Y7:Gv) (Yo:Gv):Gv:=(⟨(fop .sub .f32 Y7.X Yo.X),(fop .sub .f32 Y7.Y Yo.Y),(fop .sub .f32 Y7.Z Yo.Z)⟩:Gv)
theorem Z4y (Y7:Gv) (Yo:Gv)   : Fn prog 114 [.agg [.f .f32 Y7.X, .f .f32 Y7.Y, .f .f32 Y7.Z], .agg [.f .f32 Yo.X, .f .f32 Yo.Y, .f .f32 Yo.Z]] (.agg [.f .f32 ((Z2d Y7 Yo).X), .f .f32 ((Z2d Y7 Yo).Y), .f .f32 ((Z2d Y7 Yo).Z)]) []:=by
 refine fnS E0Ok Z4 (c:=X0 f114) [] (.agg [.f .f32 (fop .sub .f32 Y7.X Yo.X), .f .f32 (fop .sub .f32 Y7.Y Yo.Y), .f .f32 (fop .sub .f32 Y7.Z Yo.Z)]) [] func114 (sK [] sN) rfl (by kernel_rfl) (by kernel_rfl) rfl ?_ ?_
 · rfl
 · rfl
def Zx (Ya:Gb) (s_1:Gs):Gv:=(Z2d (Ya.Me.Pq.getD s_1.B.toNat default) (Ya.Me.Pq.getD s_1.A.toNat default))
theorem ZaG (Ya:Gb) (s_1:Gs) (hp0:Ya.Me.Pq.length≤1073741824) (hp1:Ya.Me.Tr.length≤1073741824) (hp2:∀ t∈Ya.Me.Tr,t.length≤1073741824) (hp3:Ya.Sp.length≤1073741824) (hp4:Ya.We.length≤1073741824) (hp5:0≤s_1.A) (hp6:s_1.A < (Ya.Me.Pq.length:Int)) (hp7:0≤s_1.B) (hp8:s_1.B < (Ya.Me.Pq.length:Int))  : Fn prog 109 [.agg [.sl (Ya.Me.Pq.map Gv.c), .sl (Ya.Me.Tr.map (cL (cI .i64))), .sl (Ya.Sp.map Gs.c), .f .f32 Ya.Film, .f .f32 Ya.Bend, .sl (Ya.We.map (cF .f32)), .f .f32 Ya.Fall.X, .f .f32 Ya.Fall.Y, .f .f32 Ya.Fall.Z], .agg [.i .i64 s_1.A, .i .i64 s_1.B, .f .f32 s_1.Long, .f .f32 s_1.Stiff]] (.agg [.f .f32 ((Zx Ya s_1).X), .f .f32 ((Zx Ya s_1).Y), .f .f32 ((Zx Ya s_1).Z)]) []:=by
 have y0:(0:Int)≤s_1.B:=(by assumption)
 have y1:(0:Int)≤s_1.A:=(by assumption)
 refine fnS E0Ok Z4 (c:=X0 f109) [] (.agg [.f .f32 ((Z2d (Ya.Me.Pq.getD s_1.B.toNat default) (Ya.Me.Pq.getD s_1.A.toNat default)).X), .f .f32 ((Z2d (Ya.Me.Pq.getD s_1.B.toNat default) (Ya.Me.Pq.getD s_1.A.toNat default)).Y), .f .f32 ((Z2d (Ya.Me.Pq.getD s_1.B.toNat default) (Ya.Me.Pq.getD s_1.A.toNat default)).Z)]) [] func109 (sK [14,14] <| sG Gv.c Ya.Me.Pq s_1.B y0 hp8 <| sG Gv.c Ya.Me.Pq s_1.A y1 hp6 <| sF (Z4y (Ya.Me.Pq.getD s_1.B.toNat default) (Ya.Me.Pq.getD s_1.A.toNat default)) <| sK [] sN) rfl (by kernel_rfl) (by kernel_rfl) rfl ?_ ?_
 · rfl
 · rfl
def Z5v (Y7:Gv) (Yo:Gv):Nat:=(fop .add .f32 (fop .add .f32 (fop .mul .f32 Y7.X Yo.X) (fop .mul .f32 Y7.Y Yo.Y)) (fop .mul .f32 Y7.Z Yo.Z))
theorem Zag (Y7:Gv) (Yo:Gv)   : Fn prog 140 [.agg [.f .f32 Y7.X, .f .f32 Y7.Y, .f .f32 Y7.Z], .agg [.f .f32 Yo.X, .f .f32 Yo.Y, .f .f32 Yo.Z]] (.f .f32 (Z5v Y7 Yo)) []:=by
 refine fnS E0Ok Z4 (c:=X0 f140) [] (.f .f32 (fop .add .f32 (fop .add .f32 (fop .mul .f32 Y7.X Yo.X) (fop .mul .f32 Y7.Y Yo.Y)) (fop .mul .f32 Y7.Z Yo.Z))) [] func140 (sK [] sN) rfl (by kernel_rfl) (by kernel_rfl) rfl ?_ ?_
 · rfl
 · rfl
def Z7X (x_0:Nat):Nat:=(fcv .f64 .f32 (Z5s (fcv .f32 .f64 x_0)))
theorem Zf4 (x_0:Nat)   : Fn prog 139 [.f .f32 x_0] (.f .f32 (Z7X x_0)) []:=by
 have y0:X1u .f64 .f32 (Z5s (fcv .f32 .f64 x_0))=true:=(X3x _)
 refine fnS E0Ok Z4 (c:=X0 f139) [] (.f .f32 (fcv .f64 .f32 (Z5s (fcv .f32 .f64 x_0)))) [] func139 (sC (Xo x_0) <| sF (Zfe (fcv .f32 .f64 x_0)) <| sC y0 <| sK [] sN) rfl (by kernel_rfl) (by kernel_rfl) rfl ?_ ?_
 · rfl
 · rfl
def ZD (v_0:Gv):Nat:=(Z7X (Z5v v_0 v_0))
theorem Z8j (v_0:Gv)   : Fn prog 112 [.agg [.f .f32 v_0.X, .f .f32 v_0.Y, .f .f32 v_0.Z]] (.f .f32 (ZD v_0)) []:=by
 refine fnS E0Ok Z4 (c:=X0 f112) [] (.f .f32 (Z7X (Z5v v_0 v_0))) [] func112 (sF (Zag v_0 v_0) <| sF (Zf4 (Z5v v_0 v_0)) <| sK [] sN) rfl (by kernel_rfl) (by kernel_rfl) rfl ?_ ?_
 · rfl
 · rfl
def Z4p (d_0:Gv) (s_1:Gs):Nat:=(cond (fcmp .gtr .f32 (ZD d_0) 0)
  (fop .quo .f32 (fop .mul .f32 s_1.Stiff (fop .sub .f32 (ZD d_0) s_1.Long)) (ZD d_0))
  0)
theorem Zh4 (d_0:Gv) (s_1:Gs)   : Fn prog 110 [.agg [.f .f32 d_0.X, .f .f32 d_0.Y, .f .f32 d_0.Z], .agg [.i .i64 s_1.A, .i .i64 s_1.B, .f .f32 s_1.Long, .f .f32 s_1.Stiff]] (.f .f32 (Z4p d_0 s_1)) []:=by
 have p {a C} (s:Scr a C):=sF (Z8j d_0) <| s
 cases h0:(fcmp .gtr .f32 (ZD d_0) 0) with
 | true =>
  refine fnS E0Ok Z4 (c:=X0 f110) [] (.f .f32 (fop .quo .f32 (fop .mul .f32 s_1.Stiff (fop .sub .f32 (ZD d_0) s_1.Long)) (ZD d_0))) [] func110 (p (sB' h0 <| sK [] sN)) rfl (by kernel_rfl) (by kernel_rfl) rfl ?_ ?_
  · simp only [Z4p,h0,cond_true]
  · rfl
 | false =>
  refine fnS E0Ok Z4 (c:=X0 f110) [] (.f .f32 0) [] func110 (p (sB' h0 <| sK [] sN)) rfl (by kernel_rfl) (by kernel_rfl) rfl ?_ ?_
  · simp only [Z4p,h0,cond_false]
  · rfl
def Zm (v_0:Gv) (YH:Nat):Gv:=(⟨(fop .mul .f32 v_0.X YH),(fop .mul .f32 v_0.Y YH),(fop .mul .f32 v_0.Z YH)⟩:Gv)
theorem Z5P (v_0:Gv) (YH:Nat)   : Fn prog 108 [.agg [.f .f32 v_0.X, .f .f32 v_0.Y, .f .f32 v_0.Z], .f .f32 YH] (.agg [.f .f32 ((Zm v_0 YH).X), .f .f32 ((Zm v_0 YH).Y), .f .f32 ((Zm v_0 YH).Z)]) []:=by
 refine fnS E0Ok Z4 (c:=X0 f108) [] (.agg [.f .f32 (fop .mul .f32 v_0.X YH), .f .f32 (fop .mul .f32 v_0.Y YH), .f .f32 (fop .mul .f32 v_0.Z YH)]) [] func108 (sK [] sN) rfl (by kernel_rfl) (by kernel_rfl) rfl ?_ ?_
 · rfl
 · rfl
def Z16 (Y7:Gv) (Yo:Gv):Gv:=(⟨(fop .add .f32 Y7.X Yo.X),(fop .add .f32 Y7.Y Yo.Y),(fop .add .f32 Y7.Z Yo.Z)⟩:Gv)
theorem Z5a (Y7:Gv) (Yo:Gv)   : Fn prog 107 [.agg [.f .f32 Y7.X, .f .f32 Y7.Y, .f .f32 Y7.Z], .agg [.f .f32 Yo.X, .f .f32 Yo.Y, .f .f32 Yo.Z]] (.agg [.f .f32 ((Z16 Y7 Yo).X), .f .f32 ((Z16 Y7 Yo).Y), .f .f32 ((Z16 Y7 Yo).Z)]) []:=by
 refine fnS E0Ok Z4 (c:=X0 f107) [] (.agg [.f .f32 (fop .add .f32 Y7.X Yo.X), .f .f32 (fop .add .f32 Y7.Y Yo.Y), .f .f32 (fop .add .f32 Y7.Z Yo.Z)]) [] func107 (sK [] sN) rfl (by kernel_rfl) (by kernel_rfl) rfl ?_ ?_
 · rfl
 · rfl
def ZF (Y1c:Int) (v_1:Gv) (Y1q:Nat) (Yy:(List Gv)):(List Gv):=(Yy.set Y1c.toNat (Z16 (Yy.getD Y1c.toNat default) (Zm v_1 Y1q)))
@[simp] theorem ZfS (Y1c:Int) (v_1:Gv) (Y1q:Nat) (Yy:(List Gv)):(ZF Y1c v_1 Y1q Yy).length=Yy.length:=by
  first | (simp [ZF]; done)
theorem Z2h (Y1c:Int) (v_1:Gv) (Y1q:Nat) (Yy:(List Gv)) (hp0:Yy.length≤1073741824) (hp1:0≤Y1c) (hp2:Y1c < (Yy.length:Int))  : X3 prog 106 [.box 34 [.own 1], .vec 40 3 (Yy.map Gv.c) false] [.i .i64 Y1c, .agg [.f .f32 v_1.X, .f .f32 v_1.Y, .f .f32 v_1.Z], .f .f32 Y1q, .ptr 0 0 0] (.tup []) [.box 34 [.own 1], .vec 40 3 ((ZF Y1c v_1 Y1q Yy).map Gv.c) false]:=by
 have y0:(0:Int)≤Y1c:=(by assumption)
 have y1:Y1c.toNat < Yy.length:=(by omega)
 refine X1Q (EpOk 2) Z4 (c:=X0 f106) [.box 34 [.own 1], .vec 40 3 (Yy.map Gv.c) false] [] (.tup []) [.box 34 [.own 1], .vec 40 3 ((Yy.map Gv.c).set Y1c.toNat [.f .f32 ((Z16 (Yy.getD Y1c.toNat default) (Zm v_1 Y1q)).X), .f .f32 ((Z16 (Yy.getD Y1c.toNat default) (Zm v_1 Y1q)).Y), .f .f32 ((Z16 (Yy.getD Y1c.toNat default) (Zm v_1 Y1q)).Z)]) false] func106 (sK [10,10] <| sX Gv.c Yy Y1c y0 hp2 <| sV Gv.c Yy Y1c.toNat y1 <| sF (Z5P v_1 Y1q) <| sF (Z5a (Yy.getD Y1c.toNat default) (Zm v_1 Y1q)) <| sX Gv.c Yy Y1c y0 hp2 <| sC (Xn (c:=Gv.c) (l:=Yy) y1) <| sK [] sN) rfl (by kernel_rfl) (by kernel_rfl) ?_ ?_
 · rfl
 · simp [ZF,Gv.c]
def Z2T (Y7:Gv) (Yo:Gv):Gv:=(⟨(fop .sub .f32 (fop .mul .f32 Y7.Y Yo.Z) (fop .mul .f32 Y7.Z Yo.Y)),(fop .sub .f32 (fop .mul .f32 Y7.Z Yo.X) (fop .mul .f32 Y7.X Yo.Z)),(fop .sub .f32 (fop .mul .f32 Y7.X Yo.Y) (fop .mul .f32 Y7.Y Yo.X))⟩:Gv)
theorem Zah (Y7:Gv) (Yo:Gv)   : Fn prog 113 [.agg [.f .f32 Y7.X, .f .f32 Y7.Y, .f .f32 Y7.Z], .agg [.f .f32 Yo.X, .f .f32 Yo.Y, .f .f32 Yo.Z]] (.agg [.f .f32 ((Z2T Y7 Yo).X), .f .f32 ((Z2T Y7 Yo).Y), .f .f32 ((Z2T Y7 Yo).Z)]) []:=by
 refine fnS E0Ok Z4 (c:=X0 f113) [] (.agg [.f .f32 (fop .sub .f32 (fop .mul .f32 Y7.Y Yo.Z) (fop .mul .f32 Y7.Z Yo.Y)), .f .f32 (fop .sub .f32 (fop .mul .f32 Y7.Z Yo.X) (fop .mul .f32 Y7.X Yo.Z)), .f .f32 (fop .sub .f32 (fop .mul .f32 Y7.X Yo.Y) (fop .mul .f32 Y7.Y Yo.X))]) [] func113 (sK [] sN) rfl (by kernel_rfl) (by kernel_rfl) rfl ?_ ?_
 · rfl
 · rfl
def Z5Q (Y3:Gm) (t_1:(List Int)):Gv:=(Z2T (Z2d (Y3.Pq.getD (t_1.getD 1 default).toNat default) (Y3.Pq.getD (t_1.getD 0 default).toNat default)) (Z2d (Y3.Pq.getD (t_1.getD 2 default).toNat default) (Y3.Pq.getD (t_1.getD 0 default).toNat default)))
def Zd (Y3:Gm) (t_1:(List Int)):Gv:=(Z5Q Y3 t_1)
theorem Zca (Y3:Gm) (t_1:(List Int)) (hp0:Y3.Pq.length≤1073741824) (hp1:Y3.Tr.length≤1073741824) (hp2:∀ t∈Y3.Tr,t.length≤1073741824) (hp3:t_1.length≤1073741824) (hp4:t_1.length=3∧∀ x∈t_1,0≤x∧x < (Y3.Pq.length:Int))  : Fn prog 111 [.agg [.sl (Y3.Pq.map Gv.c), .sl (Y3.Tr.map (cL (cI .i64)))], .sl (t_1.map (cI .i64))] (.agg [.f .f32 ((Zd Y3 t_1).X), .f .f32 ((Zd Y3 t_1).Y), .f .f32 ((Zd Y3 t_1).Z)]) []:=by
 have y0:(0:Int)≤0:=(by omega)
 have y1:0 < (t_1.length:Int):=(by omega)
 have y2:(0:Int)≤(t_1.getD 0 default):=(by have q:=Okt.at hp4; omega)
 have y3:(t_1.getD 0 default) < (Y3.Pq.length:Int):=(by have q:=Okt.at hp4; omega)
 have y4:(0:Int)≤1:=(by omega)
 have y5:1 < (t_1.length:Int):=(by omega)
 have y6:(0:Int)≤(t_1.getD 1 default):=(by have q:=Okt.at hp4; omega)
 have y7:(t_1.getD 1 default) < (Y3.Pq.length:Int):=(by have q:=Okt.at hp4; omega)
 have y8:(0:Int)≤2:=(by omega)
 have y9:2 < (t_1.length:Int):=(by omega)
 have y10:(0:Int)≤(t_1.getD 2 default):=(by have q:=Okt.at hp4; omega)
 have y11:(t_1.getD 2 default) < (Y3.Pq.length:Int):=(by have q:=Okt.at hp4; omega)
 refine fnS E0Ok Z4 (c:=X0 f111) [] (.agg [.f .f32 ((Z5Q Y3 t_1).X), .f .f32 ((Z5Q Y3 t_1).Y), .f .f32 ((Z5Q Y3 t_1).Z)]) [] func111 (sK [8,8] <| sG (cI .i64) t_1 0 y0 y1 <| sG Gv.c Y3.Pq (t_1.getD 0 default) y2 y3 <| sK [17,17] <| sG (cI .i64) t_1 1 y4 y5 <| sG Gv.c Y3.Pq (t_1.getD 1 default) y6 y7 <| sF (Z4y (Y3.Pq.getD (t_1.getD 1 default).toNat default) (Y3.Pq.getD (t_1.getD 0 default).toNat default)) <| sG (cI .i64) t_1 2 y8 y9 <| sG Gv.c Y3.Pq (t_1.getD 2 default) y10 y11 <| sF (Z4y (Y3.Pq.getD (t_1.getD 2 default).toNat default) (Y3.Pq.getD (t_1.getD 0 default).toNat default)) <| sF (Zah (Z2d (Y3.Pq.getD (t_1.getD 1 default).toNat default) (Y3.Pq.getD (t_1.getD 0 default).toNat default)) (Z2d (Y3.Pq.getD (t_1.getD 2 default).toNat default) (Y3.Pq.getD (t_1.getD 0 default).toNat default))) <| sK [] sN) rfl (by kernel_rfl) (by kernel_rfl) rfl ?_ ?_
 · rfl
 · rfl
end Go.Ab
