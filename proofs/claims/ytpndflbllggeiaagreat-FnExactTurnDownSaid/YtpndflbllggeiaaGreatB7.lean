/- The functions of this seat as plain Lean, and that the program's are these. Printed by a program of the prover's own. -/
import Derived.Test.YtpndflbllggeiaaGreatB6
set_option linter.unusedVariables false
set_option linter.unusedSimpArgs false
set_option maxRecDepth 100000
namespace Go.Ab
open Go.RowKit Go.Proofs.Tryz
def ZK (Yd:Gb) (Y3:(List Int)) (Y4:Nat) (Yj:Int):Int × Int × Nat × Nat × Nat × Nat × Nat × (List Gv) × (List (List Int)) × (List Gs) × (List Nat):=(Z1h Yd Y3 Y4 Yj (Yj.toNat + 1) Yj 0 Yd.Me.Pq Yd.Me.Tr Yd.Sp Yd.We Yd.Film Yd.Bend Yd.Fall.X Yd.Fall.Y Yd.Fall.Z (Z1 Yd Y3))
def Ze (Yd:Gb) (Y3:(List Int)) (Y4:Nat) (Yj:Int):Gb × Int × Bool:=(cond (Zt Yd)
  (cond (Zq Yd Y3)
    (cond (Zh Y4)
      (cond (Zl Yj 0 40)
        ((⟨(⟨(ZK Yd Y3 Y4 Yj).2.2.2.2.2.2.2.1,(ZK Yd Y3 Y4 Yj).2.2.2.2.2.2.2.2.1⟩:Gm),(ZK Yd Y3 Y4 Yj).2.2.2.2.2.2.2.2.2.1,(ZK Yd Y3 Y4 Yj).2.2.1,(ZK Yd Y3 Y4 Yj).2.2.2.1,(ZK Yd Y3 Y4 Yj).2.2.2.2.2.2.2.2.2.2,(⟨(ZK Yd Y3 Y4 Yj).2.2.2.2.1,(ZK Yd Y3 Y4 Yj).2.2.2.2.2.1,(ZK Yd Y3 Y4 Yj).2.2.2.2.2.2.1⟩:Gv)⟩:Gb),(ZK Yd Y3 Y4 Yj).2.1,true)
        ((⟨(⟨([]:List Gv),([]:List (List Int))⟩:Gm),([]:List Gs),0,0,([]:List Nat),(⟨0,0,0⟩:Gv)⟩:Gb),0,false))
      ((⟨(⟨([]:List Gv),([]:List (List Int))⟩:Gm),([]:List Gs),0,0,([]:List Nat),(⟨0,0,0⟩:Gv)⟩:Gb),0,false))
    ((⟨(⟨([]:List Gv),([]:List (List Int))⟩:Gm),([]:List Gs),0,0,([]:List Nat),(⟨0,0,0⟩:Gv)⟩:Gb),0,false))
  ((⟨(⟨([]:List Gv),([]:List (List Int))⟩:Gm),([]:List Gs),0,0,([]:List Nat),(⟨0,0,0⟩:Gv)⟩:Gb),0,false))
theorem Zj1 (b:Gb) (l:List Int) (s:Nat) (n:Int):∀ (k:Nat) (y c:Int) P T S W f d x1 x2 x3 V,y.toNat < k→Like b ⟨⟨P,T⟩,S,f,d,W,⟨x1,x2,x3⟩⟩→∀ r,Z1h b l s n k y c P T S W f d x1 x2 x3 V=r →
    Like b ⟨⟨r.2.2.2.2.2.2.2.1,r.2.2.2.2.2.2.2.2.1⟩,r.2.2.2.2.2.2.2.2.2.1,r.2.2.1,r.2.2.2.1,r.2.2.2.2.2.2.2.2.2.2,⟨r.2.2.2.2.1,r.2.2.2.2.2.1,r.2.2.2.2.2.2.1⟩⟩:=by
  intro k
  induction k with
  | zero=>intro y c P T S W f d x1 x2 x3 V hk;exact absurd hk (Nat.not_lt_zero _)
  | succ k ih =>
    intro y c P T S W f d x1 x2 x3 V hk hL r e
    rw [Z1h] at e
    cases h1:decide (y > 0) with
    | false=>rw [h1,cond_false] at e;subst e;exact hL
    | true =>
      have hy:=odt h1
      rw [h1,cond_true] at e
      cases h2:(Z0 (⟨(⟨P,T⟩:Gm),S,f,d,W,(⟨x1,x2,x3⟩:Gv)⟩:Gb) V s).2.2 with
      | true=>rw [h2,cond_true] at e;exact ih _ _ _ _ _ _ _ _ _ _ _ _ (by omega) (Z91 (Z1j hL _ _)) r e
      | false =>
        rw [h2,cond_false] at e
        cases h3:(Z0 (⟨(⟨P,T⟩:Gm),S,f,d,W,(⟨x1,x2,x3⟩:Gv)⟩:Gb) (Z1 (⟨(⟨P,T⟩:Gm),S,f,d,W,(⟨x1,x2,x3⟩:Gv)⟩:Gb) l) s).2.2 with
        | true=>rw [h3,cond_true] at e;exact ih _ _ _ _ _ _ _ _ _ _ _ _ (by omega) (Z91 (Z1j hL _ _)) r e
        | false=>rw [h3,cond_false] at e;subst e;exact hL
theorem Z6L (b:Gb) (l:List Int) (s:Nat) (n:Int):(Ze b l s n=((⟨(⟨([]:List Gv),([]:List (List Int))⟩:Gm),([]:List Gs),0,0,([]:List Nat),(⟨0,0,0⟩:Gv)⟩:Gb),0,false))∨Like b (Ze b l s n).1:=by
  unfold Ze
  cases Zt b with
  | false=>left;rfl
  | true =>
    cases Zq b l with
    | false=>left;rfl
    | true =>
      cases Zh s with
      | false=>left;rfl
      | true =>
        cases h:Zl n 0 40 with
        | false=>left;rfl
        | true =>
          right
          simp only [cond_true]
          exact Zj1 b l s n _ _ _ _ _ _ _ _ _ _ _ _ _ (Nat.lt_succ_self _) ⟨rfl,rfl,rfl,rfl⟩ (ZK b l s n) rfl
theorem Zbz (b:Gb) (l:List Int) (s:Nat) (n:Int):(Ze b l s n).1.Me.Pq.length≤b.Me.Pq.length:=by
  rcases Z6L b l s n with e | h
  · rw [e];exact Nat.zero_le _
  · exact Nat.le_of_eq (Zy h).1
theorem ZbA (b:Gb) (l:List Int) (s:Nat) (n:Int):(Ze b l s n).1.Me.Tr.length≤b.Me.Tr.length:=by
  rcases Z6L b l s n with e | h
  · rw [e];exact Nat.zero_le _
  · exact Nat.le_of_eq (Zy h).2.1
theorem ZbB (b:Gb) (l:List Int) (s:Nat) (n:Int):(Ze b l s n).1.We.length≤b.We.length:=by
  rcases Z6L b l s n with e | h
  · rw [e];exact Nat.zero_le _
  · exact Nat.le_of_eq (Zy h).2.2.2
theorem ZbC (b:Gb) (l:List Int) (s:Nat) (n:Int):(Ze b l s n).1.Sp.length≤b.Sp.length:=by
  rcases Z6L b l s n with e | h
  · rw [e];exact Nat.zero_le _
  · exact Nat.le_of_eq (Zy h).2.2.1
theorem ZbD (b:Gb) (l:List Int) (s:Nat) (n:Int):∀ t∈(Ze b l s n).1.Me.Tr,t∈b.Me.Tr:=by
  rcases Z6L b l s n with e | h
  · rw [e];(intro t ht;cases ht)
  · rw [h.2.1];exact fun t ht=>ht
theorem Zgm (Yd:Gb) (Y3:(List Int)) (Y4:Nat) (Yj:Int) (hp0:Yd.Me.Pq.length≤1073741824) (hp1:Yd.Me.Tr.length≤1073741824) (hp2:∀ t∈Yd.Me.Tr,t.length≤1073741824) (hp3:Yd.Sp.length≤1073741824) (hp4:Yd.We.length≤1073741824) (hp5:Y3.length≤1073741824)  : Fn prog 43 [.agg [.sl (Yd.Me.Pq.map Gv.c), .sl (Yd.Me.Tr.map (cL (cI .i64))), .sl (Yd.Sp.map Gs.c), .f .f32 Yd.Film, .f .f32 Yd.Bend, .sl (Yd.We.map (cF .f32)), .f .f32 Yd.Fall.X, .f .f32 Yd.Fall.Y, .f .f32 Yd.Fall.Z], .sl (Y3.map (cI .i64)), .f .f32 Y4, .i .i64 Yj] (.tup [.agg [.own 0, .own 1, .own 2, .f .f32 ((Ze Yd Y3 Y4 Yj).1.Film), .f .f32 ((Ze Yd Y3 Y4 Yj).1.Bend), .own 3, .f .f32 ((Ze Yd Y3 Y4 Yj).1.Fall.X), .f .f32 ((Ze Yd Y3 Y4 Yj).1.Fall.Y), .f .f32 ((Ze Yd Y3 Y4 Yj).1.Fall.Z)], .i .i64 ((Ze Yd Y3 Y4 Yj).2.1), .b ((Ze Yd Y3 Y4 Yj).2.2)]) [.vec 40 3 (((Ze Yd Y3 Y4 Yj).1.Me.Pq).map Gv.c) false, .nest 49 (((Ze Yd Y3 Y4 Yj).1.Me.Tr).map fun l=>l.map (cI .i64)) false, .vec 133 4 (((Ze Yd Y3 Y4 Yj).1.Sp).map Gs.c) false, .vec 27 1 (((Ze Yd Y3 Y4 Yj).1.We).map (cF .f32)) false]:=by
 have p {a C} (s:Scr a C):=sF (Zhv Yd hp0 hp1 hp2 hp3 hp4)<|s
 cases h0:(Zt Yd) with
 | true =>
  have q {a C} (s:Scr a C):=p (sB' h0<|sB' h0<|sF (ZgD Yd Y3 hp0 hp1 hp2 hp3 hp4 hp5)<|sB' h0<|sB' h0<|s)
  clear p
  cases h1:(Zq Yd Y3) with
  | true =>
   have p {a C} (s:Scr a C):=q (sB' h1<|sB' h1<|sF (Zeq Y4)<|sB' h1<|sB' h1<|s)
   clear q
   cases h2:(Zh Y4) with
   | true =>
    have q {a C} (s:Scr a C):=p (sB' h2<|sB' h2<|sF (Z5E Yj 0 40)<|sB' h2<|sB' h2<|s)
    clear p
    cases h3:(Zl Yj 0 40) with
    | true =>
     have y0:OkBd Yd:=by clear q;exact (by exact Z6a _ (by assumption))
     have y1:OkIx Yd.Me.Pq.length (fun x=>x) Y3:=by clear q;exact (by exact Z8M _ _ (by assumption) (by assumption))
     refine fnS E0Ok Z7 (c:=X0 f43) [] (.tup [.agg [.own 0, .own 1, .own 2, .f .f32 ((ZK Yd Y3 Y4 Yj).2.2.1), .f .f32 ((ZK Yd Y3 Y4 Yj).2.2.2.1), .own 3, .f .f32 ((ZK Yd Y3 Y4 Yj).2.2.2.2.1), .f .f32 ((ZK Yd Y3 Y4 Yj).2.2.2.2.2.1), .f .f32 ((ZK Yd Y3 Y4 Yj).2.2.2.2.2.2.1)], .i .i64 ((ZK Yd Y3 Y4 Yj).2.1), .b true]) [.vec 40 3 (((ZK Yd Y3 Y4 Yj).2.2.2.2.2.2.2.1).map Gv.c) false, .nest 49 (((ZK Yd Y3 Y4 Yj).2.2.2.2.2.2.2.2.1).map fun l=>l.map (cI .i64)) false, .vec 133 4 (((ZK Yd Y3 Y4 Yj).2.2.2.2.2.2.2.2.2.1).map Gs.c) false, .vec 27 1 (((ZK Yd Y3 Y4 Yj).2.2.2.2.2.2.2.2.2.2).map (cF .f32)) false] func43 (q (sB' h3<|sF (Zbl Yd hp0 hp1 hp2 hp3 hp4)<|sF (Fn.castA (args':=[.ref [.sl (Yd.Me.Pq.map Gv.c), .sl ((Yd.Me.Tr.map fun l=>l.map (cI .i64)).map fun l => [.sl l]), .sl (Yd.Sp.map Gs.c), .f .f32 Yd.Film, .f .f32 Yd.Bend, .sl (Yd.We.map (cF .f32)), .f .f32 Yd.Fall.X, .f .f32 Yd.Fall.Y, .f .f32 Yd.Fall.Z] 0, .sl (Y3.map (cI .i64))]) (Z82 Yd Y3 hp0 hp1 hp2 hp3 hp4 hp5 y0 y1) (by simp [cL,Function.comp_def];rfl))<|sL Z6z 8 (X1 (Z7I Yd Y3 Y4 Yj) (x:=(ZK Yd Y3 Y4 Yj)) (ZeH Yd Y3 Y4 Yj hp0 hp1 hp2 hp3 hp4 hp5 h3 h0 h1 (Yj.toNat + 1) Yj 0 Yd.Me.Pq Yd.Me.Tr Yd.Sp Yd.We Yd.Film Yd.Bend Yd.Fall.X Yd.Fall.Y Yd.Fall.Z (Z1 Yd Y3) (show 0≤0 from (by omega)) (show 0≤Yj from (by have w:=in40 (n:=Yj) (by assumption);omega)) (show Like Yd (⟨(⟨Yd.Me.Pq,Yd.Me.Tr⟩:Gm),Yd.Sp,Yd.Film,Yd.Bend,Yd.We,(⟨Yd.Fall.X,Yd.Fall.Y,Yd.Fall.Z⟩:Gv)⟩:Gb) from (by exact ⟨rfl,rfl,rfl,rfl⟩)) (show (Z1 Yd Y3).length=Yd.Me.Pq.length from (by with_reducible exact Zm _ _)) (show 0 + Yj≤40 from (by have w:=in40 (n:=Yj) (by assumption);omega)) (Nat.lt_succ_self _)) rfl)<|sK [3,4,5,6] sN)) rfl (by kernel_rfl) (by kernel_rfl) rfl ?_ ?_
     · simp only [Ze,h0,h1,h2,h3,cond_true]
     · simp [Ze,h0,h1,h2,h3]
    | false =>
     refine fnS E0Ok Z7 (c:=X0 f43) [(.row 1 0, .vec 40 3 [] false),(.row 1 1, .nest 49 [] false),(.row 1 2, .vec 133 4 [] false),(.row 1 5, .vec 27 1 [] false)] (.tup [.agg [.own 0, .own 1, .own 2, .f .f32 0, .f .f32 0, .own 3, .f .f32 0, .f .f32 0, .f .f32 0], .i .i64 0, .b false]) [.vec 40 3 [] false, .nest 49 [] false, .vec 133 4 [] false, .vec 27 1 [] false] func43 (q (sB' h3<|sK [2,3,4,5] sN)) rfl (by kernel_rfl) (by kernel_rfl) rfl ?_ ?_
     · simp only [Ze,h0,h1,h2,h3,cond_true,cond_false]
     · simp [Ze,h0,h1,h2,h3,Gv.c,cL,cI,Gs.c,cF]
   | false =>
    refine fnS E0Ok Z7 (c:=X0 f43) [(.row 1 0, .vec 40 3 [] false),(.row 1 1, .nest 49 [] false),(.row 1 2, .vec 133 4 [] false),(.row 1 5, .vec 27 1 [] false)] (.tup [.agg [.own 0, .own 1, .own 2, .f .f32 0, .f .f32 0, .own 3, .f .f32 0, .f .f32 0, .f .f32 0], .i .i64 0, .b false]) [.vec 40 3 [] false, .nest 49 [] false, .vec 133 4 [] false, .vec 27 1 [] false] func43 (p (sB' h2<|sB' h2<|sB' h2<|sB' h2<|sB (show true=true from rfl)<|sK [2,3,4,5] sN)) rfl (by kernel_rfl) (by kernel_rfl) rfl ?_ ?_
    · simp only [Ze,h0,h1,h2,cond_true,cond_false]
    · simp [Ze,h0,h1,h2,Gv.c,cL,cI,Gs.c,cF]
  | false =>
   refine fnS E0Ok Z7 (c:=X0 f43) [(.row 1 0, .vec 40 3 [] false),(.row 1 1, .nest 49 [] false),(.row 1 2, .vec 133 4 [] false),(.row 1 5, .vec 27 1 [] false)] (.tup [.agg [.own 0, .own 1, .own 2, .f .f32 0, .f .f32 0, .own 3, .f .f32 0, .f .f32 0, .f .f32 0], .i .i64 0, .b false]) [.vec 40 3 [] false, .nest 49 [] false, .vec 133 4 [] false, .vec 27 1 [] false] func43 (q (sB' h1<|sB' h1<|sB' h1<|sB' h1<|sB (show true=true from rfl)<|sB (show true=true from rfl)<|sB (show true=true from rfl)<|sB (show true=true from rfl)<|sB (show true=true from rfl)<|sK [2,3,4,5] sN)) rfl (by kernel_rfl) (by kernel_rfl) rfl ?_ ?_
   · simp only [Ze,h0,h1,cond_true,cond_false]
   · simp [Ze,h0,h1,Gv.c,cL,cI,Gs.c,cF]
 | false =>
  refine fnS E0Ok Z7 (c:=X0 f43) [(.row 1 0, .vec 40 3 [] false),(.row 1 1, .nest 49 [] false),(.row 1 2, .vec 133 4 [] false),(.row 1 5, .vec 27 1 [] false)] (.tup [.agg [.own 0, .own 1, .own 2, .f .f32 0, .f .f32 0, .own 3, .f .f32 0, .f .f32 0, .f .f32 0], .i .i64 0, .b false]) [.vec 40 3 [] false, .nest 49 [] false, .vec 133 4 [] false, .vec 27 1 [] false] func43 (p (sB' h0<|sB' h0<|sB' h0<|sB' h0<|sB (show true=true from rfl)<|sB (show true=true from rfl)<|sB (show true=true from rfl)<|sB (show true=true from rfl)<|sB (show true=true from rfl)<|sB (show true=true from rfl)<|sB (show true=true from rfl)<|sB (show true=true from rfl)<|sB (show true=true from rfl)<|sK [2,3,4,5] sN)) rfl (by kernel_rfl) (by kernel_rfl) rfl ?_ ?_
  · simp only [Ze,h0,cond_false]
  · simp [Ze,h0,Gv.c,cL,cI,Gs.c,cF]
def ZP (n_0:Int) (Y10:Int) (YQ:Int):Bool:=(cond (decide (n_0 ≥ Y10))
  (decide (n_0≤YQ))
  false)
theorem Z6M (n_0:Int) (Y10:Int) (YQ:Int)   : Fn prog 83 [.i .i64 n_0, .i .i64 Y10, .i .i64 YQ] (.b (ZP n_0 Y10 YQ)) []:=by
 cases h0:(decide (n_0 ≥ Y10)) with
 | true =>
  have gh0:=odt h0
  refine fnS E0Ok Z7 (c:=X0 f83) [] (.b (decide (n_0≤YQ))) [] func83 (sB h0<|sB h0<|sB h0<|sB h0<|sK [] sN) rfl (by kernel_rfl) (by kernel_rfl) rfl ?_ ?_
  · simp only [ZP,h0,cond_true]
  · rfl
 | false =>
  have gh0:=odf h0
  refine fnS E0Ok Z7 (c:=X0 f83) [] (.b false) [] func83 (sB h0<|sB h0<|sB h0<|sB h0<|sK [] sN) rfl (by kernel_rfl) (by kernel_rfl) rfl ?_ ?_
  · simp only [ZP,h0,cond_false]
  · rfl
def Z2m (Yi:Gm) (Y1:Int):Nat→Int→(Unit) ⊕ (Unit)
  | 0,_ => .inl default
  | k + 1,Yh=>(cond (decide (Yh < ((Yi.Tr.getD Y1.toNat default).length:Int)))
    (cond (ZP ((Yi.Tr.getD Y1.toNat default).getD Yh.toNat default) 0 (IntKind.wrap .i64 ((Yi.Pq.length:Int) - 1)))
      (Z2m Yi Y1 k (Yh + 1))
      (.inl ()))
    (.inr ()))
def Z5K (Yi:Gm) (Y1:Int):(Unit) ⊕ (Unit)→Ex × St
  | .inl r=>(.ret,⟨.any :: .any :: .b false :: an 66 [],[]⟩)
  | .inr r=>((.exit 2),⟨.agg [.sl (Yi.Pq.map Gv.c), .sl (Yi.Tr.map (cL (cI .i64)))] :: .ptr 0 0 0 :: .any :: .i .i64 (Yi.Pq.length:Int) :: .any :: .sl ((Yi.Tr.getD Y1.toNat default).map (cI .i64)) :: .any :: .any :: .ptr 0 0 0 :: .sl (Yi.Pq.map Gv.c) :: .i .i64 (Yi.Pq.length:Int) :: .i .i64 (Yi.Pq.length:Int) :: .b (decide ((Yi.Pq.length:Int) > 64)) :: .b (decide ((Yi.Pq.length:Int) > 64)) :: .ptr 0 0 1 :: .sl (Yi.Tr.map (cL (cI .i64))) :: .i .i64 (Yi.Tr.length:Int) :: .b (decide ((Yi.Tr.length:Int) > 128)) :: .b (decide ((Yi.Tr.length:Int) > 128)) :: .ptr 0 0 1 :: .sl (Yi.Tr.map (cL (cI .i64))) :: .i .i64 (Yi.Tr.length:Int) :: .i .i64 Y1 :: .b (decide (Y1 < (Yi.Tr.length:Int))) :: .ref [.sl ((Yi.Tr.getD Y1.toNat default).map (cI .i64))] 0 :: .sl ((Yi.Tr.getD Y1.toNat default).map (cI .i64)) :: .sl ((Yi.Tr.getD Y1.toNat default).map (cI .i64)) :: .i .i64 ((Yi.Tr.getD Y1.toNat default).length:Int) :: .b (((Yi.Tr.getD Y1.toNat default).length:Int) != 3) :: .b (((Yi.Tr.getD Y1.toNat default).length:Int) != 3) :: .sl ((Yi.Tr.getD Y1.toNat default).map (cI .i64)) :: .ref [.i .i64 ((Yi.Tr.getD Y1.toNat default).getD 0 default)] 0 :: .i .i64 ((Yi.Tr.getD Y1.toNat default).getD 0 default) :: .sl ((Yi.Tr.getD Y1.toNat default).map (cI .i64)) :: .ref [.i .i64 ((Yi.Tr.getD Y1.toNat default).getD 1 default)] 0 :: .i .i64 ((Yi.Tr.getD Y1.toNat default).getD 1 default) :: .b (((Yi.Tr.getD Y1.toNat default).getD 0 default) == ((Yi.Tr.getD Y1.toNat default).getD 1 default)) :: .b (((Yi.Tr.getD Y1.toNat default).getD 0 default) == ((Yi.Tr.getD Y1.toNat default).getD 1 default)) :: .b (((Yi.Tr.getD Y1.toNat default).getD 0 default) == ((Yi.Tr.getD Y1.toNat default).getD 1 default)) :: .sl ((Yi.Tr.getD Y1.toNat default).map (cI .i64)) :: .ref [.i .i64 ((Yi.Tr.getD Y1.toNat default).getD 1 default)] 0 :: .i .i64 ((Yi.Tr.getD Y1.toNat default).getD 1 default) :: .sl ((Yi.Tr.getD Y1.toNat default).map (cI .i64)) :: .ref [.i .i64 ((Yi.Tr.getD Y1.toNat default).getD 2 default)] 0 :: .i .i64 ((Yi.Tr.getD Y1.toNat default).getD 2 default) :: .b (((Yi.Tr.getD Y1.toNat default).getD 1 default) == ((Yi.Tr.getD Y1.toNat default).getD 2 default)) :: .b (((Yi.Tr.getD Y1.toNat default).getD 1 default) == ((Yi.Tr.getD Y1.toNat default).getD 2 default)) :: .b (((Yi.Tr.getD Y1.toNat default).getD 1 default) == ((Yi.Tr.getD Y1.toNat default).getD 2 default)) :: .sl ((Yi.Tr.getD Y1.toNat default).map (cI .i64)) :: .ref [.i .i64 ((Yi.Tr.getD Y1.toNat default).getD 0 default)] 0 :: .i .i64 ((Yi.Tr.getD Y1.toNat default).getD 0 default) :: .sl ((Yi.Tr.getD Y1.toNat default).map (cI .i64)) :: .ref [.i .i64 ((Yi.Tr.getD Y1.toNat default).getD 2 default)] 0 :: .i .i64 ((Yi.Tr.getD Y1.toNat default).getD 2 default) :: .b (((Yi.Tr.getD Y1.toNat default).getD 0 default) == ((Yi.Tr.getD Y1.toNat default).getD 2 default)) :: .b (((Yi.Tr.getD Y1.toNat default).getD 0 default) == ((Yi.Tr.getD Y1.toNat default).getD 2 default)) :: .sl ((Yi.Tr.getD Y1.toNat default).map (cI .i64)) :: .i .i64 ((Yi.Tr.getD Y1.toNat default).length:Int) :: an 11 [],[.box 38 [.sl (Yi.Pq.map Gv.c), .sl (Yi.Tr.map (cL (cI .i64)))]]⟩)
def Ze5 (Yi:Gm) (Y1:Int) (Yh:Int):St:=⟨.agg [.sl (Yi.Pq.map Gv.c), .sl (Yi.Tr.map (cL (cI .i64)))] :: .ptr 0 0 0 :: .any :: .i .i64 (Yi.Pq.length:Int) :: .any :: .sl ((Yi.Tr.getD Y1.toNat default).map (cI .i64)) :: .any :: .any :: .ptr 0 0 0 :: .sl (Yi.Pq.map Gv.c) :: .i .i64 (Yi.Pq.length:Int) :: .i .i64 (Yi.Pq.length:Int) :: .b (decide ((Yi.Pq.length:Int) > 64)) :: .b (decide ((Yi.Pq.length:Int) > 64)) :: .ptr 0 0 1 :: .sl (Yi.Tr.map (cL (cI .i64))) :: .i .i64 (Yi.Tr.length:Int) :: .b (decide ((Yi.Tr.length:Int) > 128)) :: .b (decide ((Yi.Tr.length:Int) > 128)) :: .ptr 0 0 1 :: .sl (Yi.Tr.map (cL (cI .i64))) :: .i .i64 (Yi.Tr.length:Int) :: .i .i64 Y1 :: .b (decide (Y1 < (Yi.Tr.length:Int))) :: .ref [.sl ((Yi.Tr.getD Y1.toNat default).map (cI .i64))] 0 :: .sl ((Yi.Tr.getD Y1.toNat default).map (cI .i64)) :: .sl ((Yi.Tr.getD Y1.toNat default).map (cI .i64)) :: .i .i64 ((Yi.Tr.getD Y1.toNat default).length:Int) :: .b (((Yi.Tr.getD Y1.toNat default).length:Int) != 3) :: .b (((Yi.Tr.getD Y1.toNat default).length:Int) != 3) :: .sl ((Yi.Tr.getD Y1.toNat default).map (cI .i64)) :: .ref [.i .i64 ((Yi.Tr.getD Y1.toNat default).getD 0 default)] 0 :: .i .i64 ((Yi.Tr.getD Y1.toNat default).getD 0 default) :: .sl ((Yi.Tr.getD Y1.toNat default).map (cI .i64)) :: .ref [.i .i64 ((Yi.Tr.getD Y1.toNat default).getD 1 default)] 0 :: .i .i64 ((Yi.Tr.getD Y1.toNat default).getD 1 default) :: .b (((Yi.Tr.getD Y1.toNat default).getD 0 default) == ((Yi.Tr.getD Y1.toNat default).getD 1 default)) :: .b (((Yi.Tr.getD Y1.toNat default).getD 0 default) == ((Yi.Tr.getD Y1.toNat default).getD 1 default)) :: .b (((Yi.Tr.getD Y1.toNat default).getD 0 default) == ((Yi.Tr.getD Y1.toNat default).getD 1 default)) :: .sl ((Yi.Tr.getD Y1.toNat default).map (cI .i64)) :: .ref [.i .i64 ((Yi.Tr.getD Y1.toNat default).getD 1 default)] 0 :: .i .i64 ((Yi.Tr.getD Y1.toNat default).getD 1 default) :: .sl ((Yi.Tr.getD Y1.toNat default).map (cI .i64)) :: .ref [.i .i64 ((Yi.Tr.getD Y1.toNat default).getD 2 default)] 0 :: .i .i64 ((Yi.Tr.getD Y1.toNat default).getD 2 default) :: .b (((Yi.Tr.getD Y1.toNat default).getD 1 default) == ((Yi.Tr.getD Y1.toNat default).getD 2 default)) :: .b (((Yi.Tr.getD Y1.toNat default).getD 1 default) == ((Yi.Tr.getD Y1.toNat default).getD 2 default)) :: .b (((Yi.Tr.getD Y1.toNat default).getD 1 default) == ((Yi.Tr.getD Y1.toNat default).getD 2 default)) :: .sl ((Yi.Tr.getD Y1.toNat default).map (cI .i64)) :: .ref [.i .i64 ((Yi.Tr.getD Y1.toNat default).getD 0 default)] 0 :: .i .i64 ((Yi.Tr.getD Y1.toNat default).getD 0 default) :: .sl ((Yi.Tr.getD Y1.toNat default).map (cI .i64)) :: .ref [.i .i64 ((Yi.Tr.getD Y1.toNat default).getD 2 default)] 0 :: .i .i64 ((Yi.Tr.getD Y1.toNat default).getD 2 default) :: .b (((Yi.Tr.getD Y1.toNat default).getD 0 default) == ((Yi.Tr.getD Y1.toNat default).getD 2 default)) :: .b (((Yi.Tr.getD Y1.toNat default).getD 0 default) == ((Yi.Tr.getD Y1.toNat default).getD 2 default)) :: .sl ((Yi.Tr.getD Y1.toNat default).map (cI .i64)) :: .i .i64 ((Yi.Tr.getD Y1.toNat default).length:Int) :: .i .i64 Yh :: an 10 [],[.box 38 [.sl (Yi.Pq.map Gv.c), .sl (Yi.Tr.map (cL (cI .i64)))]]⟩
def Z6c:List Bool:=(mR false [0,2,1,1,1,1,2,51,10])
def Zd6:List Bool:=(mR false [0,2,1,1,1,1,2,50,11])
theorem Zaj (Yi:Gm) (Y1:Int) (hp0:Yi.Pq.length≤1073741824) (hp1:Yi.Tr.length≤1073741824) (hp2:∀ t∈Yi.Tr,t.length≤1073741824) (Z4I:(decide ((Yi.Pq.length:Int) > 64))=false) (Z4J:(decide ((Yi.Tr.length:Int) > 128))=false) (Z4K:0≤Y1) (ZhZ:(((Yi.Tr.getD Y1.toNat default).length:Int) != 3)=false) (Zi0:(decide ((Yi.Pq.length:Int) > 64))=false) (Zi1:(decide ((Yi.Tr.length:Int) > 128))=false) (Zi2:(decide (Y1 < (Yi.Tr.length:Int)))=true):∀ (k:Nat) (Yh:Int) (Z93:0≤Yh) (hk:(((Yi.Tr.getD Y1.toNat default).length:Int) - Yh).toNat < k),Lp prog 0 (sub (X0 f105) [1,1,1,0,1,0,0,1,1,0,0,1,1,1,0,0]) (Ze5 Yi Y1 Yh) (Z5K Yi Y1 (Z2m Yi Y1 k Yh)).1 (Z5K Yi Y1 (Z2m Yi Y1 k Yh)).2:=by
 intro k
 induction k with
 | zero=>intro Yh Z93 hk;exact absurd hk (Nat.not_lt_zero _)
 | succ k ih =>
  intro Yh Z93 hk
  cases YS:(decide (Yh < ((Yi.Tr.getD Y1.toNat default).length:Int))) with
  | true =>
   have YW:=odt YS
   have Y1c:(0:Int)≤Yh:=(by assumption)
   have Y1g:Yh < ((Yi.Tr.getD Y1.toNat default).length:Int):=(by assumption)
   have p {a C} (s:Scr a C):=sB YS<|sG (cI .i64) (Yi.Tr.getD Y1.toNat default) Yh Y1c Y1g<|sW .i64 ((Yi.Pq.length:Int) - 1)<|sF (Z6M ((Yi.Tr.getD Y1.toNat default).getD Yh.toNat default) 0 (IntKind.wrap .i64 ((Yi.Pq.length:Int) - 1)))<|s
   cases Y1a:(ZP ((Yi.Tr.getD Y1.toNat default).getD Yh.toNat default) 0 (IntKind.wrap .i64 ((Yi.Pq.length:Int) - 1))) with
   | true =>
    have Y1e:(-9223372036854775808:Int)≤(Yh + 1):=by clear p;exact (by omega)
    have Y19:(Yh + 1)≤(9223372036854775807:Int):=by clear p;exact (by simp_all<;>omega)
    have e:Z2m Yi Y1 (k + 1) Yh=(Z2m Yi Y1 k (Yh + 1)):=by simp only [Z2m,YS,Y1a,cond_true]
    rw [e]
    exact X8 E0Ok Z7 [] Z6c [0] (ih (Yh + 1) (show 0≤(Yh + 1) from (by omega)) (by omega)) (p (sB' Y1a<|sI (Yh + 1) Y1e Y19<|sN)) (by kernel_rfl)
   | false =>
    have e:Z2m Yi Y1 (k + 1) Yh=(.inl ()):=by simp only [Z2m,YS,Y1a,cond_true,cond_false]
    rw [e]
    exact outR (e := .ret) E0Ok Z7 [] (mR false [2,1,66]) [] (p (sB' Y1a<|sN)) (by kernel_rfl) (by intro h;cases h)
  | false =>
   have YW:=odf YS
   have e:Z2m Yi Y1 (k + 1) Yh=(.inr ()):=by simp only [Z2m,YS,cond_false]
   rw [e]
   exact outR (e:=(.exit 2)) E0Ok Z7 [] Zd6 [0] (sB YS<|sN) (by kernel_rfl) (by intro h;cases h)
def Z4a (Yi:Gm) (Y1:Int):(Unit) ⊕ (Unit):=(Z2m Yi Y1 ((((Yi.Tr.getD Y1.toNat default).length:Int) - 0).toNat + 1) 0)
def ZO (Yi:Gm):Nat→Int→(Unit) ⊕ (Unit)
  | 0,_ => .inl default
  | k + 1,Y1=>(cond (decide (Y1 < (Yi.Tr.length:Int)))
    (cond (((Yi.Tr.getD Y1.toNat default).length:Int) != 3)
      (.inl ())
      (cond (((Yi.Tr.getD Y1.toNat default).getD 0 default) == ((Yi.Tr.getD Y1.toNat default).getD 1 default))
        (.inl ())
        (cond (((Yi.Tr.getD Y1.toNat default).getD 1 default) == ((Yi.Tr.getD Y1.toNat default).getD 2 default))
          (.inl ())
          (cond (((Yi.Tr.getD Y1.toNat default).getD 0 default) == ((Yi.Tr.getD Y1.toNat default).getD 2 default))
            (.inl ())
            (match (Z4a Yi Y1) with
              | .inl r_6=>(.inl ())
              | .inr r_6=>(ZO Yi k (Y1 + 1)))))))
    (.inr ()))
def Z5L (Yi:Gm):(Unit) ⊕ (Unit)→Ex × St
  | .inl r=>(.ret,⟨.any :: .any :: .b false :: an 66 [],[]⟩)
  | .inr r=>((.exit 0),⟨.agg [.sl (Yi.Pq.map Gv.c), .sl (Yi.Tr.map (cL (cI .i64)))] :: .ptr 0 0 0 :: .any :: .i .i64 (Yi.Pq.length:Int) :: an 4 (.ptr 0 0 0 :: .sl (Yi.Pq.map Gv.c) :: .i .i64 (Yi.Pq.length:Int) :: .i .i64 (Yi.Pq.length:Int) :: .b (decide ((Yi.Pq.length:Int) > 64)) :: .b (decide ((Yi.Pq.length:Int) > 64)) :: .ptr 0 0 1 :: .sl (Yi.Tr.map (cL (cI .i64))) :: .i .i64 (Yi.Tr.length:Int) :: .b (decide ((Yi.Tr.length:Int) > 128)) :: .b (decide ((Yi.Tr.length:Int) > 128)) :: .ptr 0 0 1 :: .sl (Yi.Tr.map (cL (cI .i64))) :: an 48 []),[.box 38 [.sl (Yi.Pq.map Gv.c), .sl (Yi.Tr.map (cL (cI .i64)))]]⟩)
def Ze6 (Yi:Gm) (Y1:Int):St:=⟨.agg [.sl (Yi.Pq.map Gv.c), .sl (Yi.Tr.map (cL (cI .i64)))] :: .ptr 0 0 0 :: .any :: .i .i64 (Yi.Pq.length:Int) :: an 4 (.ptr 0 0 0 :: .sl (Yi.Pq.map Gv.c) :: .i .i64 (Yi.Pq.length:Int) :: .i .i64 (Yi.Pq.length:Int) :: .b (decide ((Yi.Pq.length:Int) > 64)) :: .b (decide ((Yi.Pq.length:Int) > 64)) :: .ptr 0 0 1 :: .sl (Yi.Tr.map (cL (cI .i64))) :: .i .i64 (Yi.Tr.length:Int) :: .b (decide ((Yi.Tr.length:Int) > 128)) :: .b (decide ((Yi.Tr.length:Int) > 128)) :: .ptr 0 0 1 :: .sl (Yi.Tr.map (cL (cI .i64))) :: .i .i64 (Yi.Tr.length:Int) :: .i .i64 Y1 :: an 46 []),[.box 38 [.sl (Yi.Pq.map Gv.c), .sl (Yi.Tr.map (cL (cI .i64)))]]⟩
theorem Zak (Yi:Gm) (hp0:Yi.Pq.length≤1073741824) (hp1:Yi.Tr.length≤1073741824) (hp2:∀ t∈Yi.Tr,t.length≤1073741824) (Z4I:(decide ((Yi.Pq.length:Int) > 64))=false) (Z4J:(decide ((Yi.Tr.length:Int) > 128))=false):∀ (k:Nat) (Y1:Int) (Z4K:0≤Y1) (hk:((Yi.Tr.length:Int) - Y1).toNat < k),Lp prog 0 (sub (X0 f105) [1,1,1,0,1,0,0]) (Ze6 Yi Y1) (Z5L Yi (ZO Yi k Y1)).1 (Z5L Yi (ZO Yi k Y1)).2:=by
 intro k
 induction k with
 | zero=>intro Y1 Z4K hk;exact absurd hk (Nat.not_lt_zero _)
 | succ k ih =>
  intro Y1 Z4K hk
  cases Yv:(decide (Y1 < (Yi.Tr.length:Int))) with
  | true =>
   have YI:=odt Yv
   have YT:(0:Int)≤Y1:=(by assumption)
   have YV:Y1 < (Yi.Tr.length:Int):=(by assumption)
   have p {a C} (s:Scr a C):=sB Yv<|sG (cL (cI .i64)) Yi.Tr Y1 YT YV<|sK [28,28]<|sZ (cI .i64) (Yi.Tr.getD Y1.toNat default)<|s
   cases YF:(((Yi.Tr.getD Y1.toNat default).length:Int) != 3) with
   | true =>
    have Y1i:=bne_iff_ne.1 YF
    have e:ZO Yi (k + 1) Y1=(.inl ()):=by simp only [ZO,Yv,YF,cond_true]
    rw [e]
    exact outR (e := .ret) E0Ok Z7 [] (mR false [2,1,66]) [] (p (sB YF<|sB YF<|sB YF<|sB YF<|sB YF<|sB YF<|sB YF<|sB YF<|sB (show true=true from rfl)<|sB (show true=true from rfl)<|sB (show true=true from rfl)<|sB (show true=true from rfl)<|sB (show true=true from rfl)<|sB (show true=true from rfl)<|sB (show true=true from rfl)<|sB (show true=true from rfl)<|sB (show true=true from rfl)<|sB (show true=true from rfl)<|sB (show true=true from rfl)<|sB (show true=true from rfl)<|sB (show true=true from rfl)<|sB (show true=true from rfl)<|sB (show true=true from rfl)<|sB (show true=true from rfl)<|sB (show true=true from rfl)<|sN)) (by kernel_rfl) (by intro h;cases h)
   | false =>
    have Y1i:=bne_eq_false_iff_eq.1 YF
    have YX:(0:Int)≤0:=by clear p;exact (by omega)
    have YZ:0 < ((Yi.Tr.getD Y1.toNat default).length:Int):=by clear p;exact (by omega)
    have y_4:(0:Int)≤1:=by clear p;exact (by omega)
    have y_5:1 < ((Yi.Tr.getD Y1.toNat default).length:Int):=by clear p;exact (by omega)
    have q {a C} (s:Scr a C):=p (sB YF<|sB YF<|sG (cI .i64) (Yi.Tr.getD Y1.toNat default) 0 YX YZ<|sB YF<|sB YF<|sB YF<|sG (cI .i64) (Yi.Tr.getD Y1.toNat default) 1 y_4 y_5<|sB YF<|sB YF<|sB YF<|s)
    clear p
    cases h_2:(((Yi.Tr.getD Y1.toNat default).getD 0 default) == ((Yi.Tr.getD Y1.toNat default).getD 1 default)) with
    | true =>
     have Y1A:=eq_of_beq h_2
     have e:ZO Yi (k + 1) Y1=(.inl ()):=by simp only [ZO,Yv,YF,h_2,cond_true,cond_false]
     rw [e]
     exact outR (e := .ret) E0Ok Z7 [] (mR false [2,1,66]) [] (q (sB h_2<|sB h_2<|sB h_2<|sB h_2<|sB h_2<|sB h_2<|sB h_2<|sB h_2<|sB (show true=true from rfl)<|sB (show true=true from rfl)<|sB (show true=true from rfl)<|sB (show true=true from rfl)<|sB (show true=true from rfl)<|sB (show true=true from rfl)<|sB (show true=true from rfl)<|sB (show true=true from rfl)<|sB (show true=true from rfl)<|sN)) (by kernel_rfl) (by intro h;cases h)
    | false =>
     have Y1A:=ne_of_beq_false h_2
     have y_6:(0:Int)≤2:=by clear q;exact (by omega)
     have y_7:2 < ((Yi.Tr.getD Y1.toNat default).length:Int):=by clear q;exact (by omega)
     have p {a C} (s:Scr a C):=q (sB h_2<|sB h_2<|sG (cI .i64) (Yi.Tr.getD Y1.toNat default) 1 y_4 y_5<|sB h_2<|sB h_2<|sB h_2<|sG (cI .i64) (Yi.Tr.getD Y1.toNat default) 2 y_6 y_7<|sB h_2<|sB h_2<|sB h_2<|s)
     clear q
     cases h_3:(((Yi.Tr.getD Y1.toNat default).getD 1 default) == ((Yi.Tr.getD Y1.toNat default).getD 2 default)) with
     | true =>
      have Y1N:=eq_of_beq h_3
      have e:ZO Yi (k + 1) Y1=(.inl ()):=by simp only [ZO,Yv,YF,h_2,h_3,cond_true,cond_false]
      rw [e]
      exact outR (e := .ret) E0Ok Z7 [] (mR false [2,1,66]) [] (p (sB h_3<|sB h_3<|sB h_3<|sB h_3<|sB h_3<|sB h_3<|sB h_3<|sB h_3<|sB (show true=true from rfl)<|sN)) (by kernel_rfl) (by intro h;cases h)
     | false =>
      have Y1N:=ne_of_beq_false h_3
      have q {a C} (s:Scr a C):=p (sB h_3<|sB h_3<|sG (cI .i64) (Yi.Tr.getD Y1.toNat default) 0 YX YZ<|sB h_3<|sB h_3<|sB h_3<|sG (cI .i64) (Yi.Tr.getD Y1.toNat default) 2 y_6 y_7<|sB h_3<|sB h_3<|sB h_3<|s)
      clear p
      cases h_4:(((Yi.Tr.getD Y1.toNat default).getD 0 default) == ((Yi.Tr.getD Y1.toNat default).getD 2 default)) with
      | true =>
       have gh_4:=eq_of_beq h_4
       have e:ZO Yi (k + 1) Y1=(.inl ()):=by simp only [ZO,Yv,YF,h_2,h_3,h_4,cond_true,cond_false]
       rw [e]
       exact outR (e := .ret) E0Ok Z7 [] (mR false [2,1,66]) [] (q (sB h_4<|sN)) (by kernel_rfl) (by intro h;cases h)
      | false =>
       have gh_4:=ne_of_beq_false h_4
       have p {a C} (s:Scr a C):=q (sB h_4<|sZ (cI .i64) (Yi.Tr.getD Y1.toNat default)<|s)
       clear q
       cases h_5:(Z4a Yi Y1) with
       | inl r_6 =>
        have e:ZO Yi (k + 1) Y1=(.inl ()):=by simp only [ZO,Yv,YF,h_2,h_3,h_4,h_5,cond_true,cond_false]
        rw [e]
        exact outR (e := .ret) E0Ok Z7 [] (mR false [2,1,66]) [] (p (sL Z6c 1 (X1 (Z5K Yi Y1) (x:=(Z4a Yi Y1)) (Zaj Yi Y1 hp0 hp1 hp2 Z4I Z4J Z4K YF Z4I Z4J Yv ((((Yi.Tr.getD Y1.toNat default).length:Int) - 0).toNat + 1) 0 (show 0≤0 from (by assumption)) (Nat.lt_succ_self _)) h_5)<|sN)) (by kernel_rfl) (by intro h;cases h)
       | inr r_6 =>
        have y_8:(-9223372036854775808:Int)≤(Y1 + 1):=by clear p;exact (by omega)
        have y_9:(Y1 + 1)≤(9223372036854775807:Int):=by clear p;exact (by omega)
        have e:ZO Yi (k + 1) Y1=(ZO Yi k (Y1 + 1)):=by simp only [ZO,Yv,YF,h_2,h_3,h_4,h_5,cond_true,cond_false]
        rw [e]
        exact X8 E0Ok Z7 [] (mR false [0,2,1,1,4,15,46]) [0] (ih (Y1 + 1) (show 0≤(Y1 + 1) from (by omega)) (by omega)) (p (sL Z6c 1 (X1 (Z5K Yi Y1) (x:=(Z4a Yi Y1)) (Zaj Yi Y1 hp0 hp1 hp2 Z4I Z4J Z4K YF Z4I Z4J Yv ((((Yi.Tr.getD Y1.toNat default).length:Int) - 0).toNat + 1) 0 (show 0≤0 from (by assumption)) (Nat.lt_succ_self _)) h_5)<|sI (Y1 + 1) y_8 y_9<|sN)) (by kernel_rfl)
  | false =>
   have YI:=odf Yv
   have e:ZO Yi (k + 1) Y1=(.inr ()):=by simp only [ZO,Yv,cond_false]
   rw [e]
   exact outR (e:=(.exit 0)) E0Ok Z7 [] (mR false [0,2,1,1,4,13,48]) [0] (sB Yv<|sN) (by kernel_rfl) (by intro h;cases h)
def Z4L (Yi:Gm):(Unit) ⊕ (Unit):=(ZO Yi (((Yi.Tr.length:Int) - 0).toNat + 1) 0)
def Z26 (Yi:Gm):Bool:=(cond (decide ((Yi.Pq.length:Int) > 64))
  false
  (cond (decide ((Yi.Tr.length:Int) > 128))
    false
    (match (Z4L Yi) with
      | .inl r3=>false
      | .inr r3=>true)))
theorem ZfU (Yi:Gm) (hp0:Yi.Pq.length≤1073741824) (hp1:Yi.Tr.length≤1073741824) (hp2:∀ t∈Yi.Tr,t.length≤1073741824)  : Fn prog 105 [.agg [.sl (Yi.Pq.map Gv.c), .sl (Yi.Tr.map (cL (cI .i64)))]] (.b (Z26 Yi)) []:=by
 have p {a C} (s:Scr a C):=sZ Gv.c Yi.Pq<|s
 cases h0:(decide ((Yi.Pq.length:Int) > 64)) with
 | true =>
  have gh0:=odt h0
  refine fnS E0Ok Z7 (c:=X0 f105) [] (.b false) [] func105 (p (sB h0<|sB h0<|sB h0<|sB h0<|sB h0<|sB (show true=true from rfl)<|sK [] sN)) rfl (by kernel_rfl) (by kernel_rfl) rfl ?_ ?_
  · simp only [Z26,h0,cond_true]
  · rfl
 | false =>
  have gh0:=odf h0
  have q {a C} (s:Scr a C):=p (sB h0<|sB h0<|sB h0<|sZ (cL (cI .i64)) Yi.Tr<|sB h0<|sB h0<|s)
  clear p
  cases h1:(decide ((Yi.Tr.length:Int) > 128)) with
  | true =>
   have gh1:=odt h1
   refine fnS E0Ok Z7 (c:=X0 f105) [] (.b false) [] func105 (q (sB h1<|sK [] sN)) rfl (by kernel_rfl) (by kernel_rfl) rfl ?_ ?_
   · simp only [Z26,h0,h1,cond_true,cond_false]
   · rfl
  | false =>
   have gh1:=odf h1
   have p {a C} (s:Scr a C):=q (sB h1<|sZ (cL (cI .i64)) Yi.Tr<|s)
   clear q
   cases h2:(Z4L Yi) with
   | inl r3 =>
    refine fnS E0Ok Z7 (c:=X0 f105) [] (.b false) [] func105 (p (sL (mR false [0,2,1,1,4,15,46]) 1 (X1 (Z5L Yi) (x:=(Z4L Yi)) (Zak Yi hp0 hp1 hp2 h0 h1 (((Yi.Tr.length:Int) - 0).toNat + 1) 0 (show 0≤0 from (by omega)) (Nat.lt_succ_self _)) h2)<|sK [] sN)) rfl (by kernel_rfl) (by kernel_rfl) rfl ?_ ?_
    · simp only [Z26,h0,h1,h2,cond_false]
    · rfl
   | inr r3 =>
    refine fnS E0Ok Z7 (c:=X0 f105) [] (.b true) [] func105 (p (sL (mR false [0,2,1,1,4,15,46]) 1 (X1 (Z5L Yi) (x:=(Z4L Yi)) (Zak Yi hp0 hp1 hp2 h0 h1 (((Yi.Tr.length:Int) - 0).toNat + 1) 0 (show 0≤0 from (by omega)) (Nat.lt_succ_self _)) h2)<|sK [] sN)) rfl (by kernel_rfl) (by kernel_rfl) rfl ?_ ?_
    · simp only [Z26,h0,h1,h2,cond_false]
    · rfl
theorem triB (t:List Int) (n:Int):(!((t.length:Int) != 3) && (!(t.getD 0 default == t.getD 1 default) && (!(t.getD 1 default == t.getD 2 default) && (!(t.getD 0 default == t.getD 2 default) && t.all fun x=>ZP x 0 (IntKind.wrap .i64 (n - 1))))))=Z12 t n:=by
  unfold Z12
  cases hl:((t.length:Int) != 3) with
  | true=>rfl
  | false =>
    have hl3:t.length=3:=by simp at hl;omega
    match t,hl3 with
    | [a,b,c],_ =>
      simp only [List.getD_cons_zero,List.getD_cons_succ,List.all_cons,List.all_nil,Bool.and_true]
      rw [show ZP=Zl from rfl]
      cases (a == b)<;>cases (b == c)<;>cases (a == c)<;>cases Zl a 0 (IntKind.wrap .i64 (n - 1))<;>cases Zl b 0 (IntKind.wrap .i64 (n - 1))<;>cases Zl c 0 (IntKind.wrap .i64 (n - 1))<;>rfl
theorem Zhy (m:Gm) (k:Nat) (i:Int):ZO m (k + 1) i=cond (decide (i < (m.Tr.length:Int))) (cond (Z12 (m.Tr.getD i.toNat default) (m.Pq.length:Int)) (ZO m k (i + 1)) (.inl ())) (.inr ()):=by
  rw [ZO,← triB]
  have hin:Z4a m i=cond ((m.Tr.getD i.toNat default).all fun x=>ZP x 0 (IntKind.wrap .i64 ((m.Pq.length:Int) - 1))) (.inr ()) (.inl ()):=by
    unfold Z4a
    exact XO (a:=m.Tr.getD i.toNat default) (p:=fun x=>ZP x 0 (IntKind.wrap .i64 ((m.Pq.length:Int) - 1))) (lo:=Z2m m i) (x:=()) (y:=()) (fun k i=>rfl)
  rw [hin]
  generalize m.Tr.getD i.toNat default=t
  generalize (t.all fun x=>ZP x 0 (IntKind.wrap .i64 ((m.Pq.length:Int) - 1)))=q
  cases ((t.length:Int) != 3)<;>cases (t.getD 0 default == t.getD 1 default)<;>cases (t.getD 1 default == t.getD 2 default)<;>cases (t.getD 0 default == t.getD 2 default)<;>cases q<;>rfl
theorem Zhz (m:Gm):Z26 m=Z1D m:=by
  rw [ZaG]
  unfold Z26 Z4L
  rw [XO (a:=m.Tr) (p:=fun t=>Z12 t (m.Pq.length:Int)) (lo:=ZO m) (x:=()) (y:=()) (Zhy m)]
  cases (m.Tr.all fun t=>Z12 t (m.Pq.length:Int))<;>rfl
def ZY (Yd:Gb):Nat→Int→(Unit) ⊕ (Unit)
  | 0,_ => .inl default
  | k + 1,Y1=>(cond (decide (Y1 < (Yd.Sp.length:Int)))
    (cond (ZP ((Yd.Sp.getD Y1.toNat default).A) 0 (IntKind.wrap .i64 ((Yd.Me.Pq.length:Int) - 1)))
      (cond (ZP ((Yd.Sp.getD Y1.toNat default).B) 0 (IntKind.wrap .i64 ((Yd.Me.Pq.length:Int) - 1)))
        (cond ((Yd.Sp.getD Y1.toNat default).A == (Yd.Sp.getD Y1.toNat default).B)
          (.inl ())
          (cond (fcmp .geq .f32 ((Yd.Sp.getD Y1.toNat default).Long) 0)
            (ZY Yd k (Y1 + 1))
            (.inl ())))
        (.inl ()))
      (.inl ()))
    (.inr ()))
def Z5M (Yd:Gb):(Unit) ⊕ (Unit)→Ex × St
  | .inl r=>(.ret,⟨.any :: .any :: .b false :: an 59 [],[]⟩)
  | .inr r=>((.exit 0),⟨.agg [.sl (Yd.Me.Pq.map Gv.c), .sl (Yd.Me.Tr.map (cL (cI .i64))), .sl (Yd.Sp.map Gs.c), .f .f32 Yd.Film, .f .f32 Yd.Bend, .sl (Yd.We.map (cF .f32)), .f .f32 Yd.Fall.X, .f .f32 Yd.Fall.Y, .f .f32 Yd.Fall.Z] :: .ptr 0 0 0 :: .any :: .i .i64 (Yd.Me.Pq.length:Int) :: .any :: .any :: .ptr 0 0 0 :: .ptr 0 0 0 :: .sl (Yd.Me.Pq.map Gv.c) :: .i .i64 (Yd.Me.Pq.length:Int) :: .ptr 0 0 0 :: .agg [.sl (Yd.Me.Pq.map Gv.c), .sl (Yd.Me.Tr.map (cL (cI .i64)))] :: .b (Z26 Yd.Me) :: .b (!(Z26 Yd.Me)) :: .b (!(Z26 Yd.Me)) :: .ptr 0 0 2 :: .sl (Yd.Sp.map Gs.c) :: .i .i64 (Yd.Sp.length:Int) :: .b (decide ((Yd.Sp.length:Int) > 200)) :: .b (decide ((Yd.Sp.length:Int) > 200)) :: .b (decide ((Yd.Sp.length:Int) > 200)) :: .ptr 0 0 5 :: .sl (Yd.We.map (cF .f32)) :: .i .i64 (Yd.We.length:Int) :: .i .i64 (Yd.Me.Pq.length:Int) :: .b ((Yd.We.length:Int) != (Yd.Me.Pq.length:Int)) :: .b ((Yd.We.length:Int) != (Yd.Me.Pq.length:Int)) :: .ptr 0 0 2 :: .sl (Yd.Sp.map Gs.c) :: an 33 [],[.box 42 [.sl (Yd.Me.Pq.map Gv.c), .sl (Yd.Me.Tr.map (cL (cI .i64))), .sl (Yd.Sp.map Gs.c), .f .f32 Yd.Film, .f .f32 Yd.Bend, .sl (Yd.We.map (cF .f32)), .f .f32 Yd.Fall.X, .f .f32 Yd.Fall.Y, .f .f32 Yd.Fall.Z]]⟩)
def Ze7 (Yd:Gb) (Y1:Int):St:=⟨.agg [.sl (Yd.Me.Pq.map Gv.c), .sl (Yd.Me.Tr.map (cL (cI .i64))), .sl (Yd.Sp.map Gs.c), .f .f32 Yd.Film, .f .f32 Yd.Bend, .sl (Yd.We.map (cF .f32)), .f .f32 Yd.Fall.X, .f .f32 Yd.Fall.Y, .f .f32 Yd.Fall.Z] :: .ptr 0 0 0 :: .any :: .i .i64 (Yd.Me.Pq.length:Int) :: .any :: .any :: .ptr 0 0 0 :: .ptr 0 0 0 :: .sl (Yd.Me.Pq.map Gv.c) :: .i .i64 (Yd.Me.Pq.length:Int) :: .ptr 0 0 0 :: .agg [.sl (Yd.Me.Pq.map Gv.c), .sl (Yd.Me.Tr.map (cL (cI .i64)))] :: .b (Z26 Yd.Me) :: .b (!(Z26 Yd.Me)) :: .b (!(Z26 Yd.Me)) :: .ptr 0 0 2 :: .sl (Yd.Sp.map Gs.c) :: .i .i64 (Yd.Sp.length:Int) :: .b (decide ((Yd.Sp.length:Int) > 200)) :: .b (decide ((Yd.Sp.length:Int) > 200)) :: .b (decide ((Yd.Sp.length:Int) > 200)) :: .ptr 0 0 5 :: .sl (Yd.We.map (cF .f32)) :: .i .i64 (Yd.We.length:Int) :: .i .i64 (Yd.Me.Pq.length:Int) :: .b ((Yd.We.length:Int) != (Yd.Me.Pq.length:Int)) :: .b ((Yd.We.length:Int) != (Yd.Me.Pq.length:Int)) :: .ptr 0 0 2 :: .sl (Yd.Sp.map Gs.c) :: .i .i64 (Yd.Sp.length:Int) :: .i .i64 Y1 :: an 31 [],[.box 42 [.sl (Yd.Me.Pq.map Gv.c), .sl (Yd.Me.Tr.map (cL (cI .i64))), .sl (Yd.Sp.map Gs.c), .f .f32 Yd.Film, .f .f32 Yd.Bend, .sl (Yd.We.map (cF .f32)), .f .f32 Yd.Fall.X, .f .f32 Yd.Fall.Y, .f .f32 Yd.Fall.Z]]⟩
theorem Zal (Yd:Gb) (hp0:Yd.Me.Pq.length≤1073741824) (hp1:Yd.Me.Tr.length≤1073741824) (hp2:∀ t∈Yd.Me.Tr,t.length≤1073741824) (hp3:Yd.Sp.length≤1073741824) (hp4:Yd.We.length≤1073741824) (Zi3:((Yd.We.length:Int) != (Yd.Me.Pq.length:Int))=false) (Zi4:(decide ((Yd.Sp.length:Int) > 200))=false) (Zi5:(Z26 Yd.Me)=true):∀ (k:Nat) (Y1:Int) (Z94:0≤Y1) (hk:((Yd.Sp.length:Int) - Y1).toNat < k),Lp prog 0 (sub (X0 f56) [1,1,1,0,1,0,0]) (Ze7 Yd Y1) (Z5M Yd (ZY Yd k Y1)).1 (Z5M Yd (ZY Yd k Y1)).2:=by
 intro k
 induction k with
 | zero=>intro Y1 Z94 hk;exact absurd hk (Nat.not_lt_zero _)
 | succ k ih =>
  intro Y1 Z94 hk
  cases Yv:(decide (Y1 < (Yd.Sp.length:Int))) with
  | true =>
   have YI:=odt Yv
   have YT:(0:Int)≤Y1:=(by assumption)
   have YV:Y1 < (Yd.Sp.length:Int):=(by assumption)
   have p {a C} (s:Scr a C):=sB Yv<|sG Gs.c Yd.Sp Y1 YT YV<|sW .i64 ((Yd.Me.Pq.length:Int) - 1)<|sF (Z6M ((Yd.Sp.getD Y1.toNat default).A) 0 (IntKind.wrap .i64 ((Yd.Me.Pq.length:Int) - 1)))<|s
   cases YF:(ZP ((Yd.Sp.getD Y1.toNat default).A) 0 (IntKind.wrap .i64 ((Yd.Me.Pq.length:Int) - 1))) with
   | true =>
    have q {a C} (s:Scr a C):=p (sB' YF<|sB' YF<|sB' YF<|sB' YF<|sW .i64 ((Yd.Me.Pq.length:Int) - 1)<|sB' YF<|sF (Z6M ((Yd.Sp.getD Y1.toNat default).B) 0 (IntKind.wrap .i64 ((Yd.Me.Pq.length:Int) - 1)))<|sB' YF<|sB' YF<|s)
    clear p
    cases h_2:(ZP ((Yd.Sp.getD Y1.toNat default).B) 0 (IntKind.wrap .i64 ((Yd.Me.Pq.length:Int) - 1))) with
    | true =>
     have p {a C} (s:Scr a C):=q (sB' h_2<|sB' h_2<|sB' h_2<|sB' h_2<|sB' h_2<|sB' h_2<|s)
     clear q
     cases h_3:((Yd.Sp.getD Y1.toNat default).A == (Yd.Sp.getD Y1.toNat default).B) with
     | true =>
      have Y1N:=eq_of_beq h_3
      have e:ZY Yd (k + 1) Y1=(.inl ()):=by simp only [ZY,Yv,YF,h_2,h_3,cond_true]
      rw [e]
      exact outR (e := .ret) E0Ok Z7 [] (mR false [2,1,59]) [] (p (sB h_3<|sB h_3<|sB h_3<|sB h_3<|sB h_3<|sB (show true=true from rfl)<|sN)) (by kernel_rfl) (by intro h;cases h)
     | false =>
      have Y1N:=ne_of_beq_false h_3
      have q {a C} (s:Scr a C):=p (sB h_3<|sB h_3<|sB h_3<|sB h_3<|sB h_3<|s)
      clear p
      cases h_4:(fcmp .geq .f32 ((Yd.Sp.getD Y1.toNat default).Long) 0) with
      | true =>
       have YX:(-9223372036854775808:Int)≤(Y1 + 1):=by clear q;exact (by omega)
       have YZ:(Y1 + 1)≤(9223372036854775807:Int):=by clear q;exact (by omega)
       have e:ZY Yd (k + 1) Y1=(ZY Yd k (Y1 + 1)):=by simp only [ZY,Yv,YF,h_2,h_3,h_4,cond_true,cond_false]
       rw [e]
       exact X8 E0Ok Z7 [] (mR false [0,2,1,1,2,25,31]) [0] (ih (Y1 + 1) (show 0≤(Y1 + 1) from (by omega)) (by omega)) (q (sB' h_4<|sI (Y1 + 1) YX YZ<|sN)) (by kernel_rfl)
      | false =>
       have e:ZY Yd (k + 1) Y1=(.inl ()):=by simp only [ZY,Yv,YF,h_2,h_3,h_4,cond_true,cond_false]
       rw [e]
       exact outR (e := .ret) E0Ok Z7 [] (mR false [2,1,59]) [] (q (sB' h_4<|sN)) (by kernel_rfl) (by intro h;cases h)
    | false =>
     have e:ZY Yd (k + 1) Y1=(.inl ()):=by simp only [ZY,Yv,YF,h_2,cond_true,cond_false]
     rw [e]
     exact outR (e := .ret) E0Ok Z7 [] (mR false [2,1,59]) [] (q (sB' h_2<|sB' h_2<|sB' h_2<|sB' h_2<|sB' h_2<|sB' h_2<|sB (show true=true from rfl)<|sB (show true=true from rfl)<|sB (show true=true from rfl)<|sB (show true=true from rfl)<|sB (show true=true from rfl)<|sB (show true=true from rfl)<|sN)) (by kernel_rfl) (by intro h;cases h)
   | false =>
    have e:ZY Yd (k + 1) Y1=(.inl ()):=by simp only [ZY,Yv,YF,cond_true,cond_false]
    rw [e]
    exact outR (e := .ret) E0Ok Z7 [] (mR false [2,1,59]) [] (p (sB' YF<|sB' YF<|sB' YF<|sB' YF<|sB' YF<|sB' YF<|sB' YF<|sB (show true=true from rfl)<|sB (show true=true from rfl)<|sB (show true=true from rfl)<|sB (show true=true from rfl)<|sB (show true=true from rfl)<|sB (show true=true from rfl)<|sB (show true=true from rfl)<|sB (show true=true from rfl)<|sB (show true=true from rfl)<|sB (show true=true from rfl)<|sB (show true=true from rfl)<|sB (show true=true from rfl)<|sN)) (by kernel_rfl) (by intro h;cases h)
  | false =>
   have YI:=odf Yv
   have e:ZY Yd (k + 1) Y1=(.inr ()):=by simp only [ZY,Yv,cond_false]
   rw [e]
   exact outR (e:=(.exit 0)) E0Ok Z7 [] (mR false [0,2,1,1,2,23,33]) [0] (sB Yv<|sN) (by kernel_rfl) (by intro h;cases h)
def Z4M (Yd:Gb):(Unit) ⊕ (Unit):=(ZY Yd (((Yd.Sp.length:Int) - 0).toNat + 1) 0)
def Z2d (Yd:Gb):Bool:=(cond (Z26 Yd.Me)
  (cond (decide ((Yd.Sp.length:Int) > 200))
    false
    (cond ((Yd.We.length:Int) != (Yd.Me.Pq.length:Int))
      false
      (match (Z4M Yd) with
        | .inl r4=>false
        | .inr r4=>true)))
  false)
theorem ZfV (Yd:Gb) (hp0:Yd.Me.Pq.length≤1073741824) (hp1:Yd.Me.Tr.length≤1073741824) (hp2:∀ t∈Yd.Me.Tr,t.length≤1073741824) (hp3:Yd.Sp.length≤1073741824) (hp4:Yd.We.length≤1073741824)  : Fn prog 56 [.agg [.sl (Yd.Me.Pq.map Gv.c), .sl (Yd.Me.Tr.map (cL (cI .i64))), .sl (Yd.Sp.map Gs.c), .f .f32 Yd.Film, .f .f32 Yd.Bend, .sl (Yd.We.map (cF .f32)), .f .f32 Yd.Fall.X, .f .f32 Yd.Fall.Y, .f .f32 Yd.Fall.Z]] (.b (Z2d Yd)) []:=by
 have p {a C} (s:Scr a C):=sZ Gv.c Yd.Me.Pq<|sF (ZfU Yd.Me hp0 hp1 hp2)<|s
 cases h0:(Z26 Yd.Me) with
 | true =>
  have q {a C} (s:Scr a C):=p (sB' h0<|sB' h0<|sB' h0<|sZ Gs.c Yd.Sp<|sB' h0<|sB' h0<|s)
  clear p
  cases h1:(decide ((Yd.Sp.length:Int) > 200)) with
  | true =>
   have gh1:=odt h1
   refine fnS E0Ok Z7 (c:=X0 f56) [] (.b false) [] func56 (q (sB h1<|sB h1<|sB h1<|sB h1<|sB h1<|sB h1<|sB (show true=true from rfl)<|sK [] sN)) rfl (by kernel_rfl) (by kernel_rfl) rfl ?_ ?_
   · simp only [Z2d,h0,h1,cond_true]
   · rfl
  | false =>
   have gh1:=odf h1
   have p {a C} (s:Scr a C):=q (sB h1<|sB h1<|sB h1<|sZ (cF .f32) Yd.We<|sB h1<|sB h1<|sB h1<|s)
   clear q
   cases h2:((Yd.We.length:Int) != (Yd.Me.Pq.length:Int)) with
   | true =>
    have gh2:=bne_iff_ne.1 h2
    refine fnS E0Ok Z7 (c:=X0 f56) [] (.b false) [] func56 (p (sB h2<|sK [] sN)) rfl (by kernel_rfl) (by kernel_rfl) rfl ?_ ?_
    · simp only [Z2d,h0,h1,h2,cond_true,cond_false]
    · rfl
   | false =>
    have gh2:=bne_eq_false_iff_eq.1 h2
    have q {a C} (s:Scr a C):=p (sB h2<|sZ Gs.c Yd.Sp<|s)
    clear p
    cases h3:(Z4M Yd) with
    | inl r4 =>
     refine fnS E0Ok Z7 (c:=X0 f56) [] (.b false) [] func56 (q (sL (mR false [0,2,1,1,2,25,31]) 1 (X1 (Z5M Yd) (x:=(Z4M Yd)) (Zal Yd hp0 hp1 hp2 hp3 hp4 h2 h1 h0 (((Yd.Sp.length:Int) - 0).toNat + 1) 0 (show 0≤0 from (by omega)) (Nat.lt_succ_self _)) h3)<|sK [] sN)) rfl (by kernel_rfl) (by kernel_rfl) rfl ?_ ?_
     · simp only [Z2d,h0,h1,h2,h3,cond_true,cond_false]
     · rfl
    | inr r4 =>
     refine fnS E0Ok Z7 (c:=X0 f56) [] (.b true) [] func56 (q (sL (mR false [0,2,1,1,2,25,31]) 1 (X1 (Z5M Yd) (x:=(Z4M Yd)) (Zal Yd hp0 hp1 hp2 hp3 hp4 h2 h1 h0 (((Yd.Sp.length:Int) - 0).toNat + 1) 0 (show 0≤0 from (by omega)) (Nat.lt_succ_self _)) h3)<|sK [] sN)) rfl (by kernel_rfl) (by kernel_rfl) rfl ?_ ?_
     · simp only [Z2d,h0,h1,h2,h3,cond_true,cond_false]
     · rfl
 | false =>
  refine fnS E0Ok Z7 (c:=X0 f56) [] (.b false) [] func56 (p (sB' h0<|sB' h0<|sB' h0<|sB' h0<|sB' h0<|sB (show true=true from rfl)<|sB (show true=true from rfl)<|sB (show true=true from rfl)<|sB (show true=true from rfl)<|sB (show true=true from rfl)<|sB (show true=true from rfl)<|sB (show true=true from rfl)<|sK [] sN)) rfl (by kernel_rfl) (by kernel_rfl) rfl ?_ ?_
  · simp only [Z2d,h0,cond_false]
  · rfl
theorem Zj2 (s:Gs) (n:Int):cond (ZP s.A 0 (IntKind.wrap .i64 (n - 1))) (cond (ZP s.B 0 (IntKind.wrap .i64 (n - 1))) (cond (s.A == s.B) false (fcmp .geq .f32 s.Long 0)) false) false=Z1X s n:=by
  unfold Z1X
  rw [show ZP=Zl from rfl,show (s.A != s.B)=!(s.A == s.B) from rfl]
  cases (s.A == s.B)<;>rfl
theorem ZhA (b:Gb) (k:Nat) (i:Int):ZY b (k + 1) i=cond (decide (i < (b.Sp.length:Int))) (cond (Z1X (b.Sp.getD i.toNat default) (b.Me.Pq.length:Int)) (ZY b k (i + 1)) (.inl ())) (.inr ()):=by
  rw [ZY,← Zj2]
  generalize b.Sp.getD i.toNat default=s
  cases ZP s.A 0 (IntKind.wrap .i64 ((b.Me.Pq.length:Int) - 1))<;>cases ZP s.B 0 (IntKind.wrap .i64 ((b.Me.Pq.length:Int) - 1))<;>cases (s.A == s.B)<;>cases fcmp .geq .f32 s.Long 0<;>rfl
theorem ZhB (b:Gb):Z2d b=Zt b:=by
  unfold Z2d Zt Z4M Z4W
  rw [Zhz,XO (a:=b.Sp) (p:=fun s=>Z1X s (b.Me.Pq.length:Int)) (lo:=ZY b) (x:=()) (y:=()) (ZhA b),
    XO (a:=b.Sp) (p:=fun s=>Z1X s (b.Me.Pq.length:Int)) (lo:=Z2R b) (x:=()) (y:=()) (fun k i=>rfl)]
  rfl
theorem Ziy (b:Gb) (h:Zt b=true):Z1D b.Me=true:=by
  cases hm:Z1D b.Me with
  | true=>rfl
  | false=>simp [Zt,hm] at h
theorem Ziz (m:Gm) (h:Z1D m=true):m.Pq.length≤64∧m.Tr.length≤128:=by
  rw [ZaG] at h
  cases h1:decide ((m.Pq.length:Int) > 64)<;>rw [h1] at h<;>(try (cases h;done))
  cases h2:decide ((m.Tr.length:Int) > 128)<;>rw [h2] at h<;>(try (cases h;done))
  simp only [decide_eq_false_iff_not] at h1 h2
  omega
def Z2G (Yd:Gb) (Y3:(List Int)):Nat→Int→Int→(Unit) ⊕ (Unit)
  | 0,_,_ => .inl default
  | k + 1,Y16,YJ=>(cond (decide (YJ < (Y3.length:Int)))
    (cond (ZP (Y3.getD YJ.toNat default) (IntKind.wrap .i64 (Y16 + 1)) (IntKind.wrap .i64 ((Yd.Me.Pq.length:Int) - 1)))
      (Z2G Yd Y3 k (Y3.getD YJ.toNat default) (YJ + 1))
      (.inl ()))
    (.inr ()))
def Z6A (Yd:Gb) (Y3:(List Int)):(Unit) ⊕ (Unit)→Ex × St
  | .inl r=>(.ret,⟨an 4 (.b false :: an 24 []),[]⟩)
  | .inr r=>((.exit 0),⟨.agg [.sl (Yd.Me.Pq.map Gv.c), .sl (Yd.Me.Tr.map (cL (cI .i64))), .sl (Yd.Sp.map Gs.c), .f .f32 Yd.Film, .f .f32 Yd.Bend, .sl (Yd.We.map (cF .f32)), .f .f32 Yd.Fall.X, .f .f32 Yd.Fall.Y, .f .f32 Yd.Fall.Z] :: .sl (Y3.map (cI .i64)) :: .ptr 0 0 0 :: an 5 (.agg [.sl (Yd.Me.Pq.map Gv.c), .sl (Yd.Me.Tr.map (cL (cI .i64))), .sl (Yd.Sp.map Gs.c), .f .f32 Yd.Film, .f .f32 Yd.Bend, .sl (Yd.We.map (cF .f32)), .f .f32 Yd.Fall.X, .f .f32 Yd.Fall.Y, .f .f32 Yd.Fall.Z] :: .b (Z2d Yd) :: .b (!(Z2d Yd)) :: .sl (Y3.map (cI .i64)) :: an 17 []),[.box 42 [.sl (Yd.Me.Pq.map Gv.c), .sl (Yd.Me.Tr.map (cL (cI .i64))), .sl (Yd.Sp.map Gs.c), .f .f32 Yd.Film, .f .f32 Yd.Bend, .sl (Yd.We.map (cF .f32)), .f .f32 Yd.Fall.X, .f .f32 Yd.Fall.Y, .f .f32 Yd.Fall.Z]]⟩)
def ZfW (Yd:Gb) (Y3:(List Int)) (Y16:Int) (YJ:Int):St:=⟨.agg [.sl (Yd.Me.Pq.map Gv.c), .sl (Yd.Me.Tr.map (cL (cI .i64))), .sl (Yd.Sp.map Gs.c), .f .f32 Yd.Film, .f .f32 Yd.Bend, .sl (Yd.We.map (cF .f32)), .f .f32 Yd.Fall.X, .f .f32 Yd.Fall.Y, .f .f32 Yd.Fall.Z] :: .sl (Y3.map (cI .i64)) :: .ptr 0 0 0 :: .any :: .any :: .i .i64 Y16 :: .any :: .any :: .agg [.sl (Yd.Me.Pq.map Gv.c), .sl (Yd.Me.Tr.map (cL (cI .i64))), .sl (Yd.Sp.map Gs.c), .f .f32 Yd.Film, .f .f32 Yd.Bend, .sl (Yd.We.map (cF .f32)), .f .f32 Yd.Fall.X, .f .f32 Yd.Fall.Y, .f .f32 Yd.Fall.Z] :: .b (Z2d Yd) :: .b (!(Z2d Yd)) :: .sl (Y3.map (cI .i64)) :: .i .i64 (Y3.length:Int) :: .i .i64 YJ :: an 15 [],[.box 42 [.sl (Yd.Me.Pq.map Gv.c), .sl (Yd.Me.Tr.map (cL (cI .i64))), .sl (Yd.Sp.map Gs.c), .f .f32 Yd.Film, .f .f32 Yd.Bend, .sl (Yd.We.map (cF .f32)), .f .f32 Yd.Fall.X, .f .f32 Yd.Fall.Y, .f .f32 Yd.Fall.Z]]⟩
theorem Zcc (Yd:Gb) (Y3:(List Int)) (hp0:Yd.Me.Pq.length≤1073741824) (hp1:Yd.Me.Tr.length≤1073741824) (hp2:∀ t∈Yd.Me.Tr,t.length≤1073741824) (hp3:Yd.Sp.length≤1073741824) (hp4:Yd.We.length≤1073741824) (hp5:Y3.length≤1073741824) (ZiA:(Z2d Yd)=true):∀ (k:Nat) (Y16:Int) (YJ:Int) (Zb2:0≤YJ) (hk:((Y3.length:Int) - YJ).toNat < k),Lp prog 0 (sub (X0 f67) [1,1,1,0,1,0,0]) (ZfW Yd Y3 Y16 YJ) (Z6A Yd Y3 (Z2G Yd Y3 k Y16 YJ)).1 (Z6A Yd Y3 (Z2G Yd Y3 k Y16 YJ)).2:=by
 intro k
 induction k with
 | zero=>intro Y16 YJ Zb2 hk;exact absurd hk (Nat.not_lt_zero _)
 | succ k ih =>
  intro Y16 YJ Zb2 hk
  cases Yv:(decide (YJ < (Y3.length:Int))) with
  | true =>
   have YI:=odt Yv
   have YT:(0:Int)≤YJ:=(by assumption)
   have YV:YJ < (Y3.length:Int):=(by assumption)
   have p {a C} (s:Scr a C):=sB Yv<|sG (cI .i64) Y3 YJ YT YV<|sW .i64 (Y16 + 1)<|sZ Gv.c Yd.Me.Pq<|sW .i64 ((Yd.Me.Pq.length:Int) - 1)<|sF (Z6M (Y3.getD YJ.toNat default) (IntKind.wrap .i64 (Y16 + 1)) (IntKind.wrap .i64 ((Yd.Me.Pq.length:Int) - 1)))<|s
   cases YF:(ZP (Y3.getD YJ.toNat default) (IntKind.wrap .i64 (Y16 + 1)) (IntKind.wrap .i64 ((Yd.Me.Pq.length:Int) - 1))) with
   | true =>
    have YX:(-9223372036854775808:Int)≤(YJ + 1):=by clear p;exact (by omega)
    have YZ:(YJ + 1)≤(9223372036854775807:Int):=by clear p;exact (by omega)
    have e:Z2G Yd Y3 (k + 1) Y16 YJ=(Z2G Yd Y3 k (Y3.getD YJ.toNat default) (YJ + 1)):=by simp only [Z2G,Yv,YF,cond_true]
    rw [e]
    exact X8 E0Ok Z7 [] (mR false [0,3,2,1,2,6,15]) [0] (ih (Y3.getD YJ.toNat default) (YJ + 1) (show 0≤(YJ + 1) from (by omega)) (by omega)) (p (sB' YF<|sI (YJ + 1) YX YZ<|sN)) (by kernel_rfl)
   | false =>
    have e:Z2G Yd Y3 (k + 1) Y16 YJ=(.inl ()):=by simp only [Z2G,Yv,YF,cond_true,cond_false]
    rw [e]
    exact outR (e := .ret) E0Ok Z7 [] (mR false [4,1,24]) [] (p (sB' YF<|sN)) (by kernel_rfl) (by intro h;cases h)
  | false =>
   have YI:=odf Yv
   have e:Z2G Yd Y3 (k + 1) Y16 YJ=(.inr ()):=by simp only [Z2G,Yv,cond_false]
   rw [e]
   exact outR (e:=(.exit 0)) E0Ok Z7 [] (mR false [0,3,5,4,17]) [0] (sB Yv<|sN) (by kernel_rfl) (by intro h;cases h)
def Z54 (Yd:Gb) (Y3:(List Int)):(Unit) ⊕ (Unit):=(Z2G Yd Y3 (((Y3.length:Int) - 0).toNat + 1) (-1) 0)
def Z2K (Yd:Gb) (Y3:(List Int)):Bool:=(cond (Z2d Yd)
  (match (Z54 Yd Y3) with
    | .inl r2=>false
    | .inr r2=>true)
  false)
theorem Zhg (Yd:Gb) (Y3:(List Int)) (hp0:Yd.Me.Pq.length≤1073741824) (hp1:Yd.Me.Tr.length≤1073741824) (hp2:∀ t∈Yd.Me.Tr,t.length≤1073741824) (hp3:Yd.Sp.length≤1073741824) (hp4:Yd.We.length≤1073741824) (hp5:Y3.length≤1073741824)  : Fn prog 67 [.agg [.sl (Yd.Me.Pq.map Gv.c), .sl (Yd.Me.Tr.map (cL (cI .i64))), .sl (Yd.Sp.map Gs.c), .f .f32 Yd.Film, .f .f32 Yd.Bend, .sl (Yd.We.map (cF .f32)), .f .f32 Yd.Fall.X, .f .f32 Yd.Fall.Y, .f .f32 Yd.Fall.Z], .sl (Y3.map (cI .i64))] (.b (Z2K Yd Y3)) []:=by
 have p {a C} (s:Scr a C):=sF (ZfV Yd hp0 hp1 hp2 hp3 hp4)<|s
 cases h0:(Z2d Yd) with
 | true =>
  have q {a C} (s:Scr a C):=p (sB' h0<|sZ (cI .i64) Y3<|s)
  clear p
  cases h1:(Z54 Yd Y3) with
  | inl r2 =>
   refine fnS E0Ok Z7 (c:=X0 f67) [] (.b false) [] func67 (q (sL (mR false [0,3,2,1,2,6,15]) 1 (X1 (Z6A Yd Y3) (x:=(Z54 Yd Y3)) (Zcc Yd Y3 hp0 hp1 hp2 hp3 hp4 hp5 h0 (((Y3.length:Int) - 0).toNat + 1) (-1) 0 (show 0≤0 from (by omega)) (Nat.lt_succ_self _)) h1)<|sK [] sN)) rfl (by kernel_rfl) (by kernel_rfl) rfl ?_ ?_
   · simp only [Z2K,h0,h1,cond_true]
   · rfl
  | inr r2 =>
   refine fnS E0Ok Z7 (c:=X0 f67) [] (.b true) [] func67 (q (sL (mR false [0,3,2,1,2,6,15]) 1 (X1 (Z6A Yd Y3) (x:=(Z54 Yd Y3)) (Zcc Yd Y3 hp0 hp1 hp2 hp3 hp4 hp5 h0 (((Y3.length:Int) - 0).toNat + 1) (-1) 0 (show 0≤0 from (by omega)) (Nat.lt_succ_self _)) h1)<|sK [] sN)) rfl (by kernel_rfl) (by kernel_rfl) rfl ?_ ?_
   · simp only [Z2K,h0,h1,cond_true]
   · rfl
 | false =>
  refine fnS E0Ok Z7 (c:=X0 f67) [] (.b false) [] func67 (p (sB' h0<|sK [] sN)) rfl (by kernel_rfl) (by kernel_rfl) rfl ?_ ?_
  · simp only [Z2K,h0,cond_false]
  · rfl
theorem ZhC (p last n:Int) (h0:-1≤last) (hn:0≤n) (hn':n≤64) (hl:last < n∨last=-1):ZP p (IntKind.wrap .i64 (last + 1)) (IntKind.wrap .i64 (n - 1))=(Zl p 0 (IntKind.wrap .i64 (n - 1)) && !(decide (last ≥ p))):=by
  rw [show ZP=Zl from rfl]
  unfold Zl
  rw [Xb (n:=last + 1) (by omega) (by omega),Xb (n:=n - 1) (by omega) (by omega)]
  by_cases h1:p ≥ last + 1<;>by_cases h2:p≤n - 1<;>by_cases h3:p ≥ 0<;>by_cases h4:last ≥ p<;>simp [h1,h2,h3,h4]<;>omega
theorem ZiB (b:Gb) (hs:List Int) (hn:b.Me.Pq.length≤64):∀ (k:Nat) (last i:Int),0≤i→(i=0∧last=-1∨0 < i∧last=hs.getD (i - 1).toNat default∧0≤last∧last < (b.Me.Pq.length:Int))→Z2G b hs k last i=ZR hs 0 (IntKind.wrap .i64 ((b.Me.Pq.length:Int) - 1)) k i:=by
  intro k
  induction k with
  | zero=>intros;rfl
  | succ k ih =>
    intro last i h0 hl
    rw [Z2G,ZR]
    cases decide (i < (hs.length:Int)) with
    | false=>rfl
    | true =>
      rw [cond_true,cond_true,ZhC _ last (b.Me.Pq.length:Int) (by omega) (by omega) (by omega) (by omega)]
      cases hP:Zl (hs.getD i.toNat default) 0 (IntKind.wrap .i64 ((b.Me.Pq.length:Int) - 1)) with
      | false=>rfl
      | true =>
        rw [Bool.true_and,cond_true]
        have hb:0≤hs.getD i.toNat default∧hs.getD i.toNat default < (b.Me.Pq.length:Int):=by
          unfold Zl at hP
          rw [Xb (n:=(b.Me.Pq.length:Int) - 1) (by omega) (by omega)] at hP
          generalize hs.getD i.toNat default=P at hP ⊢
          by_cases h1:P ≥ 0<;>simp [h1] at hP
          omega
        have hi:=ih (hs.getD i.toNat default) (i + 1) (by omega) (.inr ⟨by omega,by rw [show i + 1 - 1=i from by omega],hb.1,hb.2⟩)
        rw [hi]
        rcases hl with ⟨hi0,hl⟩ | ⟨hi0,hl,_⟩
        · rw [decide_eq_false (show ¬ last ≥ hs.getD i.toNat default from by omega),decide_eq_false (show ¬ i > 0 from by omega)];rfl
        · rw [decide_eq_true (show i > 0 from hi0),cond_true,← hl]
          cases decide (last ≥ hs.getD i.toNat default)<;>rfl
theorem Zh1 (b:Gb) (hs:List Int):Z2K b hs=cond (Zt b) (Zq b hs) false:=by
  unfold Z2K
  rw [ZhB]
  cases h:Zt b with
  | false=>rfl
  | true =>
    unfold Zq Z4R Z54 Z4k
    rw [ZiB b hs (Ziz _ (Ziy b h)).1 _ _ _ (Int.le_refl 0) (.inl ⟨rfl,rfl⟩)]
    rfl
def Z9J (x_0:Nat):Bool:=(fcmp .eql .f32 (fop .sub .f32 x_0 x_0) 0)
theorem Zgn (x_0:Nat)   : Fn prog 123 [.f .f32 x_0] (.b (Z9J x_0)) []:=by
 refine fnS E0Ok Z7 (c:=X0 f123) [] (.b (fcmp .eql .f32 (fop .sub .f32 x_0 x_0) 0)) [] func123 (sK [] sN) rfl (by kernel_rfl) (by kernel_rfl) rfl ?_ ?_
 · rfl
 · rfl
def Z3f (x_0:Nat):Bool:=(cond (Z9J x_0)
  (fcmp .gtr .f32 x_0 0)
  false)
theorem Zhh (x_0:Nat)   : Fn prog 71 [.f .f32 x_0] (.b (Z3f x_0)) []:=by
 have p {a C} (s:Scr a C):=sF (Zgn x_0)<|s
 cases h0:(Z9J x_0) with
 | true =>
  refine fnS E0Ok Z7 (c:=X0 f71) [] (.b (fcmp .gtr .f32 x_0 0)) [] func71 (p (sB h0<|sB h0<|sB h0<|sK [] sN)) rfl (by kernel_rfl) (by kernel_rfl) rfl ?_ ?_
  · simp only [Z3f,h0,cond_true]
  · rfl
 | false =>
  refine fnS E0Ok Z7 (c:=X0 f71) [] (.b false) [] func71 (p (sB h0<|sB h0<|sB h0<|sK [] sN)) rfl (by kernel_rfl) (by kernel_rfl) rfl ?_ ?_
  · simp only [Z3f,h0,cond_false]
  · rfl
def Z3b (Yi:Gm):Nat→Int→(List (List Int))→(List (List Int))
  | 0,_,_=>default
  | k + 1,Y1,YO=>(cond (decide (Y1 < (Yi.Tr.length:Int)))
    (Z3b Yi k (Y1 + 1) (YO ++ [(([]:List Int) ++ (Yi.Tr.getD Y1.toNat default))]))
    YO)
def Z7J (Yi:Gm) (r:(List (List Int))):Ex × St:=((.exit 0),⟨.agg [.sl (Yi.Pq.map Gv.c), .sl (Yi.Tr.map (cL (cI .i64)))] :: .ptr 0 0 0 :: .ptr 1 0 0 :: .ptr 2 0 0 :: .any :: .any :: .any :: .ptr 0 0 0 :: .sl (Yi.Pq.map Gv.c) :: .own 3 :: .agg [.own 3, .nils] :: .ptr 0 0 1 :: .sl (Yi.Tr.map (cL (cI .i64))) :: an 15 [],[.box 38 [.sl (Yi.Pq.map Gv.c), .sl (Yi.Tr.map (cL (cI .i64)))], .box 38 [.nils, .nils], .box 38 [.own 3, .own 4], .vec 40 3 (([]:List (List AV)) ++ (Yi.Pq.map Gv.c)) false, .nest 49 (r.map fun l=>l.map (cI .i64)) false]⟩)
def Z7K (Yi:Gm) (Y1:Int) (YO:(List (List Int))):St:=⟨.agg [.sl (Yi.Pq.map Gv.c), .sl (Yi.Tr.map (cL (cI .i64)))] :: .ptr 0 0 0 :: .ptr 1 0 0 :: .ptr 3 0 0 :: .any :: .any :: .any :: .ptr 0 0 0 :: .sl (Yi.Pq.map Gv.c) :: .own 2 :: .agg [.own 2, .nils] :: .ptr 0 0 1 :: .sl (Yi.Tr.map (cL (cI .i64))) :: .i .i64 (Yi.Tr.length:Int) :: .i .i64 Y1 :: an 13 [],[.box 38 [.sl (Yi.Pq.map Gv.c), .sl (Yi.Tr.map (cL (cI .i64)))], .box 38 [.nils, .nils], .vec 40 3 (([]:List (List AV)) ++ (Yi.Pq.map Gv.c)) false, .box 38 [.own 2, .own 4], .nest 49 (YO.map fun l=>l.map (cI .i64)) false]⟩
theorem ZeI (Yi:Gm) (hp0:Yi.Pq.length≤1073741824) (hp1:Yi.Tr.length≤1073741824) (hp2:∀ t∈Yi.Tr,t.length≤1073741824) (hp3:Xr Yi.Pq.length Yi.Tr):∀ (k:Nat) (Y1:Int) (YO:(List (List Int))) (Z6B:0≤Y1) (Z9K:(YO.length:Int)=Y1) (hk:((Yi.Tr.length:Int) - Y1).toNat < k),Lp prog 0 (sub (X0 f128) [1,1,0,1,0,0]) (Z7K Yi Y1 YO) (Z7J Yi (Z3b Yi k Y1 YO)).1 (Z7J Yi (Z3b Yi k Y1 YO)).2:=by
 intro k
 induction k with
 | zero=>intro Y1 YO Z6B Z9K hk;exact absurd hk (Nat.not_lt_zero _)
 | succ k ih =>
  intro Y1 YO Z6B Z9K hk
  cases Yv:(decide (Y1 < (Yi.Tr.length:Int))) with
  | true =>
   have YI:=odt Yv
   have YT:(0:Int)≤Y1:=(by assumption)
   have YV:Y1 < (Yi.Tr.length:Int):=(by assumption)
   have YX:([]:List Int).length + (Yi.Tr.getD Y1.toNat default).length≤1073741824:=(by simp_all<;>omega)
   have YZ:YO.length + [(([]:List Int) ++ (Yi.Tr.getD Y1.toNat default))].length≤1073741824:=(by simp_all<;>omega)
   have y_4:(-9223372036854775808:Int)≤(Y1 + 1):=(by omega)
   have y_5:(Y1 + 1)≤(9223372036854775807:Int):=(by omega)
   have e:Z3b Yi (k + 1) Y1 YO=(Z3b Yi k (Y1 + 1) (YO ++ [(([]:List Int) ++ (Yi.Tr.getD Y1.toNat default))])):=by simp only [Z3b,Yv,cond_true]
   rw [e]
   exact X9 E0Ok Z7 [] (mR false [0,4,3,8,13]) [0,1,2,3,4] (⟨.agg [.sl (Yi.Pq.map Gv.c), .sl (Yi.Tr.map (cL (cI .i64)))] :: .ptr 0 0 0 :: .ptr 1 0 0 :: .ptr 3 0 0 :: .any :: .any :: .any :: .ptr 0 0 0 :: .sl (Yi.Pq.map Gv.c) :: .own 2 :: .agg [.own 2, .nils] :: .ptr 0 0 1 :: .sl (Yi.Tr.map (cL (cI .i64))) :: .i .i64 (Yi.Tr.length:Int) :: .i .i64 (Y1 + 1) :: an 13 [],[.box 38 [.sl (Yi.Pq.map Gv.c), .sl (Yi.Tr.map (cL (cI .i64)))], .box 38 [.nils, .nils], .vec 40 3 (([]:List (List AV)) ++ (Yi.Pq.map Gv.c)) false, .box 38 [.own 2, .own 4], .nest 49 ((YO.map fun l=>l.map (cI .i64)) ++ [(([]:List (List AV)) ++ ((Yi.Tr.getD Y1.toNat default).map (cI .i64)))]) false]⟩) (sB Yv<|sG (cL (cI .i64)) Yi.Tr Y1 YT YV<|sK [6,6]<|sC (show ((Yi.Tr.getD Y1.toNat default).map (cI .i64))≠[] from (by have q:=(Xr.at hp3 Z6B (odt (by assumption))).1;have q2:(Yi.Tr.getD Y1.toNat default)≠[]:=(by intro hq;rw [hq] at q;simp at q);simpa using q2))<|sC (show ([]:List (List AV)).length + ((Yi.Tr.getD Y1.toNat default).map (cI .i64)).length≤1073741824 from (by simpa using YX))<|sC (show ((Yi.Tr.getD Y1.toNat default).map (cI .i64)).all (fun cs=>cs.length == 1 && cs.all isS)=true from (X1R (fun _=>rfl)))<|sC (show (YO.map fun l=>l.map (cI .i64)).length + [(([]:List (List AV)) ++ ((Yi.Tr.getD Y1.toNat default).map (cI .i64)))].length≤1073741824 from (by simpa using YZ))<|sI (Y1 + 1) y_4 y_5<|sN) (by kernel_rfl) (by simp [Z7K,Gv.c,cL,cI]) (ih (Y1 + 1) (YO ++ [(([]:List Int) ++ (Yi.Tr.getD Y1.toNat default))]) (show 0≤(Y1 + 1) from (by omega)) (show ((YO ++ [(([]:List Int) ++ (Yi.Tr.getD Y1.toNat default))]).length:Int)=(Y1 + 1) from (by simp_all<;>omega)) (by omega))
  | false =>
   have YI:=odf Yv
   have e:Z3b Yi (k + 1) Y1 YO=YO:=by simp only [Z3b,Yv,cond_false]
   rw [e]
   exact outR (e:=(.exit 0)) E0Ok Z7 [] (mR false [0,4,3,6,15]) [0,1,3,2,4] (sB Yv<|sN) (by kernel_rfl) (by intro h;cases h)
def Z5r (Yi:Gm):(List (List Int)):=(Z3b Yi (((Yi.Tr.length:Int) - 0).toNat + 1) 0 ([]:List (List Int)))
def Z5Z (Yi:Gm):Gm:=(⟨(([]:List Gv) ++ Yi.Pq),(Z5r Yi)⟩:Gm)
theorem Zgo (Yi:Gm) (hp0:Yi.Pq.length≤1073741824) (hp1:Yi.Tr.length≤1073741824) (hp2:∀ t∈Yi.Tr,t.length≤1073741824) (hp3:Xr Yi.Pq.length Yi.Tr)  : Fn prog 128 [.agg [.sl (Yi.Pq.map Gv.c), .sl (Yi.Tr.map (cL (cI .i64)))]] (.agg [.own 0, .own 1]) [.vec 40 3 (((Z5Z Yi).Pq).map Gv.c) false, .nest 49 (((Z5Z Yi).Tr).map fun l=>l.map (cI .i64)) false]:=by
 have y0:([]:List Gv).length + Yi.Pq.length≤1073741824:=(by simp_all<;>omega)
 refine fnS E0Ok Z7 (c:=X0 f128) [] (.agg [.own 0, .own 1]) [.vec 40 3 (([]:List (List AV)) ++ (Yi.Pq.map Gv.c)) false, .nest 49 ((Z5r Yi).map fun l=>l.map (cI .i64)) false] func128 (sC (show ([]:List (List AV)).length + (Yi.Pq.map Gv.c).length≤1073741824 from (by simpa using y0))<|sC (show (Yi.Pq.map Gv.c).all (fun cs=>cs.length == 3 && cs.all isS)=true from (X1R (fun _=>rfl)))<|sZ (cL (cI .i64)) Yi.Tr<|sL (mR false [0,4,3,8,13]) 4 (Lp.nil (st:=⟨.agg [.sl (Yi.Pq.map Gv.c), .sl (Yi.Tr.map (cL (cI .i64)))] :: .ptr 0 0 0 :: .ptr 1 0 0 :: .ptr 3 0 0 :: .any :: .any :: .any :: .ptr 0 0 0 :: .sl (Yi.Pq.map Gv.c) :: .own 2 :: .agg [.own 2, .nils] :: .ptr 0 0 1 :: .sl (Yi.Tr.map (cL (cI .i64))) :: .i .i64 (Yi.Tr.length:Int) :: .i .i64 0 :: an 13 [],[.box 38 [.sl (Yi.Pq.map Gv.c), .sl (Yi.Tr.map (cL (cI .i64)))], .box 38 [.nils, .nils], .vec 40 3 (([]:List (List AV)) ++ (Yi.Pq.map Gv.c)) false, .box 38 [.own 2, .nils]]⟩) (st2:=⟨.agg [.sl (Yi.Pq.map Gv.c), .sl (Yi.Tr.map (cL (cI .i64)))] :: .ptr 0 0 0 :: .ptr 1 0 0 :: .ptr 3 0 0 :: .any :: .any :: .any :: .ptr 0 0 0 :: .sl (Yi.Pq.map Gv.c) :: .own 2 :: .agg [.own 2, .nils] :: .ptr 0 0 1 :: .sl (Yi.Tr.map (cL (cI .i64))) :: .i .i64 (Yi.Tr.length:Int) :: .i .i64 0 :: an 13 [],[.box 38 [.sl (Yi.Pq.map Gv.c), .sl (Yi.Tr.map (cL (cI .i64)))], .box 38 [.nils, .nils], .vec 40 3 (([]:List (List AV)) ++ (Yi.Pq.map Gv.c)) false, .box 38 [.own 2, .own 4], .nest 49 [] false]⟩) (ps:=[(.row 3 1, .nest 49 [] false)]) rfl (Xk (st2:=⟨.agg [.sl (Yi.Pq.map Gv.c), .sl (Yi.Tr.map (cL (cI .i64)))] :: .ptr 0 0 0 :: .ptr 1 0 0 :: .ptr 3 0 0 :: .any :: .any :: .any :: .ptr 0 0 0 :: .sl (Yi.Pq.map Gv.c) :: .own 2 :: .agg [.own 2, .nils] :: .ptr 0 0 1 :: .sl (Yi.Tr.map (cL (cI .i64))) :: .i .i64 (Yi.Tr.length:Int) :: .i .i64 0 :: an 13 [],[.box 38 [.sl (Yi.Pq.map Gv.c), .sl (Yi.Tr.map (cL (cI .i64)))], .box 38 [.nils, .nils], .vec 40 3 (([]:List (List AV)) ++ (Yi.Pq.map Gv.c)) false, .box 38 [.own 2, .own 4], .nest 49 [] false]⟩) (X1 (Z7J Yi) (x:=(Z5r Yi)) (ZeI Yi hp0 hp1 hp2 hp3 (((Yi.Tr.length:Int) - 0).toNat + 1) 0 ([]:List (List Int)) (show 0≤0 from (by omega)) (show (([]:List (List Int)).length:Int)=0 from (by simp)) (Nat.lt_succ_self _)) rfl) (by simp [Z7K,Gv.c,cL,cI])))<|sK [3,4] sN) rfl (by kernel_rfl) (by kernel_rfl) rfl ?_ ?_
 · rfl
 · simp [Z5Z,Gv.c]
@[simp] theorem ZhL (m:Gm):Z5Z m=m:=by
  unfold Z5Z Z5r
  rw [X3C (f:=fun i=>(m.Tr.getD i.toNat default)) (n:=(m.Tr.length:Int)) (lo:=Z3b m) (fun k i r=>rfl) _ _ _ (Nat.lt_succ_self _)]
  simp [X3v]
theorem Zgp (Yi:Gm) (hp0:Yi.Pq.length≤1073741824) (hp1:Yi.Tr.length≤1073741824) (hp2:∀ t∈Yi.Tr,t.length≤1073741824) (hp3:Xr Yi.Pq.length Yi.Tr):Fn prog 128 [.agg [.sl (Yi.Pq.map Gv.c), .sl (Yi.Tr.map (cL (cI .i64)))]] (.agg [.own 0, .own 1]) [.vec 40 3 (Yi.Pq.map Gv.c) false, .nest 49 (Yi.Tr.map fun l=>l.map (cI .i64)) false]:=by
 simpa only [ZhL] using Zgo  Yi hp0 hp1 hp2 hp3
def Z3g (Yd:Gb):Gb:=(⟨Yd.Me,(([]:List Gs) ++ Yd.Sp),Yd.Film,Yd.Bend,(([]:List Nat) ++ Yd.We),Yd.Fall⟩:Gb)
theorem Zgq (Yd:Gb) (hp0:Yd.Me.Pq.length≤1073741824) (hp1:Yd.Me.Tr.length≤1073741824) (hp2:∀ t∈Yd.Me.Tr,t.length≤1073741824) (hp3:Yd.Sp.length≤1073741824) (hp4:Yd.We.length≤1073741824) (hp5:Xr Yd.Me.Pq.length Yd.Me.Tr)  : Fn prog 84 [.agg [.sl (Yd.Me.Pq.map Gv.c), .sl (Yd.Me.Tr.map (cL (cI .i64))), .sl (Yd.Sp.map Gs.c), .f .f32 Yd.Film, .f .f32 Yd.Bend, .sl (Yd.We.map (cF .f32)), .f .f32 Yd.Fall.X, .f .f32 Yd.Fall.Y, .f .f32 Yd.Fall.Z]] (.agg [.own 0, .own 1, .own 2, .f .f32 ((Z3g Yd).Film), .f .f32 ((Z3g Yd).Bend), .own 3, .f .f32 ((Z3g Yd).Fall.X), .f .f32 ((Z3g Yd).Fall.Y), .f .f32 ((Z3g Yd).Fall.Z)]) [.vec 40 3 (((Z3g Yd).Me.Pq).map Gv.c) false, .nest 49 (((Z3g Yd).Me.Tr).map fun l=>l.map (cI .i64)) false, .vec 133 4 (((Z3g Yd).Sp).map Gs.c) false, .vec 27 1 (((Z3g Yd).We).map (cF .f32)) false]:=by
 have y0:([]:List Gs).length + Yd.Sp.length≤1073741824:=(by simp_all<;>omega)
 have y1:([]:List Nat).length + Yd.We.length≤1073741824:=(by simp_all<;>omega)
 refine fnS E0Ok Z7 (c:=X0 f84) [] (.agg [.own 0, .own 1, .own 2, .f .f32 Yd.Film, .f .f32 Yd.Bend, .own 3, .f .f32 Yd.Fall.X, .f .f32 Yd.Fall.Y, .f .f32 Yd.Fall.Z]) [.vec 40 3 (Yd.Me.Pq.map Gv.c) false, .nest 49 (Yd.Me.Tr.map fun l=>l.map (cI .i64)) false, .vec 133 4 (([]:List (List AV)) ++ (Yd.Sp.map Gs.c)) false, .vec 27 1 (([]:List (List AV)) ++ (Yd.We.map (cF .f32))) false] func84 (sF (Zgp Yd.Me hp0 hp1 hp2 hp5)<|sC (show ([]:List (List AV)).length + (Yd.Sp.map Gs.c).length≤1073741824 from (by simpa using y0))<|sC (show (Yd.Sp.map Gs.c).all (fun cs=>cs.length == 4 && cs.all isS)=true from (X1R (fun _=>rfl)))<|sC (show ([]:List (List AV)).length + (Yd.We.map (cF .f32)).length≤1073741824 from (by simpa using y1))<|sC (show (Yd.We.map (cF .f32)).all (fun cs=>cs.length == 1 && cs.all isS)=true from (X1R (fun _=>rfl)))<|sK [2,3,4,5] sN) rfl (by kernel_rfl) (by kernel_rfl) rfl ?_ ?_
 · rfl
 · simp [Z3g,Gs.c,cF]
@[simp] theorem ZhM (b:Gb):Z3g b=b:=by simp [Z3g]
theorem Z9L (Yd:Gb) (hp0:Yd.Me.Pq.length≤1073741824) (hp1:Yd.Me.Tr.length≤1073741824) (hp2:∀ t∈Yd.Me.Tr,t.length≤1073741824) (hp3:Yd.Sp.length≤1073741824) (hp4:Yd.We.length≤1073741824) (hp5:Xr Yd.Me.Pq.length Yd.Me.Tr):Fn prog 84 [.agg [.sl (Yd.Me.Pq.map Gv.c), .sl (Yd.Me.Tr.map (cL (cI .i64))), .sl (Yd.Sp.map Gs.c), .f .f32 Yd.Film, .f .f32 Yd.Bend, .sl (Yd.We.map (cF .f32)), .f .f32 Yd.Fall.X, .f .f32 Yd.Fall.Y, .f .f32 Yd.Fall.Z]] (.agg [.own 0, .own 1, .own 2, .f .f32 Yd.Film, .f .f32 Yd.Bend, .own 3, .f .f32 Yd.Fall.X, .f .f32 Yd.Fall.Y, .f .f32 Yd.Fall.Z]) [.vec 40 3 (Yd.Me.Pq.map Gv.c) false, .nest 49 (Yd.Me.Tr.map fun l=>l.map (cI .i64)) false, .vec 133 4 (Yd.Sp.map Gs.c) false, .vec 27 1 (Yd.We.map (cF .f32)) false]:=by
 simpa only [ZhM] using Zgq  Yd hp0 hp1 hp2 hp3 hp4 hp5
def Z2g (Yg:Gv) (Yw:Gv):Gv:=(⟨(fop .sub .f32 Yg.X Yw.X),(fop .sub .f32 Yg.Y Yw.Y),(fop .sub .f32 Yg.Z Yw.Z)⟩:Gv)
theorem Z4N (Yg:Gv) (Yw:Gv)   : Fn prog 114 [.agg [.f .f32 Yg.X, .f .f32 Yg.Y, .f .f32 Yg.Z], .agg [.f .f32 Yw.X, .f .f32 Yw.Y, .f .f32 Yw.Z]] (.agg [.f .f32 ((Z2g Yg Yw).X), .f .f32 ((Z2g Yg Yw).Y), .f .f32 ((Z2g Yg Yw).Z)]) []:=by
 refine fnS E0Ok Z7 (c:=X0 f114) [] (.agg [.f .f32 (fop .sub .f32 Yg.X Yw.X), .f .f32 (fop .sub .f32 Yg.Y Yw.Y), .f .f32 (fop .sub .f32 Yg.Z Yw.Z)]) [] func114 (sK [] sN) rfl (by kernel_rfl) (by kernel_rfl) rfl ?_ ?_
 · rfl
 · rfl
def ZF (Yd:Gb) (s_1:Gs):Gv:=(Z2g (Yd.Me.Pq.getD s_1.B.toNat default) (Yd.Me.Pq.getD s_1.A.toNat default))
theorem Zb3 (Yd:Gb) (s_1:Gs) (hp0:Yd.Me.Pq.length≤1073741824) (hp1:Yd.Me.Tr.length≤1073741824) (hp2:∀ t∈Yd.Me.Tr,t.length≤1073741824) (hp3:Yd.Sp.length≤1073741824) (hp4:Yd.We.length≤1073741824) (hp5:0≤s_1.A) (hp6:s_1.A < (Yd.Me.Pq.length:Int)) (hp7:0≤s_1.B) (hp8:s_1.B < (Yd.Me.Pq.length:Int))  : Fn prog 109 [.agg [.sl (Yd.Me.Pq.map Gv.c), .sl (Yd.Me.Tr.map (cL (cI .i64))), .sl (Yd.Sp.map Gs.c), .f .f32 Yd.Film, .f .f32 Yd.Bend, .sl (Yd.We.map (cF .f32)), .f .f32 Yd.Fall.X, .f .f32 Yd.Fall.Y, .f .f32 Yd.Fall.Z], .agg [.i .i64 s_1.A, .i .i64 s_1.B, .f .f32 s_1.Long, .f .f32 s_1.Stiff]] (.agg [.f .f32 ((ZF Yd s_1).X), .f .f32 ((ZF Yd s_1).Y), .f .f32 ((ZF Yd s_1).Z)]) []:=by
 have y0:(0:Int)≤s_1.B:=(by assumption)
 have y1:(0:Int)≤s_1.A:=(by assumption)
 refine fnS E0Ok Z7 (c:=X0 f109) [] (.agg [.f .f32 ((Z2g (Yd.Me.Pq.getD s_1.B.toNat default) (Yd.Me.Pq.getD s_1.A.toNat default)).X), .f .f32 ((Z2g (Yd.Me.Pq.getD s_1.B.toNat default) (Yd.Me.Pq.getD s_1.A.toNat default)).Y), .f .f32 ((Z2g (Yd.Me.Pq.getD s_1.B.toNat default) (Yd.Me.Pq.getD s_1.A.toNat default)).Z)]) [] func109 (sK [14,14]<|sG Gv.c Yd.Me.Pq s_1.B y0 hp8<|sG Gv.c Yd.Me.Pq s_1.A y1 hp6<|sF (Z4N (Yd.Me.Pq.getD s_1.B.toNat default) (Yd.Me.Pq.getD s_1.A.toNat default))<|sK [] sN) rfl (by kernel_rfl) (by kernel_rfl) rfl ?_ ?_
 · rfl
 · rfl
def Z4q (Yg:Gv) (Yw:Gv):Nat:=(fop .add .f32 (fop .add .f32 (fop .mul .f32 Yg.X Yw.X) (fop .mul .f32 Yg.Y Yw.Y)) (fop .mul .f32 Yg.Z Yw.Z))
theorem Z83 (Yg:Gv) (Yw:Gv)   : Fn prog 140 [.agg [.f .f32 Yg.X, .f .f32 Yg.Y, .f .f32 Yg.Z], .agg [.f .f32 Yw.X, .f .f32 Yw.Y, .f .f32 Yw.Z]] (.f .f32 (Z4q Yg Yw)) []:=by
 refine fnS E0Ok Z7 (c:=X0 f140) [] (.f .f32 (fop .add .f32 (fop .add .f32 (fop .mul .f32 Yg.X Yw.X) (fop .mul .f32 Yg.Y Yw.Y)) (fop .mul .f32 Yg.Z Yw.Z))) [] func140 (sK [] sN) rfl (by kernel_rfl) (by kernel_rfl) rfl ?_ ?_
 · rfl
 · rfl
def Z8c (x_0:Nat):Nat:=(fcv .f64 .f32 (Z5B (fcv .f32 .f64 x_0)))
theorem Zfj (x_0:Nat)   : Fn prog 139 [.f .f32 x_0] (.f .f32 (Z8c x_0)) []:=by
 have y0:X1s .f64 .f32 (Z5B (fcv .f32 .f64 x_0))=true:=(X3u _)
 refine fnS E0Ok Z7 (c:=X0 f139) [] (.f .f32 (fcv .f64 .f32 (Z5B (fcv .f32 .f64 x_0)))) [] func139 (sC (Xo x_0)<|sF (Zfu (fcv .f32 .f64 x_0))<|sC y0<|sK [] sN) rfl (by kernel_rfl) (by kernel_rfl) rfl ?_ ?_
 · rfl
 · rfl
def ZJ (v_0:Gv):Nat:=(Z8c (Z4q v_0 v_0))
theorem Z8y (v_0:Gv)   : Fn prog 112 [.agg [.f .f32 v_0.X, .f .f32 v_0.Y, .f .f32 v_0.Z]] (.f .f32 (ZJ v_0)) []:=by
 refine fnS E0Ok Z7 (c:=X0 f112) [] (.f .f32 (Z8c (Z4q v_0 v_0))) [] func112 (sF (Z83 v_0 v_0)<|sF (Zfj (Z4q v_0 v_0))<|sK [] sN) rfl (by kernel_rfl) (by kernel_rfl) rfl ?_ ?_
 · rfl
 · rfl
def Z4E (d_0:Gv) (s_1:Gs):Nat:=(cond (fcmp .gtr .f32 (ZJ d_0) 0)
  (fop .quo .f32 (fop .mul .f32 s_1.Stiff (fop .sub .f32 (ZJ d_0) s_1.Long)) (ZJ d_0))
  0)
theorem Zhi (d_0:Gv) (s_1:Gs)   : Fn prog 110 [.agg [.f .f32 d_0.X, .f .f32 d_0.Y, .f .f32 d_0.Z], .agg [.i .i64 s_1.A, .i .i64 s_1.B, .f .f32 s_1.Long, .f .f32 s_1.Stiff]] (.f .f32 (Z4E d_0 s_1)) []:=by
 have p {a C} (s:Scr a C):=sF (Z8y d_0)<|s
 cases h0:(fcmp .gtr .f32 (ZJ d_0) 0) with
 | true =>
  refine fnS E0Ok Z7 (c:=X0 f110) [] (.f .f32 (fop .quo .f32 (fop .mul .f32 s_1.Stiff (fop .sub .f32 (ZJ d_0) s_1.Long)) (ZJ d_0))) [] func110 (p (sB' h0<|sK [] sN)) rfl (by kernel_rfl) (by kernel_rfl) rfl ?_ ?_
  · simp only [Z4E,h0,cond_true]
  · rfl
 | false =>
  refine fnS E0Ok Z7 (c:=X0 f110) [] (.f .f32 0) [] func110 (p (sB' h0<|sK [] sN)) rfl (by kernel_rfl) (by kernel_rfl) rfl ?_ ?_
  · simp only [Z4E,h0,cond_false]
  · rfl
def ZC (v_0:Gv) (Yz:Nat):Gv:=(⟨(fop .mul .f32 v_0.X Yz),(fop .mul .f32 v_0.Y Yz),(fop .mul .f32 v_0.Z Yz)⟩:Gv)
theorem Z60 (v_0:Gv) (Yz:Nat)   : Fn prog 108 [.agg [.f .f32 v_0.X, .f .f32 v_0.Y, .f .f32 v_0.Z], .f .f32 Yz] (.agg [.f .f32 ((ZC v_0 Yz).X), .f .f32 ((ZC v_0 Yz).Y), .f .f32 ((ZC v_0 Yz).Z)]) []:=by
 refine fnS E0Ok Z7 (c:=X0 f108) [] (.agg [.f .f32 (fop .mul .f32 v_0.X Yz), .f .f32 (fop .mul .f32 v_0.Y Yz), .f .f32 (fop .mul .f32 v_0.Z Yz)]) [] func108 (sK [] sN) rfl (by kernel_rfl) (by kernel_rfl) rfl ?_ ?_
 · rfl
 · rfl
def ZD (Yg:Gv) (Yw:Gv):Gv:=(⟨(fop .add .f32 Yg.X Yw.X),(fop .add .f32 Yg.Y Yw.Y),(fop .add .f32 Yg.Z Yw.Z)⟩:Gv)
theorem Z4X (Yg:Gv) (Yw:Gv)   : Fn prog 107 [.agg [.f .f32 Yg.X, .f .f32 Yg.Y, .f .f32 Yg.Z], .agg [.f .f32 Yw.X, .f .f32 Yw.Y, .f .f32 Yw.Z]] (.agg [.f .f32 ((ZD Yg Yw).X), .f .f32 ((ZD Yg Yw).Y), .f .f32 ((ZD Yg Yw).Z)]) []:=by
 refine fnS E0Ok Z7 (c:=X0 f107) [] (.agg [.f .f32 (fop .add .f32 Yg.X Yw.X), .f .f32 (fop .add .f32 Yg.Y Yw.Y), .f .f32 (fop .add .f32 Yg.Z Yw.Z)]) [] func107 (sK [] sN) rfl (by kernel_rfl) (by kernel_rfl) rfl ?_ ?_
 · rfl
 · rfl
def ZL (Y1k:Int) (v_1:Gv) (Y1B:Nat) (YH:(List Gv)):(List Gv):=(YH.set Y1k.toNat (ZD (YH.getD Y1k.toNat default) (ZC v_1 Y1B)))
@[simp] theorem Zg8 (Y1k:Int) (v_1:Gv) (Y1B:Nat) (YH:(List Gv)):(ZL Y1k v_1 Y1B YH).length=YH.length:=by
  first | (simp [ZL];done)
theorem Z2k (Y1k:Int) (v_1:Gv) (Y1B:Nat) (YH:(List Gv)) (hp0:YH.length≤1073741824) (hp1:0≤Y1k) (hp2:Y1k < (YH.length:Int))  : X4 prog 106 [.box 34 [.own 1], .vec 40 3 (YH.map Gv.c) false] [.i .i64 Y1k, .agg [.f .f32 v_1.X, .f .f32 v_1.Y, .f .f32 v_1.Z], .f .f32 Y1B, .ptr 0 0 0] (.tup []) [.box 34 [.own 1], .vec 40 3 ((ZL Y1k v_1 Y1B YH).map Gv.c) false]:=by
 have y0:(0:Int)≤Y1k:=(by assumption)
 have y1:Y1k.toNat < YH.length:=(by omega)
 refine X23 (EpOk 2) Z7 (c:=X0 f106) [.box 34 [.own 1], .vec 40 3 (YH.map Gv.c) false] [] (.tup []) [.box 34 [.own 1], .vec 40 3 ((YH.map Gv.c).set Y1k.toNat [.f .f32 ((ZD (YH.getD Y1k.toNat default) (ZC v_1 Y1B)).X), .f .f32 ((ZD (YH.getD Y1k.toNat default) (ZC v_1 Y1B)).Y), .f .f32 ((ZD (YH.getD Y1k.toNat default) (ZC v_1 Y1B)).Z)]) false] func106 (sK [10,10]<|sX Gv.c YH Y1k y0 hp2<|sV Gv.c YH Y1k.toNat y1<|sF (Z60 v_1 Y1B)<|sF (Z4X (YH.getD Y1k.toNat default) (ZC v_1 Y1B))<|sX Gv.c YH Y1k y0 hp2<|sC (Xl (c:=Gv.c) (l:=YH) y1)<|sK [] sN) rfl (by kernel_rfl) (by kernel_rfl) ?_ ?_
 · rfl
 · simp [ZL,Gv.c]
def Z2U (Yg:Gv) (Yw:Gv):Gv:=(⟨(fop .sub .f32 (fop .mul .f32 Yg.Y Yw.Z) (fop .mul .f32 Yg.Z Yw.Y)),(fop .sub .f32 (fop .mul .f32 Yg.Z Yw.X) (fop .mul .f32 Yg.X Yw.Z)),(fop .sub .f32 (fop .mul .f32 Yg.X Yw.Y) (fop .mul .f32 Yg.Y Yw.X))⟩:Gv)
theorem ZaJ (Yg:Gv) (Yw:Gv)   : Fn prog 113 [.agg [.f .f32 Yg.X, .f .f32 Yg.Y, .f .f32 Yg.Z], .agg [.f .f32 Yw.X, .f .f32 Yw.Y, .f .f32 Yw.Z]] (.agg [.f .f32 ((Z2U Yg Yw).X), .f .f32 ((Z2U Yg Yw).Y), .f .f32 ((Z2U Yg Yw).Z)]) []:=by
 refine fnS E0Ok Z7 (c:=X0 f113) [] (.agg [.f .f32 (fop .sub .f32 (fop .mul .f32 Yg.Y Yw.Z) (fop .mul .f32 Yg.Z Yw.Y)), .f .f32 (fop .sub .f32 (fop .mul .f32 Yg.Z Yw.X) (fop .mul .f32 Yg.X Yw.Z)), .f .f32 (fop .sub .f32 (fop .mul .f32 Yg.X Yw.Y) (fop .mul .f32 Yg.Y Yw.X))]) [] func113 (sK [] sN) rfl (by kernel_rfl) (by kernel_rfl) rfl ?_ ?_
 · rfl
 · rfl
def Z61 (Yi:Gm) (t_1:(List Int)):Gv:=(Z2U (Z2g (Yi.Pq.getD (t_1.getD 1 default).toNat default) (Yi.Pq.getD (t_1.getD 0 default).toNat default)) (Z2g (Yi.Pq.getD (t_1.getD 2 default).toNat default) (Yi.Pq.getD (t_1.getD 0 default).toNat default)))
def Zf (Yi:Gm) (t_1:(List Int)):Gv:=(Z61 Yi t_1)
theorem Zcx (Yi:Gm) (t_1:(List Int)) (hp0:Yi.Pq.length≤1073741824) (hp1:Yi.Tr.length≤1073741824) (hp2:∀ t∈Yi.Tr,t.length≤1073741824) (hp3:t_1.length≤1073741824) (hp4:t_1.length=3∧∀ x∈t_1,0≤x∧x < (Yi.Pq.length:Int))  : Fn prog 111 [.agg [.sl (Yi.Pq.map Gv.c), .sl (Yi.Tr.map (cL (cI .i64)))], .sl (t_1.map (cI .i64))] (.agg [.f .f32 ((Zf Yi t_1).X), .f .f32 ((Zf Yi t_1).Y), .f .f32 ((Zf Yi t_1).Z)]) []:=by
 have y0:(0:Int)≤0:=(by omega)
 have y1:0 < (t_1.length:Int):=(by omega)
 have y2:(0:Int)≤(t_1.getD 0 default):=(by have q:=Okt.at hp4;omega)
 have y3:(t_1.getD 0 default) < (Yi.Pq.length:Int):=(by have q:=Okt.at hp4;omega)
 have y4:(0:Int)≤1:=(by omega)
 have y5:1 < (t_1.length:Int):=(by omega)
 have y6:(0:Int)≤(t_1.getD 1 default):=(by have q:=Okt.at hp4;omega)
 have y7:(t_1.getD 1 default) < (Yi.Pq.length:Int):=(by have q:=Okt.at hp4;omega)
 have y8:(0:Int)≤2:=(by omega)
 have y9:2 < (t_1.length:Int):=(by omega)
 have y10:(0:Int)≤(t_1.getD 2 default):=(by have q:=Okt.at hp4;omega)
 have y11:(t_1.getD 2 default) < (Yi.Pq.length:Int):=(by have q:=Okt.at hp4;omega)
 refine fnS E0Ok Z7 (c:=X0 f111) [] (.agg [.f .f32 ((Z61 Yi t_1).X), .f .f32 ((Z61 Yi t_1).Y), .f .f32 ((Z61 Yi t_1).Z)]) [] func111 (sK [8,8]<|sG (cI .i64) t_1 0 y0 y1<|sG Gv.c Yi.Pq (t_1.getD 0 default) y2 y3<|sK [17,17]<|sG (cI .i64) t_1 1 y4 y5<|sG Gv.c Yi.Pq (t_1.getD 1 default) y6 y7<|sF (Z4N (Yi.Pq.getD (t_1.getD 1 default).toNat default) (Yi.Pq.getD (t_1.getD 0 default).toNat default))<|sG (cI .i64) t_1 2 y8 y9<|sG Gv.c Yi.Pq (t_1.getD 2 default) y10 y11<|sF (Z4N (Yi.Pq.getD (t_1.getD 2 default).toNat default) (Yi.Pq.getD (t_1.getD 0 default).toNat default))<|sF (ZaJ (Z2g (Yi.Pq.getD (t_1.getD 1 default).toNat default) (Yi.Pq.getD (t_1.getD 0 default).toNat default)) (Z2g (Yi.Pq.getD (t_1.getD 2 default).toNat default) (Yi.Pq.getD (t_1.getD 0 default).toNat default)))<|sK [] sN) rfl (by kernel_rfl) (by kernel_rfl) rfl ?_ ?_
 · rfl
 · rfl
def Z6N (Yg:Int) (Yw:Int):Gedge:=(⟨(if Yw < Yg then Yw else Yg),(if Yw > Yg then Yw else Yg)⟩:Gedge)
theorem Zhj (Yg:Int) (Yw:Int)   : Fn prog 149 [.i .i64 Yg, .i .i64 Yw] (.agg [.i .i64 ((Z6N Yg Yw).e0), .i .i64 ((Z6N Yg Yw).e1)]) []:=by
 refine fnS E0Ok Z7 (c:=X0 f149) [] (.agg [.i .i64 (if Yw < Yg then Yw else Yg), .i .i64 (if Yw > Yg then Yw else Yg)]) [] func149 (sC (show (if false=true then (if Yw > Yg then Yw else Yg) else (if Yw < Yg then Yw else Yg))=(if Yw < Yg then Yw else Yg) from (by simp))<|sA (.num (if Yw < Yg then Yw else Yg))<|sC (show (if true=true then (if Yw > Yg then Yw else Yg) else (if Yw < Yg then Yw else Yg))=(if Yw > Yg then Yw else Yg) from (by simp))<|sA (.num (if Yw > Yg then Yw else Yg))<|sK [] sN) rfl (by kernel_rfl) (by kernel_rfl) rfl ?_ ?_
 · rfl
 · rfl
theorem ZiC (a b:Int):Z6N a b=mkE a b:=by
  unfold Z6N mkE
  by_cases h:a≤b
  · rw [if_pos h,if_neg (by omega)]
    by_cases h2:b > a
    · rw [if_pos h2]
    · rw [if_neg h2,show a=b from by omega]
  · rw [if_neg h,if_pos (by omega),if_neg (by omega)]
def Z3R (x_0:Int):Bool:=(x_0 != x_0)
theorem Zb4 (x_0:Int)   : Fn prog 172 [.i .i64 x_0] (.b (Z3R x_0)) []:=by
 refine fnS E0Ok Z7 (c:=X0 f172) [] (.b (x_0 != x_0)) [] func172 (sK [] sN) rfl (by kernel_rfl) (by kernel_rfl) rfl ?_ ?_
 · rfl
 · rfl
def Z22 (x_0:Int) (YV:Int):Int:=(cond (Z3R x_0)
  (cond (Z3R YV)
    0
    (-1))
  (cond (Z3R YV)
    1
    (cond (decide (x_0 < YV))
      (-1)
      (cond (decide (x_0 > YV))
        1
        0))))
theorem Zdy (x_0:Int) (YV:Int)   : Fn prog 166 [.i .i64 x_0, .i .i64 YV] (.i .i64 (Z22 x_0 YV)) []:=by
 have p {a C} (s:Scr a C):=sF (Zb4 x_0)<|sF (Zb4 YV)<|s
 cases h0:(Z3R x_0) with
 | true =>
  have q {a C} (s:Scr a C):=p (sB h0<|s)
  clear p
  cases h1:(Z3R YV) with
  | true =>
   refine fnS E0Ok Z7 (c:=X0 f166) [] (.i .i64 0) [] func166 (q (sB h1<|sK [] sN)) rfl (by kernel_rfl) (by kernel_rfl) rfl ?_ ?_
   · simp only [Z22,h0,h1,cond_true]
   · rfl
  | false =>
   refine fnS E0Ok Z7 (c:=X0 f166) [] (.i .i64 (-1)) [] func166 (q (sB h1<|sK [] sN)) rfl (by kernel_rfl) (by kernel_rfl) rfl ?_ ?_
   · simp only [Z22,h0,h1,cond_true,cond_false]
   · rfl
 | false =>
  have q {a C} (s:Scr a C):=p (sB h0<|s)
  clear p
  cases h1:(Z3R YV) with
  | true =>
   refine fnS E0Ok Z7 (c:=X0 f166) [] (.i .i64 1) [] func166 (q (sB h1<|sK [] sN)) rfl (by kernel_rfl) (by kernel_rfl) rfl ?_ ?_
   · simp only [Z22,h0,h1,cond_true,cond_false]
   · rfl
  | false =>
   have p {a C} (s:Scr a C):=q (sB h1<|s)
   clear q
   cases h2:(decide (x_0 < YV)) with
   | true =>
    have gh2:=odt h2
    refine fnS E0Ok Z7 (c:=X0 f166) [] (.i .i64 (-1)) [] func166 (p (sB h2<|sK [] sN)) rfl (by kernel_rfl) (by kernel_rfl) rfl ?_ ?_
    · simp only [Z22,h0,h1,h2,cond_true,cond_false]
    · rfl
   | false =>
    have gh2:=odf h2
    have q {a C} (s:Scr a C):=p (sB h2<|s)
    clear p
    cases h3:(decide (x_0 > YV)) with
    | true =>
     have gh3:=odt h3
     refine fnS E0Ok Z7 (c:=X0 f166) [] (.i .i64 1) [] func166 (q (sB h3<|sK [] sN)) rfl (by kernel_rfl) (by kernel_rfl) rfl ?_ ?_
     · simp only [Z22,h0,h1,h2,h3,cond_true,cond_false]
     · rfl
    | false =>
     have gh3:=odf h3
     refine fnS E0Ok Z7 (c:=X0 f166) [] (.i .i64 0) [] func166 (q (sB h3<|sK [] sN)) rfl (by kernel_rfl) (by kernel_rfl) rfl ?_ ?_
     · simp only [Z22,h0,h1,h2,h3,cond_false]
     · rfl
def ZE (Y12:(List Int)) (Y15:(List Int)):Nat→Int→(Int) ⊕ (Unit)
  | 0,_ => .inl default
  | k + 1,Y1=>(cond (decide (Y1 < (Y12.length:Int)))
    (cond (decide (Y1 ≥ (Y15.length:Int)))
      (.inl 1)
      (cond ((Z22 (Y12.getD Y1.toNat default) (Y15.getD Y1.toNat default)) != 0)
        (.inl (Z22 (Y12.getD Y1.toNat default) (Y15.getD Y1.toNat default)))
        (ZE Y12 Y15 k (Y1 + 1))))
    (.inr ()))
def Z3J (Y12:(List Int)) (Y15:(List Int)):(Int) ⊕ (Unit)→Ex × St
  | .inl r=>(.ret,⟨an 4 (.i .i64 r :: an 31 []),[]⟩)
  | .inr r=>((.exit 0),⟨.sl (Y12.map (cI .i64)) :: .sl (Y15.map (cI .i64)) :: an 7 (.sl (Y12.map (cI .i64)) :: an 26 []),[]⟩)
def Z8d (Y12:(List Int)) (Y15:(List Int)) (Y1:Int):St:=⟨.sl (Y12.map (cI .i64)) :: .sl (Y15.map (cI .i64)) :: an 7 (.sl (Y12.map (cI .i64)) :: .i .i64 (Y12.length:Int) :: .i .i64 Y1 :: an 24 []),[]⟩
theorem Z5j (Y12:(List Int)) (Y15:(List Int)) (hp0:Y12.length≤1073741824) (hp1:Y15.length≤1073741824):∀ (k:Nat) (Y1:Int) (Z55:0≤Y1) (hk:((Y12.length:Int) - Y1).toNat < k),Lp prog 0 (sub (X0 f155) [1,0,1,0,0]) (Z8d Y12 Y15 Y1) (Z3J Y12 Y15 (ZE Y12 Y15 k Y1)).1 (Z3J Y12 Y15 (ZE Y12 Y15 k Y1)).2:=by
 intro k
 induction k with
 | zero=>intro Y1 Z55 hk;exact absurd hk (Nat.not_lt_zero _)
 | succ k ih =>
  intro Y1 Z55 hk
  cases Yv:(decide (Y1 < (Y12.length:Int))) with
  | true =>
   have YI:=odt Yv
   have YT:(0:Int)≤Y1:=(by assumption)
   have YV:Y1 < (Y12.length:Int):=(by assumption)
   have p {a C} (s:Scr a C):=sB Yv<|sG (cI .i64) Y12 Y1 YT YV<|sZ (cI .i64) Y15<|s
   cases YF:(decide (Y1 ≥ (Y15.length:Int))) with
   | true =>
    have Y1i:=odt YF
    have e:ZE Y12 Y15 (k + 1) Y1=(.inl 1):=by simp only [ZE,Yv,YF,cond_true]
    rw [e]
    exact outR (e := .ret) E0Ok Z7 [] (mR false [4,1,31]) [] (p (sB YF<|sN)) (by kernel_rfl) (by intro h;cases h)
   | false =>
    have Y1i:=odf YF
    have YX:Y1 < (Y15.length:Int):=by clear p;exact (by omega)
    have q {a C} (s:Scr a C):=p (sB YF<|sG (cI .i64) Y15 Y1 YT YX<|sF (Zdy (Y12.getD Y1.toNat default) (Y15.getD Y1.toNat default))<|s)
    clear p
    cases h_2:((Z22 (Y12.getD Y1.toNat default) (Y15.getD Y1.toNat default)) != 0) with
    | true =>
     have Y1A:=bne_iff_ne.1 h_2
     have e:ZE Y12 Y15 (k + 1) Y1=(.inl (Z22 (Y12.getD Y1.toNat default) (Y15.getD Y1.toNat default))):=by simp only [ZE,Yv,YF,h_2,cond_true,cond_false]
     rw [e]
     exact outR (e := .ret) E0Ok Z7 [] (mR false [4,1,31]) [] (q (sB h_2<|sN)) (by kernel_rfl) (by intro h;cases h)
    | false =>
     have Y1A:=bne_eq_false_iff_eq.1 h_2
     have YZ:(-9223372036854775808:Int)≤(Y1 + 1):=by clear q;exact (by omega)
     have y_4:(Y1 + 1)≤(9223372036854775807:Int):=by clear q;exact (by omega)
     have e:ZE Y12 Y15 (k + 1) Y1=(ZE Y12 Y15 k (Y1 + 1)):=by simp only [ZE,Yv,YF,h_2,cond_true,cond_false]
     rw [e]
     exact X8 E0Ok Z7 [] (mR false [0,2,7,3,24]) [] (ih (Y1 + 1) (show 0≤(Y1 + 1) from (by omega)) (by omega)) (q (sB h_2<|sI (Y1 + 1) YZ y_4<|sN)) (by kernel_rfl)
  | false =>
   have YI:=odf Yv
   have e:ZE Y12 Y15 (k + 1) Y1=(.inr ()):=by simp only [ZE,Yv,cond_false]
   rw [e]
   exact outR (e:=(.exit 0)) E0Ok Z7 [] (mR false [0,2,7,1,26]) [] (sB Yv<|sN) (by kernel_rfl) (by intro h;cases h)
end Go.Ab
