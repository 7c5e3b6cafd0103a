/- The functions of this seat as plain Lean, and that the program's are these. Printed by a program of the prover's own. -/
import Derived.Test.YtpndflbllggeiaaGreatB11
set_option linter.unusedVariables false
set_option linter.unusedSimpArgs false
set_option maxRecDepth 100000
namespace Go.Ab
open Go.RowKit Go.Proofs.Tryz
def ZN (Yd:Gb) (Y3:(List Int)) (Y4:Nat) (Yj:Int):Int × Nat × Nat × Nat × Nat × Nat × (List Gv) × (List (List Int)) × (List Gs) × (List Nat):=(Z1w Yd Y3 Y4 Yj ((Yj - 0).toNat + 1) 0 0 Yd.Me.Pq Yd.Me.Tr Yd.Sp Yd.We Yd.Film Yd.Bend Yd.Fall.X Yd.Fall.Y Yd.Fall.Z (Z9 Yd Y3))
def Z4 (Yd:Gb) (Y3:(List Int)) (Y4:Nat) (Yj:Int):Gb × Int × Bool:=(cond (Z2K Yd Y3)
  (cond (Z3f Y4)
    (cond (ZP Yj 0 40)
      ((⟨(⟨(ZN Yd Y3 Y4 Yj).2.2.2.2.2.2.1,(ZN Yd Y3 Y4 Yj).2.2.2.2.2.2.2.1⟩:Gm),(ZN Yd Y3 Y4 Yj).2.2.2.2.2.2.2.2.1,(ZN Yd Y3 Y4 Yj).2.1,(ZN Yd Y3 Y4 Yj).2.2.1,(ZN Yd Y3 Y4 Yj).2.2.2.2.2.2.2.2.2,(⟨(ZN Yd Y3 Y4 Yj).2.2.2.1,(ZN Yd Y3 Y4 Yj).2.2.2.2.1,(ZN Yd Y3 Y4 Yj).2.2.2.2.2.1⟩:Gv)⟩:Gb),(ZN Yd Y3 Y4 Yj).1,true)
      ((⟨(⟨([]:List Gv),([]:List (List Int))⟩:Gm),([]:List Gs),0,0,([]:List Nat),(⟨0,0,0⟩:Gv)⟩:Gb),0,false))
    ((⟨(⟨([]:List Gv),([]:List (List Int))⟩:Gm),([]:List Gs),0,0,([]:List Nat),(⟨0,0,0⟩:Gv)⟩:Gb),0,false))
  ((⟨(⟨([]:List Gv),([]:List (List Int))⟩:Gm),([]:List Gs),0,0,([]:List Nat),(⟨0,0,0⟩:Gv)⟩:Gb),0,false))
theorem ZiK {β:Type} [Inhabited β] {F:Int→β→β} {n:Nat} {lo:Nat→Int→List β→List β} (h:∀ k i r,lo (k + 1) i r=cond (decide (i < (n:Int))) (lo k (i + 1) (r.set i.toNat (F i (r.getD i.toNat default)))) r) (j:Nat) :
    ∀ (k:Nat) (i:Int) (r:List β),0≤i→((n:Int) - i).toNat < k→r.length=n→(lo k i r)[j]? = if i≤(j:Int) then (r[j]?).map (F (j:Int)) else r[j]? := by
  intro k
  induction k with
  | zero=>intro i r _ hk;exact absurd hk (Nat.not_lt_zero _)
  | succ k ih =>
    intro i r h0 hk hr
    rw [h]
    by_cases hi:i < (n:Int)
    · rw [decide_eq_true hi,cond_true,ih _ _ (by omega) (by omega) (by simpa using hr)]
      by_cases hj:i.toNat=j
      · subst hj
        have hl:i.toNat < r.length:=by omega
        rw [if_neg (by omega),if_pos (by omega),List.getElem?_set_self hl,List.getElem?_eq_getElem hl,Option.map_some,List.getD_eq_getElem?_getD,List.getElem?_eq_getElem hl,Option.getD_some,show ((i.toNat:Nat):Int)=i from by omega]
      · rw [List.getElem?_set_ne hj]
        by_cases h2:i≤(j:Int)
        · rw [if_pos h2,if_pos (by omega)]
        · rw [if_neg h2,if_neg (by omega)]
    · rw [decide_eq_false hi,cond_false]
      by_cases h2:i≤(j:Int)
      · rw [if_pos h2,List.getElem?_eq_none (by omega)];rfl
      · rw [if_neg h2]
theorem ZiL (f g w:List Gv) (hw:w.length=g.length) {lo:Nat→Int→List Gv→List Gv} (h:∀ k i r,lo (k + 1) i r=cond (decide (i < (w.length:Int))) (lo k (i + 1) (r.set i.toNat (Zv (g.getD i.toNat default) (Zo (r.getD i.toNat default) (Zu (Zb g g) (Zb f f)))))) r) :
    lo (((w.length:Int) - 0).toNat + 1) 0 w=Z23 f g w:=by
  apply List.ext_getElem?
  intro j
  rw [ZiK (F:=fun i v=>Zv (g.getD i.toNat default) (Zo v (Zu (Zb g g) (Zb f f)))) (n:=w.length) h j _ _ _ (Int.le_refl 0) (Nat.lt_succ_self _) rfl,ZiY,if_pos (by omega)]
  by_cases hj:j < g.length
  · rw [if_pos hj,List.getElem?_eq_getElem (by omega:j < w.length),Option.map_some]
    have e:w.getD j default=w[j]'(by omega):=by rw [List.getD_eq_getElem?_getD,List.getElem?_eq_getElem (by omega:j < w.length)];rfl
    rw [e];rfl
  · rw [if_neg hj,List.getElem?_eq_none (by omega:w.length≤j)];rfl
theorem Zjd (b:Gb) (l:List Int) (s:Nat) (n:Int) (ok:OkBd b):∀ (k:Nat) (x c:Int) P T S W f d x1 x2 x3 V,Like b ⟨⟨P,T⟩,S,f,d,W,⟨x1,x2,x3⟩⟩→V.length=b.Me.Pq.length →
    Z1w b l s n k c x P T S W f d x1 x2 x3 V=(Z1h b l s n k (n - x) c P T S W f d x1 x2 x3 V).2:=by
  intro k
  induction k with
  | zero=>intros;rfl
  | succ k ih =>
    intro x c P T S W f d x1 x2 x3 V hL hV
    have okB:=Z5Y ok hL
    rw [Z1w,Z1h,show decide (n - x > 0)=decide (x < n) from decide_eq_decide.2 (by omega)]
    cases decide (x < n) with
    | false=>rfl
    | true =>
      rw [cond_true,cond_true,Z8z _ _ okB,ZeW _ V _ okB,ZeW _ _ _ okB]
      have ok1:=Z5Y ok (Z1j hL V s)
      have ok2:=Z5Y ok (Z1j hL (Z1 (⟨(⟨P,T⟩:Gm),S,f,d,W,(⟨x1,x2,x3⟩:Gv)⟩:Gb) l) s)
      rw [Z8z _ _ ok1,Z8z _ _ ok2]
      have l1:=(Zy (Z1j hL V s)).1
      have l2:=(Zy (Z1j hL (Z1 (⟨(⟨P,T⟩:Gm),S,f,d,W,(⟨x1,x2,x3⟩:Gv)⟩:Gb) l) s)).1
      have l0:=(Zy hL).1
      cases (Z0 (⟨(⟨P,T⟩:Gm),S,f,d,W,(⟨x1,x2,x3⟩:Gv)⟩:Gb) V s).2.2 with
      | true =>
        rw [cond_true,cond_true,ih _ _ _ _ _ _ _ _ _ _ _ _ (Z91 (Z1j hL _ _)) (by rw [Zgt,Zm];exact l1),show n - (x + 1)=n - x - 1 from by omega]
        unfold Z43
        rw [ZiL _ _ V (by rw [Zm,hV,l1]) (lo:=Z1J b l s n (n - x) c P T S W f d x1 x2 x3 V) (fun k i r=>rfl)]
      | false =>
        rw [cond_false,cond_false]
        cases (Z0 (⟨(⟨P,T⟩:Gm),S,f,d,W,(⟨x1,x2,x3⟩:Gv)⟩:Gb) (Z1 (⟨(⟨P,T⟩:Gm),S,f,d,W,(⟨x1,x2,x3⟩:Gv)⟩:Gb) l) s).2.2 with
        | true =>
          rw [cond_true,cond_true,ih _ _ _ _ _ _ _ _ _ _ _ _ (Z91 (Z1j hL _ _)) (by rw [Zgt,Zm];exact l2),show n - (x + 1)=n - x - 1 from by omega]
          unfold Z44
          rw [ZiL _ _ (Z1 (⟨(⟨P,T⟩:Gm),S,f,d,W,(⟨x1,x2,x3⟩:Gv)⟩:Gb) l) (by rw [Zm,Zm,l2];exact l0) (lo:=Z1K b l s n (n - x) c P T S W f d x1 x2 x3 V) (fun k i r=>rfl)]
        | false=>rfl
theorem Z6V (b:Gb) (l:List Int) (s:Nat) (n:Int):Z4 b l s n=Ze b l s n:=by
  unfold Z4 Ze
  rw [Zh1,show Z3f s=Zh s from rfl,show ZP n 0 40=Zl n 0 40 from rfl]
  cases h:Zt b with
  | false=>rfl
  | true =>
    rw [cond_true,cond_true]
    unfold ZN ZK
    rw [Z8z b l (Z6a b h),Zjd b l s n (Z6a b h) _ _ _ _ _ _ _ _ _ _ _ _ _ ⟨rfl,rfl,rfl,rfl⟩ (Zm b l),Int.sub_zero]
theorem ZbK (b:Gb) (l:List Int) (s:Nat) (n:Int):(Z4 b l s n).1.Me.Pq.length≤b.Me.Pq.length:=by rw [Z6V];exact Zbz b l s n
theorem ZbL (b:Gb) (l:List Int) (s:Nat) (n:Int):(Z4 b l s n).1.Me.Tr.length≤b.Me.Tr.length:=by rw [Z6V];exact ZbA b l s n
theorem ZbM (b:Gb) (l:List Int) (s:Nat) (n:Int):(Z4 b l s n).1.We.length≤b.We.length:=by rw [Z6V];exact ZbB b l s n
theorem ZbN (b:Gb) (l:List Int) (s:Nat) (n:Int):(Z4 b l s n).1.Sp.length≤b.Sp.length:=by rw [Z6V];exact ZbC b l s n
theorem Z8n (b:Gb) (l:List Int) (s:Nat) (n:Int):∀ t∈(Z4 b l s n).1.Me.Tr,t∈b.Me.Tr:=by rw [Z6V];exact ZbD b l s n
theorem ZcD (Yd:Gb) (Y3:(List Int)) (Y4:Nat) (Yj:Int) (hp0:Yd.Me.Pq.length≤1073741824) (hp1:Yd.Me.Tr.length≤1073741824) (hp2:∀ t∈Yd.Me.Tr,t.length≤1073741824) (hp3:Yd.Sp.length≤1073741824) (hp4:Yd.We.length≤1073741824) (hp5:Y3.length≤1073741824)  : Fn prog 44 [.agg [.sl (Yd.Me.Pq.map Gv.c), .sl (Yd.Me.Tr.map (cL (cI .i64))), .sl (Yd.Sp.map Gs.c), .f .f32 Yd.Film, .f .f32 Yd.Bend, .sl (Yd.We.map (cF .f32)), .f .f32 Yd.Fall.X, .f .f32 Yd.Fall.Y, .f .f32 Yd.Fall.Z], .sl (Y3.map (cI .i64)), .f .f32 Y4, .i .i64 Yj] (.tup [.agg [.own 0, .own 1, .own 2, .f .f32 ((Z4 Yd Y3 Y4 Yj).1.Film), .f .f32 ((Z4 Yd Y3 Y4 Yj).1.Bend), .own 3, .f .f32 ((Z4 Yd Y3 Y4 Yj).1.Fall.X), .f .f32 ((Z4 Yd Y3 Y4 Yj).1.Fall.Y), .f .f32 ((Z4 Yd Y3 Y4 Yj).1.Fall.Z)], .i .i64 ((Z4 Yd Y3 Y4 Yj).2.1), .b ((Z4 Yd Y3 Y4 Yj).2.2)]) [.vec 40 3 (((Z4 Yd Y3 Y4 Yj).1.Me.Pq).map Gv.c) false, .nest 49 (((Z4 Yd Y3 Y4 Yj).1.Me.Tr).map fun l=>l.map (cI .i64)) false, .vec 133 4 (((Z4 Yd Y3 Y4 Yj).1.Sp).map Gs.c) false, .vec 27 1 (((Z4 Yd Y3 Y4 Yj).1.We).map (cF .f32)) false]:=by
 have p {a C} (s:Scr a C):=sF (Zhg Yd Y3 hp0 hp1 hp2 hp3 hp4 hp5)<|s
 cases h0:(Z2K Yd Y3) with
 | true =>
  have q {a C} (s:Scr a C):=p (sB' h0<|sB' h0<|sF (Zhh Y4)<|sB' h0<|sB' h0<|s)
  clear p
  cases h1:(Z3f Y4) with
  | true =>
   have p {a C} (s:Scr a C):=q (sB' h1<|sB' h1<|sF (Z6M Yj 0 40)<|sB' h1<|sB' h1<|s)
   clear q
   cases h2:(ZP Yj 0 40) with
   | true =>
    have y0:Xr Yd.Me.Pq.length Yd.Me.Tr:=by clear p;exact (by exact (Z6a _ (Z62 _ _ (by assumption)).1).e.tris)
    have y1:OkBd Yd:=by clear p;exact (by exact Z6a _ (Z62 _ _ (by assumption)).1)
    have y2:OkIx Yd.Me.Pq.length (fun x=>x) Y3:=by clear p;exact (by exact Z8M _ _ (by assumption) (Z62 _ _ (by assumption)).2)
    refine fnS E0Ok Z7 (c:=X0 f44) [] (.tup [.agg [.own 0, .own 1, .own 2, .f .f32 ((ZN Yd Y3 Y4 Yj).2.1), .f .f32 ((ZN Yd Y3 Y4 Yj).2.2.1), .own 3, .f .f32 ((ZN Yd Y3 Y4 Yj).2.2.2.1), .f .f32 ((ZN Yd Y3 Y4 Yj).2.2.2.2.1), .f .f32 ((ZN Yd Y3 Y4 Yj).2.2.2.2.2.1)], .i .i64 ((ZN Yd Y3 Y4 Yj).1), .b true]) [.vec 40 3 (((ZN Yd Y3 Y4 Yj).2.2.2.2.2.2.1).map Gv.c) false, .nest 49 (((ZN Yd Y3 Y4 Yj).2.2.2.2.2.2.2.1).map fun l=>l.map (cI .i64)) false, .vec 133 4 (((ZN Yd Y3 Y4 Yj).2.2.2.2.2.2.2.2.1).map Gs.c) false, .vec 27 1 (((ZN Yd Y3 Y4 Yj).2.2.2.2.2.2.2.2.2).map (cF .f32)) false] func44 (p (sB' h2<|sF (Z9L Yd hp0 hp1 hp2 hp3 hp4 y0)<|sF (Fn.castA (args':=[.agg [.sl (Yd.Me.Pq.map Gv.c), .sl ((Yd.Me.Tr.map fun l=>l.map (cI .i64)).map fun l => [.sl l]), .sl (Yd.Sp.map Gs.c), .f .f32 Yd.Film, .f .f32 Yd.Bend, .sl (Yd.We.map (cF .f32)), .f .f32 Yd.Fall.X, .f .f32 Yd.Fall.Y, .f .f32 Yd.Fall.Z], .sl (Y3.map (cI .i64))]) (Z69 Yd Y3 hp0 hp1 hp2 hp3 hp4 hp5 y1 y2) (by simp [cL,Function.comp_def];done))<|sL Z6I 8 (X1 (Z7V Yd Y3 Y4 Yj) (x:=(ZN Yd Y3 Y4 Yj)) (Zf0 Yd Y3 Y4 Yj hp0 hp1 hp2 hp3 hp4 hp5 h0 h2 ((Yj - 0).toNat + 1) 0 0 Yd.Me.Pq Yd.Me.Tr Yd.Sp Yd.We Yd.Film Yd.Bend Yd.Fall.X Yd.Fall.Y Yd.Fall.Z (Z9 Yd Y3) (show 0≤0 from (by omega)) (show 0≤0 from (by omega)) (show Like Yd (⟨(⟨Yd.Me.Pq,Yd.Me.Tr⟩:Gm),Yd.Sp,Yd.Film,Yd.Bend,Yd.We,(⟨Yd.Fall.X,Yd.Fall.Y,Yd.Fall.Z⟩:Gv)⟩:Gb) from (by exact ⟨rfl,rfl,rfl,rfl⟩)) (show (Z9 Yd Y3).length=Yd.Me.Pq.length from (by with_reducible exact Zp _ _)) (show 0≤0 from (by omega)) (Nat.lt_succ_self _)) rfl)<|sK [3,4,5,6] sN)) rfl (by kernel_rfl) (by kernel_rfl) rfl ?_ ?_
    · simp only [Z4,h0,h1,h2,cond_true]
    · simp [Z4,h0,h1,h2]
   | false =>
    refine fnS E0Ok Z7 (c:=X0 f44) [(.row 1 0, .vec 40 3 [] false),(.row 1 1, .nest 49 [] false),(.row 1 2, .vec 133 4 [] false),(.row 1 5, .vec 27 1 [] false)] (.tup [.agg [.own 0, .own 1, .own 2, .f .f32 0, .f .f32 0, .own 3, .f .f32 0, .f .f32 0, .f .f32 0], .i .i64 0, .b false]) [.vec 40 3 [] false, .nest 49 [] false, .vec 133 4 [] false, .vec 27 1 [] false] func44 (p (sB' h2<|sK [2,3,4,5] sN)) rfl (by kernel_rfl) (by kernel_rfl) rfl ?_ ?_
    · simp only [Z4,h0,h1,h2,cond_true,cond_false]
    · simp [Z4,h0,h1,h2,Gv.c,cL,cI,Gs.c,cF]
  | false =>
   refine fnS E0Ok Z7 (c:=X0 f44) [(.row 1 0, .vec 40 3 [] false),(.row 1 1, .nest 49 [] false),(.row 1 2, .vec 133 4 [] false),(.row 1 5, .vec 27 1 [] false)] (.tup [.agg [.own 0, .own 1, .own 2, .f .f32 0, .f .f32 0, .own 3, .f .f32 0, .f .f32 0, .f .f32 0], .i .i64 0, .b false]) [.vec 40 3 [] false, .nest 49 [] false, .vec 133 4 [] false, .vec 27 1 [] false] func44 (q (sB' h1<|sB' h1<|sB' h1<|sB' h1<|sB (show true=true from rfl)<|sK [2,3,4,5] sN)) rfl (by kernel_rfl) (by kernel_rfl) rfl ?_ ?_
   · simp only [Z4,h0,h1,cond_true,cond_false]
   · simp [Z4,h0,h1,Gv.c,cL,cI,Gs.c,cF]
 | false =>
  refine fnS E0Ok Z7 (c:=X0 f44) [(.row 1 0, .vec 40 3 [] false),(.row 1 1, .nest 49 [] false),(.row 1 2, .vec 133 4 [] false),(.row 1 5, .vec 27 1 [] false)] (.tup [.agg [.own 0, .own 1, .own 2, .f .f32 0, .f .f32 0, .own 3, .f .f32 0, .f .f32 0, .f .f32 0], .i .i64 0, .b false]) [.vec 40 3 [] false, .nest 49 [] false, .vec 133 4 [] false, .vec 27 1 [] false] func44 (p (sB' h0<|sB' h0<|sB' h0<|sB' h0<|sB (show true=true from rfl)<|sB (show true=true from rfl)<|sB (show true=true from rfl)<|sB (show true=true from rfl)<|sB (show true=true from rfl)<|sK [2,3,4,5] sN)) rfl (by kernel_rfl) (by kernel_rfl) rfl ?_ ?_
  · simp only [Z4,h0,cond_false]
  · simp [Z4,h0,Gv.c,cL,cI,Gs.c,cF]
def ZS (Yg:Nat) (Yw:Nat):Bool:=(cond (fcmp .neq .f64 Yg Yg)
  (fcmp .neq .f64 Yw Yw)
  (cond (fcmp .neq .f64 Yw Yw)
    false
    (cond (fcmp .eql .f64 Yg 0)
      (cond (fcmp .eql .f64 Yw 0)
        ((fcmp .gtr .f64 (fop .quo .f64 4607182418800017408 Yg) 0) == (fcmp .gtr .f64 (fop .quo .f64 4607182418800017408 Yw) 0))
        (fcmp .eql .f64 Yg Yw))
      (fcmp .eql .f64 Yg Yw))))
theorem Z4f (Yg:Nat) (Yw:Nat)   : Fn prog 23 [.f .f64 Yg, .f .f64 Yw] (.b (ZS Yg Yw)) []:=by
 cases h0:(fcmp .neq .f64 Yg Yg) with
 | true =>
  refine fnS E0Ok Z7 (c:=X0 f23) [] (.b (fcmp .neq .f64 Yw Yw)) [] func23 (sB h0<|sB h0<|sB h0<|sB h0<|sB (show true=true from rfl)<|sB h0<|sB h0<|sB h0<|sB h0<|sK [] sN) rfl (by kernel_rfl) (by kernel_rfl) rfl ?_ ?_
  · simp only [ZS,h0,cond_true]
  · rfl
 | false =>
  have p {a C} (s:Scr a C):=sB h0<|sB h0<|sB h0<|sB h0<|s
  cases h1:(fcmp .neq .f64 Yw Yw) with
  | true =>
   refine fnS E0Ok Z7 (c:=X0 f23) [] (.b false) [] func23 (p (sB h1<|sB h0<|sB h0<|sB h0<|sB h0<|sK [] sN)) rfl (by kernel_rfl) (by kernel_rfl) rfl ?_ ?_
   · simp only [ZS,h0,h1,cond_true,cond_false]
   · rfl
  | false =>
   have q {a C} (s:Scr a C):=p (sB h1<|s)
   clear p
   cases h2:(fcmp .eql .f64 Yg 0) with
   | true =>
    have p {a C} (s:Scr a C):=q (sB h2<|sB h2<|sB h2<|s)
    clear q
    cases h3:(fcmp .eql .f64 Yw 0) with
    | true =>
     refine fnS E0Ok Z7 (c:=X0 f23) [] (.b ((fcmp .gtr .f64 (fop .quo .f64 4607182418800017408 Yg) 0) == (fcmp .gtr .f64 (fop .quo .f64 4607182418800017408 Yw) 0))) [] func23 (p (sB h3<|sK [] sN)) rfl (by kernel_rfl) (by kernel_rfl) rfl ?_ ?_
     · simp only [ZS,h0,h1,h2,h3,cond_true,cond_false]
     · rfl
    | false =>
     refine fnS E0Ok Z7 (c:=X0 f23) [] (.b (fcmp .eql .f64 Yg Yw)) [] func23 (p (sB h3<|sK [] sN)) rfl (by kernel_rfl) (by kernel_rfl) rfl ?_ ?_
     · simp only [ZS,h0,h1,h2,h3,cond_true,cond_false]
     · rfl
   | false =>
    refine fnS E0Ok Z7 (c:=X0 f23) [] (.b (fcmp .eql .f64 Yg Yw)) [] func23 (q (sB h2<|sB h2<|sB h2<|sB (show false=false from rfl)<|sK [] sN)) rfl (by kernel_rfl) (by kernel_rfl) rfl ?_ ?_
    · simp only [ZS,h0,h1,h2,cond_false]
    · rfl
theorem Zbb (x:Nat):ZS x x=true:=by
  unfold ZS
  cases h:fcmp .neq .f64 x x
  · simp only [cond_false]
    have h2:fcmp .eql .f64 x x=true:=by
      unfold fcmp at h ⊢
      simpa using h
    cases fcmp .eql .f64 x 0<;>simp [h2]
  · rfl
def Z3i (Yg:Gv) (Yw:Gv):Bool:=(cond (ZS (fcv .f32 .f64 Yg.X) (fcv .f32 .f64 Yw.X))
  (cond (ZS (fcv .f32 .f64 Yg.Y) (fcv .f32 .f64 Yw.Y))
    (cond (ZS (fcv .f32 .f64 Yg.Z) (fcv .f32 .f64 Yw.Z))
      true
      false)
    false)
  false)
theorem ZcE (Yg:Gv) (Yw:Gv)   : Fn prog 58 [.agg [.f .f32 Yg.X, .f .f32 Yg.Y, .f .f32 Yg.Z], .agg [.f .f32 Yw.X, .f .f32 Yw.Y, .f .f32 Yw.Z]] (.b (Z3i Yg Yw)) []:=by
 have p {a C} (s:Scr a C):=sC (Xo Yg.X)<|sC (Xo Yw.X)<|sF (Z4f (fcv .f32 .f64 Yg.X) (fcv .f32 .f64 Yw.X))<|s
 cases h0:(ZS (fcv .f32 .f64 Yg.X) (fcv .f32 .f64 Yw.X)) with
 | true =>
  have q {a C} (s:Scr a C):=p (sB' h0<|sC (Xo Yg.Y)<|sC (Xo Yw.Y)<|sF (Z4f (fcv .f32 .f64 Yg.Y) (fcv .f32 .f64 Yw.Y))<|s)
  clear p
  cases h1:(ZS (fcv .f32 .f64 Yg.Y) (fcv .f32 .f64 Yw.Y)) with
  | true =>
   have p {a C} (s:Scr a C):=q (sB' h1<|sC (Xo Yg.Z)<|sC (Xo Yw.Z)<|sF (Z4f (fcv .f32 .f64 Yg.Z) (fcv .f32 .f64 Yw.Z))<|s)
   clear q
   cases h2:(ZS (fcv .f32 .f64 Yg.Z) (fcv .f32 .f64 Yw.Z)) with
   | true =>
    refine fnS E0Ok Z7 (c:=X0 f58) [] (.b true) [] func58 (p (sB' h2<|sK [] sN)) rfl (by kernel_rfl) (by kernel_rfl) rfl ?_ ?_
    · simp only [Z3i,h0,h1,h2,cond_true]
    · rfl
   | false =>
    refine fnS E0Ok Z7 (c:=X0 f58) [] (.b false) [] func58 (p (sB' h2<|sK [] sN)) rfl (by kernel_rfl) (by kernel_rfl) rfl ?_ ?_
    · simp only [Z3i,h0,h1,h2,cond_true,cond_false]
    · rfl
  | false =>
   refine fnS E0Ok Z7 (c:=X0 f58) [] (.b false) [] func58 (q (sB' h1<|sK [] sN)) rfl (by kernel_rfl) (by kernel_rfl) rfl ?_ ?_
   · simp only [Z3i,h0,h1,cond_true,cond_false]
   · rfl
 | false =>
  refine fnS E0Ok Z7 (c:=X0 f58) [] (.b false) [] func58 (p (sB' h0<|sK [] sN)) rfl (by kernel_rfl) (by kernel_rfl) rfl ?_ ?_
  · simp only [Z3i,h0,cond_false]
  · rfl
theorem ZdQ (a:Gv):Z3i a a=true:=by
  simp [Z3i,Zbb]
def Z2n (Yg:(List Gv)) (Yw:(List Gv)):Nat→Int→(Unit) ⊕ (Unit)
  | 0,_ => .inl default
  | k + 1,Yk=>(cond (decide (Yk < (Yg.length:Int)))
    (cond (Z3i (Yg.getD Yk.toNat default) (Yw.getD Yk.toNat default))
      (Z2n Yg Yw k (Yk + 1))
      (.inl ()))
    (.inr ()))
def Z5Q (Yg:(List Gv)) (Yw:(List Gv)):(Unit) ⊕ (Unit)→Ex × St
  | .inl r=>(.ret,⟨an 4 (.b false :: an 22 []),[]⟩)
  | .inr r=>((.exit 0),⟨.sl (Yg.map Gv.c) :: .sl (Yw.map Gv.c) :: an 4 (.sl (Yg.map Gv.c) :: .i .i64 (Yg.length:Int) :: .sl (Yw.map Gv.c) :: .i .i64 (Yw.length:Int) :: .b ((Yg.length:Int) != (Yw.length:Int)) :: an 16 []),[]⟩)
def Zeh (Yg:(List Gv)) (Yw:(List Gv)) (Yk:Int):St:=⟨.sl (Yg.map Gv.c) :: .sl (Yw.map Gv.c) :: .any :: .any :: .any :: .i .i64 Yk :: .sl (Yg.map Gv.c) :: .i .i64 (Yg.length:Int) :: .sl (Yw.map Gv.c) :: .i .i64 (Yw.length:Int) :: .b ((Yg.length:Int) != (Yw.length:Int)) :: an 16 [],[]⟩
theorem ZaD (Yg:(List Gv)) (Yw:(List Gv)) (hp0:Yg.length≤1073741824) (hp1:Yw.length≤1073741824) (Zi8:((Yg.length:Int) != (Yw.length:Int))=false):∀ (k:Nat) (Yk:Int) (Z97:0≤Yk) (hk:((Yg.length:Int) - Yk).toNat < k),Lp prog 0 (sub (X0 f15) [1,1,0,1,0,0]) (Zeh Yg Yw Yk) (Z5Q Yg Yw (Z2n Yg Yw k Yk)).1 (Z5Q Yg Yw (Z2n Yg Yw k Yk)).2:=by
 intro k
 induction k with
 | zero=>intro Yk Z97 hk;exact absurd hk (Nat.not_lt_zero _)
 | succ k ih =>
  intro Yk Z97 hk
  have p {a C} (s:Scr a C):=sZ Gv.c Yg<|s
  cases Yv:(decide (Yk < (Yg.length:Int))) with
  | true =>
   have YI:=odt Yv
   have YT:(0:Int)≤Yk:=by clear p;exact (by assumption)
   have YV:Yk < (Yg.length:Int):=by clear p;exact (by assumption)
   have YX:Yk < (Yw.length:Int):=by clear p;exact (by simp_all<;>omega)
   have q {a C} (s:Scr a C):=p (sB Yv<|sK [8,8]<|sG Gv.c Yg Yk YT YV<|sG Gv.c Yw Yk YT YX<|sF (ZcE (Yg.getD Yk.toNat default) (Yw.getD Yk.toNat default))<|s)
   clear p
   cases YF:(Z3i (Yg.getD Yk.toNat default) (Yw.getD Yk.toNat default)) with
   | true =>
    have YZ:(-9223372036854775808:Int)≤(Yk + 1):=by clear q;exact (by omega)
    have y_4:(Yk + 1)≤(9223372036854775807:Int):=by clear q;exact (by omega)
    have e:Z2n Yg Yw (k + 1) Yk=(Z2n Yg Yw k (Yk + 1)):=by simp only [Z2n,Yv,YF,cond_true]
    rw [e]
    exact X8 E0Ok Z7 [] (mR false [0,2,3,6,16]) [] (ih (Yk + 1) (show 0≤(Yk + 1) from (by omega)) (by omega)) (q (sB' YF<|sI (Yk + 1) YZ y_4<|sN)) (by kernel_rfl)
   | false =>
    have e:Z2n Yg Yw (k + 1) Yk=(.inl ()):=by simp only [Z2n,Yv,YF,cond_true,cond_false]
    rw [e]
    exact outR (e := .ret) E0Ok Z7 [] (mR false [4,1,22]) [] (q (sB' YF<|sN)) (by kernel_rfl) (by intro h;cases h)
  | false =>
   have YI:=odf Yv
   have e:Z2n Yg Yw (k + 1) Yk=(.inr ()):=by simp only [Z2n,Yv,cond_false]
   rw [e]
   exact outR (e:=(.exit 0)) E0Ok Z7 [] (mR false [0,2,4,5,16]) [] (p (sB Yv<|sN)) (by kernel_rfl) (by intro h;cases h)
def Z4O (Yg:(List Gv)) (Yw:(List Gv)):(Unit) ⊕ (Unit):=(Z2n Yg Yw (((Yg.length:Int) - 0).toNat + 1) 0)
def Z4g (Yg:(List Gv)) (Yw:(List Gv)):Bool:=(cond ((Yg.length:Int) != (Yw.length:Int))
  false
  (match (Z4O Yg Yw) with
    | .inl r2=>false
    | .inr r2=>true))
theorem ZfY (Yg:(List Gv)) (Yw:(List Gv)) (hp0:Yg.length≤1073741824) (hp1:Yw.length≤1073741824)  : Fn prog 15 [.sl (Yg.map Gv.c), .sl (Yw.map Gv.c)] (.b (Z4g Yg Yw)) []:=by
 have p {a C} (s:Scr a C):=sZ Gv.c Yg<|sZ Gv.c Yw<|s
 cases h0:((Yg.length:Int) != (Yw.length:Int)) with
 | true =>
  have gh0:=bne_iff_ne.1 h0
  refine fnS E0Ok Z7 (c:=X0 f15) [] (.b false) [] func15 (p (sB h0<|sK [] sN)) rfl (by kernel_rfl) (by kernel_rfl) rfl ?_ ?_
  · simp only [Z4g,h0,cond_true]
  · rfl
 | false =>
  have gh0:=bne_eq_false_iff_eq.1 h0
  have q {a C} (s:Scr a C):=p (sB h0<|s)
  clear p
  cases h1:(Z4O Yg Yw) with
  | inl r2 =>
   refine fnS E0Ok Z7 (c:=X0 f15) [] (.b false) [] func15 (q (sL (mR false [0,2,3,6,16]) 0 (X1 (Z5Q Yg Yw) (x:=(Z4O Yg Yw)) (ZaD Yg Yw hp0 hp1 h0 (((Yg.length:Int) - 0).toNat + 1) 0 (show 0≤0 from (by omega)) (Nat.lt_succ_self _)) h1)<|sK [] sN)) rfl (by kernel_rfl) (by kernel_rfl) rfl ?_ ?_
   · simp only [Z4g,h0,h1,cond_false]
   · rfl
  | inr r2 =>
   refine fnS E0Ok Z7 (c:=X0 f15) [] (.b true) [] func15 (q (sL (mR false [0,2,3,6,16]) 0 (X1 (Z5Q Yg Yw) (x:=(Z4O Yg Yw)) (ZaD Yg Yw hp0 hp1 h0 (((Yg.length:Int) - 0).toNat + 1) 0 (show 0≤0 from (by omega)) (Nat.lt_succ_self _)) h1)<|sK [] sN)) rfl (by kernel_rfl) (by kernel_rfl) rfl ?_ ?_
   · simp only [Z4g,h0,h1,cond_false]
   · rfl
theorem ZgM (a:List Gv):Z4g a a=true:=by
  unfold Z4g Z4O
  rw [X7f (a:=a) (p:=fun v=>Z3i v v) (lo:=Z2n a a) (x:=()) (y:=()) (fun k i=>rfl) (fun v _=>ZdQ v) _ _ (Int.le_refl 0) (Nat.lt_succ_self _)]
  simp
def Z2h (Yg:(List Int)) (Yw:(List Int)):Nat→Int→(Unit) ⊕ (Unit)
  | 0,_ => .inl default
  | k + 1,Yk=>(cond (decide (Yk < (Yg.length:Int)))
    (cond ((Yg.getD Yk.toNat default) != (Yw.getD Yk.toNat default))
      (.inl ())
      (Z2h Yg Yw k (Yk + 1)))
    (.inr ()))
def Z63 (Yg:(List Int)) (Yw:(List Int)):(Unit) ⊕ (Unit)→Ex × St
  | .inl r=>(.ret,⟨an 4 (.b false :: an 21 []),[]⟩)
  | .inr r=>((.exit 0),⟨.sl (Yg.map (cI .i64)) :: .sl (Yw.map (cI .i64)) :: an 4 (.sl (Yg.map (cI .i64)) :: .i .i64 (Yg.length:Int) :: .sl (Yw.map (cI .i64)) :: .i .i64 (Yw.length:Int) :: .b ((Yg.length:Int) != (Yw.length:Int)) :: an 15 []),[]⟩)
def Zf1 (Yg:(List Int)) (Yw:(List Int)) (Yk:Int):St:=⟨.sl (Yg.map (cI .i64)) :: .sl (Yw.map (cI .i64)) :: .any :: .any :: .any :: .i .i64 Yk :: .sl (Yg.map (cI .i64)) :: .i .i64 (Yg.length:Int) :: .sl (Yw.map (cI .i64)) :: .i .i64 (Yw.length:Int) :: .b ((Yg.length:Int) != (Yw.length:Int)) :: an 15 [],[]⟩
theorem Zbc (Yg:(List Int)) (Yw:(List Int)) (hp0:Yg.length≤1073741824) (hp1:Yw.length≤1073741824) (Ziq:((Yg.length:Int) != (Yw.length:Int))=false):∀ (k:Nat) (Yk:Int) (Za7:0≤Yk) (hk:((Yg.length:Int) - Yk).toNat < k),Lp prog 0 (sub (X0 f24) [1,1,0,1,0,0]) (Zf1 Yg Yw Yk) (Z63 Yg Yw (Z2h Yg Yw k Yk)).1 (Z63 Yg Yw (Z2h Yg Yw k Yk)).2:=by
 intro k
 induction k with
 | zero=>intro Yk Za7 hk;exact absurd hk (Nat.not_lt_zero _)
 | succ k ih =>
  intro Yk Za7 hk
  have p {a C} (s:Scr a C):=sZ (cI .i64) Yg<|s
  cases Yv:(decide (Yk < (Yg.length:Int))) with
  | true =>
   have YI:=odt Yv
   have YT:(0:Int)≤Yk:=by clear p;exact (by assumption)
   have YV:Yk < (Yg.length:Int):=by clear p;exact (by assumption)
   have YX:Yk < (Yw.length:Int):=by clear p;exact (by simp_all<;>omega)
   have q {a C} (s:Scr a C):=p (sB Yv<|sK [8,8]<|sG (cI .i64) Yg Yk YT YV<|sG (cI .i64) Yw Yk YT YX<|s)
   clear p
   cases YF:((Yg.getD Yk.toNat default) != (Yw.getD Yk.toNat default)) with
   | true =>
    have Y1i:=bne_iff_ne.1 YF
    have e:Z2h Yg Yw (k + 1) Yk=(.inl ()):=by simp only [Z2h,Yv,YF,cond_true]
    rw [e]
    exact outR (e := .ret) E0Ok Z7 [] (mR false [4,1,21]) [] (q (sB YF<|sN)) (by kernel_rfl) (by intro h;cases h)
   | false =>
    have Y1i:=bne_eq_false_iff_eq.1 YF
    have YZ:(-9223372036854775808:Int)≤(Yk + 1):=by clear q;exact (by omega)
    have y_4:(Yk + 1)≤(9223372036854775807:Int):=by clear q;exact (by omega)
    have e:Z2h Yg Yw (k + 1) Yk=(Z2h Yg Yw k (Yk + 1)):=by simp only [Z2h,Yv,YF,cond_true,cond_false]
    rw [e]
    exact X8 E0Ok Z7 [] (mR false [0,2,3,6,15]) [] (ih (Yk + 1) (show 0≤(Yk + 1) from (by omega)) (by omega)) (q (sB YF<|sI (Yk + 1) YZ y_4<|sN)) (by kernel_rfl)
  | false =>
   have YI:=odf Yv
   have e:Z2h Yg Yw (k + 1) Yk=(.inr ()):=by simp only [Z2h,Yv,cond_false]
   rw [e]
   exact outR (e:=(.exit 0)) E0Ok Z7 [] (mR false [0,2,4,5,15]) [] (p (sB Yv<|sN)) (by kernel_rfl) (by intro h;cases h)
def Z4V (Yg:(List Int)) (Yw:(List Int)):(Unit) ⊕ (Unit):=(Z2h Yg Yw (((Yg.length:Int) - 0).toNat + 1) 0)
def Z3j (Yg:(List Int)) (Yw:(List Int)):Bool:=(cond ((Yg.length:Int) != (Yw.length:Int))
  false
  (match (Z4V Yg Yw) with
    | .inl r2=>false
    | .inr r2=>true))
theorem ZcF (Yg:(List Int)) (Yw:(List Int)) (hp0:Yg.length≤1073741824) (hp1:Yw.length≤1073741824)  : Fn prog 24 [.sl (Yg.map (cI .i64)), .sl (Yw.map (cI .i64))] (.b (Z3j Yg Yw)) []:=by
 have p {a C} (s:Scr a C):=sZ (cI .i64) Yg<|sZ (cI .i64) Yw<|s
 cases h0:((Yg.length:Int) != (Yw.length:Int)) with
 | true =>
  have gh0:=bne_iff_ne.1 h0
  refine fnS E0Ok Z7 (c:=X0 f24) [] (.b false) [] func24 (p (sB h0<|sK [] sN)) rfl (by kernel_rfl) (by kernel_rfl) rfl ?_ ?_
  · simp only [Z3j,h0,cond_true]
  · rfl
 | false =>
  have gh0:=bne_eq_false_iff_eq.1 h0
  have q {a C} (s:Scr a C):=p (sB h0<|s)
  clear p
  cases h1:(Z4V Yg Yw) with
  | inl r2 =>
   refine fnS E0Ok Z7 (c:=X0 f24) [] (.b false) [] func24 (q (sL (mR false [0,2,3,6,15]) 0 (X1 (Z63 Yg Yw) (x:=(Z4V Yg Yw)) (Zbc Yg Yw hp0 hp1 h0 (((Yg.length:Int) - 0).toNat + 1) 0 (show 0≤0 from (by omega)) (Nat.lt_succ_self _)) h1)<|sK [] sN)) rfl (by kernel_rfl) (by kernel_rfl) rfl ?_ ?_
   · simp only [Z3j,h0,h1,cond_false]
   · rfl
  | inr r2 =>
   refine fnS E0Ok Z7 (c:=X0 f24) [] (.b true) [] func24 (q (sL (mR false [0,2,3,6,15]) 0 (X1 (Z63 Yg Yw) (x:=(Z4V Yg Yw)) (Zbc Yg Yw hp0 hp1 h0 (((Yg.length:Int) - 0).toNat + 1) 0 (show 0≤0 from (by omega)) (Nat.lt_succ_self _)) h1)<|sK [] sN)) rfl (by kernel_rfl) (by kernel_rfl) rfl ?_ ?_
   · simp only [Z3j,h0,h1,cond_false]
   · rfl
theorem ZdR (a:List Int):Z3j a a=true:=by
  unfold Z3j Z4V
  rw [XO (a:=a) (p:=fun v => !(v != v)) (lo:=Z2h a a) (x:=()) (y:=()) (fun k i=>by rw [Z2h];cases (a.getD i.toNat default != a.getD i.toNat default)<;>rfl)]
  rw [show (a.all fun v => !(v != v))=true from by rw [List.all_eq_true];intro v _;simp]
  simp
def Z2o (Yg:(List (List Int))) (Yw:(List (List Int))):Nat→Int→(Unit) ⊕ (Unit)
  | 0,_ => .inl default
  | k + 1,Yk=>(cond (decide (Yk < (Yg.length:Int)))
    (cond (Z3j (Yg.getD Yk.toNat default) (Yw.getD Yk.toNat default))
      (Z2o Yg Yw k (Yk + 1))
      (.inl ()))
    (.inr ()))
def Z5R (Yg:(List (List Int))) (Yw:(List (List Int))):(Unit) ⊕ (Unit)→Ex × St
  | .inl r=>(.ret,⟨an 4 (.b false :: an 22 []),[]⟩)
  | .inr r=>((.exit 0),⟨.sl (Yg.map (cL (cI .i64))) :: .sl (Yw.map (cL (cI .i64))) :: an 4 (.sl (Yg.map (cL (cI .i64))) :: .i .i64 (Yg.length:Int) :: .sl (Yw.map (cL (cI .i64))) :: .i .i64 (Yw.length:Int) :: .b ((Yg.length:Int) != (Yw.length:Int)) :: an 16 []),[]⟩)
def Zei (Yg:(List (List Int))) (Yw:(List (List Int))) (Yk:Int):St:=⟨.sl (Yg.map (cL (cI .i64))) :: .sl (Yw.map (cL (cI .i64))) :: .any :: .any :: .any :: .i .i64 Yk :: .sl (Yg.map (cL (cI .i64))) :: .i .i64 (Yg.length:Int) :: .sl (Yw.map (cL (cI .i64))) :: .i .i64 (Yw.length:Int) :: .b ((Yg.length:Int) != (Yw.length:Int)) :: an 16 [],[]⟩
theorem ZaE (Yg:(List (List Int))) (Yw:(List (List Int))) (hp0:Yg.length≤1073741824) (hp1:∀ t∈Yg,t.length≤1073741824) (hp2:Yw.length≤1073741824) (hp3:∀ t∈Yw,t.length≤1073741824) (Zi9:((Yg.length:Int) != (Yw.length:Int))=false):∀ (k:Nat) (Yk:Int) (Z98:0≤Yk) (hk:((Yg.length:Int) - Yk).toNat < k),Lp prog 0 (sub (X0 f117) [1,1,0,1,0,0]) (Zei Yg Yw Yk) (Z5R Yg Yw (Z2o Yg Yw k Yk)).1 (Z5R Yg Yw (Z2o Yg Yw k Yk)).2:=by
 intro k
 induction k with
 | zero=>intro Yk Z98 hk;exact absurd hk (Nat.not_lt_zero _)
 | succ k ih =>
  intro Yk Z98 hk
  have p {a C} (s:Scr a C):=sZ (cL (cI .i64)) Yg<|s
  cases Yv:(decide (Yk < (Yg.length:Int))) with
  | true =>
   have YI:=odt Yv
   have YT:(0:Int)≤Yk:=by clear p;exact (by assumption)
   have YV:Yk < (Yg.length:Int):=by clear p;exact (by assumption)
   have YX:Yk < (Yw.length:Int):=by clear p;exact (by simp_all<;>omega)
   have YZ:(Yg.getD Yk.toNat default).length≤1073741824:=by clear p;exact (by simp_all<;>omega)
   have y_4:(Yw.getD Yk.toNat default).length≤1073741824:=by clear p;exact (by simp_all<;>omega)
   have q {a C} (s:Scr a C):=p (sB Yv<|sK [8,8]<|sG (cL (cI .i64)) Yg Yk YT YV<|sG (cL (cI .i64)) Yw Yk YT YX<|sF (ZcF (Yg.getD Yk.toNat default) (Yw.getD Yk.toNat default) YZ y_4)<|s)
   clear p
   cases YF:(Z3j (Yg.getD Yk.toNat default) (Yw.getD Yk.toNat default)) with
   | true =>
    have y_5:(-9223372036854775808:Int)≤(Yk + 1):=by clear q;exact (by omega)
    have y_6:(Yk + 1)≤(9223372036854775807:Int):=by clear q;exact (by omega)
    have e:Z2o Yg Yw (k + 1) Yk=(Z2o Yg Yw k (Yk + 1)):=by simp only [Z2o,Yv,YF,cond_true]
    rw [e]
    exact X8 E0Ok Z7 [] (mR false [0,2,3,6,16]) [] (ih (Yk + 1) (show 0≤(Yk + 1) from (by omega)) (by omega)) (q (sB' YF<|sI (Yk + 1) y_5 y_6<|sN)) (by kernel_rfl)
   | false =>
    have e:Z2o Yg Yw (k + 1) Yk=(.inl ()):=by simp only [Z2o,Yv,YF,cond_true,cond_false]
    rw [e]
    exact outR (e := .ret) E0Ok Z7 [] (mR false [4,1,22]) [] (q (sB' YF<|sN)) (by kernel_rfl) (by intro h;cases h)
  | false =>
   have YI:=odf Yv
   have e:Z2o Yg Yw (k + 1) Yk=(.inr ()):=by simp only [Z2o,Yv,cond_false]
   rw [e]
   exact outR (e:=(.exit 0)) E0Ok Z7 [] (mR false [0,2,4,5,16]) [] (p (sB Yv<|sN)) (by kernel_rfl) (by intro h;cases h)
def Z4P (Yg:(List (List Int))) (Yw:(List (List Int))):(Unit) ⊕ (Unit):=(Z2o Yg Yw (((Yg.length:Int) - 0).toNat + 1) 0)
def Z4h (Yg:(List (List Int))) (Yw:(List (List Int))):Bool:=(cond ((Yg.length:Int) != (Yw.length:Int))
  false
  (match (Z4P Yg Yw) with
    | .inl r2=>false
    | .inr r2=>true))
theorem ZfZ (Yg:(List (List Int))) (Yw:(List (List Int))) (hp0:Yg.length≤1073741824) (hp1:∀ t∈Yg,t.length≤1073741824) (hp2:Yw.length≤1073741824) (hp3:∀ t∈Yw,t.length≤1073741824)  : Fn prog 117 [.sl (Yg.map (cL (cI .i64))), .sl (Yw.map (cL (cI .i64)))] (.b (Z4h Yg Yw)) []:=by
 have p {a C} (s:Scr a C):=sZ (cL (cI .i64)) Yg<|sZ (cL (cI .i64)) Yw<|s
 cases h0:((Yg.length:Int) != (Yw.length:Int)) with
 | true =>
  have gh0:=bne_iff_ne.1 h0
  refine fnS E0Ok Z7 (c:=X0 f117) [] (.b false) [] func117 (p (sB h0<|sK [] sN)) rfl (by kernel_rfl) (by kernel_rfl) rfl ?_ ?_
  · simp only [Z4h,h0,cond_true]
  · rfl
 | false =>
  have gh0:=bne_eq_false_iff_eq.1 h0
  have q {a C} (s:Scr a C):=p (sB h0<|s)
  clear p
  cases h1:(Z4P Yg Yw) with
  | inl r2 =>
   refine fnS E0Ok Z7 (c:=X0 f117) [] (.b false) [] func117 (q (sL (mR false [0,2,3,6,16]) 0 (X1 (Z5R Yg Yw) (x:=(Z4P Yg Yw)) (ZaE Yg Yw hp0 hp1 hp2 hp3 h0 (((Yg.length:Int) - 0).toNat + 1) 0 (show 0≤0 from (by omega)) (Nat.lt_succ_self _)) h1)<|sK [] sN)) rfl (by kernel_rfl) (by kernel_rfl) rfl ?_ ?_
   · simp only [Z4h,h0,h1,cond_false]
   · rfl
  | inr r2 =>
   refine fnS E0Ok Z7 (c:=X0 f117) [] (.b true) [] func117 (q (sL (mR false [0,2,3,6,16]) 0 (X1 (Z5R Yg Yw) (x:=(Z4P Yg Yw)) (ZaE Yg Yw hp0 hp1 hp2 hp3 h0 (((Yg.length:Int) - 0).toNat + 1) 0 (show 0≤0 from (by omega)) (Nat.lt_succ_self _)) h1)<|sK [] sN)) rfl (by kernel_rfl) (by kernel_rfl) rfl ?_ ?_
   · simp only [Z4h,h0,h1,cond_false]
   · rfl
theorem ZgN (a:List (List Int)):Z4h a a=true:=by
  unfold Z4h Z4P
  rw [XO (a:=a) (p:=fun v=>Z3j v v) (lo:=Z2o a a) (x:=()) (y:=()) (fun k i=>rfl)]
  rw [show (a.all fun v=>Z3j v v)=true from by rw [List.all_eq_true];intro v _;exact ZdR v]
  simp
def Z4Y (Yg:Gm) (Yw:Gm):Bool:=(cond (Z4g Yg.Pq Yw.Pq)
  (cond (Z4h Yg.Tr Yw.Tr)
    true
    false)
  false)
theorem Zhq (Yg:Gm) (Yw:Gm) (hp0:Yg.Pq.length≤1073741824) (hp1:Yg.Tr.length≤1073741824) (hp2:∀ t∈Yg.Tr,t.length≤1073741824) (hp3:Yw.Pq.length≤1073741824) (hp4:Yw.Tr.length≤1073741824) (hp5:∀ t∈Yw.Tr,t.length≤1073741824)  : Fn prog 59 [.agg [.sl (Yg.Pq.map Gv.c), .sl (Yg.Tr.map (cL (cI .i64)))], .agg [.sl (Yw.Pq.map Gv.c), .sl (Yw.Tr.map (cL (cI .i64)))]] (.b (Z4Y Yg Yw)) []:=by
 have p {a C} (s:Scr a C):=sF (ZfY Yg.Pq Yw.Pq hp0 hp3)<|s
 cases h0:(Z4g Yg.Pq Yw.Pq) with
 | true =>
  have q {a C} (s:Scr a C):=p (sB' h0<|sF (ZfZ Yg.Tr Yw.Tr hp1 hp2 hp4 hp5)<|s)
  clear p
  cases h1:(Z4h Yg.Tr Yw.Tr) with
  | true =>
   refine fnS E0Ok Z7 (c:=X0 f59) [] (.b true) [] func59 (q (sB' h1<|sK [] sN)) rfl (by kernel_rfl) (by kernel_rfl) rfl ?_ ?_
   · simp only [Z4Y,h0,h1,cond_true]
   · rfl
  | false =>
   refine fnS E0Ok Z7 (c:=X0 f59) [] (.b false) [] func59 (q (sB' h1<|sK [] sN)) rfl (by kernel_rfl) (by kernel_rfl) rfl ?_ ?_
   · simp only [Z4Y,h0,h1,cond_true,cond_false]
   · rfl
 | false =>
  refine fnS E0Ok Z7 (c:=X0 f59) [] (.b false) [] func59 (p (sB' h0<|sK [] sN)) rfl (by kernel_rfl) (by kernel_rfl) rfl ?_ ?_
  · simp only [Z4Y,h0,cond_false]
  · rfl
theorem ZhS (a:Gm):Z4Y a a=true:=by
  simp [Z4Y,ZgM,ZgN]
def Z3k (Yg:Gs) (Yw:Gs):Bool:=(cond (Yg.A != Yw.A)
  false
  (cond (Yg.B != Yw.B)
    false
    (cond (ZS (fcv .f32 .f64 Yg.Long) (fcv .f32 .f64 Yw.Long))
      (cond (ZS (fcv .f32 .f64 Yg.Stiff) (fcv .f32 .f64 Yw.Stiff))
        true
        false)
      false)))
theorem Zgu (Yg:Gs) (Yw:Gs)   : Fn prog 118 [.agg [.i .i64 Yg.A, .i .i64 Yg.B, .f .f32 Yg.Long, .f .f32 Yg.Stiff], .agg [.i .i64 Yw.A, .i .i64 Yw.B, .f .f32 Yw.Long, .f .f32 Yw.Stiff]] (.b (Z3k Yg Yw)) []:=by
 cases h0:(Yg.A != Yw.A) with
 | true =>
  have gh0:=bne_iff_ne.1 h0
  refine fnS E0Ok Z7 (c:=X0 f118) [] (.b false) [] func118 (sB h0<|sK [] sN) rfl (by kernel_rfl) (by kernel_rfl) rfl ?_ ?_
  · simp only [Z3k,h0,cond_true]
  · rfl
 | false =>
  have gh0:=bne_eq_false_iff_eq.1 h0
  have p {a C} (s:Scr a C):=sB h0<|s
  cases h1:(Yg.B != Yw.B) with
  | true =>
   have gh1:=bne_iff_ne.1 h1
   refine fnS E0Ok Z7 (c:=X0 f118) [] (.b false) [] func118 (p (sB h1<|sK [] sN)) rfl (by kernel_rfl) (by kernel_rfl) rfl ?_ ?_
   · simp only [Z3k,h0,h1,cond_true,cond_false]
   · rfl
  | false =>
   have gh1:=bne_eq_false_iff_eq.1 h1
   have q {a C} (s:Scr a C):=p (sB h1<|sC (Xo Yg.Long)<|sC (Xo Yw.Long)<|sF (Z4f (fcv .f32 .f64 Yg.Long) (fcv .f32 .f64 Yw.Long))<|s)
   clear p
   cases h2:(ZS (fcv .f32 .f64 Yg.Long) (fcv .f32 .f64 Yw.Long)) with
   | true =>
    have p {a C} (s:Scr a C):=q (sB' h2<|sC (Xo Yg.Stiff)<|sC (Xo Yw.Stiff)<|sF (Z4f (fcv .f32 .f64 Yg.Stiff) (fcv .f32 .f64 Yw.Stiff))<|s)
    clear q
    cases h3:(ZS (fcv .f32 .f64 Yg.Stiff) (fcv .f32 .f64 Yw.Stiff)) with
    | true =>
     refine fnS E0Ok Z7 (c:=X0 f118) [] (.b true) [] func118 (p (sB' h3<|sK [] sN)) rfl (by kernel_rfl) (by kernel_rfl) rfl ?_ ?_
     · simp only [Z3k,h0,h1,h2,h3,cond_true,cond_false]
     · rfl
    | false =>
     refine fnS E0Ok Z7 (c:=X0 f118) [] (.b false) [] func118 (p (sB' h3<|sK [] sN)) rfl (by kernel_rfl) (by kernel_rfl) rfl ?_ ?_
     · simp only [Z3k,h0,h1,h2,h3,cond_true,cond_false]
     · rfl
   | false =>
    refine fnS E0Ok Z7 (c:=X0 f118) [] (.b false) [] func118 (q (sB' h2<|sK [] sN)) rfl (by kernel_rfl) (by kernel_rfl) rfl ?_ ?_
    · simp only [Z3k,h0,h1,h2,cond_false]
    · rfl
theorem Zhr (a:Gs):Z3k a a=true:=by
  simp [Z3k,Zbb]
def Z2p (Yg:(List Gs)) (Yw:(List Gs)):Nat→Int→(Unit) ⊕ (Unit)
  | 0,_ => .inl default
  | k + 1,Yk=>(cond (decide (Yk < (Yg.length:Int)))
    (cond (Z3k (Yg.getD Yk.toNat default) (Yw.getD Yk.toNat default))
      (Z2p Yg Yw k (Yk + 1))
      (.inl ()))
    (.inr ()))
def Z5S (Yg:(List Gs)) (Yw:(List Gs)):(Unit) ⊕ (Unit)→Ex × St
  | .inl r=>(.ret,⟨an 4 (.b false :: an 22 []),[]⟩)
  | .inr r=>((.exit 0),⟨.sl (Yg.map Gs.c) :: .sl (Yw.map Gs.c) :: an 4 (.sl (Yg.map Gs.c) :: .i .i64 (Yg.length:Int) :: .sl (Yw.map Gs.c) :: .i .i64 (Yw.length:Int) :: .b ((Yg.length:Int) != (Yw.length:Int)) :: an 16 []),[]⟩)
def Zej (Yg:(List Gs)) (Yw:(List Gs)) (Yk:Int):St:=⟨.sl (Yg.map Gs.c) :: .sl (Yw.map Gs.c) :: .any :: .any :: .any :: .i .i64 Yk :: .sl (Yg.map Gs.c) :: .i .i64 (Yg.length:Int) :: .sl (Yw.map Gs.c) :: .i .i64 (Yw.length:Int) :: .b ((Yg.length:Int) != (Yw.length:Int)) :: an 16 [],[]⟩
theorem ZaF (Yg:(List Gs)) (Yw:(List Gs)) (hp0:Yg.length≤1073741824) (hp1:Yw.length≤1073741824) (Zia:((Yg.length:Int) != (Yw.length:Int))=false):∀ (k:Nat) (Yk:Int) (Z99:0≤Yk) (hk:((Yg.length:Int) - Yk).toNat < k),Lp prog 0 (sub (X0 f60) [1,1,0,1,0,0]) (Zej Yg Yw Yk) (Z5S Yg Yw (Z2p Yg Yw k Yk)).1 (Z5S Yg Yw (Z2p Yg Yw k Yk)).2:=by
 intro k
 induction k with
 | zero=>intro Yk Z99 hk;exact absurd hk (Nat.not_lt_zero _)
 | succ k ih =>
  intro Yk Z99 hk
  have p {a C} (s:Scr a C):=sZ Gs.c Yg<|s
  cases Yv:(decide (Yk < (Yg.length:Int))) with
  | true =>
   have YI:=odt Yv
   have YT:(0:Int)≤Yk:=by clear p;exact (by assumption)
   have YV:Yk < (Yg.length:Int):=by clear p;exact (by assumption)
   have YX:Yk < (Yw.length:Int):=by clear p;exact (by simp_all<;>omega)
   have q {a C} (s:Scr a C):=p (sB Yv<|sK [8,8]<|sG Gs.c Yg Yk YT YV<|sG Gs.c Yw Yk YT YX<|sF (Zgu (Yg.getD Yk.toNat default) (Yw.getD Yk.toNat default))<|s)
   clear p
   cases YF:(Z3k (Yg.getD Yk.toNat default) (Yw.getD Yk.toNat default)) with
   | true =>
    have YZ:(-9223372036854775808:Int)≤(Yk + 1):=by clear q;exact (by omega)
    have y_4:(Yk + 1)≤(9223372036854775807:Int):=by clear q;exact (by omega)
    have e:Z2p Yg Yw (k + 1) Yk=(Z2p Yg Yw k (Yk + 1)):=by simp only [Z2p,Yv,YF,cond_true]
    rw [e]
    exact X8 E0Ok Z7 [] (mR false [0,2,3,6,16]) [] (ih (Yk + 1) (show 0≤(Yk + 1) from (by omega)) (by omega)) (q (sB' YF<|sI (Yk + 1) YZ y_4<|sN)) (by kernel_rfl)
   | false =>
    have e:Z2p Yg Yw (k + 1) Yk=(.inl ()):=by simp only [Z2p,Yv,YF,cond_true,cond_false]
    rw [e]
    exact outR (e := .ret) E0Ok Z7 [] (mR false [4,1,22]) [] (q (sB' YF<|sN)) (by kernel_rfl) (by intro h;cases h)
  | false =>
   have YI:=odf Yv
   have e:Z2p Yg Yw (k + 1) Yk=(.inr ()):=by simp only [Z2p,Yv,cond_false]
   rw [e]
   exact outR (e:=(.exit 0)) E0Ok Z7 [] (mR false [0,2,4,5,16]) [] (p (sB Yv<|sN)) (by kernel_rfl) (by intro h;cases h)
def Z4Q (Yg:(List Gs)) (Yw:(List Gs)):(Unit) ⊕ (Unit):=(Z2p Yg Yw (((Yg.length:Int) - 0).toNat + 1) 0)
def Z4i (Yg:(List Gs)) (Yw:(List Gs)):Bool:=(cond ((Yg.length:Int) != (Yw.length:Int))
  false
  (match (Z4Q Yg Yw) with
    | .inl r2=>false
    | .inr r2=>true))
theorem Zg0 (Yg:(List Gs)) (Yw:(List Gs)) (hp0:Yg.length≤1073741824) (hp1:Yw.length≤1073741824)  : Fn prog 60 [.sl (Yg.map Gs.c), .sl (Yw.map Gs.c)] (.b (Z4i Yg Yw)) []:=by
 have p {a C} (s:Scr a C):=sZ Gs.c Yg<|sZ Gs.c Yw<|s
 cases h0:((Yg.length:Int) != (Yw.length:Int)) with
 | true =>
  have gh0:=bne_iff_ne.1 h0
  refine fnS E0Ok Z7 (c:=X0 f60) [] (.b false) [] func60 (p (sB h0<|sK [] sN)) rfl (by kernel_rfl) (by kernel_rfl) rfl ?_ ?_
  · simp only [Z4i,h0,cond_true]
  · rfl
 | false =>
  have gh0:=bne_eq_false_iff_eq.1 h0
  have q {a C} (s:Scr a C):=p (sB h0<|s)
  clear p
  cases h1:(Z4Q Yg Yw) with
  | inl r2 =>
   refine fnS E0Ok Z7 (c:=X0 f60) [] (.b false) [] func60 (q (sL (mR false [0,2,3,6,16]) 0 (X1 (Z5S Yg Yw) (x:=(Z4Q Yg Yw)) (ZaF Yg Yw hp0 hp1 h0 (((Yg.length:Int) - 0).toNat + 1) 0 (show 0≤0 from (by omega)) (Nat.lt_succ_self _)) h1)<|sK [] sN)) rfl (by kernel_rfl) (by kernel_rfl) rfl ?_ ?_
   · simp only [Z4i,h0,h1,cond_false]
   · rfl
  | inr r2 =>
   refine fnS E0Ok Z7 (c:=X0 f60) [] (.b true) [] func60 (q (sL (mR false [0,2,3,6,16]) 0 (X1 (Z5S Yg Yw) (x:=(Z4Q Yg Yw)) (ZaF Yg Yw hp0 hp1 h0 (((Yg.length:Int) - 0).toNat + 1) 0 (show 0≤0 from (by omega)) (Nat.lt_succ_self _)) h1)<|sK [] sN)) rfl (by kernel_rfl) (by kernel_rfl) rfl ?_ ?_
   · simp only [Z4i,h0,h1,cond_false]
   · rfl
theorem ZgO (a:List Gs):Z4i a a=true:=by
  unfold Z4i Z4Q
  rw [XO (a:=a) (p:=fun v=>Z3k v v) (lo:=Z2p a a) (x:=()) (y:=()) (fun k i=>rfl)]
  rw [show (a.all fun v=>Z3k v v)=true from by rw [List.all_eq_true];intro v _;exact Zhr v]
  simp
def Z2c (Yg:(List Nat)) (Yw:(List Nat)):Nat→Int→(Unit) ⊕ (Unit)
  | 0,_ => .inl default
  | k + 1,Yk=>(cond (decide (Yk < (Yg.length:Int)))
    (cond (ZS (fcv .f32 .f64 (Yg.getD Yk.toNat default)) (fcv .f32 .f64 (Yw.getD Yk.toNat default)))
      (Z2c Yg Yw k (Yk + 1))
      (.inl ()))
    (.inr ()))
def Z5w (Yg:(List Nat)) (Yw:(List Nat)):(Unit) ⊕ (Unit)→Ex × St
  | .inl r=>(.ret,⟨an 4 (.b false :: an 24 []),[]⟩)
  | .inr r=>((.exit 0),⟨.sl (Yg.map (cF .f32)) :: .sl (Yw.map (cF .f32)) :: an 4 (.sl (Yg.map (cF .f32)) :: .i .i64 (Yg.length:Int) :: .sl (Yw.map (cF .f32)) :: .i .i64 (Yw.length:Int) :: .b ((Yg.length:Int) != (Yw.length:Int)) :: an 18 []),[]⟩)
def ZdK (Yg:(List Nat)) (Yw:(List Nat)) (Yk:Int):St:=⟨.sl (Yg.map (cF .f32)) :: .sl (Yw.map (cF .f32)) :: .any :: .any :: .any :: .i .i64 Yk :: .sl (Yg.map (cF .f32)) :: .i .i64 (Yg.length:Int) :: .sl (Yw.map (cF .f32)) :: .i .i64 (Yw.length:Int) :: .b ((Yg.length:Int) != (Yw.length:Int)) :: an 18 [],[]⟩
theorem Za8 (Yg:(List Nat)) (Yw:(List Nat)) (hp0:Yg.length≤1073741824) (hp1:Yw.length≤1073741824) (ZhT:((Yg.length:Int) != (Yw.length:Int))=false):∀ (k:Nat) (Yk:Int) (Z8t:0≤Yk) (hk:((Yg.length:Int) - Yk).toNat < k),Lp prog 0 (sub (X0 f40) [1,1,0,1,0,0]) (ZdK Yg Yw Yk) (Z5w Yg Yw (Z2c Yg Yw k Yk)).1 (Z5w Yg Yw (Z2c Yg Yw k Yk)).2:=by
 intro k
 induction k with
 | zero=>intro Yk Z8t hk;exact absurd hk (Nat.not_lt_zero _)
 | succ k ih =>
  intro Yk Z8t hk
  have p {a C} (s:Scr a C):=sZ (cF .f32) Yg<|s
  cases Yv:(decide (Yk < (Yg.length:Int))) with
  | true =>
   have YI:=odt Yv
   have YT:(0:Int)≤Yk:=by clear p;exact (by assumption)
   have YV:Yk < (Yg.length:Int):=by clear p;exact (by assumption)
   have YX:Yk < (Yw.length:Int):=by clear p;exact (by simp_all<;>omega)
   have q {a C} (s:Scr a C):=p (sB Yv<|sK [10,10]<|sG (cF .f32) Yg Yk YT YV<|sC (Xo (Yg.getD Yk.toNat default))<|sG (cF .f32) Yw Yk YT YX<|sC (Xo (Yw.getD Yk.toNat default))<|sF (Z4f (fcv .f32 .f64 (Yg.getD Yk.toNat default)) (fcv .f32 .f64 (Yw.getD Yk.toNat default)))<|s)
   clear p
   cases YF:(ZS (fcv .f32 .f64 (Yg.getD Yk.toNat default)) (fcv .f32 .f64 (Yw.getD Yk.toNat default))) with
   | true =>
    have YZ:(-9223372036854775808:Int)≤(Yk + 1):=by clear q;exact (by omega)
    have y_4:(Yk + 1)≤(9223372036854775807:Int):=by clear q;exact (by omega)
    have e:Z2c Yg Yw (k + 1) Yk=(Z2c Yg Yw k (Yk + 1)):=by simp only [Z2c,Yv,YF,cond_true]
    rw [e]
    exact X8 E0Ok Z7 [] (mR false [0,2,3,6,18]) [] (ih (Yk + 1) (show 0≤(Yk + 1) from (by omega)) (by omega)) (q (sB' YF<|sI (Yk + 1) YZ y_4<|sN)) (by kernel_rfl)
   | false =>
    have e:Z2c Yg Yw (k + 1) Yk=(.inl ()):=by simp only [Z2c,Yv,YF,cond_true,cond_false]
    rw [e]
    exact outR (e := .ret) E0Ok Z7 [] (mR false [4,1,24]) [] (q (sB' YF<|sN)) (by kernel_rfl) (by intro h;cases h)
  | false =>
   have YI:=odf Yv
   have e:Z2c Yg Yw (k + 1) Yk=(.inr ()):=by simp only [Z2c,Yv,cond_false]
   rw [e]
   exact outR (e:=(.exit 0)) E0Ok Z7 [] (mR false [0,2,4,5,18]) [] (p (sB Yv<|sN)) (by kernel_rfl) (by intro h;cases h)
def Z4C (Yg:(List Nat)) (Yw:(List Nat)):(Unit) ⊕ (Unit):=(Z2c Yg Yw (((Yg.length:Int) - 0).toNat + 1) 0)
def Z48 (Yg:(List Nat)) (Yw:(List Nat)):Bool:=(cond ((Yg.length:Int) != (Yw.length:Int))
  false
  (match (Z4C Yg Yw) with
    | .inl r2=>false
    | .inr r2=>true))
theorem Zfr (Yg:(List Nat)) (Yw:(List Nat)) (hp0:Yg.length≤1073741824) (hp1:Yw.length≤1073741824)  : Fn prog 40 [.sl (Yg.map (cF .f32)), .sl (Yw.map (cF .f32))] (.b (Z48 Yg Yw)) []:=by
 have p {a C} (s:Scr a C):=sZ (cF .f32) Yg<|sZ (cF .f32) Yw<|s
 cases h0:((Yg.length:Int) != (Yw.length:Int)) with
 | true =>
  have gh0:=bne_iff_ne.1 h0
  refine fnS E0Ok Z7 (c:=X0 f40) [] (.b false) [] func40 (p (sB h0<|sK [] sN)) rfl (by kernel_rfl) (by kernel_rfl) rfl ?_ ?_
  · simp only [Z48,h0,cond_true]
  · rfl
 | false =>
  have gh0:=bne_eq_false_iff_eq.1 h0
  have q {a C} (s:Scr a C):=p (sB h0<|s)
  clear p
  cases h1:(Z4C Yg Yw) with
  | inl r2 =>
   refine fnS E0Ok Z7 (c:=X0 f40) [] (.b false) [] func40 (q (sL (mR false [0,2,3,6,18]) 0 (X1 (Z5w Yg Yw) (x:=(Z4C Yg Yw)) (Za8 Yg Yw hp0 hp1 h0 (((Yg.length:Int) - 0).toNat + 1) 0 (show 0≤0 from (by omega)) (Nat.lt_succ_self _)) h1)<|sK [] sN)) rfl (by kernel_rfl) (by kernel_rfl) rfl ?_ ?_
   · simp only [Z48,h0,h1,cond_false]
   · rfl
  | inr r2 =>
   refine fnS E0Ok Z7 (c:=X0 f40) [] (.b true) [] func40 (q (sL (mR false [0,2,3,6,18]) 0 (X1 (Z5w Yg Yw) (x:=(Z4C Yg Yw)) (Za8 Yg Yw hp0 hp1 h0 (((Yg.length:Int) - 0).toNat + 1) 0 (show 0≤0 from (by omega)) (Nat.lt_succ_self _)) h1)<|sK [] sN)) rfl (by kernel_rfl) (by kernel_rfl) rfl ?_ ?_
   · simp only [Z48,h0,h1,cond_false]
   · rfl
theorem Zgv (a:List Nat):Z48 a a=true:=by
  unfold Z48 Z4C
  rw [XO (a:=a) (p:=fun v=>ZS (fcv .f32 .f64 v) (fcv .f32 .f64 v)) (lo:=Z2c a a) (x:=()) (y:=()) (fun k i=>rfl)]
  rw [show (a.all fun v=>ZS (fcv .f32 .f64 v) (fcv .f32 .f64 v))=true from by rw [List.all_eq_true];intro v _;exact Zbb _]
  simp
def Z3l (Yg:Gb) (Yw:Gb):Bool:=(cond (Z4Y Yg.Me Yw.Me)
  (cond (Z4i Yg.Sp Yw.Sp)
    (cond (ZS (fcv .f32 .f64 Yg.Film) (fcv .f32 .f64 Yw.Film))
      (cond (ZS (fcv .f32 .f64 Yg.Bend) (fcv .f32 .f64 Yw.Bend))
        (cond (Z48 Yg.We Yw.We)
          (cond (Z3i Yg.Fall Yw.Fall)
            true
            false)
          false)
        false)
      false)
    false)
  false)
theorem Z8A (Yg:Gb) (Yw:Gb) (hp0:Yg.Me.Pq.length≤1073741824) (hp1:Yg.Me.Tr.length≤1073741824) (hp2:∀ t∈Yg.Me.Tr,t.length≤1073741824) (hp3:Yg.Sp.length≤1073741824) (hp4:Yg.We.length≤1073741824) (hp5:Yw.Me.Pq.length≤1073741824) (hp6:Yw.Me.Tr.length≤1073741824) (hp7:∀ t∈Yw.Me.Tr,t.length≤1073741824) (hp8:Yw.Sp.length≤1073741824) (hp9:Yw.We.length≤1073741824)  : Fn prog 16 [.agg [.sl (Yg.Me.Pq.map Gv.c), .sl (Yg.Me.Tr.map (cL (cI .i64))), .sl (Yg.Sp.map Gs.c), .f .f32 Yg.Film, .f .f32 Yg.Bend, .sl (Yg.We.map (cF .f32)), .f .f32 Yg.Fall.X, .f .f32 Yg.Fall.Y, .f .f32 Yg.Fall.Z], .agg [.sl (Yw.Me.Pq.map Gv.c), .sl (Yw.Me.Tr.map (cL (cI .i64))), .sl (Yw.Sp.map Gs.c), .f .f32 Yw.Film, .f .f32 Yw.Bend, .sl (Yw.We.map (cF .f32)), .f .f32 Yw.Fall.X, .f .f32 Yw.Fall.Y, .f .f32 Yw.Fall.Z]] (.b (Z3l Yg Yw)) []:=by
 have p {a C} (s:Scr a C):=sF (Zhq Yg.Me Yw.Me hp0 hp1 hp2 hp5 hp6 hp7)<|s
 cases h0:(Z4Y Yg.Me Yw.Me) with
 | true =>
  have q {a C} (s:Scr a C):=p (sB' h0<|sF (Zg0 Yg.Sp Yw.Sp hp3 hp8)<|s)
  clear p
  cases h1:(Z4i Yg.Sp Yw.Sp) with
  | true =>
   have p {a C} (s:Scr a C):=q (sB' h1<|sC (Xo Yg.Film)<|sC (Xo Yw.Film)<|sF (Z4f (fcv .f32 .f64 Yg.Film) (fcv .f32 .f64 Yw.Film))<|s)
   clear q
   cases h2:(ZS (fcv .f32 .f64 Yg.Film) (fcv .f32 .f64 Yw.Film)) with
   | true =>
    have q {a C} (s:Scr a C):=p (sB' h2<|sC (Xo Yg.Bend)<|sC (Xo Yw.Bend)<|sF (Z4f (fcv .f32 .f64 Yg.Bend) (fcv .f32 .f64 Yw.Bend))<|s)
    clear p
    cases h3:(ZS (fcv .f32 .f64 Yg.Bend) (fcv .f32 .f64 Yw.Bend)) with
    | true =>
     have p {a C} (s:Scr a C):=q (sB' h3<|sF (Zfr Yg.We Yw.We hp4 hp9)<|s)
     clear q
     cases h4:(Z48 Yg.We Yw.We) with
     | true =>
      have q {a C} (s:Scr a C):=p (sB' h4<|sF (ZcE Yg.Fall Yw.Fall)<|s)
      clear p
      cases h5:(Z3i Yg.Fall Yw.Fall) with
      | true =>
       refine fnS E0Ok Z7 (c:=X0 f16) [] (.b true) [] func16 (q (sB' h5<|sK [] sN)) rfl (by kernel_rfl) (by kernel_rfl) rfl ?_ ?_
       · simp only [Z3l,h0,h1,h2,h3,h4,h5,cond_true]
       · rfl
      | false =>
       refine fnS E0Ok Z7 (c:=X0 f16) [] (.b false) [] func16 (q (sB' h5<|sK [] sN)) rfl (by kernel_rfl) (by kernel_rfl) rfl ?_ ?_
       · simp only [Z3l,h0,h1,h2,h3,h4,h5,cond_true,cond_false]
       · rfl
     | false =>
      refine fnS E0Ok Z7 (c:=X0 f16) [] (.b false) [] func16 (p (sB' h4<|sK [] sN)) rfl (by kernel_rfl) (by kernel_rfl) rfl ?_ ?_
      · simp only [Z3l,h0,h1,h2,h3,h4,cond_true,cond_false]
      · rfl
    | false =>
     refine fnS E0Ok Z7 (c:=X0 f16) [] (.b false) [] func16 (q (sB' h3<|sK [] sN)) rfl (by kernel_rfl) (by kernel_rfl) rfl ?_ ?_
     · simp only [Z3l,h0,h1,h2,h3,cond_true,cond_false]
     · rfl
   | false =>
    refine fnS E0Ok Z7 (c:=X0 f16) [] (.b false) [] func16 (p (sB' h2<|sK [] sN)) rfl (by kernel_rfl) (by kernel_rfl) rfl ?_ ?_
    · simp only [Z3l,h0,h1,h2,cond_true,cond_false]
    · rfl
  | false =>
   refine fnS E0Ok Z7 (c:=X0 f16) [] (.b false) [] func16 (q (sB' h1<|sK [] sN)) rfl (by kernel_rfl) (by kernel_rfl) rfl ?_ ?_
   · simp only [Z3l,h0,h1,cond_true,cond_false]
   · rfl
 | false =>
  refine fnS E0Ok Z7 (c:=X0 f16) [] (.b false) [] func16 (p (sB' h0<|sK [] sN)) rfl (by kernel_rfl) (by kernel_rfl) rfl ?_ ?_
  · simp only [Z3l,h0,cond_false]
  · rfl
theorem ZhU (a:Gb):Z3l a a=true:=by
  simp [Z3l,Zbb,ZdQ,ZhS,ZgO,Zgv]
def ZT (Yg:(List Gv)) (YA:Int):Nat→Int→Int→(List Gv)→Int × (List Gv)
  | 0,_,_,_=>default
  | k + 1,Yo,Ym,Yp=>(cond (decide (Ym < (Yp.length:Int)))
    (ZT Yg YA k (IntKind.wrap .i64 ((IntKind.wrap .i64 ((IntKind.wrap .i64 (Yo + 1)) + 1)) + 1)) (Ym + 1) (Yp.set Ym.toNat (⟨(X2 .f32 Yo),(X2 .f32 (IntKind.wrap .i64 (Yo + 1))),(X2 .f32 (IntKind.wrap .i64 ((IntKind.wrap .i64 (Yo + 1)) + 1)))⟩:Gv)))
    (Yo,Yp))
def Z5x (Yg:(List Gv)) (YA:Int) (r:Int × (List Gv)):Ex × St:=((.exit 0),⟨.any :: .i .i64 r.1 :: .any :: .any :: .i .i64 0 :: an 32 [],[.vec 40 3 (r.2.map Gv.c) false]⟩)
def Z7n (Yg:(List Gv)) (YA:Int) (Yo:Int) (Ym:Int) (Yp:(List Gv)):St:=⟨.own 0 :: .i .i64 Yo :: .any :: .any :: .i .i64 0 :: .i .i64 Ym :: an 31 [],[.vec 40 3 (Yp.map Gv.c) false]⟩
theorem ZbX (Yg:(List Gv)) (YA:Int) (hp0:Yg.length≤1073741824):∀ (k:Nat) (Yo:Int) (Ym:Int) (Yp:(List Gv)) (Z6j:0≤Ym) (Z6k:Yp.length=Yg.length) (hk:((Yg.length:Int) - Ym).toNat < k),Lp prog 1 (sub (X0 f18) [1,0,1,0,0]) (Z7n Yg YA Yo Ym Yp) (Z5x Yg YA (ZT Yg YA k Yo Ym Yp)).1 (Z5x Yg YA (ZT Yg YA k Yo Ym Yp)).2:=by
 intro k
 induction k with
 | zero=>intro Yo Ym Yp Z6j Z6k hk;exact absurd hk (Nat.not_lt_zero _)
 | succ k ih =>
  intro Yo Ym Yp Z6j Z6k hk
  have p {a C} (s:Scr a C):=sZ Gv.c Yp<|s
  cases Yv:(decide (Ym < (Yp.length:Int))) with
  | true =>
   have YI:=odt Yv
   have YT:(0:Int)≤Ym:=by clear p;exact (by assumption)
   have YV:Ym < (Yp.length:Int):=by clear p;exact (by assumption)
   have YX:Ym.toNat < Yp.length:=by clear p;exact (by omega)
   have YZ:Ym < ((Yp.set Ym.toNat (⟨(X2 .f32 Yo),(Yp.getD Ym.toNat default).Y,(Yp.getD Ym.toNat default).Z⟩:Gv)).length:Int):=by clear p;exact (by simp_all<;>omega)
   have y_4:Ym < ((Yp.set Ym.toNat (⟨(X2 .f32 Yo),(X2 .f32 (IntKind.wrap .i64 (Yo + 1))),(Yp.getD Ym.toNat default).Z⟩:Gv)).length:Int):=by clear p;exact (by simp_all<;>omega)
   have y_5:(-9223372036854775808:Int)≤(Ym + 1):=by clear p;exact (by omega)
   have y_6:(Ym + 1)≤(9223372036854775807:Int):=by clear p;exact (by omega)
   have e:ZT Yg YA (k + 1) Yo Ym Yp=(ZT Yg YA k (IntKind.wrap .i64 ((IntKind.wrap .i64 ((IntKind.wrap .i64 (Yo + 1)) + 1)) + 1)) (Ym + 1) (Yp.set Ym.toNat (⟨(X2 .f32 Yo),(X2 .f32 (IntKind.wrap .i64 (Yo + 1))),(X2 .f32 (IntKind.wrap .i64 ((IntKind.wrap .i64 (Yo + 1)) + 1)))⟩:Gv))):=by simp only [ZT,Yv,cond_true]
   rw [e]
   exact X9 (EpOk 1) Z7 [] (mR false [0,2,2,2,31]) [] (⟨.own 0 :: .i .i64 (IntKind.wrap .i64 ((IntKind.wrap .i64 ((IntKind.wrap .i64 (Yo + 1)) + 1)) + 1)) :: .any :: .any :: .i .i64 0 :: .i .i64 (Ym + 1) :: an 31 [],[.vec 40 3 ((((Yp.map Gv.c).set Ym.toNat [.f .f32 (X2 .f32 Yo), .f .f32 ((Yp.getD Ym.toNat default).Y), .f .f32 ((Yp.getD Ym.toNat default).Z)]).set Ym.toNat [.f .f32 (X2 .f32 Yo), .f .f32 (X2 .f32 (IntKind.wrap .i64 (Yo + 1))), .f .f32 ((Yp.getD Ym.toNat default).Z)]).set Ym.toNat [.f .f32 (X2 .f32 Yo), .f .f32 (X2 .f32 (IntKind.wrap .i64 (Yo + 1))), .f .f32 (X2 .f32 (IntKind.wrap .i64 ((IntKind.wrap .i64 (Yo + 1)) + 1)))]) false]⟩) (p (sB Yv<|sX Gv.c Yp Ym YT YV<|sV Gv.c Yp Ym.toNat YX<|sW .i64 (Yo + 1)<|sC (show 0≤Ym∧Int.toNat Ym < ((Yp.map Gv.c).set Ym.toNat [.f .f32 (X2 .f32 Yo), .f .f32 ((Yp.getD Ym.toNat default).Y), .f .f32 ((Yp.getD Ym.toNat default).Z)]).length from (by simpa using XC (c:=Gv.c) (l:=(Yp.set Ym.toNat (⟨(X2 .f32 Yo),(Yp.getD Ym.toNat default).Y,(Yp.getD Ym.toNat default).Z⟩:Gv))) (i:=Ym) YT YZ))<|sE (show ((Yp.map Gv.c).set Ym.toNat [.f .f32 (X2 .f32 Yo), .f .f32 ((Yp.getD Ym.toNat default).Y), .f .f32 ((Yp.getD Ym.toNat default).Z)])[Ym.toNat]? = some [.f .f32 (X2 .f32 Yo), .f .f32 ((Yp.getD Ym.toNat default).Y), .f .f32 ((Yp.getD Ym.toNat default).Z)] from List.getElem?_set_self (by simpa using YX))<|sW .i64 ((IntKind.wrap .i64 (Yo + 1)) + 1)<|sC (show 0≤Ym∧Int.toNat Ym < (((Yp.map Gv.c).set Ym.toNat [.f .f32 (X2 .f32 Yo), .f .f32 ((Yp.getD Ym.toNat default).Y), .f .f32 ((Yp.getD Ym.toNat default).Z)]).set Ym.toNat [.f .f32 (X2 .f32 Yo), .f .f32 (X2 .f32 (IntKind.wrap .i64 (Yo + 1))), .f .f32 ((Yp.getD Ym.toNat default).Z)]).length from (by simpa using XC (c:=Gv.c) (l:=(Yp.set Ym.toNat (⟨(X2 .f32 Yo),(X2 .f32 (IntKind.wrap .i64 (Yo + 1))),(Yp.getD Ym.toNat default).Z⟩:Gv))) (i:=Ym) YT y_4))<|sE (show (((Yp.map Gv.c).set Ym.toNat [.f .f32 (X2 .f32 Yo), .f .f32 ((Yp.getD Ym.toNat default).Y), .f .f32 ((Yp.getD Ym.toNat default).Z)]).set Ym.toNat [.f .f32 (X2 .f32 Yo), .f .f32 (X2 .f32 (IntKind.wrap .i64 (Yo + 1))), .f .f32 ((Yp.getD Ym.toNat default).Z)])[Ym.toNat]? = some [.f .f32 (X2 .f32 Yo), .f .f32 (X2 .f32 (IntKind.wrap .i64 (Yo + 1))), .f .f32 ((Yp.getD Ym.toNat default).Z)] from List.getElem?_set_self (by simpa using YX))<|sW .i64 ((IntKind.wrap .i64 ((IntKind.wrap .i64 (Yo + 1)) + 1)) + 1)<|sI (Ym + 1) y_5 y_6<|sN)) (by kernel_rfl) (by simp [Z7n,List.map_set,Gv.c]) (ih (IntKind.wrap .i64 ((IntKind.wrap .i64 ((IntKind.wrap .i64 (Yo + 1)) + 1)) + 1)) (Ym + 1) (Yp.set Ym.toNat (⟨(X2 .f32 Yo),(X2 .f32 (IntKind.wrap .i64 (Yo + 1))),(X2 .f32 (IntKind.wrap .i64 ((IntKind.wrap .i64 (Yo + 1)) + 1)))⟩:Gv)) (show 0≤(Ym + 1) from (by omega)) (show (Yp.set Ym.toNat (⟨(X2 .f32 Yo),(X2 .f32 (IntKind.wrap .i64 (Yo + 1))),(X2 .f32 (IntKind.wrap .i64 ((IntKind.wrap .i64 (Yo + 1)) + 1)))⟩:Gv)).length=Yg.length from (by simp_all<;>omega)) (by omega))
  | false =>
   have YI:=odf Yv
   have e:ZT Yg YA (k + 1) Yo Ym Yp=(Yo,Yp):=by simp only [ZT,Yv,cond_false]
   rw [e]
   exact outR (e:=(.exit 0)) (EpOk 1) Z7 [] (mR false [1,1,2,1,32]) [] (p (sB Yv<|sN)) (by kernel_rfl) (by intro h;cases h)
theorem Zbd (Yg:(List Gv)) (YA:Int):∀ (k:Nat) (Yo:Int) (Ym:Int) (Yp:(List Gv)) (hk:((Yp.length:Int) - Ym).toNat < k),(ZT Yg YA k Yo Ym Yp).2.length=Yp.length:=by
  intro k
  induction k with
  | zero=>intro Yo Ym Yp hk;exact absurd hk (Nat.not_lt_zero _)
  | succ k ih =>
    intro Yo Ym Yp hk
    cases Yv:(decide (Ym < (Yp.length:Int))) with
    | true =>
      have e:ZT Yg YA (k + 1) Yo Ym Yp=(ZT Yg YA k (IntKind.wrap .i64 ((IntKind.wrap .i64 ((IntKind.wrap .i64 (Yo + 1)) + 1)) + 1)) (Ym + 1) (Yp.set Ym.toNat (⟨(X2 .f32 Yo),(X2 .f32 (IntKind.wrap .i64 (Yo + 1))),(X2 .f32 (IntKind.wrap .i64 ((IntKind.wrap .i64 (Yo + 1)) + 1)))⟩:Gv))):=by simp only [ZT,Yv,cond_true]
      rw [e,ih (IntKind.wrap .i64 ((IntKind.wrap .i64 ((IntKind.wrap .i64 (Yo + 1)) + 1)) + 1)) (Ym + 1) (Yp.set Ym.toNat (⟨(X2 .f32 Yo),(X2 .f32 (IntKind.wrap .i64 (Yo + 1))),(X2 .f32 (IntKind.wrap .i64 ((IntKind.wrap .i64 (Yo + 1)) + 1)))⟩:Gv)) (by simp_all<;>omega)];simp
    | false =>
      have e:ZT Yg YA (k + 1) Yo Ym Yp=(Yo,Yp):=by simp only [ZT,Yv,cond_false]
      first | (rw [e];done) | (rw [e];rfl)
def Z2O (Yg:(List Gv)) (YA:Int):Int × (List Gv):=(ZT Yg YA (((Yg.length:Int) - 0).toNat + 1) YA 0 Yg)
@[simp] theorem Zfw (Yg:(List Gv)) (YA:Int):(Z2O Yg YA).2.length=(Yg:(List Gv)).length:=Zbd Yg YA (((Yg.length:Int) - 0).toNat + 1) YA 0 Yg (by exact Nat.lt_succ_self _)
def ZH (Yg:(List Gv)) (YA:Int):Int × (List Gv):=((Z2O Yg YA).1,(Z2O Yg YA).2)
@[simp] theorem ZgP (Yg:(List Gv)) (YA:Int):(ZH Yg YA).2.length=Yg.length:=by
  first | (simp [ZH];done)
theorem ZcO (Yg:(List Gv)) (YA:Int) (hp0:Yg.length≤1073741824)  : X4 prog 18 [.vec 40 3 (Yg.map Gv.c) false] [.own 0, .i .i64 YA] (.i .i64 ((ZH Yg YA).1)) [.vec 40 3 (((ZH Yg YA).2).map Gv.c) false]:=by
 refine X23 (EpOk 1) Z7 (c:=X0 f18) [.vec 40 3 (Yg.map Gv.c) false] [] (.i .i64 ((Z2O Yg YA).1)) [.vec 40 3 (((Z2O Yg YA).2).map Gv.c) false] func18 (sL (mR false [0,2,2,2,31]) 1 (X1 (Z5x Yg YA) (x:=(Z2O Yg YA)) (ZbX Yg YA hp0 (((Yg.length:Int) - 0).toNat + 1) YA 0 Yg (show 0≤0 from (by omega)) (show Yg.length=Yg.length from (by simp)) (Nat.lt_succ_self _)) rfl)<|sK [] sN) rfl (by kernel_rfl) (by kernel_rfl) ?_ ?_
 · rfl
 · simp [ZH]
def Z6O (_:Gv) (c:Int):Int × Gv:=((IntKind.wrap .i64 ((IntKind.wrap .i64 ((IntKind.wrap .i64 (c + 1)) + 1)) + 1)),⟨X2 .f32 c,X2 .f32 (IntKind.wrap .i64 (c + 1)),X2 .f32 (IntKind.wrap .i64 ((IntKind.wrap .i64 (c + 1)) + 1))⟩)
theorem ZcG (a:List Gv) (c:Int):ZH a c=mkL Z6O a c:=by
  unfold ZH Z2O
  rw [X1r (f:=Z6O) (lo:=ZT a c) (fun k c i r=>rfl) _ _ _ _ (Int.le_refl 0) (Nat.lt_succ_self _)]
  simp
theorem ZbO (a:List Gv) (c:Int) (g0:a.length≤1073741824) (h0:0≤c) (h1:c≤4611686018427387904):c≤(ZH a c).1∧(ZH a c).1≤c + 3221225472:=by
  rw [ZcG]
  have q:=X3f (f:=Z6O) (W:=3) a c (fun x _ c k0 k1=>by simp only [Z6O];rw [Xb (n:=c + 1) (by omega) (by omega),show c + 1 + 1=c + 2 from by omega,Xb (n:=c + 2) (by omega) (by omega),show c + 2 + 1=c + 3 from by omega,Xb (n:=c + 3) (by omega) (by omega)];omega) h0 (by omega)
  omega
def ZZ (Yg:(List Int)) (YA:Int):Nat→Int→Int→(List Int)→Int × (List Int)
  | 0,_,_,_=>default
  | k + 1,Yo,Ym,Yp=>(cond (decide (Ym < (Yp.length:Int)))
    (ZZ Yg YA k (IntKind.wrap .i64 (Yo + 1)) (Ym + 1) (Yp.set Ym.toNat Yo))
    (Yo,Yp))
def Z5F (ty:Nat) (Yg:(List Int)) (YA:Int) (r:Int × (List Int)):Ex × St:=((.exit 0),⟨.any :: .i .i64 r.1 :: .any :: .any :: .i .i64 0 :: an 14 [],[.vec ty 1 (r.2.map (cI .i64)) false]⟩)
def Z7W (ty:Nat) (Yg:(List Int)) (YA:Int) (Yo:Int) (Ym:Int) (Yp:(List Int)):St:=⟨.own 0 :: .i .i64 Yo :: .any :: .any :: .i .i64 0 :: .i .i64 Ym :: an 13 [],[.vec ty 1 (Yp.map (cI .i64)) false]⟩
theorem Zcg (ty:Nat) (Yg:(List Int)) (YA:Int) (hp0:Yg.length≤1073741824):∀ (k:Nat) (Yo:Int) (Ym:Int) (Yp:(List Int)) (Z6P:0≤Ym) (Z6Q:Yp.length=Yg.length) (hk:((Yg.length:Int) - Ym).toNat < k),Lp prog 1 (sub (X0 f27) [1,0,1,0,0]) (Z7W ty Yg YA Yo Ym Yp) (Z5F ty Yg YA (ZZ Yg YA k Yo Ym Yp)).1 (Z5F ty Yg YA (ZZ Yg YA k Yo Ym Yp)).2:=by
 intro k
 induction k with
 | zero=>intro Yo Ym Yp Z6P Z6Q hk;exact absurd hk (Nat.not_lt_zero _)
 | succ k ih =>
  intro Yo Ym Yp Z6P Z6Q hk
  have p {a C} (s:Scr a C):=sZ (cI .i64) Yp<|s
  cases Yv:(decide (Ym < (Yp.length:Int))) with
  | true =>
   have YI:=odt Yv
   have YT:(0:Int)≤Ym:=by clear p;exact (by assumption)
   have YV:Ym < (Yp.length:Int):=by clear p;exact (by assumption)
   have YX:Ym.toNat < Yp.length:=by clear p;exact (by omega)
   have YZ:(-9223372036854775808:Int)≤(Ym + 1):=by clear p;exact (by omega)
   have y_4:(Ym + 1)≤(9223372036854775807:Int):=by clear p;exact (by omega)
   have e:ZZ Yg YA (k + 1) Yo Ym Yp=(ZZ Yg YA k (IntKind.wrap .i64 (Yo + 1)) (Ym + 1) (Yp.set Ym.toNat Yo)):=by simp only [ZZ,Yv,cond_true]
   rw [e]
   exact X9 (EpOk 1) Z7 [] (mR false [0,2,2,2,13]) [] (⟨.own 0 :: .i .i64 (IntKind.wrap .i64 (Yo + 1)) :: .any :: .any :: .i .i64 0 :: .i .i64 (Ym + 1) :: an 13 [],[.vec ty 1 ((Yp.map (cI .i64)).set Ym.toNat [.i .i64 Yo]) false]⟩) (p (sB Yv<|sX (cI .i64) Yp Ym YT YV<|sC (Xl (c:=(cI .i64)) (l:=Yp) YX)<|sW .i64 (Yo + 1)<|sI (Ym + 1) YZ y_4<|sN)) (by kernel_rfl) (by simp [Z7W,List.map_set,cI]) (ih (IntKind.wrap .i64 (Yo + 1)) (Ym + 1) (Yp.set Ym.toNat Yo) (show 0≤(Ym + 1) from (by omega)) (show (Yp.set Ym.toNat Yo).length=Yg.length from (by simp_all<;>omega)) (by omega))
  | false =>
   have YI:=odf Yv
   have e:ZZ Yg YA (k + 1) Yo Ym Yp=(Yo,Yp):=by simp only [ZZ,Yv,cond_false]
   rw [e]
   exact outR (e:=(.exit 0)) (EpOk 1) Z7 [] (mR false [1,1,2,1,14]) [] (p (sB Yv<|sN)) (by kernel_rfl) (by intro h;cases h)
theorem Zbu (Yg:(List Int)) (YA:Int):∀ (k:Nat) (Yo:Int) (Ym:Int) (Yp:(List Int)) (hk:((Yp.length:Int) - Ym).toNat < k),(ZZ Yg YA k Yo Ym Yp).2.length=Yp.length:=by
  intro k
  induction k with
  | zero=>intro Yo Ym Yp hk;exact absurd hk (Nat.not_lt_zero _)
  | succ k ih =>
    intro Yo Ym Yp hk
    cases Yv:(decide (Ym < (Yp.length:Int))) with
    | true =>
      have e:ZZ Yg YA (k + 1) Yo Ym Yp=(ZZ Yg YA k (IntKind.wrap .i64 (Yo + 1)) (Ym + 1) (Yp.set Ym.toNat Yo)):=by simp only [ZZ,Yv,cond_true]
      rw [e,ih (IntKind.wrap .i64 (Yo + 1)) (Ym + 1) (Yp.set Ym.toNat Yo) (by simp_all<;>omega)];simp
    | false =>
      have e:ZZ Yg YA (k + 1) Yo Ym Yp=(Yo,Yp):=by simp only [ZZ,Yv,cond_false]
      first | (rw [e];done) | (rw [e];rfl)
def Z31 (Yg:(List Int)) (YA:Int):Int × (List Int):=(ZZ Yg YA (((Yg.length:Int) - 0).toNat + 1) YA 0 Yg)
@[simp] theorem Zg1 (Yg:(List Int)) (YA:Int):(Z31 Yg YA).2.length=(Yg:(List Int)).length:=Zbu Yg YA (((Yg.length:Int) - 0).toNat + 1) YA 0 Yg (by exact Nat.lt_succ_self _)
def ZA (Yg:(List Int)) (YA:Int):Int × (List Int):=((Z31 Yg YA).1,(Z31 Yg YA).2)
@[simp] theorem Z6l (Yg:(List Int)) (YA:Int):(ZA Yg YA).2.length=Yg.length:=by
  first | (simp [ZA];done)
theorem Zd9 (ty:Nat) (Yg:(List Int)) (YA:Int) (hp0:Yg.length≤1073741824)  : X4 prog 27 [.vec ty 1 (Yg.map (cI .i64)) false] [.own 0, .i .i64 YA] (.i .i64 ((ZA Yg YA).1)) [.vec ty 1 (((ZA Yg YA).2).map (cI .i64)) false]:=by
 refine X23 (EpOk 1) Z7 (c:=X0 f27) [.vec ty 1 (Yg.map (cI .i64)) false] [] (.i .i64 ((Z31 Yg YA).1)) [.vec ty 1 (((Z31 Yg YA).2).map (cI .i64)) false] func27 (sL (mR false [0,2,2,2,13]) 1 (X1 (Z5F ty Yg YA) (x:=(Z31 Yg YA)) (Zcg ty Yg YA hp0 (((Yg.length:Int) - 0).toNat + 1) YA 0 Yg (show 0≤0 from (by omega)) (show Yg.length=Yg.length from (by simp)) (Nat.lt_succ_self _)) rfl)<|sK [] sN) rfl (by kernel_rfl) (by kernel_rfl) ?_ ?_
 · rfl
 · simp [ZA]
def Z7X (_:Int) (c:Int):Int × Int:=((IntKind.wrap .i64 (c + 1)),c)
theorem Zda (a:List Int) (c:Int):ZA a c=mkL Z7X a c:=by
  unfold ZA Z31
  rw [X1r (f:=Z7X) (lo:=ZZ a c) (fun k c i r=>rfl) _ _ _ _ (Int.le_refl 0) (Nat.lt_succ_self _)]
  simp
theorem Zch (a:List Int) (c:Int) (g0:a.length≤1073741824) (h0:0≤c) (h1:c≤4611686018427387904):c≤(ZA a c).1∧(ZA a c).1≤c + 1073741824:=by
  rw [Zda]
  have q:=X3f (f:=Z7X) (W:=1) a c (fun x _ c k0 k1=>by simp only [Z7X];rw [Xb (n:=c + 1) (by omega) (by omega)];omega) h0 (by omega)
  omega
def ZU (Yg:(List (List Int))) (YA:Int):Nat→Int→Int→(List (List Int))→Int × (List (List Int))
  | 0,_,_,_=>default
  | k + 1,Yo,Ym,Yp=>(cond (decide (Ym < (Yp.length:Int)))
    (ZU Yg YA k ((ZA (Yp.getD Ym.toNat default) Yo).1) (Ym + 1) (Yp.set Ym.toNat ((ZA (Yp.getD Ym.toNat default) Yo).2)))
    (Yo,Yp))
def Z5y (Yg:(List (List Int))) (YA:Int) (r:Int × (List (List Int))):Ex × St:=((.exit 0),⟨.any :: .i .i64 r.1 :: .any :: .any :: .i .i64 0 :: an 14 [],[.nest 49 (r.2.map fun l=>l.map (cI .i64)) false]⟩)
def Z7o (Yg:(List (List Int))) (YA:Int) (Yo:Int) (Ym:Int) (Yp:(List (List Int))):St:=⟨.own 0 :: .i .i64 Yo :: .any :: .any :: .i .i64 0 :: .i .i64 Ym :: an 13 [],[.nest 49 (Yp.map fun l=>l.map (cI .i64)) false]⟩
theorem ZbY (Yg:(List (List Int))) (YA:Int) (hp0:Yg.length≤1073741824) (hp1:∀ t∈Yg,t.length≤1073741824):∀ (k:Nat) (Yo:Int) (Ym:Int) (Yp:(List (List Int))) (Z6m:0≤Ym) (Z6n:Yp.length=Yg.length) (Z3Z:∀ t∈Yp,t.length≤1073741824) (hk:((Yg.length:Int) - Ym).toNat < k),Lp prog 1 (sub (X0 f119) [1,0,1,0,0]) (Z7o Yg YA Yo Ym Yp) (Z5y Yg YA (ZU Yg YA k Yo Ym Yp)).1 (Z5y Yg YA (ZU Yg YA k Yo Ym Yp)).2:=by
 intro k
 induction k with
 | zero=>intro Yo Ym Yp Z6m Z6n Z3Z hk;exact absurd hk (Nat.not_lt_zero _)
 | succ k ih =>
  intro Yo Ym Yp Z6m Z6n Z3Z hk
  have p {a C} (s:Scr a C):=sM (X26 (l:=Yp) (f:=fun l=>l.map (cI .i64)))<|s
  cases Yv:(decide (Ym < (Yp.length:Int))) with
  | true =>
   have YI:=odt Yv
   have YT:(0:Int)≤Ym:=by clear p;exact (by assumption)
   have YV:Int.toNat Ym < Yp.length:=by clear p;exact (by omega)
   have YX:Ym.toNat < Yp.length:=by clear p;exact (by assumption)
   have YZ:(Yp.getD Ym.toNat default).length≤1073741824:=by clear p;exact (by exact X73 Z3Z)
   have y_4:(-9223372036854775808:Int)≤(Ym + 1):=by clear p;exact (by omega)
   have y_5:(Ym + 1)≤(9223372036854775807:Int):=by clear p;exact (by omega)
   have e:ZU Yg YA (k + 1) Yo Ym Yp=(ZU Yg YA k ((ZA (Yp.getD Ym.toNat default) Yo).1) (Ym + 1) (Yp.set Ym.toNat ((ZA (Yp.getD Ym.toNat default) Yo).2))):=by simp only [ZU,Yv,cond_true]
   rw [e]
   exact X9 (EpOk 1) Z7 [] (mR false [0,2,2,2,13]) [] (⟨.own 0 :: .i .i64 ((ZA (Yp.getD Ym.toNat default) Yo).1) :: .any :: .any :: .i .i64 0 :: .i .i64 (Ym + 1) :: an 13 [],[.nest 49 ((Yp.map fun l=>l.map (cI .i64)).set Ym.toNat (((ZA (Yp.getD Ym.toNat default) Yo).2).map (cI .i64))) false]⟩) (p (sB Yv<|sC (X1V (c:=(cI .i64)) (l:=Yp) (i:=Ym) YT YV)<|sC (X2g (c:=(cI .i64)) (l:=Yp) YX)<|sS (X4.frameInn (R:=[.nest 49 (Yp.map fun l=>l.map (cI .i64)) false]) (q:=0) (j:=Ym.toNat) (args:=[.i .i64 Yo]) (fun ty=>Zd9 ty (Yp.getD Ym.toNat default) Yo YZ) rfl rfl (by simp) rfl (X6D YX))<|sI (Ym + 1) y_4 y_5<|sN)) (by kernel_rfl) (by simp [Z7o,List.map_set,cL,cI]) (ih ((ZA (Yp.getD Ym.toNat default) Yo).1) (Ym + 1) (Yp.set Ym.toNat ((ZA (Yp.getD Ym.toNat default) Yo).2)) (show 0≤(Ym + 1) from (by omega)) (show (Yp.set Ym.toNat ((ZA (Yp.getD Ym.toNat default) Yo).2)).length=Yg.length from (by simp;assumption)) (show ∀ t∈(Yp.set Ym.toNat ((ZA (Yp.getD Ym.toNat default) Yo).2)),t.length≤1073741824 from (by intro t ht;rcases List.mem_or_eq_of_mem_set ht with h | h;(exact Z3Z t h);(rw [h];simp only [Z6l];exact X73 Z3Z))) (by omega))
  | false =>
   have YI:=odf Yv
   have e:ZU Yg YA (k + 1) Yo Ym Yp=(Yo,Yp):=by simp only [ZU,Yv,cond_false]
   rw [e]
   exact outR (e:=(.exit 0)) (EpOk 1) Z7 [] (mR false [1,1,2,1,14]) [] (p (sB Yv<|sN)) (by kernel_rfl) (by intro h;cases h)
theorem Zbe (Yg:(List (List Int))) (YA:Int):∀ (k:Nat) (Yo:Int) (Ym:Int) (Yp:(List (List Int))) (hk:((Yp.length:Int) - Ym).toNat < k),(ZU Yg YA k Yo Ym Yp).2.length=Yp.length:=by
  intro k
  induction k with
  | zero=>intro Yo Ym Yp hk;exact absurd hk (Nat.not_lt_zero _)
  | succ k ih =>
    intro Yo Ym Yp hk
    cases Yv:(decide (Ym < (Yp.length:Int))) with
    | true =>
      have e:ZU Yg YA (k + 1) Yo Ym Yp=(ZU Yg YA k ((ZA (Yp.getD Ym.toNat default) Yo).1) (Ym + 1) (Yp.set Ym.toNat ((ZA (Yp.getD Ym.toNat default) Yo).2))):=by simp only [ZU,Yv,cond_true]
      rw [e,ih ((ZA (Yp.getD Ym.toNat default) Yo).1) (Ym + 1) (Yp.set Ym.toNat ((ZA (Yp.getD Ym.toNat default) Yo).2)) (by simp_all<;>omega)];simp
    | false =>
      have e:ZU Yg YA (k + 1) Yo Ym Yp=(Yo,Yp):=by simp only [ZU,Yv,cond_false]
      first | (rw [e];done) | (rw [e];rfl)
def Z2P (Yg:(List (List Int))) (YA:Int):Int × (List (List Int)):=(ZU Yg YA (((Yg.length:Int) - 0).toNat + 1) YA 0 Yg)
@[simp] theorem Zfx (Yg:(List (List Int))) (YA:Int):(Z2P Yg YA).2.length=(Yg:(List (List Int))).length:=Zbe Yg YA (((Yg.length:Int) - 0).toNat + 1) YA 0 Yg (by exact Nat.lt_succ_self _)
def Z1c (Yg:(List (List Int))) (YA:Int):Int × (List (List Int)):=((Z2P Yg YA).1,(Z2P Yg YA).2)
@[simp] theorem ZgQ (Yg:(List (List Int))) (YA:Int):(Z1c Yg YA).2.length=Yg.length:=by
  first | (simp [Z1c];done)
theorem ZcP (Yg:(List (List Int))) (YA:Int) (hp0:Yg.length≤1073741824) (hp1:∀ t∈Yg,t.length≤1073741824)  : X4 prog 119 [.nest 49 (Yg.map fun l=>l.map (cI .i64)) false] [.own 0, .i .i64 YA] (.i .i64 ((Z1c Yg YA).1)) [.nest 49 (((Z1c Yg YA).2).map fun l=>l.map (cI .i64)) false]:=by
 refine X23 (EpOk 1) Z7 (c:=X0 f119) [.nest 49 (Yg.map fun l=>l.map (cI .i64)) false] [] (.i .i64 ((Z2P Yg YA).1)) [.nest 49 (((Z2P Yg YA).2).map fun l=>l.map (cI .i64)) false] func119 (sL (mR false [0,2,2,2,13]) 1 (X1 (Z5y Yg YA) (x:=(Z2P Yg YA)) (ZbY Yg YA hp0 hp1 (((Yg.length:Int) - 0).toNat + 1) YA 0 Yg (show 0≤0 from (by simp)) (show Yg.length=Yg.length from (by simp)) (show ∀ t∈Yg,t.length≤1073741824 from (by assumption)) (Nat.lt_succ_self _)) rfl)<|sK [] sN) rfl (by kernel_rfl) (by kernel_rfl) ?_ ?_
 · rfl
 · simp [Z1c]
theorem Zci (a:List (List Int)) (c:Int):Z1c a c=mkL ZA a c:=by
  unfold Z1c Z2P
  rw [X1r (f:=ZA) (lo:=ZU a c) (fun k c i r=>rfl) _ _ _ _ (Int.le_refl 0) (Nat.lt_succ_self _)]
  simp
theorem Zg2 (a:List (List Int)) (c:Int) (N:Nat) (h:∀ t∈a,t.length≤N):∀ t∈(Z1c a c).2,t.length≤N:=by
  rw [Zci]
  exact X65 (p:=fun t:List Int=>t.length≤N) (fun x c hx=>by rw [Z6l];exact hx) a c h
theorem Zbf (a:List (List Int)) (c:Int) (g0:a.length≤1073741824) (g1:∀ t∈a,t.length≤1073741824) (h0:0≤c) (h1:c≤3458764513820540928):c≤(Z1c a c).1∧(Z1c a c).1≤c + 1152921504606846976:=by
  rw [Zci]
  have hm:(a.length:Int) * 1073741824≤1152921504606846976:=by omega
  have q:=X3D (f:=ZA) (W:=1073741824) (M:=4611686018427387904) a c (fun x hx c k0 k1=>by have q:=Zch x c (g1 x hx) k0 (by omega);omega) h0 (by omega)
  omega
def Zk (Yg:Gm) (YA:Int):Int × (List Gv) × (List (List Int)):=((Z1c Yg.Tr ((ZH Yg.Pq YA).1)).1,(ZH Yg.Pq YA).2,(Z1c Yg.Tr ((ZH Yg.Pq YA).1)).2)
@[simp] theorem ZgR (Yg:Gm) (YA:Int):(Zk Yg YA).2.1.length=Yg.Pq.length:=by
  first | (simp [Zk];done)
@[simp] theorem ZgS (Yg:Gm) (YA:Int):(Zk Yg YA).2.2.length=Yg.Tr.length:=by
  first | (simp [Zk];done)
theorem ZcQ (Yg:Gm) (YA:Int) (hp0:Yg.Pq.length≤1073741824) (hp1:Yg.Tr.length≤1073741824) (hp2:∀ t∈Yg.Tr,t.length≤1073741824)  : X4 prog 61 [.vec 40 3 (Yg.Pq.map Gv.c) false, .nest 49 (Yg.Tr.map fun l=>l.map (cI .i64)) false] [.agg [.own 0, .own 1], .i .i64 YA] (.i .i64 ((Zk Yg YA).1)) [.vec 40 3 (((Zk Yg YA).2.1).map Gv.c) false, .nest 49 (((Zk Yg YA).2.2).map fun l=>l.map (cI .i64)) false]:=by
 refine X23 (EpOk 2) Z7 (c:=X0 f61) [.vec 40 3 (Yg.Pq.map Gv.c) false, .nest 49 (Yg.Tr.map fun l=>l.map (cI .i64)) false] [] (.i .i64 ((Z1c Yg.Tr ((ZH Yg.Pq YA).1)).1)) [.vec 40 3 (((ZH Yg.Pq YA).2).map Gv.c) false, .nest 49 (((Z1c Yg.Tr ((ZH Yg.Pq YA).1)).2).map fun l=>l.map (cI .i64)) false] func61 (sS (X4.frame (ZcO Yg.Pq YA hp0) [0] (R:=[.vec 40 3 (Yg.Pq.map Gv.c) false, .nest 49 (Yg.Tr.map fun l=>l.map (cI .i64)) false, .box 38 [.own 0, .own 1]]) (args':=[.own 0, .i .i64 YA]) rfl rfl rfl rfl rfl rfl)<|sS (X4.frame (ZcP Yg.Tr ((ZH Yg.Pq YA).1) hp1 hp2) [1] (R:=[.vec 40 3 (((ZH Yg.Pq YA).2).map Gv.c) false, .nest 49 (Yg.Tr.map fun l=>l.map (cI .i64)) false, .box 38 [.own 0, .own 1]]) (args':=[.own 1, .i .i64 ((ZH Yg.Pq YA).1)]) rfl rfl rfl rfl rfl rfl)<|sK [] sN) rfl (by kernel_rfl) (by kernel_rfl) ?_ ?_
 · rfl
 · simp [Zk]
theorem Zbg (a:Gm) (c:Int) (g0:a.Pq.length≤1073741824) (g1:a.Tr.length≤1073741824) (g2:∀ t∈a.Tr,t.length≤1073741824) (h0:0≤c) (h1:c≤2305843009213693952):c≤(Zk a c).1∧(Zk a c).1≤c + 1152921507828072448:=by
  unfold Zk
  have p0:=ZbO a.Pq c g0 (by omega) (by omega)
  have p1:=Zbf a.Tr ((ZH a.Pq c).1) g1 g2 (by omega) (by omega)
  simp only
  omega
theorem Zg3 (a:Gm) (c:Int) (N:Nat) (h:∀ t∈a.Tr,t.length≤N):∀ t∈(Zk a c).2.2,t.length≤N:=by
  unfold Zk
  exact Zg2 _ _ N h
def ZV (Yg:(List Gs)) (YA:Int):Nat→Int→Int→(List Gs)→Int × (List Gs)
  | 0,_,_,_=>default
  | k + 1,Yo,Ym,Yp=>(cond (decide (Ym < (Yp.length:Int)))
    (ZV Yg YA k (IntKind.wrap .i64 ((IntKind.wrap .i64 ((IntKind.wrap .i64 ((IntKind.wrap .i64 (Yo + 1)) + 1)) + 1)) + 1)) (Ym + 1) (Yp.set Ym.toNat (⟨Yo,(IntKind.wrap .i64 (Yo + 1)),(X2 .f32 (IntKind.wrap .i64 ((IntKind.wrap .i64 (Yo + 1)) + 1))),(X2 .f32 (IntKind.wrap .i64 ((IntKind.wrap .i64 ((IntKind.wrap .i64 (Yo + 1)) + 1)) + 1)))⟩:Gs)))
    (Yo,Yp))
def Z5z (Yg:(List Gs)) (YA:Int) (r:Int × (List Gs)):Ex × St:=((.exit 0),⟨.any :: .i .i64 r.1 :: .any :: .any :: .i .i64 0 :: an 38 [],[.vec 133 4 (r.2.map Gs.c) false]⟩)
def Z7p (Yg:(List Gs)) (YA:Int) (Yo:Int) (Ym:Int) (Yp:(List Gs)):St:=⟨.own 0 :: .i .i64 Yo :: .any :: .any :: .i .i64 0 :: .i .i64 Ym :: an 37 [],[.vec 133 4 (Yp.map Gs.c) false]⟩
theorem ZbZ (Yg:(List Gs)) (YA:Int) (hp0:Yg.length≤1073741824):∀ (k:Nat) (Yo:Int) (Ym:Int) (Yp:(List Gs)) (Z6o:0≤Ym) (Z6p:Yp.length=Yg.length) (hk:((Yg.length:Int) - Ym).toNat < k),Lp prog 1 (sub (X0 f62) [1,0,1,0,0]) (Z7p Yg YA Yo Ym Yp) (Z5z Yg YA (ZV Yg YA k Yo Ym Yp)).1 (Z5z Yg YA (ZV Yg YA k Yo Ym Yp)).2:=by
 intro k
 induction k with
 | zero=>intro Yo Ym Yp Z6o Z6p hk;exact absurd hk (Nat.not_lt_zero _)
 | succ k ih =>
  intro Yo Ym Yp Z6o Z6p hk
  have p {a C} (s:Scr a C):=sZ Gs.c Yp<|s
  cases Yv:(decide (Ym < (Yp.length:Int))) with
  | true =>
   have YI:=odt Yv
   have YT:(0:Int)≤Ym:=by clear p;exact (by assumption)
   have YV:Ym < (Yp.length:Int):=by clear p;exact (by assumption)
   have YX:Ym.toNat < Yp.length:=by clear p;exact (by omega)
   have YZ:Ym < ((Yp.set Ym.toNat (⟨Yo,(Yp.getD Ym.toNat default).B,(Yp.getD Ym.toNat default).Long,(Yp.getD Ym.toNat default).Stiff⟩:Gs)).length:Int):=by clear p;exact (by simp_all<;>omega)
   have y_4:Ym < ((Yp.set Ym.toNat (⟨Yo,(IntKind.wrap .i64 (Yo + 1)),(Yp.getD Ym.toNat default).Long,(Yp.getD Ym.toNat default).Stiff⟩:Gs)).length:Int):=by clear p;exact (by simp_all<;>omega)
   have y_5:Ym < ((Yp.set Ym.toNat (⟨Yo,(IntKind.wrap .i64 (Yo + 1)),(X2 .f32 (IntKind.wrap .i64 ((IntKind.wrap .i64 (Yo + 1)) + 1))),(Yp.getD Ym.toNat default).Stiff⟩:Gs)).length:Int):=by clear p;exact (by simp_all<;>omega)
   have y_6:(-9223372036854775808:Int)≤(Ym + 1):=by clear p;exact (by omega)
   have y_7:(Ym + 1)≤(9223372036854775807:Int):=by clear p;exact (by omega)
   have e:ZV Yg YA (k + 1) Yo Ym Yp=(ZV Yg YA k (IntKind.wrap .i64 ((IntKind.wrap .i64 ((IntKind.wrap .i64 ((IntKind.wrap .i64 (Yo + 1)) + 1)) + 1)) + 1)) (Ym + 1) (Yp.set Ym.toNat (⟨Yo,(IntKind.wrap .i64 (Yo + 1)),(X2 .f32 (IntKind.wrap .i64 ((IntKind.wrap .i64 (Yo + 1)) + 1))),(X2 .f32 (IntKind.wrap .i64 ((IntKind.wrap .i64 ((IntKind.wrap .i64 (Yo + 1)) + 1)) + 1)))⟩:Gs))):=by simp only [ZV,Yv,cond_true]
   rw [e]
   exact X9 (EpOk 1) Z7 [] (mR false [0,2,2,2,37]) [] (⟨.own 0 :: .i .i64 (IntKind.wrap .i64 ((IntKind.wrap .i64 ((IntKind.wrap .i64 ((IntKind.wrap .i64 (Yo + 1)) + 1)) + 1)) + 1)) :: .any :: .any :: .i .i64 0 :: .i .i64 (Ym + 1) :: an 37 [],[.vec 133 4 (((((Yp.map Gs.c).set Ym.toNat [.i .i64 Yo, .i .i64 ((Yp.getD Ym.toNat default).B), .f .f32 ((Yp.getD Ym.toNat default).Long), .f .f32 ((Yp.getD Ym.toNat default).Stiff)]).set Ym.toNat [.i .i64 Yo, .i .i64 (IntKind.wrap .i64 (Yo + 1)), .f .f32 ((Yp.getD Ym.toNat default).Long), .f .f32 ((Yp.getD Ym.toNat default).Stiff)]).set Ym.toNat [.i .i64 Yo, .i .i64 (IntKind.wrap .i64 (Yo + 1)), .f .f32 (X2 .f32 (IntKind.wrap .i64 ((IntKind.wrap .i64 (Yo + 1)) + 1))), .f .f32 ((Yp.getD Ym.toNat default).Stiff)]).set Ym.toNat [.i .i64 Yo, .i .i64 (IntKind.wrap .i64 (Yo + 1)), .f .f32 (X2 .f32 (IntKind.wrap .i64 ((IntKind.wrap .i64 (Yo + 1)) + 1))), .f .f32 (X2 .f32 (IntKind.wrap .i64 ((IntKind.wrap .i64 ((IntKind.wrap .i64 (Yo + 1)) + 1)) + 1)))]) false]⟩) (p (sB Yv<|sX Gs.c Yp Ym YT YV<|sV Gs.c Yp Ym.toNat YX<|sW .i64 (Yo + 1)<|sC (show 0≤Ym∧Int.toNat Ym < ((Yp.map Gs.c).set Ym.toNat [.i .i64 Yo, .i .i64 ((Yp.getD Ym.toNat default).B), .f .f32 ((Yp.getD Ym.toNat default).Long), .f .f32 ((Yp.getD Ym.toNat default).Stiff)]).length from (by simpa using XC (c:=Gs.c) (l:=(Yp.set Ym.toNat (⟨Yo,(Yp.getD Ym.toNat default).B,(Yp.getD Ym.toNat default).Long,(Yp.getD Ym.toNat default).Stiff⟩:Gs))) (i:=Ym) YT YZ))<|sE (show ((Yp.map Gs.c).set Ym.toNat [.i .i64 Yo, .i .i64 ((Yp.getD Ym.toNat default).B), .f .f32 ((Yp.getD Ym.toNat default).Long), .f .f32 ((Yp.getD Ym.toNat default).Stiff)])[Ym.toNat]? = some [.i .i64 Yo, .i .i64 ((Yp.getD Ym.toNat default).B), .f .f32 ((Yp.getD Ym.toNat default).Long), .f .f32 ((Yp.getD Ym.toNat default).Stiff)] from List.getElem?_set_self (by simpa using YX))<|sW .i64 ((IntKind.wrap .i64 (Yo + 1)) + 1)<|sC (show 0≤Ym∧Int.toNat Ym < (((Yp.map Gs.c).set Ym.toNat [.i .i64 Yo, .i .i64 ((Yp.getD Ym.toNat default).B), .f .f32 ((Yp.getD Ym.toNat default).Long), .f .f32 ((Yp.getD Ym.toNat default).Stiff)]).set Ym.toNat [.i .i64 Yo, .i .i64 (IntKind.wrap .i64 (Yo + 1)), .f .f32 ((Yp.getD Ym.toNat default).Long), .f .f32 ((Yp.getD Ym.toNat default).Stiff)]).length from (by simpa using XC (c:=Gs.c) (l:=(Yp.set Ym.toNat (⟨Yo,(IntKind.wrap .i64 (Yo + 1)),(Yp.getD Ym.toNat default).Long,(Yp.getD Ym.toNat default).Stiff⟩:Gs))) (i:=Ym) YT y_4))<|sE (show (((Yp.map Gs.c).set Ym.toNat [.i .i64 Yo, .i .i64 ((Yp.getD Ym.toNat default).B), .f .f32 ((Yp.getD Ym.toNat default).Long), .f .f32 ((Yp.getD Ym.toNat default).Stiff)]).set Ym.toNat [.i .i64 Yo, .i .i64 (IntKind.wrap .i64 (Yo + 1)), .f .f32 ((Yp.getD Ym.toNat default).Long), .f .f32 ((Yp.getD Ym.toNat default).Stiff)])[Ym.toNat]? = some [.i .i64 Yo, .i .i64 (IntKind.wrap .i64 (Yo + 1)), .f .f32 ((Yp.getD Ym.toNat default).Long), .f .f32 ((Yp.getD Ym.toNat default).Stiff)] from List.getElem?_set_self (by simpa using YX))<|sW .i64 ((IntKind.wrap .i64 ((IntKind.wrap .i64 (Yo + 1)) + 1)) + 1)<|sC (show 0≤Ym∧Int.toNat Ym < ((((Yp.map Gs.c).set Ym.toNat [.i .i64 Yo, .i .i64 ((Yp.getD Ym.toNat default).B), .f .f32 ((Yp.getD Ym.toNat default).Long), .f .f32 ((Yp.getD Ym.toNat default).Stiff)]).set Ym.toNat [.i .i64 Yo, .i .i64 (IntKind.wrap .i64 (Yo + 1)), .f .f32 ((Yp.getD Ym.toNat default).Long), .f .f32 ((Yp.getD Ym.toNat default).Stiff)]).set Ym.toNat [.i .i64 Yo, .i .i64 (IntKind.wrap .i64 (Yo + 1)), .f .f32 (X2 .f32 (IntKind.wrap .i64 ((IntKind.wrap .i64 (Yo + 1)) + 1))), .f .f32 ((Yp.getD Ym.toNat default).Stiff)]).length from (by simpa using XC (c:=Gs.c) (l:=(Yp.set Ym.toNat (⟨Yo,(IntKind.wrap .i64 (Yo + 1)),(X2 .f32 (IntKind.wrap .i64 ((IntKind.wrap .i64 (Yo + 1)) + 1))),(Yp.getD Ym.toNat default).Stiff⟩:Gs))) (i:=Ym) YT y_5))<|sE (show ((((Yp.map Gs.c).set Ym.toNat [.i .i64 Yo, .i .i64 ((Yp.getD Ym.toNat default).B), .f .f32 ((Yp.getD Ym.toNat default).Long), .f .f32 ((Yp.getD Ym.toNat default).Stiff)]).set Ym.toNat [.i .i64 Yo, .i .i64 (IntKind.wrap .i64 (Yo + 1)), .f .f32 ((Yp.getD Ym.toNat default).Long), .f .f32 ((Yp.getD Ym.toNat default).Stiff)]).set Ym.toNat [.i .i64 Yo, .i .i64 (IntKind.wrap .i64 (Yo + 1)), .f .f32 (X2 .f32 (IntKind.wrap .i64 ((IntKind.wrap .i64 (Yo + 1)) + 1))), .f .f32 ((Yp.getD Ym.toNat default).Stiff)])[Ym.toNat]? = some [.i .i64 Yo, .i .i64 (IntKind.wrap .i64 (Yo + 1)), .f .f32 (X2 .f32 (IntKind.wrap .i64 ((IntKind.wrap .i64 (Yo + 1)) + 1))), .f .f32 ((Yp.getD Ym.toNat default).Stiff)] from List.getElem?_set_self (by simpa using YX))<|sW .i64 ((IntKind.wrap .i64 ((IntKind.wrap .i64 ((IntKind.wrap .i64 (Yo + 1)) + 1)) + 1)) + 1)<|sI (Ym + 1) y_6 y_7<|sN)) (by kernel_rfl) (by simp [Z7p,List.map_set,Gs.c]) (ih (IntKind.wrap .i64 ((IntKind.wrap .i64 ((IntKind.wrap .i64 ((IntKind.wrap .i64 (Yo + 1)) + 1)) + 1)) + 1)) (Ym + 1) (Yp.set Ym.toNat (⟨Yo,(IntKind.wrap .i64 (Yo + 1)),(X2 .f32 (IntKind.wrap .i64 ((IntKind.wrap .i64 (Yo + 1)) + 1))),(X2 .f32 (IntKind.wrap .i64 ((IntKind.wrap .i64 ((IntKind.wrap .i64 (Yo + 1)) + 1)) + 1)))⟩:Gs)) (show 0≤(Ym + 1) from (by omega)) (show (Yp.set Ym.toNat (⟨Yo,(IntKind.wrap .i64 (Yo + 1)),(X2 .f32 (IntKind.wrap .i64 ((IntKind.wrap .i64 (Yo + 1)) + 1))),(X2 .f32 (IntKind.wrap .i64 ((IntKind.wrap .i64 ((IntKind.wrap .i64 (Yo + 1)) + 1)) + 1)))⟩:Gs)).length=Yg.length from (by simp_all<;>omega)) (by omega))
  | false =>
   have YI:=odf Yv
   have e:ZV Yg YA (k + 1) Yo Ym Yp=(Yo,Yp):=by simp only [ZV,Yv,cond_false]
   rw [e]
   exact outR (e:=(.exit 0)) (EpOk 1) Z7 [] (mR false [1,1,2,1,38]) [] (p (sB Yv<|sN)) (by kernel_rfl) (by intro h;cases h)
theorem Zbh (Yg:(List Gs)) (YA:Int):∀ (k:Nat) (Yo:Int) (Ym:Int) (Yp:(List Gs)) (hk:((Yp.length:Int) - Ym).toNat < k),(ZV Yg YA k Yo Ym Yp).2.length=Yp.length:=by
  intro k
  induction k with
  | zero=>intro Yo Ym Yp hk;exact absurd hk (Nat.not_lt_zero _)
  | succ k ih =>
    intro Yo Ym Yp hk
    cases Yv:(decide (Ym < (Yp.length:Int))) with
    | true =>
      have e:ZV Yg YA (k + 1) Yo Ym Yp=(ZV Yg YA k (IntKind.wrap .i64 ((IntKind.wrap .i64 ((IntKind.wrap .i64 ((IntKind.wrap .i64 (Yo + 1)) + 1)) + 1)) + 1)) (Ym + 1) (Yp.set Ym.toNat (⟨Yo,(IntKind.wrap .i64 (Yo + 1)),(X2 .f32 (IntKind.wrap .i64 ((IntKind.wrap .i64 (Yo + 1)) + 1))),(X2 .f32 (IntKind.wrap .i64 ((IntKind.wrap .i64 ((IntKind.wrap .i64 (Yo + 1)) + 1)) + 1)))⟩:Gs))):=by simp only [ZV,Yv,cond_true]
      rw [e,ih (IntKind.wrap .i64 ((IntKind.wrap .i64 ((IntKind.wrap .i64 ((IntKind.wrap .i64 (Yo + 1)) + 1)) + 1)) + 1)) (Ym + 1) (Yp.set Ym.toNat (⟨Yo,(IntKind.wrap .i64 (Yo + 1)),(X2 .f32 (IntKind.wrap .i64 ((IntKind.wrap .i64 (Yo + 1)) + 1))),(X2 .f32 (IntKind.wrap .i64 ((IntKind.wrap .i64 ((IntKind.wrap .i64 (Yo + 1)) + 1)) + 1)))⟩:Gs)) (by simp_all<;>omega)];simp
    | false =>
      have e:ZV Yg YA (k + 1) Yo Ym Yp=(Yo,Yp):=by simp only [ZV,Yv,cond_false]
      first | (rw [e];done) | (rw [e];rfl)
end Go.Ab
