/- The functions of this seat as plain Lean, and that the program's are these. Printed by a program of the prover's own. -/
import Derived.Test.YtoibkmljibnjnaaB9
set_option linter.unusedVariables false
set_option linter.unusedSimpArgs false
set_option maxRecDepth 100000
namespace Go.Ab
open Go.RowKit Go.Proofs.Try
def Z1H (Y1:(List Int)) (Yj:(List Int)):(Unit) ⊕ (Unit):=(ZS Y1 Yj (((((Z2 Y1).Sp).length:Int) - 0).toNat + 1) 0)
def Zq (Y1:(List Int)) (Yj:(List Int)):Bool:=(cond (Z1c Y1 Yj)
  true
  (cond (Zv Y1)
    false
    (cond (fcmp .neq .f32 ((Z9 ((Z4 ((Z2 Y1).Me)).1)).1) 0)
      false
      (cond (fcmp .lss .f32 (((Z7 (Z2 Y1)).1).getD 0 default) 0)
        false
        (cond (fcmp .lss .f32 (((Z7 (Z2 Y1)).1).getD 1 default) 0)
          false
          (cond (fcmp .lss .f32 (((Z7 (Z2 Y1)).1).getD 2 default) 0)
            false
            (cond (fcmp .neq .f32 (((Z7 (Z2 Y1)).1).getD 3 default) 0)
              false
              (cond (Zc (Z2 Y1) (Zb Y1 Yj) 1065353216).2
                (cond (Z9 ((Zc (Z2 Y1) (Zb Y1 Yj) 1065353216).1)).2
                  (cond (fcmp .gtr .f64 (Z13 Y1 Yj) 4576918229304087675)
                    false
                    (match (Z1H Y1 Yj) with
                      | .inl r11=>false
                      | .inr r11=>(cond (Zi ((Z2 Y1).Me) 1077936128).2
                        (cond (Z9 ((Zi ((Z2 Y1).Me) 1077936128).1)).2
                          (cond (fcmp .eql .f32 ((Z9 ((Zi ((Z2 Y1).Me) 1077936128).1)).1) 0)
                            ((((Zi ((Z2 Y1).Me) 1077936128).1.Sp).length:Int) == (((Z2 Y1).Sp).length:Int))
                            false)
                          false)
                        false)))
                  false)
                false))))))))
set_option maxHeartbeats 1000000 in
theorem Z6V (Y1:(List Int)) (Yj:(List Int)) (hp0:Y1.length≤9223372036854775807) (hp1:Yj.length≤9223372036854775807) (hp2:OkB Y1) (hp3:OkB Yj)  : Fn prog 6 [.sl (Y1.map (cI .u8)), .sl (Yj.map (cI .u8))] (.b (Zq Y1 Yj)) []:=by
 have p {a C} (s:Scr a C):=sF (Z7s Y1 Yj hp0 hp1)<|s
 cases h0:(Z1c Y1 Yj) with
 | true =>
  have hv:Zq Y1 Yj=true:=by unfold Zq;rw [h0,cond_true]
  refine fnS E0Ok Zg (c:=X2 f6) [] (.b true) [] func6 (p (sB h0<|sK [] sN)) rfl (by kernel_rfl) (by kernel_rfl) rfl ?_ ?_
  · rw [hv]
  · rfl
 | false =>
  have y0:Y1.length≤1073741824:=by clear p;exact (by have q:=Z78 h0;omega)
  have y1:(Z2 Y1).Me.Pq.length≤1073741824:=by clear p;exact (by obtain ⟨q1,q2,q3,q4,_⟩:=Z1K hp2;omega)
  have y2:(Z2 Y1).Me.Tr.length≤1073741824:=by clear p;exact (by obtain ⟨q1,q2,q3,q4,_⟩:=Z1K hp2;omega)
  have y3:∀ t∈(Z2 Y1).Me.Tr,t.length≤1073741824:=by clear p;exact (by obtain ⟨q1,q2,q3,q4,_⟩:=Z1K hp2;omega)
  have y4:(Z2 Y1).Sp.length≤1073741824:=by clear p;exact (by obtain ⟨q1,q2,q3,q4,_⟩:=Z1K hp2;omega)
  have y5:(Z2 Y1).We.length≤1073741824:=by clear p;exact (by obtain ⟨q1,q2,q3,q4,_⟩:=Z1K hp2;omega)
  have l1:=(Z6j (Z2 Y1))
  have l2:=(Z7e (Z2 Y1))
  have y6:((Z2 Y1).Me).Pq.length≤1073741824:=by clear p;exact (by with_reducible assumption)
  have y7:((Z2 Y1).Me).Tr.length≤1073741824:=by clear p;exact (by with_reducible assumption)
  have y8:∀ t∈((Z2 Y1).Me).Tr,t.length≤1073741824:=by clear p;exact (by with_reducible assumption)
  have l3:=(Z3Q ((Z2 Y1).Me))
  have l4:=(Z3R ((Z2 Y1).Me))
  have l5:=(Z3S ((Z2 Y1).Me))
  have l6:=(Z5e ((Z2 Y1).Me))
  have y9:((Z4 ((Z2 Y1).Me)).1).Me.Pq.length≤1073741824:=by clear p;exact (by omega)
  have y10:((Z4 ((Z2 Y1).Me)).1).Me.Tr.length≤1073741824:=by clear p;exact (by omega)
  have y11:∀ t∈((Z4 ((Z2 Y1).Me)).1).Me.Tr,t.length≤1073741824:=by clear p;exact (by with_reducible exact fun t ht=>(Z1K hp2).2.2.2.2 t (Z5f _ t ht))
  have y12:((Z4 ((Z2 Y1).Me)).1).Sp.length≤1073741824:=by clear p;exact (by omega)
  have y13:((Z4 ((Z2 Y1).Me)).1).We.length≤1073741824:=by clear p;exact (by omega)
  have y14:(0:Int)≤0:=by clear p;exact (by omega)
  have y15:0 < (((Z7 (Z2 Y1)).1).length:Int):=by clear p;exact (by ((have q10:=bne_eq_false_iff_eq.1 (ek5 hp2);omega)))
  have y16:0 < ((Z7 (Z2 Y1)).1).length:=by clear p;exact (by omega)
  have y17:(0:Int)≤1:=by clear p;exact (by omega)
  have y18:1 < (((Z7 (Z2 Y1)).1).length:Int):=by clear p;exact (by ((have q10:=bne_eq_false_iff_eq.1 (ek5 hp2);omega)))
  have y19:1 < ((Z7 (Z2 Y1)).1).length:=by clear p;exact (by omega)
  have y20:(0:Int)≤2:=by clear p;exact (by omega)
  have y21:2 < (((Z7 (Z2 Y1)).1).length:Int):=by clear p;exact (by ((have q10:=bne_eq_false_iff_eq.1 (ek5 hp2);omega)))
  have y22:2 < ((Z7 (Z2 Y1)).1).length:=by clear p;exact (by omega)
  have y23:(0:Int)≤3:=by clear p;exact (by omega)
  have y24:3 < (((Z7 (Z2 Y1)).1).length:Int):=by clear p;exact (by ((have q10:=bne_eq_false_iff_eq.1 (ek5 hp2);omega)))
  have y25:3 < ((Z7 (Z2 Y1)).1).length:=by clear p;exact (by omega)
  have q {a C} (s:Scr a C):=p (sB h0<|sF (Z73 Y1 y0 hp2)<|sF (Fn.castA (args':=[.agg [.sl (((Z2 Y1).Me.Pq).map Gv.c), .sl ((((Z2 Y1).Me.Tr).map fun l=>l.map (cI .i64)).map fun l => [.sl l]), .sl (((Z2 Y1).Sp).map Gs.c), .f .f32 ((Z2 Y1).Film), .f .f32 ((Z2 Y1).Bend), .sl (((Z2 Y1).We).map (cF .f32)), .f .f32 ((Z2 Y1).Fall.X), .f .f32 ((Z2 Y1).Fall.Y), .f .f32 ((Z2 Y1).Fall.Z)]]) (Z7x (Z2 Y1) y1 y2 y3 y4 y5) (by simp [cL,Function.comp_def];done))<|sF (Fn.castA (args':=[.agg [.sl (((Z2 Y1).Me.Pq).map Gv.c), .sl ((((Z2 Y1).Me.Tr).map fun l=>l.map (cI .i64)).map fun l => [.sl l]), .sl (((Z2 Y1).Sp).map Gs.c), .f .f32 ((Z2 Y1).Film), .f .f32 ((Z2 Y1).Bend), .sl (((Z2 Y1).We).map (cF .f32)), .f .f32 ((Z2 Y1).Fall.X), .f .f32 ((Z2 Y1).Fall.Y), .f .f32 ((Z2 Y1).Fall.Z)]]) (Z3a (Z2 Y1) y1 y2 y3 y4 y5) (by simp [cL,Function.comp_def];done))<|sF (Fn.castA (args':=[.agg [.sl (((Z2 Y1).Me.Pq).map Gv.c), .sl ((((Z2 Y1).Me.Tr).map fun l=>l.map (cI .i64)).map fun l => [.sl l])]]) (Z5B ((Z2 Y1).Me) y6 y7 y8) (by simp [cL,Function.comp_def];done))<|sF (Fn.castA (args':=[.agg [.sl (((Z4 ((Z2 Y1).Me)).1.Me.Pq).map Gv.c), .sl ((((Z4 ((Z2 Y1).Me)).1.Me.Tr).map fun l=>l.map (cI .i64)).map fun l => [.sl l]), .sl (((Z4 ((Z2 Y1).Me)).1.Sp).map Gs.c), .f .f32 ((Z4 ((Z2 Y1).Me)).1.Film), .f .f32 ((Z4 ((Z2 Y1).Me)).1.Bend), .sl (((Z4 ((Z2 Y1).Me)).1.We).map (cF .f32)), .f .f32 ((Z4 ((Z2 Y1).Me)).1.Fall.X), .f .f32 ((Z4 ((Z2 Y1).Me)).1.Fall.Y), .f .f32 ((Z4 ((Z2 Y1).Me)).1.Fall.Z)]]) (Z3a ((Z4 ((Z2 Y1).Me)).1) y9 y10 y11 y12 y13) (by simp [cL,Function.comp_def];done))<|sK [36,36]<|sB (show (!(Z7 (Z2 Y1)).2)=false from (congrArg not (ek1 hp2)))<|sB (show (!(Z7 (Z2 Y1)).2)=false from (congrArg not (ek1 hp2)))<|sB (show (!(Z7 (Z2 Y1)).2)=false from (congrArg not (ek1 hp2)))<|sB (show (!(Z9 (Z2 Y1)).2)=false from (congrArg not (ek2 hp2)))<|sB (show (!(Z9 (Z2 Y1)).2)=false from (congrArg not (ek2 hp2)))<|sB (show (!(Z9 (Z2 Y1)).2)=false from (congrArg not (ek2 hp2)))<|sB (show (!(Z4 ((Z2 Y1).Me)).2)=false from (congrArg not (ek3 hp2)))<|sB (show (!(Z4 ((Z2 Y1).Me)).2)=false from (congrArg not (ek3 hp2)))<|sB (show (!(Z4 ((Z2 Y1).Me)).2)=false from (congrArg not (ek3 hp2)))<|sB (show (!(Z9 ((Z4 ((Z2 Y1).Me)).1)).2)=false from (congrArg not (ek4 hp2)))<|sB (show (!(Z9 ((Z4 ((Z2 Y1).Me)).1)).2)=false from (congrArg not (ek4 hp2)))<|sZ (cF .f32) ((Z7 (Z2 Y1)).1)<|sB (show (!(Z9 ((Z4 ((Z2 Y1).Me)).1)).2)=false from (congrArg not (ek4 hp2)))<|sB (show (!(Z9 ((Z4 ((Z2 Y1).Me)).1)).2)=false from (congrArg not (ek4 hp2)))<|sB (show ((((Z7 (Z2 Y1)).1).length:Int) != 4)=false from (ek5 hp2))<|sB (show ((((Z7 (Z2 Y1)).1).length:Int) != 4)=false from (ek5 hp2))<|sB (show ((((Z7 (Z2 Y1)).1).length:Int) != 4)=false from (ek5 hp2))<|sX (cF .f32) ((Z7 (Z2 Y1)).1) 0 y14 y15<|sB (show ((((Z7 (Z2 Y1)).1).length:Int) != 4)=false from (ek5 hp2))<|sV (cF .f32) ((Z7 (Z2 Y1)).1) 0 y16<|sB (show ((((Z7 (Z2 Y1)).1).length:Int) != 4)=false from (ek5 hp2))<|sB (show ((((Z7 (Z2 Y1)).1).length:Int) != 4)=false from (ek5 hp2))<|sX (cF .f32) ((Z7 (Z2 Y1)).1) 1 y17 y18<|sB (show ((((Z7 (Z2 Y1)).1).length:Int) != 4)=false from (ek5 hp2))<|sV (cF .f32) ((Z7 (Z2 Y1)).1) 1 y19<|sB (show ((((Z7 (Z2 Y1)).1).length:Int) != 4)=false from (ek5 hp2))<|sB (show ((((Z7 (Z2 Y1)).1).length:Int) != 4)=false from (ek5 hp2))<|sB (show ((((Z7 (Z2 Y1)).1).length:Int) != 4)=false from (ek5 hp2))<|sX (cF .f32) ((Z7 (Z2 Y1)).1) 2 y20 y21<|sB (show ((((Z7 (Z2 Y1)).1).length:Int) != 4)=false from (ek5 hp2))<|sV (cF .f32) ((Z7 (Z2 Y1)).1) 2 y22<|sB (show ((((Z7 (Z2 Y1)).1).length:Int) != 4)=false from (ek5 hp2))<|sB (show ((((Z7 (Z2 Y1)).1).length:Int) != 4)=false from (ek5 hp2))<|sB (show ((((Z7 (Z2 Y1)).1).length:Int) != 4)=false from (ek5 hp2))<|sX (cF .f32) ((Z7 (Z2 Y1)).1) 3 y23 y24<|sB (show ((((Z7 (Z2 Y1)).1).length:Int) != 4)=false from (ek5 hp2))<|sV (cF .f32) ((Z7 (Z2 Y1)).1) 3 y25<|sB (show ((((Z7 (Z2 Y1)).1).length:Int) != 4)=false from (ek5 hp2))<|sB (show ((((Z7 (Z2 Y1)).1).length:Int) != 4)=false from (ek5 hp2))<|sB (show ((((Z7 (Z2 Y1)).1).length:Int) != 4)=false from (ek5 hp2))<|s)
  clear p
  cases h1:(Zv Y1) with
  | true =>
   have hv:Zq Y1 Yj=false:=by unfold Zq;rw [h0,cond_false,h1,cond_true]
   refine fnS E0Ok Zg (c:=X2 f6) [] (.b false) [] func6 (q (sB h1<|sB h1<|sB h1<|sB (show true=true from rfl)<|sB (show true=true from rfl)<|sB (show true=true from rfl)<|sB (show true=true from rfl)<|sB (show true=true from rfl)<|sB (show true=true from rfl)<|sB (show true=true from rfl)<|sB (show true=true from rfl)<|sB (show true=true from rfl)<|sB (show true=true from rfl)<|sB (show true=true from rfl)<|sB (show true=true from rfl)<|sB (show true=true from rfl)<|sB (show true=true from rfl)<|sB (show true=true from rfl)<|sB (show true=true from rfl)<|sB (show true=true from rfl)<|sB (show true=true from rfl)<|sB (show true=true from rfl)<|sB (show true=true from rfl)<|sB (show true=true from rfl)<|sK [] sN)) rfl (by kernel_rfl) (by kernel_rfl) rfl ?_ ?_
   · rw [hv]
   · rfl
  | false =>
   have p {a C} (s:Scr a C):=q (sB h1<|sB h1<|sB h1<|s)
   clear q
   cases h2:(fcmp .neq .f32 ((Z9 ((Z4 ((Z2 Y1).Me)).1)).1) 0) with
   | true =>
    have hv:Zq Y1 Yj=false:=by unfold Zq;rw [h0,cond_false,h1,cond_false,h2,cond_true]
    refine fnS E0Ok Zg (c:=X2 f6) [] (.b false) [] func6 (p (sB h2<|sB h2<|sB h2<|sB h2<|sB h2<|sB (show true=true from rfl)<|sB (show true=true from rfl)<|sB (show true=true from rfl)<|sB (show true=true from rfl)<|sB (show true=true from rfl)<|sB (show true=true from rfl)<|sB (show true=true from rfl)<|sB (show true=true from rfl)<|sB (show true=true from rfl)<|sB (show true=true from rfl)<|sB (show true=true from rfl)<|sB (show true=true from rfl)<|sB (show true=true from rfl)<|sB (show true=true from rfl)<|sB (show true=true from rfl)<|sB (show true=true from rfl)<|sK [] sN)) rfl (by kernel_rfl) (by kernel_rfl) rfl ?_ ?_
    · rw [hv]
    · rfl
   | false =>
    have q {a C} (s:Scr a C):=p (sB h2<|sB h2<|sX (cF .f32) ((Z7 (Z2 Y1)).1) 0 y14 y15<|sB h2<|sV (cF .f32) ((Z7 (Z2 Y1)).1) 0 y16<|sB h2<|sB h2<|s)
    clear p
    cases h3:(fcmp .lss .f32 (((Z7 (Z2 Y1)).1).getD 0 default) 0) with
    | true =>
     have hv:Zq Y1 Yj=false:=by unfold Zq;rw [h0,cond_false,h1,cond_false,h2,cond_false,h3,cond_true]
     refine fnS E0Ok Zg (c:=X2 f6) [] (.b false) [] func6 (q (sB h3<|sB h3<|sB h3<|sB h3<|sB h3<|sB (show true=true from rfl)<|sB (show true=true from rfl)<|sB (show true=true from rfl)<|sB (show true=true from rfl)<|sB (show true=true from rfl)<|sB (show true=true from rfl)<|sB (show true=true from rfl)<|sB (show true=true from rfl)<|sB (show true=true from rfl)<|sB (show true=true from rfl)<|sB (show true=true from rfl)<|sK [] sN)) rfl (by kernel_rfl) (by kernel_rfl) rfl ?_ ?_
     · rw [hv]
     · rfl
    | false =>
     have p {a C} (s:Scr a C):=q (sB h3<|sB h3<|sX (cF .f32) ((Z7 (Z2 Y1)).1) 1 y17 y18<|sB h3<|sV (cF .f32) ((Z7 (Z2 Y1)).1) 1 y19<|sB h3<|sB h3<|s)
     clear q
     cases h4:(fcmp .lss .f32 (((Z7 (Z2 Y1)).1).getD 1 default) 0) with
     | true =>
      have hv:Zq Y1 Yj=false:=by unfold Zq;rw [h0,cond_false,h1,cond_false,h2,cond_false,h3,cond_false,h4,cond_true]
      refine fnS E0Ok Zg (c:=X2 f6) [] (.b false) [] func6 (p (sB h4<|sB h4<|sB h4<|sB h4<|sB h4<|sB (show true=true from rfl)<|sB (show true=true from rfl)<|sB (show true=true from rfl)<|sB (show true=true from rfl)<|sB (show true=true from rfl)<|sB (show true=true from rfl)<|sK [] sN)) rfl (by kernel_rfl) (by kernel_rfl) rfl ?_ ?_
      · rw [hv]
      · rfl
     | false =>
      have q {a C} (s:Scr a C):=p (sB h4<|sB h4<|sX (cF .f32) ((Z7 (Z2 Y1)).1) 2 y20 y21<|sB h4<|sV (cF .f32) ((Z7 (Z2 Y1)).1) 2 y22<|sB h4<|sB h4<|s)
      clear p
      cases h5:(fcmp .lss .f32 (((Z7 (Z2 Y1)).1).getD 2 default) 0) with
      | true =>
       have hv:Zq Y1 Yj=false:=by unfold Zq;rw [h0,cond_false,h1,cond_false,h2,cond_false,h3,cond_false,h4,cond_false,h5,cond_true]
       refine fnS E0Ok Zg (c:=X2 f6) [] (.b false) [] func6 (q (sB h5<|sB h5<|sB h5<|sB h5<|sB h5<|sB (show true=true from rfl)<|sK [] sN)) rfl (by kernel_rfl) (by kernel_rfl) rfl ?_ ?_
       · rw [hv]
       · rfl
      | false =>
       have p {a C} (s:Scr a C):=q (sB h5<|sB h5<|sX (cF .f32) ((Z7 (Z2 Y1)).1) 3 y23 y24<|sB h5<|sV (cF .f32) ((Z7 (Z2 Y1)).1) 3 y25<|sB h5<|sB h5<|s)
       clear q
       cases h6:(fcmp .neq .f32 (((Z7 (Z2 Y1)).1).getD 3 default) 0) with
       | true =>
        have hv:Zq Y1 Yj=false:=by unfold Zq;rw [h0,cond_false,h1,cond_false,h2,cond_false,h3,cond_false,h4,cond_false,h5,cond_false,h6,cond_true]
        refine fnS E0Ok Zg (c:=X2 f6) [] (.b false) [] func6 (p (sB h6<|sK [] sN)) rfl (by kernel_rfl) (by kernel_rfl) rfl ?_ ?_
        · rw [hv]
        · rfl
       | false =>
        have y26:Yj.length≤1073741824:=by clear p;exact (by have q:=Z78 h0;omega)
        have y27:(Zb Y1 Yj).length≤1073741824:=by clear p;exact (by have q5:=Z7E Y1 Yj;obtain ⟨q1,q2,q3,q4,_⟩:=Z1K hp2;omega)
        have l7:=(Z6k (Z2 Y1) (Zb Y1 Yj) 1065353216)
        have l8:=(Z6l (Z2 Y1) (Zb Y1 Yj) 1065353216)
        have l9:=(Z6m (Z2 Y1) (Zb Y1 Yj) 1065353216)
        have l10:=(Z6n (Z2 Y1) (Zb Y1 Yj) 1065353216)
        have y28:((Zc (Z2 Y1) (Zb Y1 Yj) 1065353216).1).Me.Pq.length≤1073741824:=by clear p;exact (by omega)
        have y29:((Zc (Z2 Y1) (Zb Y1 Yj) 1065353216).1).Me.Tr.length≤1073741824:=by clear p;exact (by omega)
        have y30:∀ t∈((Zc (Z2 Y1) (Zb Y1 Yj) 1065353216).1).Me.Tr,t.length≤1073741824:=by clear p;exact (by with_reducible exact fun t ht=>(Z1K hp2).2.2.2.2 t (Z6o _ _ _ t ht))
        have y31:((Zc (Z2 Y1) (Zb Y1 Yj) 1065353216).1).Sp.length≤1073741824:=by clear p;exact (by omega)
        have y32:((Zc (Z2 Y1) (Zb Y1 Yj) 1065353216).1).We.length≤1073741824:=by clear p;exact (by omega)
        have l11:=(Z6p (Z2 Y1))
        have q {a C} (s:Scr a C):=p (sB h6<|sF (Z75 Yj 3 y26)<|sZ Gv.c ((Z2 Y1).Me.Pq)<|sL Z3V 13 (X13 (st2:=⟨.sl (Y1.map (cI .u8)) :: .sl (Yj.map (cI .u8)) :: .any :: .any :: .b false :: .ptr 4 0 0 :: .own 5 :: .b ((Z7 (Z2 Y1)).2) :: .f .f32 ((Z9 (Z2 Y1)).1) :: .b ((Z9 (Z2 Y1)).2) :: .ptr 10 0 0 :: .b ((Z4 ((Z2 Y1).Me)).2) :: .f .f32 ((Z9 ((Z4 ((Z2 Y1).Me)).1)).1) :: .b ((Z9 ((Z4 ((Z2 Y1).Me)).1)).2) :: .own 11 :: .ptr 12 0 0 :: an 15 (.sl (Y1.map (cI .u8)) :: .sl (Yj.map (cI .u8)) :: .b (Z1c Y1 Yj) :: .sl (Y1.map (cI .u8)) :: .agg [.own 0, .own 1, .own 2, .f .f32 ((Z2 Y1).Film), .f .f32 ((Z2 Y1).Bend), .own 3, .f .f32 ((Z2 Y1).Fall.X), .f .f32 ((Z2 Y1).Fall.Y), .f .f32 ((Z2 Y1).Fall.Z)] :: .any :: .agg [.own 0, .own 1, .own 2, .f .f32 ((Z2 Y1).Film), .f .f32 ((Z2 Y1).Bend), .own 3, .f .f32 ((Z2 Y1).Fall.X), .f .f32 ((Z2 Y1).Fall.Y), .f .f32 ((Z2 Y1).Fall.Z)] :: .any :: .own 5 :: .b ((Z7 (Z2 Y1)).2) :: .any :: .agg [.own 0, .own 1, .own 2, .f .f32 ((Z2 Y1).Film), .f .f32 ((Z2 Y1).Bend), .own 3, .f .f32 ((Z2 Y1).Fall.X), .f .f32 ((Z2 Y1).Fall.Y), .f .f32 ((Z2 Y1).Fall.Z)] :: .any :: .f .f32 ((Z9 (Z2 Y1)).1) :: .b ((Z9 (Z2 Y1)).2) :: .any :: .ptr 4 0 0 :: .agg [.own 0, .own 1] :: .any :: .agg [.own 6, .own 7, .own 8, .f .f32 ((Z4 ((Z2 Y1).Me)).1.Film), .f .f32 ((Z4 ((Z2 Y1).Me)).1.Bend), .own 9, .f .f32 ((Z4 ((Z2 Y1).Me)).1.Fall.X), .f .f32 ((Z4 ((Z2 Y1).Me)).1.Fall.Y), .f .f32 ((Z4 ((Z2 Y1).Me)).1.Fall.Z)] :: .b ((Z4 ((Z2 Y1).Me)).2) :: .any :: .agg [.own 6, .own 7, .own 8, .f .f32 ((Z4 ((Z2 Y1).Me)).1.Film), .f .f32 ((Z4 ((Z2 Y1).Me)).1.Bend), .own 9, .f .f32 ((Z4 ((Z2 Y1).Me)).1.Fall.X), .f .f32 ((Z4 ((Z2 Y1).Me)).1.Fall.Y), .f .f32 ((Z4 ((Z2 Y1).Me)).1.Fall.Z)] :: .any :: .f .f32 ((Z9 ((Z4 ((Z2 Y1).Me)).1)).1) :: .b ((Z9 ((Z4 ((Z2 Y1).Me)).1)).2) :: .b ((Z7 (Z2 Y1)).2) :: .b (!(Z7 (Z2 Y1)).2) :: .b (!(Z7 (Z2 Y1)).2) :: .b ((Z9 (Z2 Y1)).2) :: .b (!(Z9 (Z2 Y1)).2) :: .b (!(Z9 (Z2 Y1)).2) :: .b (!(Z9 (Z2 Y1)).2) :: .b ((Z4 ((Z2 Y1).Me)).2) :: .b (!(Z4 ((Z2 Y1).Me)).2) :: .b (!(Z4 ((Z2 Y1).Me)).2) :: .b (!(Z4 ((Z2 Y1).Me)).2) :: .b ((Z9 ((Z4 ((Z2 Y1).Me)).1)).2) :: .b (!(Z9 ((Z4 ((Z2 Y1).Me)).1)).2) :: .b (!(Z9 ((Z4 ((Z2 Y1).Me)).1)).2) :: .b (!(Z9 ((Z4 ((Z2 Y1).Me)).1)).2) :: .own 5 :: .i .i64 (((Z7 (Z2 Y1)).1).length:Int) :: .b ((((Z7 (Z2 Y1)).1).length:Int) != 4) :: .b ((((Z7 (Z2 Y1)).1).length:Int) != 4) :: .b ((((Z7 (Z2 Y1)).1).length:Int) != 4) :: .f .f32 ((Z9 (Z2 Y1)).1) :: .own 5 :: .ptr 5 0 0 :: .f .f32 (((Z7 (Z2 Y1)).1).getD 0 default) :: .own 5 :: .ptr 5 1 0 :: .f .f32 (((Z7 (Z2 Y1)).1).getD 1 default) :: .f .f32 (fop .add .f32 (((Z7 (Z2 Y1)).1).getD 0 default) (((Z7 (Z2 Y1)).1).getD 1 default)) :: .own 5 :: .ptr 5 2 0 :: .f .f32 (((Z7 (Z2 Y1)).1).getD 2 default) :: .f .f32 (ZU Y1) :: .own 5 :: .ptr 5 3 0 :: .f .f32 (((Z7 (Z2 Y1)).1).getD 3 default) :: .f .f32 (fop .add .f32 (ZU Y1) (((Z7 (Z2 Y1)).1).getD 3 default)) :: .b (Zv Y1) :: .b (Zv Y1) :: .b (Zv Y1) :: .f .f32 ((Z9 ((Z4 ((Z2 Y1).Me)).1)).1) :: .b (fcmp .neq .f32 ((Z9 ((Z4 ((Z2 Y1).Me)).1)).1) 0) :: .b (fcmp .neq .f32 ((Z9 ((Z4 ((Z2 Y1).Me)).1)).1) 0) :: .b (fcmp .neq .f32 ((Z9 ((Z4 ((Z2 Y1).Me)).1)).1) 0) :: .own 5 :: .ptr 5 0 0 :: .f .f32 (((Z7 (Z2 Y1)).1).getD 0 default) :: .b (fcmp .lss .f32 (((Z7 (Z2 Y1)).1).getD 0 default) 0) :: .b (fcmp .lss .f32 (((Z7 (Z2 Y1)).1).getD 0 default) 0) :: .b (fcmp .lss .f32 (((Z7 (Z2 Y1)).1).getD 0 default) 0) :: .own 5 :: .ptr 5 1 0 :: .f .f32 (((Z7 (Z2 Y1)).1).getD 1 default) :: .b (fcmp .lss .f32 (((Z7 (Z2 Y1)).1).getD 1 default) 0) :: .b (fcmp .lss .f32 (((Z7 (Z2 Y1)).1).getD 1 default) 0) :: .b (fcmp .lss .f32 (((Z7 (Z2 Y1)).1).getD 1 default) 0) :: .own 5 :: .ptr 5 2 0 :: .f .f32 (((Z7 (Z2 Y1)).1).getD 2 default) :: .b (fcmp .lss .f32 (((Z7 (Z2 Y1)).1).getD 2 default) 0) :: .b (fcmp .lss .f32 (((Z7 (Z2 Y1)).1).getD 2 default) 0) :: .b (fcmp .lss .f32 (((Z7 (Z2 Y1)).1).getD 2 default) 0) :: .own 5 :: .ptr 5 3 0 :: .f .f32 (((Z7 (Z2 Y1)).1).getD 3 default) :: .b (fcmp .neq .f32 (((Z7 (Z2 Y1)).1).getD 3 default) 0) :: .b (fcmp .neq .f32 (((Z7 (Z2 Y1)).1).getD 3 default) 0) :: .any :: .sl (Yj.map (cI .u8)) :: .agg [.f .f32 ((Zk Yj 3).X), .f .f32 ((Zk Yj 3).Y), .f .f32 ((Zk Yj 3).Z)] :: .ptr 4 0 0 :: .ptr 4 0 0 :: .own 0 :: .i .i64 (((Z2 Y1).Me.Pq).length:Int) :: .i .i64 0 :: an 121 []),[.vec 32 3 (((Z2 Y1).Me.Pq).map Gv.c) false, .nest 60 (((Z2 Y1).Me.Tr).map fun l=>l.map (cI .i64)) false, .vec 76 4 (((Z2 Y1).Sp).map Gs.c) false, .vec 29 1 (((Z2 Y1).We).map (cF .f32)) false, .box 34 [.own 0, .own 1, .own 2, .f .f32 ((Z2 Y1).Film), .f .f32 ((Z2 Y1).Bend), .own 3, .f .f32 ((Z2 Y1).Fall.X), .f .f32 ((Z2 Y1).Fall.Y), .f .f32 ((Z2 Y1).Fall.Z)], .vec 29 1 (((Z7 (Z2 Y1)).1).map (cF .f32)) false, .vec 32 3 (((Z4 ((Z2 Y1).Me)).1.Me.Pq).map Gv.c) false, .nest 60 (((Z4 ((Z2 Y1).Me)).1.Me.Tr).map fun l=>l.map (cI .i64)) false, .vec 76 4 (((Z4 ((Z2 Y1).Me)).1.Sp).map Gs.c) false, .vec 29 1 (((Z4 ((Z2 Y1).Me)).1.We).map (cF .f32)) false, .box 34 [.own 6, .own 7, .own 8, .f .f32 ((Z4 ((Z2 Y1).Me)).1.Film), .f .f32 ((Z4 ((Z2 Y1).Me)).1.Bend), .own 9, .f .f32 ((Z4 ((Z2 Y1).Me)).1.Fall.X), .f .f32 ((Z4 ((Z2 Y1).Me)).1.Fall.Y), .f .f32 ((Z4 ((Z2 Y1).Me)).1.Fall.Z)], .vec 32 3 ([]:List (List AV)) false, .box 32 [.f .f32 ((Zk Yj 3).X), .f .f32 ((Zk Yj 3).Y), .f .f32 ((Zk Yj 3).Z)]]⟩) (Xc (Z2V Y1 Yj) (x:=(Zb Y1 Yj)) (Z62 Y1 Yj hp0 hp1 hp2 hp3 h0 (((((Z2 Y1).Me.Pq).length:Int) - 0).toNat + 1) 0 ([]:List Gv) (show 0≤0 from (by omega)) (show (([]:List Gv).length:Int)=0 from (by simp;done)) (Nat.lt_succ_self _)) rfl) (by simp [Z2W,Gv.c]))<|sF (Fn.castA (args':=[.agg [.sl (((Z2 Y1).Me.Pq).map Gv.c), .sl ((((Z2 Y1).Me.Tr).map fun l=>l.map (cI .i64)).map fun l => [.sl l]), .sl (((Z2 Y1).Sp).map Gs.c), .f .f32 ((Z2 Y1).Film), .f .f32 ((Z2 Y1).Bend), .sl (((Z2 Y1).We).map (cF .f32)), .f .f32 ((Z2 Y1).Fall.X), .f .f32 ((Z2 Y1).Fall.Y), .f .f32 ((Z2 Y1).Fall.Z)], .sl ((Zb Y1 Yj).map Gv.c), .f .f32 1065353216]) (Z6S (Z2 Y1) (Zb Y1 Yj) 1065353216 y1 y2 y3 y4 y5 y27) (by simp [cL,Function.comp_def];done))<|sF (Fn.castA (args':=[.agg [.sl (((Zc (Z2 Y1) (Zb Y1 Yj) 1065353216).1.Me.Pq).map Gv.c), .sl ((((Zc (Z2 Y1) (Zb Y1 Yj) 1065353216).1.Me.Tr).map fun l=>l.map (cI .i64)).map fun l => [.sl l]), .sl (((Zc (Z2 Y1) (Zb Y1 Yj) 1065353216).1.Sp).map Gs.c), .f .f32 ((Zc (Z2 Y1) (Zb Y1 Yj) 1065353216).1.Film), .f .f32 ((Zc (Z2 Y1) (Zb Y1 Yj) 1065353216).1.Bend), .sl (((Zc (Z2 Y1) (Zb Y1 Yj) 1065353216).1.We).map (cF .f32)), .f .f32 ((Zc (Z2 Y1) (Zb Y1 Yj) 1065353216).1.Fall.X), .f .f32 ((Zc (Z2 Y1) (Zb Y1 Yj) 1065353216).1.Fall.Y), .f .f32 ((Zc (Z2 Y1) (Zb Y1 Yj) 1065353216).1.Fall.Z)]]) (Z3a ((Zc (Z2 Y1) (Zb Y1 Yj) 1065353216).1) y28 y29 y30 y31 y32) (by simp [cL,Function.comp_def];done))<|sF (Fn.castA (args':=[.agg [.sl (((Z2 Y1).Me.Pq).map Gv.c), .sl ((((Z2 Y1).Me.Tr).map fun l=>l.map (cI .i64)).map fun l => [.sl l]), .sl (((Z2 Y1).Sp).map Gs.c), .f .f32 ((Z2 Y1).Film), .f .f32 ((Z2 Y1).Bend), .sl (((Z2 Y1).We).map (cF .f32)), .f .f32 ((Z2 Y1).Fall.X), .f .f32 ((Z2 Y1).Fall.Y), .f .f32 ((Z2 Y1).Fall.Z)]]) (Z6y (Z2 Y1) y1 y2 y3 y4 y5) (by simp [cL,Function.comp_def];done))<|s)
        clear p
        cases h7:(Zc (Z2 Y1) (Zb Y1 Yj) 1065353216).2 with
        | true =>
         have p {a C} (s:Scr a C):=q (sB' h7<|sB' h7<|sB' h7<|s)
         clear q
         cases h8:(Z9 ((Zc (Z2 Y1) (Zb Y1 Yj) 1065353216).1)).2 with
         | true =>
          have q {a C} (s:Scr a C):=p (sB' h8<|sB' h8<|sB' h8<|sB (show (!(Zj (Z2 Y1)).2)=false from (congrArg not (ek6 hp2)))<|sB (show (!(Zj (Z2 Y1)).2)=false from (congrArg not (ek6 hp2)))<|sC (X1M ((Z9 ((Zc (Z2 Y1) (Zb Y1 Yj) 1065353216).1)).1))<|sB (show (!(Zj (Z2 Y1)).2)=false from (congrArg not (ek6 hp2)))<|sB (show (!(Zj (Z2 Y1)).2)=false from (congrArg not (ek6 hp2)))<|sC (X1M ((Z9 (Z2 Y1)).1))<|sB (show (!(Zj (Z2 Y1)).2)=false from (congrArg not (ek6 hp2)))<|sF (Z66 (fcv .f32 .f64 ((Z9 ((Zc (Z2 Y1) (Zb Y1 Yj) 1065353216).1)).1)) (fcv .f32 .f64 ((Z9 (Z2 Y1)).1)))<|sB (show (!(Zj (Z2 Y1)).2)=false from (congrArg not (ek6 hp2)))<|sB (show (!(Zj (Z2 Y1)).2)=false from (congrArg not (ek6 hp2)))<|s)
          clear p
          cases h9:(fcmp .gtr .f64 (Z13 Y1 Yj) 4576918229304087675) with
          | true =>
           have hv:Zq Y1 Yj=false:=by unfold Zq;rw [h0,cond_false,h1,cond_false,h2,cond_false,h3,cond_false,h4,cond_false,h5,cond_false,h6,cond_false,h7,cond_true,h8,cond_true,h9,cond_true]
           refine fnS E0Ok Zg (c:=X2 f6) [] (.b false) [] func6 (q (sB h9<|sB h9<|sB h9<|sB h9<|sB h9<|sB h9<|sB h9<|sB (show true=true from rfl)<|sK [] sN)) rfl (by kernel_rfl) (by kernel_rfl) rfl ?_ ?_
           · rw [hv]
           · rfl
          | false =>
           have p {a C} (s:Scr a C):=q (sB h9<|sB h9<|sZ (cF .f32) ((Zj (Z2 Y1)).1)<|sB h9<|sB h9<|sB h9<|sZ Gs.c ((Z2 Y1).Sp)<|sB h9<|sB h9<|sB (show ((((Zj (Z2 Y1)).1).length:Int) != (((Z2 Y1).Sp).length:Int))=false from (ek7 hp2))<|sZ Gs.c ((Z2 Y1).Sp)<|s)
           clear q
           cases h10:(Z1H Y1 Yj) with
           | inl r11 =>
            have hv:Zq Y1 Yj=false:=by unfold Zq;rw [h0,cond_false,h1,cond_false,h2,cond_false,h3,cond_false,h4,cond_false,h5,cond_false,h6,cond_false,h7,cond_true,h8,cond_true,h9,cond_false,h10]
            refine fnS E0Ok Zg (c:=X2 f6) [] (.b false) [] func6 (p (sL Z2G 19 (Xc (Z2n Y1 Yj) (x:=(Z1H Y1 Yj)) (Z4t Y1 Yj hp0 hp1 hp2 hp3 h0 (((((Z2 Y1).Sp).length:Int) - 0).toNat + 1) 0 (show 0≤0 from (by omega)) (Nat.lt_succ_self _)) h10)<|sK [] sN)) rfl (by kernel_rfl) (by kernel_rfl) rfl ?_ ?_
            · rw [hv]
            · rfl
           | inr r11 =>
            have l12:=(Z5X ((Z2 Y1).Me) 1077936128)
            have l13:=(Z5Y ((Z2 Y1).Me) 1077936128)
            have l14:=(Z5Z ((Z2 Y1).Me) 1077936128)
            have l15:=(Z60 ((Z2 Y1).Me) 1077936128)
            have y33:((Zi ((Z2 Y1).Me) 1077936128).1).Me.Pq.length≤1073741824:=by clear p;exact (by omega)
            have y34:((Zi ((Z2 Y1).Me) 1077936128).1).Me.Tr.length≤1073741824:=by clear p;exact (by omega)
            have y35:∀ t∈((Zi ((Z2 Y1).Me) 1077936128).1).Me.Tr,t.length≤1073741824:=by clear p;exact (by with_reducible exact fun t ht=>(Z1K hp2).2.2.2.2 t (Z61 _ _ t ht))
            have y36:((Zi ((Z2 Y1).Me) 1077936128).1).Sp.length≤1073741824:=by clear p;exact (by omega)
            have y37:((Zi ((Z2 Y1).Me) 1077936128).1).We.length≤1073741824:=by clear p;exact (by omega)
            have q {a C} (s:Scr a C):=p (sL Z2G 19 (Xc (Z2n Y1 Yj) (x:=(Z1H Y1 Yj)) (Z4t Y1 Yj hp0 hp1 hp2 hp3 h0 (((((Z2 Y1).Sp).length:Int) - 0).toNat + 1) 0 (show 0≤0 from (by omega)) (Nat.lt_succ_self _)) h10)<|sF (Fn.castA (args':=[.agg [.sl (((Z2 Y1).Me.Pq).map Gv.c), .sl ((((Z2 Y1).Me.Tr).map fun l=>l.map (cI .i64)).map fun l => [.sl l])], .f .f32 1077936128]) (Z6z ((Z2 Y1).Me) 1077936128 y6 y7 y8) (by simp [cL,Function.comp_def];done))<|sF (Fn.castA (args':=[.agg [.sl (((Zi ((Z2 Y1).Me) 1077936128).1.Me.Pq).map Gv.c), .sl ((((Zi ((Z2 Y1).Me) 1077936128).1.Me.Tr).map fun l=>l.map (cI .i64)).map fun l => [.sl l]), .sl (((Zi ((Z2 Y1).Me) 1077936128).1.Sp).map Gs.c), .f .f32 ((Zi ((Z2 Y1).Me) 1077936128).1.Film), .f .f32 ((Zi ((Z2 Y1).Me) 1077936128).1.Bend), .sl (((Zi ((Z2 Y1).Me) 1077936128).1.We).map (cF .f32)), .f .f32 ((Zi ((Z2 Y1).Me) 1077936128).1.Fall.X), .f .f32 ((Zi ((Z2 Y1).Me) 1077936128).1.Fall.Y), .f .f32 ((Zi ((Z2 Y1).Me) 1077936128).1.Fall.Z)]]) (Z3a ((Zi ((Z2 Y1).Me) 1077936128).1) y33 y34 y35 y36 y37) (by simp [cL,Function.comp_def];done))<|s)
            clear p
            cases h11:(Zi ((Z2 Y1).Me) 1077936128).2 with
            | true =>
             have p {a C} (s:Scr a C):=q (sB h11<|sB h11<|s)
             clear q
             cases h12:(Z9 ((Zi ((Z2 Y1).Me) 1077936128).1)).2 with
             | true =>
              have q {a C} (s:Scr a C):=p (sB h12<|sB h12<|sB h12<|s)
              clear p
              cases h13:(fcmp .eql .f32 ((Z9 ((Zi ((Z2 Y1).Me) 1077936128).1)).1) 0) with
              | true =>
               have hv:Zq Y1 Yj=((((Zi ((Z2 Y1).Me) 1077936128).1.Sp).length:Int) == (((Z2 Y1).Sp).length:Int)):=by unfold Zq;rw [h0,cond_false,h1,cond_false,h2,cond_false,h3,cond_false,h4,cond_false,h5,cond_false,h6,cond_false,h7,cond_true,h8,cond_true,h9,cond_false,h10];dsimp only;rw [h11,cond_true,h12,cond_true,h13,cond_true]
               refine fnS E0Ok Zg (c:=X2 f6) [] (.b ((((Zi ((Z2 Y1).Me) 1077936128).1.Sp).length:Int) == (((Z2 Y1).Sp).length:Int))) [] func6 (q (sB h13<|sB h13<|sB h13<|sZ Gs.c ((Zi ((Z2 Y1).Me) 1077936128).1.Sp)<|sB h13<|sB h13<|sB h13<|sZ Gs.c ((Z2 Y1).Sp)<|sB h13<|sB h13<|sK [] sN)) rfl (by kernel_rfl) (by kernel_rfl) rfl ?_ ?_
               · rw [hv]
               · rfl
              | false =>
               have hv:Zq Y1 Yj=false:=by unfold Zq;rw [h0,cond_false,h1,cond_false,h2,cond_false,h3,cond_false,h4,cond_false,h5,cond_false,h6,cond_false,h7,cond_true,h8,cond_true,h9,cond_false,h10];dsimp only;rw [h11,cond_true,h12,cond_true,h13,cond_false]
               refine fnS E0Ok Zg (c:=X2 f6) [] (.b false) [] func6 (q (sB h13<|sB h13<|sB h13<|sB h13<|sB h13<|sB h13<|sB h13<|sB h13<|sK [] sN)) rfl (by kernel_rfl) (by kernel_rfl) rfl ?_ ?_
               · rw [hv]
               · rfl
             | false =>
              have hv:Zq Y1 Yj=false:=by unfold Zq;rw [h0,cond_false,h1,cond_false,h2,cond_false,h3,cond_false,h4,cond_false,h5,cond_false,h6,cond_false,h7,cond_true,h8,cond_true,h9,cond_false,h10];dsimp only;rw [h11,cond_true,h12,cond_false]
              refine fnS E0Ok Zg (c:=X2 f6) [] (.b false) [] func6 (p (sB h12<|sB h12<|sB h12<|sB (show false=false from rfl)<|sB (show false=false from rfl)<|sB (show false=false from rfl)<|sB (show false=false from rfl)<|sB (show false=false from rfl)<|sB (show false=false from rfl)<|sB (show false=false from rfl)<|sB (show false=false from rfl)<|sK [] sN)) rfl (by kernel_rfl) (by kernel_rfl) rfl ?_ ?_
              · rw [hv]
              · rfl
            | false =>
             have hv:Zq Y1 Yj=false:=by unfold Zq;rw [h0,cond_false,h1,cond_false,h2,cond_false,h3,cond_false,h4,cond_false,h5,cond_false,h6,cond_false,h7,cond_true,h8,cond_true,h9,cond_false,h10];dsimp only;rw [h11,cond_false]
             refine fnS E0Ok Zg (c:=X2 f6) [] (.b false) [] func6 (q (sB h11<|sB h11<|sB (show false=false from rfl)<|sB (show false=false from rfl)<|sB (show false=false from rfl)<|sB (show false=false from rfl)<|sB (show false=false from rfl)<|sB (show false=false from rfl)<|sB (show false=false from rfl)<|sB (show false=false from rfl)<|sB (show false=false from rfl)<|sB (show false=false from rfl)<|sB (show false=false from rfl)<|sK [] sN)) rfl (by kernel_rfl) (by kernel_rfl) rfl ?_ ?_
             · rw [hv]
             · rfl
         | false =>
          have hv:Zq Y1 Yj=false:=by unfold Zq;rw [h0,cond_false,h1,cond_false,h2,cond_false,h3,cond_false,h4,cond_false,h5,cond_false,h6,cond_false,h7,cond_true,h8,cond_false]
          refine fnS E0Ok Zg (c:=X2 f6) [] (.b false) [] func6 (p (sB' h8<|sB' h8<|sB' h8<|sB (show true=true from rfl)<|sB (show true=true from rfl)<|sB (show true=true from rfl)<|sB (show true=true from rfl)<|sB (show true=true from rfl)<|sB (show true=true from rfl)<|sB (show true=true from rfl)<|sB (show true=true from rfl)<|sB (show true=true from rfl)<|sB (show true=true from rfl)<|sB (show true=true from rfl)<|sB (show true=true from rfl)<|sB (show true=true from rfl)<|sB (show true=true from rfl)<|sB (show true=true from rfl)<|sK [] sN)) rfl (by kernel_rfl) (by kernel_rfl) rfl ?_ ?_
          · rw [hv]
          · rfl
        | false =>
         have hv:Zq Y1 Yj=false:=by unfold Zq;rw [h0,cond_false,h1,cond_false,h2,cond_false,h3,cond_false,h4,cond_false,h5,cond_false,h6,cond_false,h7,cond_false]
         refine fnS E0Ok Zg (c:=X2 f6) [] (.b false) [] func6 (q (sB' h7<|sB' h7<|sB' h7<|sB (show true=true from rfl)<|sB (show true=true from rfl)<|sB (show true=true from rfl)<|sB (show true=true from rfl)<|sB (show true=true from rfl)<|sB (show true=true from rfl)<|sB (show true=true from rfl)<|sB (show true=true from rfl)<|sB (show true=true from rfl)<|sB (show true=true from rfl)<|sB (show true=true from rfl)<|sB (show true=true from rfl)<|sB (show true=true from rfl)<|sB (show true=true from rfl)<|sB (show true=true from rfl)<|sB (show true=true from rfl)<|sB (show true=true from rfl)<|sB (show true=true from rfl)<|sK [] sN)) rfl (by kernel_rfl) (by kernel_rfl) rfl ?_ ?_
         · rw [hv]
         · rfl
def Z3z:List Nat:=[0,1065353216,1073741824,1077936128]
def crdB (b x:Nat):Bool:=match vl (Ieee.single.read (fop .add .f32 b (d16 (x:Int)))) with
  | some q=>decide (-(1 / 8)≤q) && (decide (q≤25 / 8) && decide (((q * 16).num:Rat)=q * 16))
  | none=>false
def shW (v:Nat):Nat:=X3 .f32 (IntKind.wrap .i64 ((v:Int) - 3))
def shB (b x b' x' v:Nat):Bool:=Nat.beq (fop .sub .f32 (fop .add .f32 (fop .add .f32 b (d16 (x:Int))) (fop .mul .f32 (shW v) 1065353216)) (fop .add .f32 (fop .add .f32 b' (d16 (x':Int))) (fop .mul .f32 (shW v) 1065353216))) (fop .sub .f32 (fop .add .f32 b (d16 (x:Int))) (fop .add .f32 b' (d16 (x':Int))))
theorem Z9o:(Z3z.all fun b=>(List.range 5).all fun x=>(List.range 5).all fun x'=>(List.range 7).all fun v=>shB b x 0 x' v)=true:=by decide +kernel
theorem Z9p:(Z3z.all fun b=>(List.range 5).all fun x=>(List.range 5).all fun x'=>(List.range 7).all fun v=>shB b x 1065353216 x' v)=true:=by decide +kernel
theorem Z9q:(Z3z.all fun b=>(List.range 5).all fun x=>(List.range 5).all fun x'=>(List.range 7).all fun v=>shB b x 1073741824 x' v)=true:=by decide +kernel
theorem Z9r:(Z3z.all fun b=>(List.range 5).all fun x=>(List.range 5).all fun x'=>(List.range 7).all fun v=>shB b x 1077936128 x' v)=true:=by decide +kernel
theorem Z8n {b b' x x' v:Nat} (hb:b∈Z3z) (hb':b'∈Z3z) (hx:x < 5) (hx':x' < 5) (hv:v < 7):fop .sub .f32 (fop .add .f32 (fop .add .f32 b (d16 (x:Int))) (fop .mul .f32 (shW v) 1065353216)) (fop .add .f32 (fop .add .f32 b' (d16 (x':Int))) (fop .mul .f32 (shW v) 1065353216))=fop .sub .f32 (fop .add .f32 b (d16 (x:Int))) (fop .add .f32 b' (d16 (x':Int))):=by
  have key:∀ {c:Nat},(Z3z.all fun b=>(List.range 5).all fun x=>(List.range 5).all fun x'=>(List.range 7).all fun v=>shB b x c x' v)=true→shB b x c x' v=true:=fun h =>
    List.all_eq_true.1 (List.all_eq_true.1 (List.all_eq_true.1 (List.all_eq_true.1 h b hb) x (List.mem_range.2 hx)) x' (List.mem_range.2 hx')) v (List.mem_range.2 hv)
  simp only [Z3z,List.mem_cons,List.not_mem_nil,or_false] at hb'
  rcases hb' with rfl | rfl | rfl | rfl
  · exact Nat.eq_of_beq_eq_true (key Z9o)
  · exact Nat.eq_of_beq_eq_true (key Z9p)
  · exact Nat.eq_of_beq_eq_true (key Z9q)
  · exact Nat.eq_of_beq_eq_true (key Z9r)
def gh11:List (List Int):=[[0,3,1,2]]
theorem Za2:hgL 4 gd11.Tr=gh11:=by kernel_rfl
theorem Z8N (ps:List Gv) (h:ps.length=gd11.Pq.length):Zl ⟨ps,gd11.Tr⟩=gh11:=by
  have hv:Zn ⟨ps,gd11.Tr⟩=true:=by rw [Z2p (m:=⟨ps,gd11.Tr⟩) (m':=gd11) h rfl];exact Z45 .g11
  rw [Z1P _ (Z1O _ hv)]
  show hgL ps.length _=_
  rw [h];exact Za2
def gh12:List (List Int):=[[0,3,1,2],[2,3,0,5],[2,5,3,4]]
theorem Za3:hgL 6 gd12.Tr=gh12:=by kernel_rfl
theorem Z8O (ps:List Gv) (h:ps.length=gd12.Pq.length):Zl ⟨ps,gd12.Tr⟩=gh12:=by
  have hv:Zn ⟨ps,gd12.Tr⟩=true:=by rw [Z2p (m:=⟨ps,gd12.Tr⟩) (m':=gd12) h rfl];exact Z45 .g12
  rw [Z1P _ (Z1O _ hv)]
  show hgL ps.length _=_
  rw [h];exact Za3
def gh21:List (List Int):=[[0,4,1,3],[1,4,0,5],[1,5,2,4]]
theorem Za4:hgL 6 gd21.Tr=gh21:=by kernel_rfl
theorem Z8P (ps:List Gv) (h:ps.length=gd21.Pq.length):Zl ⟨ps,gd21.Tr⟩=gh21:=by
  have hv:Zn ⟨ps,gd21.Tr⟩=true:=by rw [Z2p (m:=⟨ps,gd21.Tr⟩) (m':=gd21) h rfl];exact Z45 .g21
  rw [Z1P _ (Z1O _ hv)]
  show hgL ps.length _=_
  rw [h];exact Za4
def gh22:List (List Int):=[[0,4,1,3],[1,4,0,5],[1,5,2,4],[3,4,0,7],[3,7,4,6],[4,5,1,8],[4,7,3,8],[4,8,5,7]]
theorem Za5:hgL 9 gd22.Tr=gh22:=by kernel_rfl
theorem Z8Q (ps:List Gv) (h:ps.length=gd22.Pq.length):Zl ⟨ps,gd22.Tr⟩=gh22:=by
  have hv:Zn ⟨ps,gd22.Tr⟩=true:=by rw [Z2p (m:=⟨ps,gd22.Tr⟩) (m':=gd22) h rfl];exact Z45 .g22
  rw [Z1P _ (Z1O _ hv)]
  show hgL ps.length _=_
  rw [h];exact Za5
def gh31:List (List Int):=[[0,5,1,4],[1,5,0,6],[1,6,2,5],[2,6,1,7],[2,7,3,6]]
theorem Za6:hgL 8 gd31.Tr=gh31:=by kernel_rfl
theorem Z8R (ps:List Gv) (h:ps.length=gd31.Pq.length):Zl ⟨ps,gd31.Tr⟩=gh31:=by
  have hv:Zn ⟨ps,gd31.Tr⟩=true:=by rw [Z2p (m:=⟨ps,gd31.Tr⟩) (m':=gd31) h rfl];exact Z45 .g31
  rw [Z1P _ (Z1O _ hv)]
  show hgL ps.length _=_
  rw [h];exact Za6
def gh32:List (List Int):=[[0,5,1,4],[1,5,0,6],[1,6,2,5],[2,6,1,7],[2,7,3,6],[4,5,0,9],[4,9,5,8],[5,6,1,10],[5,9,4,10],[5,10,6,9],[6,7,2,11],[6,10,5,11],[6,11,7,10]]
theorem Za7:hgL 12 gd32.Tr=gh32:=by kernel_rfl
theorem Z8S (ps:List Gv) (h:ps.length=gd32.Pq.length):Zl ⟨ps,gd32.Tr⟩=gh32:=by
  have hv:Zn ⟨ps,gd32.Tr⟩=true:=by rw [Z2p (m:=⟨ps,gd32.Tr⟩) (m':=gd32) h rfl];exact Z45 .g32
  rw [Z1P _ (Z1O _ hv)]
  show hgL ps.length _=_
  rw [h];exact Za7
def bz (w:Nat):Int:=if w=0 then 0 else if w=1065353216 then 64 else if w=1073741824 then 128 else 192
theorem Z8o (w:Nat):0≤bz w∧bz w≤192:=by unfold bz;split<;>(try split)<;>(try split)<;>omega
def gX (G:Gm) (k:Int):Int:=bz (G.Pq.getD k.toNat default).X
def gY (G:Gm) (k:Int):Int:=bz (G.Pq.getD k.toNat default).Y
def gZ (G:Gm) (k:Int):Int:=bz (G.Pq.getD k.toNat default).Z
abbrev InR (n:Nat) (k:Int):Prop:=0≤k∧k < (n:Int)
abbrev EdP (G:Gm) (e:List Int):Prop:=InR G.Pq.length (e.getD 0 default)∧InR G.Pq.length (e.getD 1 default)∧e.getD 0 default≠e.getD 1 default ∧
  (0≤gX G (e.getD 1 default) - gX G (e.getD 0 default)∧gX G (e.getD 1 default) - gX G (e.getD 0 default)≤64)∧(0≤gY G (e.getD 1 default) - gY G (e.getD 0 default)∧gY G (e.getD 1 default) - gY G (e.getD 0 default)≤64) ∧
  (gX G (e.getD 1 default) - gX G (e.getD 0 default)=64∨gY G (e.getD 1 default) - gY G (e.getD 0 default)=64)∧gZ G (e.getD 1 default) - gZ G (e.getD 0 default)=0
abbrev TrP (G:Gm) (t:List Int):Prop:=t.length=3∧InR G.Pq.length (t.getD 0 default)∧InR G.Pq.length (t.getD 1 default)∧InR G.Pq.length (t.getD 2 default)∧(t.getD 0 default≠t.getD 1 default∧t.getD 1 default≠t.getD 2 default∧t.getD 0 default≠t.getD 2 default) ∧
  ((gX G (t.getD 1 default) - gX G (t.getD 0 default)=64∧gY G (t.getD 1 default) - gY G (t.getD 0 default)=0∧gX G (t.getD 2 default) - gX G (t.getD 0 default)=64∧gY G (t.getD 2 default) - gY G (t.getD 0 default)=64) ∨
   (gX G (t.getD 1 default) - gX G (t.getD 0 default)=64∧gY G (t.getD 1 default) - gY G (t.getD 0 default)=64∧gX G (t.getD 2 default) - gX G (t.getD 0 default)=0∧gY G (t.getD 2 default) - gY G (t.getD 0 default)=64)) ∧
  gZ G (t.getD 1 default) - gZ G (t.getD 0 default)=0∧gZ G (t.getD 2 default) - gZ G (t.getD 0 default)=0
abbrev HiP (G:Gm) (h:List Int):Prop:=h.length=4∧(InR G.Pq.length (h.getD 0 default)∧InR G.Pq.length (h.getD 1 default)∧InR G.Pq.length (h.getD 2 default)∧InR G.Pq.length (h.getD 3 default)) ∧
  (h.getD 0 default≠h.getD 1 default∧h.getD 0 default≠h.getD 2 default∧h.getD 0 default≠h.getD 3 default∧h.getD 1 default≠h.getD 2 default∧h.getD 1 default≠h.getD 3 default∧h.getD 2 default≠h.getD 3 default) ∧
  gX G (h.getD 2 default) + gX G (h.getD 3 default) - (gX G (h.getD 0 default) + gX G (h.getD 1 default))=0∧gY G (h.getD 2 default) + gY G (h.getD 3 default) - (gY G (h.getD 0 default) + gY G (h.getD 1 default))=0∧gZ G (h.getD 2 default) + gZ G (h.getD 3 default) - (gZ G (h.getD 0 default) + gZ G (h.getD 1 default))=0
def tchE (i:Nat) (e:List Int):Bool:=e.getD 0 default == (i:Int) || e.getD 1 default == (i:Int)
def tchT (i:Nat) (t:List Int):Bool:=t.getD 0 default == (i:Int) || (t.getD 1 default == (i:Int) || t.getD 2 default == (i:Int))
def pshL (G:Gm) (E H:List (List Int)):List Nat:=E.flatMap (fun e => [(e.getD 0 default).toNat,(e.getD 1 default).toNat]) ++ (G.Tr.flatMap (fun t => [(t.getD 0 default).toNat,(t.getD 1 default).toNat,(t.getD 2 default).toNat]) ++ (H.flatMap (fun h => [(h.getD 0 default).toNat,(h.getD 1 default).toNat,(h.getD 2 default).toNat,(h.getD 3 default).toNat]) ++ List.range G.Pq.length))
structure GT (G:Gm) (E H:List (List Int)):Prop where
  n1:G.Pq.length≤12
  ne:E.length≤23
  nt:G.Tr.length≤12
  nh:H.length≤13
  pl:∀ p∈G.Pq,p.X∈Z3z∧p.Y∈Z3z∧p.Z∈Z3z
  ed:∀ e∈E,EdP G e
  tr:∀ t∈G.Tr,TrP G t
  hi:∀ h∈H,HiP G h
  cE:∀ i∈List.range G.Pq.length,(E.filter (tchE i)).length≤6
  cT:∀ i∈List.range G.Pq.length,(G.Tr.filter (tchT i)).length≤6
  cP:∀ i∈List.range G.Pq.length,((pshL G E H).filter (· == i)).length≤22
theorem Z9O:GT gd11 ge11 gh11:=⟨by decide +kernel,by decide +kernel,by decide +kernel,by decide +kernel,by decide +kernel,by decide +kernel,by decide +kernel,by decide +kernel,by decide +kernel,by decide +kernel,by decide +kernel⟩
theorem Z9P:GT gd12 ge12 gh12:=⟨by decide +kernel,by decide +kernel,by decide +kernel,by decide +kernel,by decide +kernel,by decide +kernel,by decide +kernel,by decide +kernel,by decide +kernel,by decide +kernel,by decide +kernel⟩
theorem Z9Q:GT gd21 ge21 gh21:=⟨by decide +kernel,by decide +kernel,by decide +kernel,by decide +kernel,by decide +kernel,by decide +kernel,by decide +kernel,by decide +kernel,by decide +kernel,by decide +kernel,by decide +kernel⟩
theorem Z9R:GT gd22 ge22 gh22:=⟨by decide +kernel,by decide +kernel,by decide +kernel,by decide +kernel,by decide +kernel,by decide +kernel,by decide +kernel,by decide +kernel,by decide +kernel,by decide +kernel,by decide +kernel⟩
theorem Z9S:GT gd31 ge31 gh31:=⟨by decide +kernel,by decide +kernel,by decide +kernel,by decide +kernel,by decide +kernel,by decide +kernel,by decide +kernel,by decide +kernel,by decide +kernel,by decide +kernel,by decide +kernel⟩
theorem Z9T:GT gd32 ge32 gh32:=⟨by decide +kernel,by decide +kernel,by decide +kernel,by decide +kernel,by decide +kernel,by decide +kernel,by decide +kernel,by decide +kernel,by decide +kernel,by decide +kernel,by decide +kernel⟩
theorem Z8A {G:Gm} {E:List (List Int)} (h:GD G E):∃ H,(∀ ps:List Gv,ps.length=G.Pq.length→Zl ⟨ps,G.Tr⟩=H)∧GT G E H:=by
  cases h
  · exact ⟨_,Z8N,Z9O⟩
  · exact ⟨_,Z8O,Z9P⟩
  · exact ⟨_,Z8P,Z9Q⟩
  · exact ⟨_,Z8Q,Z9R⟩
  · exact ⟨_,Z8R,Z9S⟩
  · exact ⟨_,Z8S,Z9T⟩
def nI (w:Nat):Int:=(vW w * 64).num
theorem Z6C {w:Nat} {n:Int} (h:I6 w n):nI w=n:=by
  unfold nI;rw [X33 h]
  have e:(n:Rat) / 64 * 64=(n:Rat):=by grind
  rw [e];exact Rat.num_intCast n
def cX (P:List Gv) (k:Int):Int:=nI (P.getD k.toNat default).X
def cY (P:List Gv) (k:Int):Int:=nI (P.getD k.toNat default).Y
def cZ (P:List Gv) (k:Int):Int:=nI (P.getD k.toNat default).Z
structure Pl (G:Gm) (P:List Gv) (r:Int):Prop where
  len:P.length=G.Pq.length
  wx:∀ k:Int,InR G.Pq.length k→I6 (P.getD k.toNat default).X (cX P k)∧gX G k - r≤cX P k∧cX P k≤gX G k + r
  wy:∀ k:Int,InR G.Pq.length k→I6 (P.getD k.toNat default).Y (cY P k)∧gY G k - r≤cY P k∧cY P k≤gY G k + r
  wz:∀ k:Int,InR G.Pq.length k→I6 (P.getD k.toNat default).Z (cZ P k)∧gZ G k - r≤cZ P k∧cZ P k≤gZ G k + r
def crI (b x:Nat):Bool:=decide (vl (Ieee.single.read (fop .add .f32 b (d16 (x:Int))))=some (((bz b + 4 * ((x:Int) - 2):Int):Rat) / 64))
theorem Z9s:(Z3z.all fun b=>(List.range 5).all fun x=>crI b x)=true:=by decide +kernel
theorem Z7X {b x:Nat} (hb:b∈Z3z) (hx:x < 5):I6 (fop .add .f32 b (d16 (x:Int))) (bz b + 4 * ((x:Int) - 2)):=by
  have h:=List.all_eq_true.1 (List.all_eq_true.1 Z9s b hb) x (List.mem_range.2 hx)
  unfold crI at h
  have h:=odt h
  exact h
structure Bod (b:Gb) (G:Gm) (E H:List (List Int)) (r:Int):Prop where
  tab:GT G E H
  pl:Pl G b.Me.Pq r
  tri:b.Me.Tr=G.Tr
  hin:Zl b.Me=H
  slen:b.Sp.length=E.length
  spr:∀ s∈b.Sp,∃ j,j < E.length∧SpO E j s
  film:∃ x:Nat,x < 5∧b.Film=fop .quo .f32 (X3 .f32 (x:Int)) 1073741824
  bend:∃ x:Nat,x < 5∧b.Bend=fop .quo .f32 (X3 .f32 (x:Int)) 1082130432
  wts:b.We=List.replicate G.Pq.length 0
  fall:b.Fall=⟨0,0,0⟩
theorem Z9U {b:Gb} {G:Gm} {E:List (List Int)} (S:Smth b G E):∃ H,Bod b G E H 8:=by
  obtain ⟨H,h1,T⟩:=Z8A S.gd
  have hm:∀ k:Int,InR G.Pq.length k→G.Pq.getD k.toNat default∈G.Pq:=by
    intro k hk
    rw [List.getD_eq_getElem?_getD,List.getElem?_eq_getElem (by omega)];exact List.getElem_mem _
  refine ⟨H,T,⟨S.len,?_,?_,?_⟩,S.tri,?_,S.slen,fun s hs=>Z8z S hs,S.film,S.bend,S.wts,S.fall⟩
  · intro k hk
    obtain ⟨x,y,z,hx,hy,hz,e⟩:=S.plc k.toNat (by omega)
    have h:=Z7X (T.pl _ (hm k hk)).1 hx
    unfold cX gX;rw [e]
    rw [Z6C h];exact ⟨h,by omega,by omega⟩
  · intro k hk
    obtain ⟨x,y,z,hx,hy,hz,e⟩:=S.plc k.toNat (by omega)
    have h:=Z7X (T.pl _ (hm k hk)).2.1 hy
    unfold cY gY;rw [e]
    rw [Z6C h];exact ⟨h,by omega,by omega⟩
  · intro k hk
    obtain ⟨x,y,z,hx,hy,hz,e⟩:=S.plc k.toNat (by omega)
    have h:=Z7X (T.pl _ (hm k hk)).2.2 hz
    unfold cZ gZ;rw [e]
    rw [Z6C h];exact ⟨h,by omega,by omega⟩
  · have e:b.Me=⟨b.Me.Pq,G.Tr⟩:=by rw [← S.tri]
    rw [e];exact h1 _ S.len
def dW (P:List Gv) (A B:Int):Gv:=ZM (P.getD B.toNat default) (P.getD A.toNat default)
theorem Z7n (G:Gm) (k:Int):0≤gX G k∧gX G k≤192:=Z8o _
theorem Z7o (G:Gm) (k:Int):0≤gY G k∧gY G k≤192:=Z8o _
theorem Z7p (G:Gm) (k:Int):0≤gZ G k∧gZ G k≤192:=Z8o _
theorem dW_I {G:Gm} {P:List Gv} {r:Int} (h:Pl G P r) (hr:r≤9) {A B:Int} (hA:InR G.Pq.length A) (hB:InR G.Pq.length B) :
    I6 (dW P A B).X (cX P B - cX P A)∧I6 (dW P A B).Y (cY P B - cY P A)∧I6 (dW P A B).Z (cZ P B - cZ P A) ∧
    (gX G B - gX G A - 2 * r≤cX P B - cX P A∧cX P B - cX P A≤gX G B - gX G A + 2 * r)∧(gY G B - gY G A - 2 * r≤cY P B - cY P A∧cY P B - cY P A≤gY G B - gY G A + 2 * r)∧(gZ G B - gZ G A - 2 * r≤cZ P B - cZ P A∧cZ P B - cZ P A≤gZ G B - gZ G A + 2 * r):=by
  have x1:=h.wx A hA
  have x2:=h.wx B hB
  have y1:=h.wy A hA
  have y2:=h.wy B hB
  have z1:=h.wz A hA
  have z2:=h.wz B hB
  have b1:=Z7n G A
  have b2:=Z7n G B
  have b3:=Z7o G A
  have b4:=Z7o G B
  have b5:=Z7p G A
  have b6:=Z7p G B
  exact ⟨sub6 x2.1 x1.1 (by omega) (by omega),sub6 y2.1 y1.1 (by omega) (by omega),sub6 z2.1 z1.1 (by omega) (by omega),by omega,by omega,by omega⟩
def dQ (P:List Gv) (A B:Int):Int:=(cX P B - cX P A) * (cX P B - cX P A) + (cY P B - cY P A) * (cY P B - cY P A) + (cZ P B - cZ P A) * (cZ P B - cZ P A)
theorem Z9t {a b c ρ:Int} (h0:0≤ρ) (h1:ρ≤18) (a1:-ρ≤a) (a2:a≤64 + ρ) (b1:-ρ≤b) (b2:b≤64 + ρ) (c1:-ρ≤c) (c2:c≤ρ) (h:64 - ρ≤a∨64 - ρ≤b):(64 - ρ) * (64 - ρ)≤a * a + b * b + c * c∧a * a + b * b + c * c≤2 * ((64 + ρ) * (64 + ρ)) + ρ * ρ:=by
  have ha:=XH (a:=a) (A:=64 + ρ) (by omega) a2
  have hb:=XH (a:=b) (A:=64 + ρ) (by omega) b2
  have hc:=XH c1 c2
  refine ⟨?_,by omega⟩
  rcases h with h | h
  · have:=X61 (a:=a) (A:=64 - ρ) (by omega) (.inl h);omega
  · have:=X61 (a:=b) (A:=64 - ρ) (by omega) (.inl h);omega
theorem Z8p {G:Gm} {P:List Gv} {r:Int} (h:Pl G P r) (h0:0≤r) (hr:r≤9) {e:List Int} (he:EdP G e) :
    (64 - 2 * r) * (64 - 2 * r)≤dQ P (e.getD 0 default) (e.getD 1 default)∧dQ P (e.getD 0 default) (e.getD 1 default)≤2 * ((64 + 2 * r) * (64 + 2 * r)) + 2 * r * (2 * r):=by
  obtain ⟨hA,hB,hn,hx,hy,hd,hz⟩:=he
  obtain ⟨-,-,-,q1,q2,q3⟩:=dW_I h hr hA hB
  exact Z9t (ρ:=2 * r) (by omega) (by omega) (by omega) (by omega) (by omega) (by omega) (by omega) (by omega) (by omega)
theorem Z8h (v:Gv):Zr v=lenW v.X v.Y v.Z:=rfl
theorem Z9V {G:Gm} {P:List Gv} {r:Int} (h:Pl G P r) (h0:0≤r) (hr:r≤9) {e:List Int} (he:EdP G e) {D:Rat} (hD:D=((dQ P (e.getD 0 default) (e.getD 1 default):Int):Rat) / 4096) :
    ∃ l,Vl .f32 (Zr (dW P (e.getD 0 default) (e.getD 1 default))) l∧0≤l∧D - D / 3000000≤l * l∧l * l≤D + D / 3000000:=by
  have hq:=Z8p h h0 hr he
  obtain ⟨hA,hB,hn,hx,hy,hd,hz⟩:=he
  obtain ⟨i1,i2,i3,q1,q2,q3⟩:=dW_I h hr hA hB
  rw [Z8h]
  have hs:(46:Int) * 46≤(64 - 2 * r) * (64 - 2 * r):=by
    have:=X61 (a:=64 - 2 * r) (A:=46) (by omega) (.inl (by omega));omega
  exact len6 i1 i2 i3 (by omega) (by omega) (by omega) (by omega) (by omega) (by omega) hD (by unfold dQ at hq;omega)
theorem Z9W {D l:Rat} (h0:0≤l) (d0:2116 / 4096≤D) (d1:D≤13216 / 4096) (l1:D - D / 3000000≤l * l) (l2:l * l≤D + D / 3000000):7 / 10≤l∧l≤183 / 100:=by
  constructor
  · refine X1G h0 ?_;grind
  · refine X1G (by decide +kernel) ?_;grind
def lngB (x:Nat):Bool:=match vl (Ieee.single.read (lngW (x:Int))) with
  | some q=>decide (1 / 2≤q) && decide (q≤3 / 2)
  | none=>false
def stfB (x:Nat):Bool:=match vl (Ieee.single.read (stfW (x:Int))) with
  | some q=>decide (1 / 2≤q) && decide (q≤2)
  | none=>false
theorem Z8T:((List.range 5).all lngB)=true:=by decide +kernel
theorem Z8U:((List.range 4).all stfB)=true:=by decide +kernel
theorem Z93 {x:Nat} (h:x < 5):∃ L,Vl .f32 (lngW (x:Int)) L∧1 / 2≤L∧L≤3 / 2:=by
  have:=List.all_eq_true.1 Z8T x (List.mem_range.2 h)
  unfold lngB at this
  split at this
  · rename_i q hq
    rw [Bool.and_eq_true] at this
    exact ⟨q,hq,odt this.1,odt this.2⟩
  · cases this
theorem Z94 {x:Nat} (h:x < 4):∃ L,Vl .f32 (stfW (x:Int)) L∧1 / 2≤L∧L≤2:=by
  have:=List.all_eq_true.1 Z8U x (List.mem_range.2 h)
  unfold stfB at this
  split at this
  · rename_i q hq
    rw [Bool.and_eq_true] at this
    exact ⟨q,hq,odt this.1,odt this.2⟩
  · cases this
def flmB (x:Nat):Bool:=match vl (Ieee.single.read (fop .quo .f32 (X3 .f32 (x:Int)) 1073741824)) with
  | some q=>decide (0≤q) && decide (q≤2)
  | none=>false
theorem Z8V:((List.range 5).all flmB)=true:=by decide +kernel
theorem Za8 {x:Nat} (h:x < 5):∃ L,Vl .f32 (fop .quo .f32 (X3 .f32 (x:Int)) 1073741824) L∧0≤L∧L≤2:=by
  have:=List.all_eq_true.1 Z8V x (List.mem_range.2 h)
  unfold flmB at this
  split at this
  · rename_i q hq
    rw [Bool.and_eq_true] at this
    exact ⟨q,hq,odt this.1,odt this.2⟩
  · cases this
def bndB (x:Nat):Bool:=decide (vl (Ieee.single.read (fop .quo .f32 (X3 .f32 (x:Int)) 1082130432))=some ((x:Rat) / 4)) && decide (vl (Ieee.single.read (fop .mul .f32 X31 (fop .quo .f32 (X3 .f32 (x:Int)) 1082130432)))=some ((x:Rat) / 8))
theorem Z8W:((List.range 5).all bndB)=true:=by decide +kernel
theorem Za9 {x:Nat} (h:x < 5):Vl .f32 (fop .quo .f32 (X3 .f32 (x:Int)) 1082130432) ((x:Rat) / 4)∧Vl .f32 (fop .mul .f32 X31 (fop .quo .f32 (X3 .f32 (x:Int)) 1082130432)) ((x:Rat) / 8):=by
  have:=List.all_eq_true.1 Z8W x (List.mem_range.2 h)
  unfold bndB at this
  rw [Bool.and_eq_true] at this
  have h1:=odt this.1
  have h2:=odt this.2
  exact ⟨h1,h2⟩
def tS (P:List Gv) (s:Gs):Nat:=sprW (Zr (dW P s.A s.B)) s.Long s.Stiff
theorem Z6D {b:Gb} {G:Gm} {E H:List (List Int)} {r:Int} (B:Bod b G E H r) {s:Gs} (hs:s∈b.Sp):∃ e x y,e∈E∧EdP G e∧x < 5∧y < 4∧s=⟨e.getD 0 default,e.getD 1 default,lngW (x:Nat),stfW (y:Nat)⟩:=by
  obtain ⟨j,hj,x,y,hx,hy,e⟩:=B.spr s hs
  have hm:E.getD j default∈E:=by rw [List.getD_eq_getElem?_getD,List.getElem?_eq_getElem hj];exact List.getElem_mem _
  exact ⟨_,x,y,hm,B.tab.ed _ hm,hx,hy,e⟩
theorem Z9X {G:Gm} {P:List Gv} {r:Int} (h:Pl G P r) (h0:0≤r) (hr:r≤8) {e:List Int} (he:EdP G e):2304≤dQ P (e.getD 0 default) (e.getD 1 default)∧dQ P (e.getD 0 default) (e.getD 1 default)≤13056:=by
  have hq:=Z8p h h0 (by omega) he
  have h1:=X61 (a:=64 - 2 * r) (A:=48) (by omega) (.inl (by omega))
  have h2:=XH (a:=64 + 2 * r) (A:=80) (by omega) (by omega)
  have h3:=XH (a:=2 * r) (A:=16) (by omega) (by omega)
  omega
theorem Z7q {G:Gm} {P:List Gv} (h:Pl G P 9) {e:List Int} (he:EdP G e) (hq:dQ P (e.getD 0 default) (e.getD 1 default)≤13216) {D:Rat} (hD:D=((dQ P (e.getD 0 default) (e.getD 1 default):Int):Rat) / 4096) :
    ∃ l,Vl .f32 (Zr (dW P (e.getD 0 default) (e.getD 1 default))) l∧0≤l∧D - D / 3000000≤l * l∧l * l≤D + D / 3000000∧7 / 10≤l∧l≤183 / 100:=by
  obtain ⟨l,V,l0,l1,l2⟩:=Z9V h (by decide) (by decide) he hD
  have hq2:=(Z8p h (by decide) (by decide) he).1
  have g1:=Rat.intCast_le_intCast.2 (show (2116:Int)≤dQ P (e.getD 0 default) (e.getD 1 default) by omega)
  have g2:=Rat.intCast_le_intCast.2 hq
  have e1:((2116:Int):Rat)=2116:=rfl
  have e2:((13216:Int):Rat)=13216:=rfl
  rw [e1] at g1
  rw [e2] at g2
  have:=Z9W l0 (by grind) (by grind) l1 l2
  exact ⟨l,V,l0,l1,l2,this⟩
theorem Z5q {G:Gm} {P:List Gv} {r r':Int} (h:Pl G P r) (hr:r≤r'):Pl G P r' :=
  ⟨h.len,fun k hk=>by have:=h.wx k hk;exact ⟨this.1,by omega,by omega⟩,fun k hk=>by have:=h.wy k hk;exact ⟨this.1,by omega,by omega⟩,fun k hk=>by have:=h.wz k hk;exact ⟨this.1,by omega,by omega⟩⟩
theorem Z95 {G:Gm} {P:List Gv} (h:Pl G P 9) {e:List Int} (he:EdP G e) (hq:dQ P (e.getD 0 default) (e.getD 1 default)≤13216) {x y:Nat} (hx:x < 5) (hy:y < 4):Fw (tS P ⟨e.getD 0 default,e.getD 1 default,lngW (x:Int),stfW (y:Int)⟩) (226 / 100)∧0≤vW (tS P ⟨e.getD 0 default,e.getD 1 default,lngW (x:Int),stfW (y:Int)⟩):=by
  obtain ⟨l,V,-,-,-,l0,l1⟩:=Z7q h he hq rfl
  obtain ⟨L,VL,L0,L1⟩:=Z93 hx
  obtain ⟨s,Vs,s0,s1⟩:=Z94 hy
  obtain ⟨q,W,-,q0,q1⟩:=X9E V l0 l1 VL L0 L1 Vs s0 s1
  have W:Vl .f32 (tS P ⟨e.getD 0 default,e.getD 1 default,lngW (x:Int),stfW (y:Int)⟩) q:=W
  exact ⟨X8G W ⟨by grind,q1⟩,by rw [X33 W];exact q0⟩
theorem Z2I {a b A B:Int} (h1:-A≤a) (h2:a≤A) (h3:-B≤b) (h4:b≤B):-(A * B)≤a * b∧a * b≤A * B:=by
  have x1:=Int.mul_nonneg (show 0≤A - a by omega) (show 0≤B - b by omega)
  have x2:=Int.mul_nonneg (show 0≤A - a by omega) (show 0≤B + b by omega)
  have x3:=Int.mul_nonneg (show 0≤A + a by omega) (show 0≤B - b by omega)
  have x4:=Int.mul_nonneg (show 0≤A + a by omega) (show 0≤B + b by omega)
  constructor<;>grind
theorem Z96 {a b A B:Int} (hA:0≤A) (h1:A≤a) (hB:0≤B) (h2:B≤b):A * B≤a * b:=by
  have x1:=Int.mul_nonneg (show 0≤a - A by omega) (show 0≤b - B by omega)
  have x2:=Int.mul_nonneg (show 0≤a - A by omega) hB
  have x3:=Int.mul_nonneg hA (show 0≤b - B by omega)
  grind
structure TrI (a1 a2 a3 b1 b2 b3 ρ:Int):Prop where
  x1:-(64 + ρ)≤a1∧a1≤64 + ρ
  x2:-(64 + ρ)≤a2∧a2≤64 + ρ
  x3:-ρ≤a3∧a3≤ρ
  y1:-(64 + ρ)≤b1∧b1≤64 + ρ
  y2:-(64 + ρ)≤b2∧b2≤64 + ρ
  y3:-ρ≤b3∧b3≤ρ
  c:(64 - ρ≤a1∧a1≤64 + ρ∧-ρ≤a2∧a2≤ρ∧64 - ρ≤b2 - a2∧b2 - a2≤64 + ρ∧-ρ≤b1 - a1∧b1 - a1≤ρ)∨(64 - ρ≤b2∧b2≤64 + ρ∧-ρ≤b1∧b1≤ρ∧64 - ρ≤a1 - b1∧a1 - b1≤64 + ρ∧-ρ≤a2 - b2∧a2 - b2≤ρ)
theorem Z9u {a1 a2 a3 b1 b2 b3 ρ:Int} (h0:0≤ρ) (h1:ρ≤18) (t:TrI a1 a2 a3 b1 b2 b3 ρ) :
    (-(2 * ((64 + ρ) * ρ))≤a2 * b3 - a3 * b2∧a2 * b3 - a3 * b2≤2 * ((64 + ρ) * ρ))∧(-(2 * ((64 + ρ) * ρ))≤a3 * b1 - a1 * b3∧a3 * b1 - a1 * b3≤2 * ((64 + ρ) * ρ)) ∧
    (64 - ρ) * (64 - ρ) - ρ * ρ≤a1 * b2 - a2 * b1∧a1 * b2 - a2 * b1≤(64 + ρ) * (64 + ρ) + ρ * ρ:=by
  have p1:=Z2I t.x2.1 t.x2.2 t.y3.1 t.y3.2
  have p2:=Z2I t.y2.1 t.y2.2 t.x3.1 t.x3.2
  have p3:=Z2I t.y1.1 t.y1.2 t.x3.1 t.x3.2
  have p4:=Z2I t.x1.1 t.x1.2 t.y3.1 t.y3.2
  have c1:a3 * b2=b2 * a3:=Int.mul_comm _ _
  have c2:a3 * b1=b1 * a3:=Int.mul_comm _ _
  refine ⟨by omega,by omega,?_⟩
  rcases t.c with ⟨q1,q2,q3,q4,q5,q6,q7,q8⟩ | ⟨q1,q2,q3,q4,q5,q6,q7,q8⟩
  · have l:=Z96 (a:=a1) (b:=b2 - a2) (A:=64 - ρ) (B:=64 - ρ) (by omega) q1 (by omega) q5
    have u:=Z2I (a:=a1) (b:=b2 - a2) (A:=64 + ρ) (B:=64 + ρ) (by omega) q2 (by omega) q6
    have v:=Z2I q3 q4 q7 q8
    have e:a1 * b2 - a2 * b1=a1 * (b2 - a2) - a2 * (b1 - a1):=by grind
    rw [e];omega
  · have l:=Z96 (a:=a1 - b1) (b:=b2) (A:=64 - ρ) (B:=64 - ρ) (by omega) q5 (by omega) q1
    have u:=Z2I (a:=a1 - b1) (b:=b2) (A:=64 + ρ) (B:=64 + ρ) (by omega) q6 (by omega) q2
    have v:=Z2I q7 q8 q3 q4
    have e:a1 * b2 - a2 * b1=(a1 - b1) * b2 - (a2 - b2) * b1:=by grind
    rw [e];omega
def nW (P:List Gv) (t:List Int):Gv:=Z20 (dW P (t.getD 0 default) (t.getD 1 default)) (dW P (t.getD 0 default) (t.getD 2 default))
def dx (P:List Gv) (A B:Int):Int:=cX P B - cX P A
def dy (P:List Gv) (A B:Int):Int:=cY P B - cY P A
def dz (P:List Gv) (A B:Int):Int:=cZ P B - cZ P A
theorem tr_I {G:Gm} {P:List Gv} {r:Int} (h:Pl G P r) (h0:0≤r) (hr:r≤9) {t:List Int} (ht:TrP G t):TrI (dx P (t.getD 0 default) (t.getD 1 default)) (dy P (t.getD 0 default) (t.getD 1 default)) (dz P (t.getD 0 default) (t.getD 1 default)) (dx P (t.getD 0 default) (t.getD 2 default)) (dy P (t.getD 0 default) (t.getD 2 default)) (dz P (t.getD 0 default) (t.getD 2 default)) (2 * r):=by
  obtain ⟨-,hA,hB,hC,-,hd,hz,hz2⟩:=ht
  obtain ⟨-,-,-,q1,q2,q3⟩:=dW_I h hr hA hB
  obtain ⟨-,-,-,q4,q5,q6⟩:=dW_I h hr hA hC
  obtain ⟨-,-,-,q7,q8,q9⟩:=dW_I h hr hB hC
  unfold dx dy dz
  constructor
  · omega
  · omega
  · omega
  · omega
  · omega
  · omega
  · rcases hd with ⟨d1,d2,d3,d4⟩ | ⟨d1,d2,d3,d4⟩
    · left;omega
    · right;omega
def nx (P:List Gv) (t:List Int):Int:=dy P (t.getD 0 default) (t.getD 1 default) * dz P (t.getD 0 default) (t.getD 2 default) - dz P (t.getD 0 default) (t.getD 1 default) * dy P (t.getD 0 default) (t.getD 2 default)
def ny (P:List Gv) (t:List Int):Int:=dz P (t.getD 0 default) (t.getD 1 default) * dx P (t.getD 0 default) (t.getD 2 default) - dx P (t.getD 0 default) (t.getD 1 default) * dz P (t.getD 0 default) (t.getD 2 default)
def nz (P:List Gv) (t:List Int):Int:=dx P (t.getD 0 default) (t.getD 1 default) * dy P (t.getD 0 default) (t.getD 2 default) - dy P (t.getD 0 default) (t.getD 1 default) * dx P (t.getD 0 default) (t.getD 2 default)
theorem Z9Y {x1 y1 z1 x2 y2 z2:Nat} {a1 a2 a3 b1 b2 b3:Int} (h1:I6 x1 a1) (h2:I6 y1 a2) (h3:I6 z1 a3) (h4:I6 x2 b1) (h5:I6 y2 b2) (h6:I6 z2 b3) (ha1:-90≤a1∧a1≤90) (ha2:-90≤a2∧a2≤90) (ha3:-90≤a3∧a3≤90) (hb1:-90≤b1∧b1≤90) (hb2:-90≤b2∧b2≤90) (hb3:-90≤b3∧b3≤90) :
    I12 (Z20 ⟨x1,y1,z1⟩ ⟨x2,y2,z2⟩).X (a2 * b3 - a3 * b2)∧I12 (Z20 ⟨x1,y1,z1⟩ ⟨x2,y2,z2⟩).Y (a3 * b1 - a1 * b3)∧I12 (Z20 ⟨x1,y1,z1⟩ ⟨x2,y2,z2⟩).Z (a1 * b2 - a2 * b1):=by
  have p1:=Z2I ha2.1 ha2.2 hb3.1 hb3.2
  have p2:=Z2I ha3.1 ha3.2 hb2.1 hb2.2
  have p3:=Z2I ha3.1 ha3.2 hb1.1 hb1.2
  have p4:=Z2I ha1.1 ha1.2 hb3.1 hb3.2
  have p5:=Z2I ha1.1 ha1.2 hb2.1 hb2.2
  have p6:=Z2I ha2.1 ha2.2 hb1.1 hb1.2
  exact ⟨X8E (mul6 h2 h6 (by omega) (by omega)) (mul6 h3 h5 (by omega) (by omega)) (by omega) (by omega),X8E (mul6 h3 h4 (by omega) (by omega)) (mul6 h1 h6 (by omega) (by omega)) (by omega) (by omega),X8E (mul6 h1 h5 (by omega) (by omega)) (mul6 h2 h4 (by omega) (by omega)) (by omega) (by omega)⟩
theorem nW_I {G:Gm} {P:List Gv} {r:Int} (h:Pl G P r) (h0:0≤r) (hr:r≤9) {t:List Int} (ht:TrP G t):I12 (nW P t).X (nx P t)∧I12 (nW P t).Y (ny P t)∧I12 (nW P t).Z (nz P t):=by
  have hi:=tr_I h h0 hr ht
  obtain ⟨-,hA,hB,hC,-⟩:=ht
  obtain ⟨i1,i2,i3,-⟩:=dW_I h hr hA hB
  obtain ⟨j1,j2,j3,-⟩:=dW_I h hr hA hC
  have k1:=hi.x1
  have k2:=hi.x2
  have k3:=hi.x3
  have k4:=hi.y1
  have k5:=hi.y2
  have k6:=hi.y3
  exact Z9Y i1 i2 i3 j1 j2 j3 (by omega) (by omega) (by omega) (by omega) (by omega) (by omega)
def nQ (P:List Gv) (t:List Int):Int:=nx P t * nx P t + ny P t * ny P t + nz P t * nz P t
theorem nb18 {ρ:Int} (h0:0≤ρ) (h1:ρ≤18):(64 + ρ) * ρ≤1476∧1792≤(64 - ρ) * (64 - ρ) - ρ * ρ∧(64 + ρ) * (64 + ρ) + ρ * ρ≤7048:=by
  have p1:=Z2I (a:=64 + ρ) (A:=82) (b:=ρ) (B:=18) (by omega) (by omega) (by omega) h1
  have e1:(64 - ρ) * (64 - ρ) - ρ * ρ=4096 - 128 * ρ:=by grind
  have p3:=XH (a:=64 + ρ) (A:=82) (by omega) (by omega)
  have p4:=XH (a:=ρ) (A:=18) (by omega) h1
  omega
theorem n_bd {G:Gm} {P:List Gv} {r:Int} (h:Pl G P r) (h0:0≤r) (hr:r≤9) {t:List Int} (ht:TrP G t):(-2952≤nx P t∧nx P t≤2952)∧(-2952≤ny P t∧ny P t≤2952)∧(1792≤nz P t∧nz P t≤7048):=by
  obtain ⟨b1,b2,b3,b4⟩:=Z9u (by omega) (by omega) (tr_I h h0 hr ht)
  obtain ⟨c1,c2,c3⟩:=nb18 (ρ:=2 * r) (by omega) (by omega)
  unfold nx ny nz
  omega
theorem Zaa {G:Gm} {P:List Gv} {r:Int} (h:Pl G P r) (h0:0≤r) (hr:r≤9) {t:List Int} (ht:TrP G t):nQ P t≤67102912:=by
  obtain ⟨b1,b2,b3⟩:=n_bd h h0 hr ht
  have s1:=XH b1.1 b1.2
  have s2:=XH b2.1 b2.2
  have s3:=XH (a:=nz P t) (A:=7048) (by omega) b3.2
  unfold nQ;omega
theorem Z8B {G:Gm} {P:List Gv} (h:Pl G P 9) {t:List Int} (ht:TrP G t) {D:Rat} (hD:D=((nQ P t:Int):Rat) / 16777216) :
    ∃ N,Vl .f32 (Zr (nW P t)) N∧0≤N∧D - 24 / 10000000≤N * N∧N * N≤D + 24 / 10000000∧4 / 10≤N∧N≤211 / 100:=by
  obtain ⟨i1,i2,i3⟩:=nW_I h (by decide) (by decide) ht
  obtain ⟨b1,b2,b3⟩:=n_bd h (by decide) (by decide) ht
  rw [Z8h]
  refine Xam i1 i2 i3 (by omega) (by omega) (by omega) (by omega) (by omega) (by omega) hD ?_
  have g:=Rat.intCast_le_intCast.2 (Zaa h (by decide) (by decide) ht)
  have e:((67102912:Int):Rat)=67102912:=rfl
  rw [e] at g
  grind
def tT (F:Nat) (P:List Gv) (t:List Int):Nat:=filW F (Zr (nW P t))
theorem Z97 {G:Gm} {P:List Gv} (h:Pl G P 9) {t:List Int} (ht:TrP G t) {x:Nat} (hx:x < 5):Fw (tT (fop .quo .f32 (X3 .f32 (x:Int)) 1073741824) P t) (24 / 10)∧0≤vW (tT (fop .quo .f32 (X3 .f32 (x:Int)) 1073741824) P t):=by
  obtain ⟨N,V,-,-,-,n0,n1⟩:=Z8B h ht rfl
  obtain ⟨F,VF,f0,f1⟩:=Za8 hx
  obtain ⟨q,W,-,q0,q1⟩:=X9G V n0 n1 VF f0 f1
  have W:Vl .f32 (tT (fop .quo .f32 (X3 .f32 (x:Int)) 1073741824) P t) q:=W
  exact ⟨X8G W ⟨by grind,q1⟩,by rw [X33 W];exact q0⟩
def hW (P:List Gv) (h:List Int):Gv:=ZM (ZD (P.getD (h.getD 2 default).toNat default) (P.getD (h.getD 3 default).toNat default)) (ZD (P.getD (h.getD 0 default).toNat default) (P.getD (h.getD 1 default).toNat default))
def hx (P:List Gv) (h:List Int):Int:=cX P (h.getD 2 default) + cX P (h.getD 3 default) - (cX P (h.getD 0 default) + cX P (h.getD 1 default))
def hy (P:List Gv) (h:List Int):Int:=cY P (h.getD 2 default) + cY P (h.getD 3 default) - (cY P (h.getD 0 default) + cY P (h.getD 1 default))
def hz (P:List Gv) (h:List Int):Int:=cZ P (h.getD 2 default) + cZ P (h.getD 3 default) - (cZ P (h.getD 0 default) + cZ P (h.getD 1 default))
structure Wh (n:Nat) (P:List Gv):Prop where
  wx:∀ k:Int,InR n k→I6 (P.getD k.toNat default).X (cX P k)∧-1000≤cX P k∧cX P k≤1000
  wy:∀ k:Int,InR n k→I6 (P.getD k.toNat default).Y (cY P k)∧-1000≤cY P k∧cY P k≤1000
  wz:∀ k:Int,InR n k→I6 (P.getD k.toNat default).Z (cZ P k)∧-1000≤cZ P k∧cZ P k≤1000
theorem Z7r {G:Gm} {P:List Gv} {r:Int} (h:Pl G P r) (hr:r≤9):Wh G.Pq.length P :=
  ⟨fun k hk=>by have:=h.wx k hk;have:=Z7n G k;exact ⟨(h.wx k hk).1,by omega,by omega⟩,fun k hk=>by have:=h.wy k hk;have:=Z7o G k;exact ⟨(h.wy k hk).1,by omega,by omega⟩,fun k hk=>by have:=h.wz k hk;have:=Z7p G k;exact ⟨(h.wz k hk).1,by omega,by omega⟩⟩
theorem hW_I {G:Gm} {P:List Gv} (w:Wh G.Pq.length P) {h:List Int} (hh:HiP G h):I6 (hW P h).X (hx P h)∧I6 (hW P h).Y (hy P h)∧I6 (hW P h).Z (hz P h):=by
  obtain ⟨-,⟨h0,h1,h2,h3⟩,-⟩:=hh
  have x0:=w.wx _ h0
  have x1:=w.wx _ h1
  have x2:=w.wx _ h2
  have x3:=w.wx _ h3
  have y0:=w.wy _ h0
  have y1:=w.wy _ h1
  have y2:=w.wy _ h2
  have y3:=w.wy _ h3
  have z0:=w.wz _ h0
  have z1:=w.wz _ h1
  have z2:=w.wz _ h2
  have z3:=w.wz _ h3
  exact ⟨sub6 (add6 x2.1 x3.1 (by omega) (by omega)) (add6 x0.1 x1.1 (by omega) (by omega)) (by omega) (by omega),sub6 (add6 y2.1 y3.1 (by omega) (by omega)) (add6 y0.1 y1.1 (by omega) (by omega)) (by omega) (by omega),sub6 (add6 z2.1 z3.1 (by omega) (by omega)) (add6 z0.1 z1.1 (by omega) (by omega)) (by omega) (by omega)⟩
def tH (Bd:Nat) (P:List Gv) (h:List Int):Nat:=fop .mul .f32 (fop .mul .f32 X31 Bd) (Z1s (hW P h) (hW P h))
def hQ (P:List Gv) (h:List Int):Int:=hx P h * hx P h + hy P h * hy P h + hz P h * hz P h
theorem tH_v {G:Gm} {P:List Gv} (w:Wh G.Pq.length P) {h:List Int} (hh:HiP G h) (bx:-40≤hx P h∧hx P h≤40) (by_:-40≤hy P h∧hy P h≤40) (bz:-40≤hz P h∧hz P h≤40) {x:Nat} (hx5:x < 5) :
    Vl .f32 (tH (fop .quo .f32 (X3 .f32 (x:Int)) 1082130432) P h) ((x:Rat) / 8 * (((hQ P h:Int):Rat) / 4096))∧0≤hQ P h∧hQ P h≤4800:=by
  obtain ⟨i1,i2,i3⟩:=hW_I w hh
  have s:=sqs6 i1 i2 i3 (by omega) (by omega) (by omega) (by omega) (by omega) (by omega)
  have q1:=XH bx.1 bx.2
  have q2:=XH by_.1 by_.2
  have q3:=XH bz.1 bz.2
  have hq:0≤hQ P h∧hQ P h≤4800:=by unfold hQ;omega
  have p:=Z2I (a:=(x:Int)) (A:=4) (b:=hQ P h) (B:=4800) (by omega) (by omega) (by omega) (by omega)
  refine ⟨XaM (Za9 hx5).2 s (n:=(x:Int) * hQ P h) (s:=15) ?_ (by omega) (by omega) (by decide),hq⟩
  have e:(2:Rat)^((15:Nat):Int)=32768:=by decide +kernel
  rw [e,Rat.intCast_mul]
  have e2:((x:Int):Rat)=(x:Rat):=Rat.intCast_natCast x
  rw [e2]
  show (x:Rat) / 8 * (((hQ P h:Int):Rat) / 4096) * 32768=_
  grind
theorem h_bd {G:Gm} {P:List Gv} {r:Int} (p:Pl G P r) (hr:r≤9) {h:List Int} (hh:HiP G h):(-40≤hx P h∧hx P h≤40)∧(-40≤hy P h∧hy P h≤40)∧(-40≤hz P h∧hz P h≤40):=by
  obtain ⟨-,⟨h0,h1,h2,h3⟩,-,e1,e2,e3⟩:=hh
  have x0:=p.wx _ h0
  have x1:=p.wx _ h1
  have x2:=p.wx _ h2
  have x3:=p.wx _ h3
  have y0:=p.wy _ h0
  have y1:=p.wy _ h1
  have y2:=p.wy _ h2
  have y3:=p.wy _ h3
  have z0:=p.wz _ h0
  have z1:=p.wz _ h1
  have z2:=p.wz _ h2
  have z3:=p.wz _ h3
  unfold hx hy hz
  omega
theorem Z98 {w:Nat} {x:Nat} {q:Int} (hx5:x < 5) (h:Vl .f32 w ((x:Rat) / 8 * (((q:Int):Rat) / 4096))) (q0:0≤q) (q1:q≤4800):Fw w (6 / 10)∧0≤vW w:=by
  have g0:=Rat.intCast_le_intCast.2 q0
  have g1:=Rat.intCast_le_intCast.2 q1
  have e0:((0:Int):Rat)=0:=rfl
  have e1:((4800:Int):Rat)=4800:=rfl
  rw [e0] at g0
  rw [e1] at g1
  have x0:(0:Rat)≤(x:Rat):=Rat.natCast_nonneg
  have x1:(x:Rat)≤4:=by have:=Rat.natCast_le_natCast.2 (show x≤4 by omega);exact this
  have m:=Rat.mul_nonneg (show (0:Rat)≤(x:Rat) / 8 by grind) (show (0:Rat)≤(q:Rat) / 4096 by grind)
  have m2:=X19 (x:=(x:Rat) / 8) (A:=1 / 2) (y:=(q:Rat) / 4096) (B:=4800 / 4096) (by unfold Ab;grind) (by unfold Ab;grind)
  unfold Ab at m2
  have e2:(1 / 2:Rat) * (4800 / 4096)≤6 / 10:=by decide +kernel
  exact ⟨X8G h (by unfold Ab;grind),by rw [X33 h];exact m⟩
theorem fs0 {α:Type} (f:α→Nat):∀ (l:List α) (x y z u:Nat),l.foldl (fun r a=>r.set 0 (fop .add .f32 (r.getD 0 default) (f a))) [x,y,z,u]=[l.foldl (fun w a=>fop .add .f32 w (f a)) x,y,z,u]
  | [],_,_,_,_=>rfl
  | a :: l,x,y,z,u=>fs0 f l (fop .add .f32 x (f a)) y z u
theorem fs1 {α:Type} (f:α→Nat):∀ (l:List α) (x y z u:Nat),l.foldl (fun r a=>r.set 1 (fop .add .f32 (r.getD 1 default) (f a))) [x,y,z,u]=[x,l.foldl (fun w a=>fop .add .f32 w (f a)) y,z,u]
  | [],_,_,_,_=>rfl
  | a :: l,x,y,z,u=>fs1 f l x (fop .add .f32 y (f a)) z u
theorem fs2 {α:Type} (f:α→Nat):∀ (l:List α) (x y z u:Nat),l.foldl (fun r a=>r.set 2 (fop .add .f32 (r.getD 2 default) (f a))) [x,y,z,u]=[x,y,l.foldl (fun w a=>fop .add .f32 w (f a)) z,u]
  | [],_,_,_,_=>rfl
  | a :: l,x,y,z,u=>fs2 f l x y (fop .add .f32 z (f a)) u
theorem fs3 {α:Type} (f:α→Nat):∀ (l:List α) (x y z u:Nat),l.foldl (fun r a=>r.set 3 (fop .add .f32 (r.getD 3 default) (f a))) [x,y,z,u]=[x,y,z,l.foldl (fun w a=>fop .add .f32 w (f a)) u]
  | [],_,_,_,_=>rfl
  | a :: l,x,y,z,u=>fs3 f l x y z (fop .add .f32 u (f a))
theorem Z8C (n i:Nat):(List.replicate n (0:Nat)).getD i default=0:=by
  rw [List.getD_eq_getElem?_getD,List.getElem?_replicate]
  split<;>rfl
theorem Z77 (b:Gb) {n:Nat} (hw:b.We=List.replicate n 0):Zu b=[b.Sp.foldl (fun w s=>fop .add .f32 w (tS b.Me.Pq s)) 0,b.Me.Tr.foldl (fun w t=>fop .add .f32 w (tT b.Film b.Me.Pq t)) 0,(Zl b.Me).foldl (fun w h=>fop .add .f32 w (tH b.Bend b.Me.Pq h)) 0,b.Me.Pq.foldl (fun w p=>fop .add .f32 w (fneg .f32 (fop .mul .f32 0 (Z1s b.Fall p)))) 0]:=by
  have h1:Z17 b=b.Sp.foldl (fun r s=>r.set 0 (fop .add .f32 (r.getD 0 default) (tS b.Me.Pq s))) [0,0,0,0] :=
    X34 (a:=b.Sp) (lo:=fun k s i=>ZV b k i s) (fun k s i=>rfl) _
  have h2:Z18 b=b.Me.Tr.foldl (fun r s=>r.set 1 (fop .add .f32 (r.getD 1 default) (tT b.Film b.Me.Pq s))) (Z17 b) :=
    X34 (a:=b.Me.Tr) (lo:=fun k s i=>ZW b k i s) (fun k s i=>rfl) _
  have h3:Z19 b=(Zl b.Me).foldl (fun r s=>r.set 2 (fop .add .f32 (r.getD 2 default) (tH b.Bend b.Me.Pq s))) (Z18 b) :=
    X34 (a:=Zl b.Me) (lo:=fun k s i=>ZX b k i s) (fun k s i=>rfl) _
  have h4:Z23 b=b.Me.Pq.foldl (fun r p=>r.set 3 (fop .add .f32 (r.getD 3 default) (fneg .f32 (fop .mul .f32 0 (Z1s b.Fall p))))) (Z19 b):=by
    refine X34 (a:=b.Me.Pq) (lo:=fun k s i=>ZQ b k i s) (fun k s i => ?_) _
    show ZQ b (k + 1) i s=_
    rw [ZQ]
    unfold Z1I
    rw [hw,Z8C]
  unfold Zu
  rw [h4,h3,h2,h1,fs0,fs1,fs2,fs3]
theorem Z5O {α:Type} {f:α→Nat}:∀ (l:List α),(∀ a∈l,f a=0∨f a=2147483648)→l.foldl (fun w a=>fop .add .f32 w (f a)) 0=0
  | [],_=>rfl
  | a :: l,h=>by
    rw [List.foldl_cons,XaN (h a List.mem_cons_self)]
    exact Z5O l fun b hb=>h b (List.mem_cons_of_mem _ hb)
theorem Z8D {a b:Nat} (ha:a=0∨a=2147483648) (hb:b=0∨b=2147483648):fop .add .f32 a b=0∨fop .add .f32 a b=2147483648:=by
  rcases ha with rfl | rfl<;>rcases hb with rfl | rfl
  · left;decide +kernel
  · left;decide +kernel
  · left;decide +kernel
  · right;decide +kernel
theorem Z7F {n:Nat} {P:List Gv} (w:Wh n P) (hl:P.length=n):P.foldl (fun w p=>fop .add .f32 w (fneg .f32 (fop .mul .f32 0 (Z1s ⟨0,0,0⟩ p)))) 0=0:=by
  refine Z5O P fun p hp => ?_
  obtain ⟨i,hi,e⟩:=List.getElem_of_mem hp
  have hk:InR n (i:Int):=⟨by omega,by omega⟩
  have e2:P.getD (i:Int).toNat default=p:=by
    rw [Int.toNat_natCast,List.getD_eq_getElem?_getD,List.getElem?_eq_getElem hi,← e];rfl
  have x:=(w.wx _ hk).1
  have y:=(w.wy _ hk).1
  have z:=(w.wz _ hk).1
  rw [e2] at x y z
  have hin:Z1s ⟨0,0,0⟩ p=0∨Z1s ⟨0,0,0⟩ p=2147483648:=Z8D (Z8D (X3T x (.inl rfl)) (X3T y (.inl rfl))) (X3T z (.inl rfl))
  refine XaO ?_
  rcases hin with h | h<;>rw [h]
  · left;decide +kernel
  · right;decide +kernel
theorem nle {a b:Nat} (h:a≤b):(a:Rat)≤(b:Rat):=Rat.natCast_le_natCast.2 h
structure Prt (b:Gb) (H:List (List Int)) (p0 p1 p2:Rat):Prop where
  v0:Vl .f32 (b.Sp.foldl (fun w s=>fop .add .f32 w (tS b.Me.Pq s)) 0) p0
  v1:Vl .f32 (b.Me.Tr.foldl (fun w t=>fop .add .f32 w (tT b.Film b.Me.Pq t)) 0) p1
  v2:Vl .f32 (H.foldl (fun w h=>fop .add .f32 w (tH b.Bend b.Me.Pq h)) 0) p2
  n0:Ab (p0 - rsum (fun s=>vW (tS b.Me.Pq s)) b.Sp) (8 / 100000)
  n1:Ab (p1 - rsum (fun t=>vW (tT b.Film b.Me.Pq t)) b.Me.Tr) (3 / 100000)
  n2:Ab (p2 - rsum (fun h=>vW (tH b.Bend b.Me.Pq h)) H) (1 / 100000)
  b0:0≤p0∧p0≤53
  b1:0≤p1∧p1≤29
  b2:0≤p2∧p2≤8
theorem Z8E {b:Gb} {H:List (List Int)} (l0:b.Sp.length≤23) (l1:b.Me.Tr.length≤12) (l2:H.length≤13)
    (h0:∀ s∈b.Sp,Fw (tS b.Me.Pq s) (226 / 100)∧0≤vW (tS b.Me.Pq s)) (h1:∀ t∈b.Me.Tr,Fw (tT b.Film b.Me.Pq t) (24 / 10)∧0≤vW (tT b.Film b.Me.Pq t)) (h2:∀ h∈H,Fw (tH b.Bend b.Me.Pq h) (6 / 10)∧0≤vW (tH b.Bend b.Me.Pq h)) :
    ∃ p0 p1 p2,Prt b H p0 p1 p2:=by
  have c0:=nle l0
  have c1:=nle l1
  have c2:=nle l2
  have e0:((23:Nat):Rat)=23:=rfl
  have e1:((12:Nat):Rat)=12:=rfl
  have e2:((13:Nat):Rat)=13:=rfl
  rw [e0] at c0
  rw [e1] at c1
  rw [e2] at c2
  obtain ⟨p0,V0,N0,B0,z0⟩:=X5i (f:=fun s=>tS b.Me.Pq s) (B:=226 / 100) (S:=53) (by decide +kernel) (by decide +kernel) (by decide +kernel) (l:=b.Sp) (fun a ha=>(h0 a ha).1) (by grind)
  obtain ⟨p1,V1,N1,B1,z1⟩:=X5i (f:=fun s=>tT b.Film b.Me.Pq s) (B:=24 / 10) (S:=29) (by decide +kernel) (by decide +kernel) (by decide +kernel) (l:=b.Me.Tr) (fun a ha=>(h1 a ha).1) (by grind)
  obtain ⟨p2,V2,N2,B2,z2⟩:=X5i (f:=fun s=>tH b.Bend b.Me.Pq s) (B:=6 / 10) (S:=8) (by decide +kernel) (by decide +kernel) (by decide +kernel) (l:=H) (fun a ha=>(h2 a ha).1) (by grind)
  have z0:=z0 fun a ha=>(h0 a ha).2
  have z1:=z1 fun a ha=>(h1 a ha).2
  have z2:=z2 fun a ha=>(h2 a ha).2
  unfold Ab at *
  exact ⟨p0,p1,p2,V0,V1,V2,by unfold Ab;grind,by unfold Ab;grind,by unfold Ab;grind,⟨z0,B0.2⟩,⟨z1,B1.2⟩,⟨z2,B2.2⟩⟩
theorem Z6A (b:Gb):Z1n b=fop .add .f32 (fop .add .f32 (fop .add .f32 ((Zu b).getD 0 default) ((Zu b).getD 1 default)) ((Zu b).getD 2 default)) ((Zu b).getD 3 default):=rfl
theorem Z7G {b:Gb} {H:List (List Int)} {n:Nat} {p0 p1 p2:Rat} (hp:Prt b H p0 p1 p2) (hw:b.We=List.replicate n 0) (hf:b.Fall=⟨0,0,0⟩) (hh:Zl b.Me=H) (w:Wh n b.Me.Pq) (hl:b.Me.Pq.length=n) :
    ∃ q,Vl .f32 (Z1n b) q∧Ab (q - (p0 + p1 + p2)) (2 / 100000)∧Ab q 100:=by
  have t:=X2a .f32
  have u:uK .f32=1 / 16777216:=rfl
  have top:(100:Rat) < (2:Rat)^(topE .f32):=by decide +kernel
  obtain ⟨a,V,N⟩:=addV hp.v0 hp.v1 (B:=82) (by have:=hp.b0;have:=hp.b1;grind) (by have:=hp.b0;have:=hp.b1;grind) (by grind)
  rw [u] at N
  unfold Nr at N
  have b0:=hp.b0
  have b1:=hp.b1
  have b2:=hp.b2
  obtain ⟨c,V2,N2⟩:=addV V hp.v2 (B:=91) (by grind) (by grind) (by grind)
  rw [u] at N2
  unfold Nr at N2
  obtain ⟨d,V3,N3⟩:=addV V2 X32 (B:=92) (by grind) (by grind) (by grind)
  rw [u] at N3
  unfold Nr at N3
  refine ⟨d,?_,by unfold Ab;grind,by unfold Ab;grind⟩
  rw [Z6A,Z77 b hw,hh,hf]
  rw [Z7F w hl]
  exact V3
theorem Zab:(edgL 4 gd11.Tr).map (fun e => [e.e0,e.e1])=ge11:=by kernel_rfl
theorem Zac:(edgL 6 gd12.Tr).map (fun e => [e.e0,e.e1])=ge12:=by kernel_rfl
theorem Zad:(edgL 6 gd21.Tr).map (fun e => [e.e0,e.e1])=ge21:=by kernel_rfl
theorem Zae:(edgL 9 gd22.Tr).map (fun e => [e.e0,e.e1])=ge22:=by kernel_rfl
theorem Zaf:(edgL 8 gd31.Tr).map (fun e => [e.e0,e.e1])=ge31:=by kernel_rfl
theorem Zag:(edgL 12 gd32.Tr).map (fun e => [e.e0,e.e1])=ge32:=by kernel_rfl
theorem Z7Y {G:Gm} {E:List (List Int)} (h:GD G E):(edgL G.Pq.length G.Tr).map (fun e => [e.e0,e.e1])=E:=by
  cases h
  · exact Zab
  · exact Zac
  · exact Zad
  · exact Zae
  · exact Zaf
  · exact Zag
theorem Z8q {b:Gb} {P:List Gv} (hl:P.length=b.Me.Pq.length):Zm ⟨⟨P,b.Me.Tr⟩,b.Sp,b.Film,b.Bend,b.We,b.Fall⟩=Zm b:=by
  rw [Z3y,Z3y,Z2p (m:=⟨P,b.Me.Tr⟩) (m':=b.Me) hl rfl]
  simp only [hl]
theorem Z8i {b:Gb} {G:Gm} {E H:List (List Int)} (B:Bod b G E H 9) (hq:∀ e∈E,dQ b.Me.Pq (e.getD 0 default) (e.getD 1 default)≤13216):∃ p0 p1 p2,Prt b H p0 p1 p2:=by
  have h1:=B.tab.ne
  have h2:=B.tab.nt
  refine Z8E (by have:=B.slen;omega) (by rw [B.tri];exact h2) B.tab.nh (fun s hs => ?_) (fun t ht => ?_) (fun h hh => ?_)
  · obtain ⟨e,x,y,he,hE,hx,hy,es⟩:=Z6D B hs
    rw [es];exact Z95 B.pl hE (hq e he) hx hy
  · obtain ⟨x,hx,ef⟩:=B.film
    rw [B.tri] at ht
    rw [ef];exact Z97 B.pl (B.tab.tr t ht) hx
  · obtain ⟨x,hx,eb⟩:=B.bend
    have bd:=h_bd B.pl (by decide) (B.tab.hi h hh)
    obtain ⟨v,q0,q1⟩:=tH_v (Z7r B.pl (by decide)) (B.tab.hi h hh) bd.1 bd.2.1 bd.2.2 hx
    rw [eb];exact Z98 hx v q0 q1
theorem Z7Z {b:Gb} {G:Gm} {E H:List (List Int)} {r r':Int} (B:Bod b G E H r) (h:r≤r'):Bod b G E H r' :=
  ⟨B.tab,Z5q B.pl h,B.tri,B.hin,B.slen,B.spr,B.film,B.bend,B.wts,B.fall⟩
theorem Z6E {b:Gb} {G:Gm} {E H:List (List Int)} (B:Bod b G E H 8):∀ e∈E,dQ b.Me.Pq (e.getD 0 default) (e.getD 1 default)≤13216:=fun e he=>by
  have:=(Z9X B.pl (by decide) (by decide) (B.tab.ed e he)).2
  omega
theorem Z8j {b:Gb} {G:Gm} {E H:List (List Int)} (T:GT G E H) (p:Pl G b.Me.Pq 9) (ht:b.Me.Tr=G.Tr) (hh:Zl b.Me=H) (h0:b.Film=0) (h1:b.Bend=0) (hw:b.We=List.replicate G.Pq.length 0) (hf:b.Fall=⟨0,0,0⟩) (hs:∀ s∈b.Sp,tS b.Me.Pq s=0∨tS b.Me.Pq s=2147483648):Z1n b=0:=by
  have e0:=Z5O (f:=fun s=>tS b.Me.Pq s) b.Sp hs
  have e1:=Z5O (f:=fun t=>tT b.Film b.Me.Pq t) b.Me.Tr fun t htm=>by
    rw [ht] at htm
    obtain ⟨N,V,-,-,-,n0,n1⟩:=Z8B p (T.tr t htm) rfl
    obtain ⟨h,Vh,-⟩:=mulV X3S V (B:=10) (by grind) (by grind) (by decide +kernel)
    show tT b.Film b.Me.Pq t=0∨tT b.Film b.Me.Pq t=2147483648
    rw [h0]
    exact X3T Vh (.inl rfl)
  have e2:=Z5O (f:=fun h=>tH b.Bend b.Me.Pq h) H fun h hm=>by
    have bd:=h_bd p (by decide) (T.hi h hm)
    obtain ⟨i1,i2,i3⟩:=hW_I (Z7r p (by decide)) (T.hi h hm)
    have s:=sqs6 i1 i2 i3 (by omega) (by omega) (by omega) (by omega) (by omega) (by omega)
    show tH b.Bend b.Me.Pq h=0∨tH b.Bend b.Me.Pq h=2147483648
    rw [h1]
    unfold tH
    rw [show fop .mul .f32 X31 0=0 from by decide +kernel]
    exact X3T s (.inl rfl)
  rw [Z6A,Z77 b hw,hh,hf,Z7F (Z7r p (by decide)) p.len]
  show fop .add .f32 (fop .add .f32 (fop .add .f32 (b.Sp.foldl _ 0) (b.Me.Tr.foldl _ 0)) (H.foldl _ 0)) 0=0
  rw [e0,e1,e2];decide +kernel
theorem Z9v {b:Gb} {G:Gm} {E H:List (List Int)} (B:Bod b G E H 8):Z1n ⟨b.Me,[],0,0,List.replicate (b.Me.Pq.length:Int).toNat 0,⟨0,0,0⟩⟩=0 :=
  Z8j (b:=⟨b.Me,[],0,0,List.replicate (b.Me.Pq.length:Int).toNat 0,⟨0,0,0⟩⟩) B.tab (Z5q B.pl (by decide)) B.tri B.hin rfl rfl (by rw [Int.toNat_natCast,B.pl.len]) rfl (fun s hs=>by cases hs)
theorem Z9w {b:Gb} {G:Gm} {E H:List (List Int)} (B:Bod b G E H 8) (hv:Zn b.Me=true) (hE:(edgL G.Pq.length G.Tr).map (fun e => [e.e0,e.e1])=E) :
    Z1n ⟨b.Me,Zt b.Me 1077936128,0,0,List.replicate (b.Me.Pq.length:Int).toNat 0,⟨0,0,0⟩⟩=0∧(Zt b.Me 1077936128).length=b.Sp.length:=by
  have he:(Z5 b.Me).2=edgL G.Pq.length G.Tr:=by rw [Z43 _ (Z1O _ hv),B.pl.len,B.tri]
  constructor
  · refine Z8j (b:=⟨b.Me,Zt b.Me 1077936128,0,0,List.replicate (b.Me.Pq.length:Int).toNat 0,⟨0,0,0⟩⟩) B.tab (Z5q B.pl (by decide)) B.tri B.hin rfl rfl (by rw [Int.toNat_natCast,B.pl.len]) rfl fun s hs => ?_
    have hs:s∈Zt b.Me 1077936128:=hs
    rw [Z5D,he] at hs
    obtain ⟨e,hem,es⟩:=List.mem_map.1 hs
    have hm:[e.e0,e.e1]∈E:=by rw [← hE];exact List.mem_map.2 ⟨e,hem,rfl⟩
    have hP:EdP G [e.e0,e.e1]:=B.tab.ed _ hm
    obtain ⟨l,V,-⟩:=Z7q (Z5q B.pl (r':=9) (by decide)) hP (Z6E B _ hm) rfl
    have V:Vl .f32 (Zr (dW b.Me.Pq e.e0 e.e1)) l:=V
    have hl:Z1d b.Me e=Zr (dW b.Me.Pq e.e0 e.e1):=X7m _ _ _ _ _ _
    left
    rw [← es]
    show sprW (Zr (dW b.Me.Pq e.e0 e.e1)) (Z1d b.Me e) 1077936128=0
    rw [hl]
    unfold sprW
    rw [X8F V]
    decide +kernel
  · rw [Z5D,he,List.length_map,B.slen,← hE,List.length_map]
theorem Z8X {w:Nat} {q:Rat} (h:Vl .f32 w q):fcmp .neq .f32 w w=false:=by rw [X9t];exact Xao h
theorem Z8r (b:Gb) (by_:List Gv) (v:Gv) (hl:by_.length=b.Me.Pq.length) (hv:∀ j,j < by_.length→by_.getD j default=v):∀ (k:Nat) (i:Int) (r:List Gv),0≤i→i≤(by_.length:Int)→((by_.length:Int) - i).toNat < k→r.length=b.Me.Pq.length →
    (∀ j,j < i.toNat→r.getD j default=ZD (b.Me.Pq.getD j default) (ZK v 1065353216))→(∀ j,i.toNat≤j→r.getD j default=b.Me.Pq.getD j default) →
    (ZZ b by_ 1065353216 k i r).length=b.Me.Pq.length∧∀ j,j < b.Me.Pq.length→(ZZ b by_ 1065353216 k i r).getD j default=ZD (b.Me.Pq.getD j default) (ZK v 1065353216):=by
  intro k
  induction k with
  | zero=>intro i r _ _ hk;exact absurd hk (Nat.not_lt_zero _)
  | succ k ih =>
    intro i r h0 h1 hk hr hd hu
    rw [ZZ]
    by_cases hi:i < (by_.length:Int)
    · rw [decide_eq_true hi,cond_true]
      refine ih (i + 1) _ (by omega) (by omega) (by omega) (by rw [List.length_set];exact hr) ?_ ?_
      · intro j hj
        by_cases hji:j=i.toNat
        · rw [hji,Z7I (by omega),hv _ (by omega),hu _ (Nat.le_refl _)]
        · rw [Z6B (fun h=>hji h.symm)]
          exact hd j (by omega)
      · intro j hj
        rw [Z6B (by omega)]
        exact hu j (by omega)
    · rw [decide_eq_false hi,cond_false]
      exact ⟨hr,fun j hj=>hd j (by omega)⟩
theorem Z9Z (a p:List Int) {j:Nat} (hj:j < (Z2 a).Me.Pq.length):(Zb a p).getD j default=Zk p 3:=by
  unfold Zb
  rw [X1k (n:=(((Z2 a).Me.Pq).length:Int)) (lo:=Z1b a p) (fun k i r=>rfl) _ _ _ (Nat.lt_succ_self _)]
  rw [List.nil_append,List.getD_eq_getElem?_getD,List.getElem?_map,List.getElem?_range (by omega)];rfl
def shI (v:Nat):Bool:=decide (vl (Ieee.single.read (fop .mul .f32 (shW v) 1065353216))=some (((64 * ((v:Int) - 3):Int):Rat) / 64))
theorem Z9x:((List.range 7).all shI)=true:=by decide +kernel
theorem Z80 {v:Nat} (h:v < 7):I6 (fop .mul .f32 (shW v) 1065353216) (64 * ((v:Int) - 3)):=by
  have h:=List.all_eq_true.1 Z9x v (List.mem_range.2 h)
  unfold shI at h
  have h:=odt h
  exact h
theorem vec3 {p:List Int} (hp:OkB p):∃ x y z:Nat,x < 7∧y < 7∧z < 7∧Zk p 3=⟨shW x,shW y,shW z⟩:=by
  have e7:IntKind.wrap .i64 (IntKind.wrap .i64 (2 * 3) + 1)=7:=by decide +kernel
  have q1:=Z14 (Z1 p) 7 ⟨Int.le_refl 0,by show (0:Int)≤_;omega⟩
  have b1:=Z2J (Z1 p) 7 hp (Int.le_refl 0) (by omega) (by omega)
  have q1:(0:Int)≤(Z0 (Z1 p) 7).2.1∧(Z0 (Z1 p) 7).2.1≤0 + 2:=q1
  unfold Zk Z2z ZB
  rw [e7]
  generalize Z0 (Z1 p) 7=r1 at *
  have q2:=Z14 (⟨(Z1 p).code,r1.2.1,r1.2.2⟩:Gl00Src) 7 ⟨by show 0≤r1.2.1;omega,by show r1.2.1≤_;omega⟩
  have b2:=Z2J (⟨(Z1 p).code,r1.2.1,r1.2.2⟩:Gl00Src) 7 hp (by show 0≤r1.2.1;omega) (by omega) (by omega)
  generalize Z0 (⟨(Z1 p).code,r1.2.1,r1.2.2⟩:Gl00Src) 7=r2 at *
  have q2:r1.2.1≤r2.2.1∧r2.2.1≤r1.2.1 + 2:=q2
  have b3:=Z2J (⟨(Z1 p).code,r2.2.1,r2.2.2⟩:Gl00Src) 7 hp (by show 0≤r2.2.1;omega) (by omega) (by omega)
  generalize Z0 (⟨(Z1 p).code,r2.2.1,r2.2.2⟩:Gl00Src) 7=r3 at *
  refine ⟨r1.1.toNat,r2.1.toNat,r3.1.toNat,by omega,by omega,by omega,?_⟩
  unfold shW
  rw [Int.toNat_of_nonneg b1.1,Int.toNat_of_nonneg b2.1,Int.toNat_of_nonneg b3.1]
theorem Z8Y {b:Gb} {G:Gm} {E H:List (List Int)} (S:Smth b G E) (B:Bod b G E H 8) {P':List Gv} (hl:P'.length=b.Me.Pq.length):Zl ⟨P',b.Me.Tr⟩=H:=by
  obtain ⟨H',hH',-⟩:=Z8A S.gd
  have e1:=hH' b.Me.Pq S.len
  have e2:=hH' P' (hl.trans S.len)
  have e3:(⟨b.Me.Pq,G.Tr⟩:Gm)=b.Me:=by rw [← S.tri]
  rw [e3] at e1
  rw [S.tri,e2,← e1];exact B.hin
theorem Z64 {α:Type} {f g:α→Nat}:∀ (l:List α) (a:Nat),(∀ s∈l,f s=g s)→l.foldl (fun w s=>fop .add .f32 w (f s)) a=l.foldl (fun w s=>fop .add .f32 w (g s)) a
  | [],_,_=>rfl
  | s :: l,a,h=>by rw [List.foldl_cons,List.foldl_cons,h s List.mem_cons_self];exact Z64 l _ fun x hx=>h x (List.mem_cons_of_mem _ hx)
set_option maxHeartbeats 1000000 in
theorem Z8Z {b:Gb} {G:Gm} {E H:List (List Int)} (S:Smth b G E) (B:Bod b G E H 8) {P':List Gv} {x y z:Nat} (ux:x < 7) (uy:y < 7) (uz:z < 7) (hl:P'.length=b.Me.Pq.length) (hP:∀ j,j < b.Me.Pq.length→P'.getD j default=ZD (b.Me.Pq.getD j default) (ZK ⟨shW x,shW y,shW z⟩ 1065353216)) :
    ∃ q q',Vl .f32 (Z1n b) q∧Vl .f32 (Z1n ⟨⟨P',b.Me.Tr⟩,b.Sp,b.Film,b.Bend,b.We,b.Fall⟩) q'∧Ab (q' - q) (1 / 1000)∧Ab q 100:=by
  have B9:=Z7Z B (r':=9) (by decide)
  have w:=Z7r B9.pl (by decide)
  have hlen:=B.pl.len
  have sx:=Z80 ux
  have sy:=Z80 uy
  have sz:=Z80 uz
  have atx:∀ k:Int,InR G.Pq.length k→P'.getD k.toNat default=⟨fop .add .f32 (b.Me.Pq.getD k.toNat default).X (fop .mul .f32 (shW x) 1065353216),fop .add .f32 (b.Me.Pq.getD k.toNat default).Y (fop .mul .f32 (shW y) 1065353216),fop .add .f32 (b.Me.Pq.getD k.toNat default).Z (fop .mul .f32 (shW z) 1065353216)⟩:=fun k hk=>hP k.toNat (by omega)
  have wx:∀ k:Int,InR G.Pq.length k→I6 (P'.getD k.toNat default).X (cX b.Me.Pq k + 64 * ((x:Int) - 3))∧I6 (P'.getD k.toNat default).Y (cY b.Me.Pq k + 64 * ((y:Int) - 3))∧I6 (P'.getD k.toNat default).Z (cZ b.Me.Pq k + 64 * ((z:Int) - 3)):=by
    intro k hk
    rw [atx k hk]
    have g1:=Z7n G k
    have g2:=Z7o G k
    have g3:=Z7p G k
    have p1:=B.pl.wx k hk
    have p2:=B.pl.wy k hk
    have p3:=B.pl.wz k hk
    exact ⟨add6 p1.1 sx (by omega) (by omega),add6 p2.1 sy (by omega) (by omega),add6 p3.1 sz (by omega) (by omega)⟩
  have cx:∀ k:Int,InR G.Pq.length k→cX P' k=cX b.Me.Pq k + 64 * ((x:Int) - 3):=fun k hk=>Z6C (wx k hk).1
  have cy:∀ k:Int,InR G.Pq.length k→cY P' k=cY b.Me.Pq k + 64 * ((y:Int) - 3):=fun k hk=>Z6C (wx k hk).2.1
  have cz:∀ k:Int,InR G.Pq.length k→cZ P' k=cZ b.Me.Pq k + 64 * ((z:Int) - 3):=fun k hk=>Z6C (wx k hk).2.2
  have w':Wh G.Pq.length P':=by
    refine ⟨fun k hk => ?_,fun k hk => ?_,fun k hk => ?_⟩
    · have g:=Z7n G k
      have p:=B.pl.wx k hk
      rw [cx k hk];exact ⟨(wx k hk).1,by omega,by omega⟩
    · have g:=Z7o G k
      have p:=B.pl.wy k hk
      rw [cy k hk];exact ⟨(wx k hk).2.1,by omega,by omega⟩
    · have g:=Z7p G k
      have p:=B.pl.wz k hk
      rw [cz k hk];exact ⟨(wx k hk).2.2,by omega,by omega⟩
  have hm:∀ k:Int,InR G.Pq.length k→G.Pq.getD k.toNat default∈G.Pq:=by
    intro k hk
    rw [List.getD_eq_getElem?_getD,List.getElem?_eq_getElem (by omega)];exact List.getElem_mem _
  have hdW:∀ A C:Int,InR G.Pq.length A→InR G.Pq.length C→dW P' A C=dW b.Me.Pq A C:=by
    intro A C hA hC
    obtain ⟨x1,y1,z1,k1,k2,k3,eA⟩:=S.plc A.toNat (by omega)
    obtain ⟨x2,y2,z2,k4,k5,k6,eC⟩:=S.plc C.toNat (by omega)
    have a1:=Z8n (B.tab.pl _ (hm C hC)).1 (B.tab.pl _ (hm A hA)).1 k4 k1 ux
    have a2:=Z8n (B.tab.pl _ (hm C hC)).2.1 (B.tab.pl _ (hm A hA)).2.1 k5 k2 uy
    have a3:=Z8n (B.tab.pl _ (hm C hC)).2.2 (B.tab.pl _ (hm A hA)).2.2 k6 k3 uz
    unfold dW ZM
    rw [atx A hA,atx C hC,eA,eC]
    simp only
    rw [a1,a2,a3]
  have hS:∀ s∈b.Sp,tS P' s=tS b.Me.Pq s:=by
    intro s hs
    obtain ⟨e,u,v,he,hE,hu,hv,es⟩:=Z6D B hs
    unfold tS
    rw [hdW _ _ (by rw [es];exact hE.1) (by rw [es];exact hE.2.1)]
  have hT:∀ t∈G.Tr,tT b.Film P' t=tT b.Film b.Me.Pq t:=by
    intro t ht
    obtain ⟨-,h0,h1,h2,-⟩:=B.tab.tr t ht
    unfold tT nW
    rw [hdW _ _ h0 h1,hdW _ _ h0 h2]
  have hH:∀ h∈H,(Fw (tH b.Bend P' h) (6 / 10)∧0≤vW (tH b.Bend P' h))∧vW (tH b.Bend P' h)=vW (tH b.Bend b.Me.Pq h):=by
    intro h hh
    obtain ⟨u,hu,eb⟩:=B.bend
    have hP:=B.tab.hi h hh
    obtain ⟨-,⟨h0,h1,h2,h3⟩,-⟩:=hP
    have bd:=h_bd B9.pl (by decide) (B.tab.hi h hh)
    have ex:hx P' h=hx b.Me.Pq h:=by unfold hx;rw [cx _ h0,cx _ h1,cx _ h2,cx _ h3];omega
    have ey:hy P' h=hy b.Me.Pq h:=by unfold hy;rw [cy _ h0,cy _ h1,cy _ h2,cy _ h3];omega
    have ez:hz P' h=hz b.Me.Pq h:=by unfold hz;rw [cz _ h0,cz _ h1,cz _ h2,cz _ h3];omega
    have eq:hQ P' h=hQ b.Me.Pq h:=by unfold hQ;rw [ex,ey,ez]
    obtain ⟨v,q0,q1⟩:=tH_v w (B.tab.hi h hh) bd.1 bd.2.1 bd.2.2 hu
    obtain ⟨v',-,-⟩:=tH_v w' (B.tab.hi h hh) (by rw [ex];exact bd.1) (by rw [ey];exact bd.2.1) (by rw [ez];exact bd.2.2) hu
    rw [eq] at v'
    rw [eb]
    exact ⟨Z98 hu v' q0 q1,by rw [X33 v,X33 v']⟩
  obtain ⟨p0,p1,p2,R⟩:=Z8i B9 (Z6E B)
  have R':∃ p0' p1' p2',Prt ⟨⟨P',b.Me.Tr⟩,b.Sp,b.Film,b.Bend,b.We,b.Fall⟩ H p0' p1' p2':=by
    have h1:=B.tab.ne
    have h2:=B.tab.nt
    refine Z8E (b:=⟨⟨P',b.Me.Tr⟩,b.Sp,b.Film,b.Bend,b.We,b.Fall⟩) (by have:=B.slen;show b.Sp.length≤23;omega) (by show b.Me.Tr.length≤12;rw [B.tri];exact h2) B.tab.nh (fun s hs => ?_) (fun t ht => ?_) (fun h hh=>(hH h hh).1)
    · show Fw (tS P' s) _∧0≤vW (tS P' s)
      rw [hS s hs]
      obtain ⟨e,x,y,he,hE,hx,hy,es⟩:=Z6D B hs
      rw [es];exact Z95 B9.pl hE (Z6E B e he) hx hy
    · have ht:t∈b.Me.Tr:=ht
      rw [B.tri] at ht
      show Fw (tT b.Film P' t) _∧0≤vW (tT b.Film P' t)
      rw [hT t ht]
      obtain ⟨x,hx,ef⟩:=B.film
      rw [ef];exact Z97 B9.pl (B.tab.tr t ht) hx
  obtain ⟨p0',p1',p2',R'⟩:=R'
  obtain ⟨q,V,N,bq⟩:=Z7G R B.wts B.fall B.hin w B.pl.len
  obtain ⟨q',V',N',-⟩:=Z7G R' B.wts B.fall (Z8Y S B hl) w' (by show P'.length=_;rw [hl];exact B.pl.len)
  have f0:b.Sp.foldl (fun w s=>fop .add .f32 w (tS P' s)) 0=b.Sp.foldl (fun w s=>fop .add .f32 w (tS b.Me.Pq s)) 0:=Z64 _ _ hS
  have f1:b.Me.Tr.foldl (fun w s=>fop .add .f32 w (tT b.Film P' s)) 0=b.Me.Tr.foldl (fun w s=>fop .add .f32 w (tT b.Film b.Me.Pq s)) 0:=Z64 _ _ (by rw [B.tri];exact hT)
  have g0:Vl .f32 (b.Sp.foldl (fun w s=>fop .add .f32 w (tS P' s)) 0) p0':=R'.v0
  have g1:Vl .f32 (b.Me.Tr.foldl (fun w s=>fop .add .f32 w (tT b.Film P' s)) 0) p1':=R'.v1
  rw [f0] at g0
  rw [f1] at g1
  have h0:=X7j g0 R.v0
  have h1:=X7j g1 R.v1
  have n2:=R.n2
  have er:rsum (fun h=>vW (tH b.Bend P' h)) H=rsum (fun h=>vW (tH b.Bend b.Me.Pq h)) H:=X4T fun h hh=>(hH h hh).2
  have m2:Ab (p2' - rsum (fun h=>vW (tH b.Bend P' h)) H) (1 / 100000):=R'.n2
  rw [er] at m2
  refine ⟨q,q',V,V',?_,bq⟩
  rw [h0,h1] at N'
  unfold Ab at *
  generalize rsum (fun h=>vW (tH b.Bend b.Me.Pq h)) H=R2 at *
  grind
theorem Z8F {d:Gv} {s:Gs} {l:Rat} (hl:Vl .f32 (Zr d) l) (h0:7 / 10≤l):Z22 d s=pulW (Zr d) s.Long s.Stiff:=by
  unfold Z22
  rw [gtrV hl X32,decide_eq_true (by grind),cond_true];rfl
theorem Z9y {b:Gb} {G:Gm} {E H:List (List Int)} (B:Bod b G E H 8) {s:Gs} (hs:s∈b.Sp) :
    fcmp .gtr .f64 (Z2A (fcv .f32 .f64 (Z32 (ZK (dW b.Me.Pq s.A s.B) (Z22 (dW b.Me.Pq s.A s.B) s)))) (fmax .f64 (fop .mul .f64 (fop .mul .f64 (fcv .f32 .f64 s.Stiff) (fcv .f32 .f64 (fop .sub .f32 (fop .quo .f32 (Zr (dW b.Me.Pq s.A s.B)) s.Long) 1065353216))) (fcv .f32 .f64 s.Long)) (fneg .f64 (fop .mul .f64 (fop .mul .f64 (fcv .f32 .f64 s.Stiff) (fcv .f32 .f64 (fop .sub .f32 (fop .quo .f32 (Zr (dW b.Me.Pq s.A s.B)) s.Long) 1065353216))) (fcv .f32 .f64 s.Long))))) 4576918229304087675=false:=by
  obtain ⟨e,x,y,he,hE,hx,hy,es⟩:=Z6D B hs
  have p9:=Z5q B.pl (r':=9) (by decide)
  obtain ⟨i1,i2,i3,-⟩:=dW_I p9 (by decide) hE.1 hE.2.1
  obtain ⟨l,V,l0,d1,d2,l1,l2⟩:=Z7q p9 hE (Z6E B e he) rfl
  obtain ⟨L,VL,L0,L1⟩:=Z93 hx
  obtain ⟨k,Vk,k0,k1⟩:=Z94 hy
  have eA:s.A=e.getD 0 default:=by rw [es]
  have eB:s.B=e.getD 1 default:=by rw [es]
  have eL:s.Long=lngW (x:Int):=by rw [es]
  have eK:s.Stiff=stfW (y:Int):=by rw [es]
  rw [eA,eB]
  generalize hd:dW b.Me.Pq (e.getD 0 default) (e.getD 1 default)=d at *
  rw [Z8F V l1,eL,eK]
  obtain ⟨g,Vg,Ng,Bg⟩:=X9F V l1 l2 VL L0 L1 Vk k0 k1
  obtain ⟨w,Vw,Nw⟩:=Xar V l1 l2 VL L0 L1 Vk k0 k1
  unfold Nr at Ng
  have kb:=X19 (x:=k) (A:=2) (y:=l - L) (B:=133 / 100) (by unfold Ab;grind) (by unfold Ab;grind)
  unfold Ab at kb
  have hD:(((dQ b.Me.Pq (e.getD 0 default) (e.getD 1 default):Int):Rat) / 4096)=((cX b.Me.Pq (e.getD 1 default) - cX b.Me.Pq (e.getD 0 default):Int):Rat) / 64 * (((cX b.Me.Pq (e.getD 1 default) - cX b.Me.Pq (e.getD 0 default):Int):Rat) / 64) + ((cY b.Me.Pq (e.getD 1 default) - cY b.Me.Pq (e.getD 0 default):Int):Rat) / 64 * (((cY b.Me.Pq (e.getD 1 default) - cY b.Me.Pq (e.getD 0 default):Int):Rat) / 64) + ((cZ b.Me.Pq (e.getD 1 default) - cZ b.Me.Pq (e.getD 0 default):Int):Rat) / 64 * (((cZ b.Me.Pq (e.getD 1 default) - cZ b.Me.Pq (e.getD 0 default):Int):Rat) / 64):=by
    unfold dQ
    rw [Rat.intCast_add,Rat.intCast_add,Rat.intCast_mul,Rat.intCast_mul,Rat.intCast_mul]
    grind
  have hX:∃ X,0≤X∧(X=g * l∨X=-(g * l)):=by
    rcases Rat.le_total (a:=0) (b:=g * l) with h | h
    · exact ⟨g * l,h, .inl rfl⟩
    · exact ⟨-(g * l),by grind, .inr rfl⟩
  obtain ⟨X,X0,X1⟩:=hX
  obtain ⟨Q,VQ,NQ⟩:=X9H i1 i2 i3 Vg hD d1 d2 (X:=X) (by unfold Ab;grind) X0 X1
  obtain ⟨c,Vc,c1,c2,c3⟩:=Xb3 Vw (XaP Vw)
  have hc:Ab (Q - c) (5 / 1000):=by
    unfold Ab at *
    generalize k * (l - L)=K at *
    generalize g * l=M at *
    rcases c1 with h | h<;>rcases X1 with h' | h'<;>grind
  obtain ⟨r,Vr,hr⟩:=X7n (X2I VQ) Vc hc (by decide +kernel)
  have hcst:Vl .f64 4576918229304087675 (5764607523034235 / 576460752303423488):=by unfold Vl;decide +kernel
  have e2:fcmp .gtr .f64 (gapW (fcv .f32 .f64 (lenW (fop .mul .f32 d.X (pulW (Zr d) (lngW (x:Int)) (stfW (y:Int)))) (fop .mul .f32 d.Y (pulW (Zr d) (lngW (x:Int)) (stfW (y:Int)))) (fop .mul .f32 d.Z (pulW (Zr d) (lngW (x:Int)) (stfW (y:Int)))))) (fmax .f64 (fop .mul .f64 (fop .mul .f64 (fcv .f32 .f64 (stfW (y:Int))) (fcv .f32 .f64 (fop .sub .f32 (fop .quo .f32 (Zr d) (lngW (x:Int))) 1065353216))) (fcv .f32 .f64 (lngW (x:Int)))) (fneg .f64 (fop .mul .f64 (fop .mul .f64 (fcv .f32 .f64 (stfW (y:Int))) (fcv .f32 .f64 (fop .sub .f32 (fop .quo .f32 (Zr d) (lngW (x:Int))) 1065353216))) (fcv .f32 .f64 (lngW (x:Int))))))) 4576918229304087675=false:=by
    rw [gtrV Vr hcst]
    exact decide_eq_false (by grind)
  exact e2
theorem Z9z {b:Gb} {G:Gm} {E H:List (List Int)} (S:Smth b G E) (B:Bod b G E H 8):∃ L,Zi b.Me 1077936128=(⟨b.Me,L,0,0,List.replicate (b.Me.Pq.length:Int).toNat 0,⟨0,0,0⟩⟩,true)∧L.length=b.Sp.length∧Z1n ⟨b.Me,L,0,0,List.replicate (b.Me.Pq.length:Int).toNat 0,⟨0,0,0⟩⟩=0∧Zm ⟨b.Me,L,0,0,List.replicate (b.Me.Pq.length:Int).toNat 0,⟨0,0,0⟩⟩=true:=by
  have hm:=Z5p S
  have hr:=Z9w B hm (Z7Y S.gd)
  have he:(Z5 b.Me).2=edgL G.Pq.length G.Tr:=by rw [Z43 _ (Z1O _ hm),B.pl.len,B.tri]
  have hlong:∀ e∈E,EdP G e→∃ l,Vl .f32 (Zr (dW b.Me.Pq (e.getD 0 default) (e.getD 1 default))) l∧0≤l:=fun e he hP=>by
    obtain ⟨l,V,l0,-⟩:=Z7q (Z5q B.pl (r':=9) (by decide)) hP (Z6E B _ he) rfl
    exact ⟨l,V,l0⟩
  have hv:Zm ⟨b.Me,Zt b.Me 1077936128,0,0,List.replicate (b.Me.Pq.length:Int).toNat 0,⟨0,0,0⟩⟩=true:=by
    have n2:=B.tab.ne
    have n1:=B.tab.n1
    have nl:=B.pl.len
    have ns:=B.slen
    have hl:=hr.2
    rw [Z3y]
    simp only
    rw [hm,cond_true,decide_eq_false (by omega),cond_false,List.length_replicate,Int.toNat_natCast,bne_self_eq_false,cond_false,List.all_eq_true]
    intro s hs
    rw [Z5D,he] at hs
    obtain ⟨e,hem,es⟩:=List.mem_map.1 hs
    have hme:[e.e0,e.e1]∈E:=by rw [← Z7Y S.gd];exact List.mem_map.2 ⟨e,hem,rfl⟩
    have hP:EdP G [e.e0,e.e1]:=B.tab.ed _ hme
    obtain ⟨l,V,l0⟩:=hlong _ hme hP
    have V:Vl .f32 (Zr (dW b.Me.Pq e.e0 e.e1)) l:=V
    have hlg:Z1d b.Me e=Zr (dW b.Me.Pq e.e0 e.e1):=X7m _ _ _ _ _ _
    obtain ⟨⟨q1,q2⟩,⟨q3,q4⟩,q5,-⟩:=hP
    have q1:0≤e.e0:=q1
    have q2:e.e0 < (G.Pq.length:Int):=q2
    have q3:0≤e.e1:=q3
    have q4:e.e1 < (G.Pq.length:Int):=q4
    have q5:e.e0≠e.e1:=q5
    rw [← es]
    unfold sprI
    simp only
    rw [Z54 q1 (by omega) (by omega),Z54 q3 (by omega) (by omega),cond_true,cond_true,beq_eq_false_iff_ne.2 q5,cond_false,hlg,geqV V X32]
    exact decide_eq_true l0
  have hs:=Z4S b.Me 1077936128
  refine ⟨Zt b.Me 1077936128,?_,hr.2,hr.1,hv⟩
  unfold Zi Z2a
  rw [Z52 _ hm]
  simp only
  rw [cond_true,hv,cond_true]
theorem Z90 (b:Gb) (s:Gs):ZC b s=dW b.Me.Pq s.A s.B:=rfl
set_option maxHeartbeats 1000000 in
theorem Z8s {a:List Int} {G:Gm} {E H:List (List Int)} (S:Smth (Z2 a) G E) (B:Bod (Z2 a) G E H 8) (p:List Int):∀ (k:Nat) (i:Int),0≤i→((((Z2 a).Sp).length:Int) - i).toNat < k→ZS a p k i = .inr ():=by
  have hv:=Z46 S
  have n2:=B.tab.ne
  have ns:=B.slen
  intro k
  induction k with
  | zero=>intro i _ hk;exact absurd hk (Nat.not_lt_zero _)
  | succ k ih =>
    intro i h0 hk
    rw [ZS]
    by_cases hi:i < (((Z2 a).Sp).length:Int)
    · rw [decide_eq_true hi,cond_true]
      have e1:Z1p (Z2 a) i=(Z25 (Z2 a) i,true):=by
        unfold Z1p Z1J
        rw [hv,cond_true,Z54 h0 hi (by omega),cond_true]
      have hm:(Z2 a).Sp.getD i.toNat default∈(Z2 a).Sp:=by
        rw [List.getD_eq_getElem?_getD,List.getElem?_eq_getElem (by omega)];exact List.getElem_mem _
      have hst:(Zj (Z2 a)).1.getD i.toNat default=fop .quo .f32 (Zr (ZC (Z2 a) ((Z2 a).Sp.getD i.toNat default))) (((Z2 a).Sp.getD i.toNat default).Long):=by
        unfold Zj Z1F
        rw [hv,cond_true,X1k (n:=(((Z2 a).Sp).length:Int)) (lo:=Z11 (Z2 a)) (fun k i r=>rfl) _ _ _ (Nat.lt_succ_self _)]
        rw [List.nil_append,List.getD_eq_getElem?_getD,List.getElem?_map,List.getElem?_range (by omega)]
        simp only [Option.map_some,Option.getD_some]
        rw [show (0:Int) + (i.toNat:Int)=i from by omega]
      have e2:Z2m a i=false:=by
        unfold Z2m Z2Y Z2X
        rw [e1,hst]
        unfold Z25
        simp only [Z90]
        exact Z9y B hm
      rw [e1,cond_true,e2,cond_false]
      exact ih _ (by omega) (by omega)
    · rw [decide_eq_false hi,cond_false]
set_option maxHeartbeats 1000000 in
theorem Z65 (a b:List Int) (h:a.length≤9223372036854775807) (h':b.length≤9223372036854775807) (b0:a.length≤9223372036854775807∧∀ x∈a,(Lit.int .u8 x).wf=true) (b1:b.length≤9223372036854775807∧∀ x∈b,(Lit.int .u8 x).wf=true):Zq a b=true:=by
  have ha:=X4W b0.2
  have hb:=X4W b1.2
  obtain ⟨G,E,S⟩:=Z4k a ha
  obtain ⟨H,B⟩:=Z9U S
  have hv:=Z46 S
  have hm:=Z5p S
  have B9:=Z7Z B (r':=9) (by decide)
  obtain ⟨p0,p1,p2,R⟩:=Z8i B9 (Z6E B)
  have w:=Z7r B9.pl (by decide)
  have n1:=B.tab.n1
  have nl:=B.pl.len
  have hE:∀ c:Gb,Zm c=true→Z9 c=(Z1n c,true):=fun c hc=>by
    unfold Z9;rw [hc,cond_true]
  have hP:Z7 (Z2 a)=(Zu (Z2 a),true):=by
    unfold Z7;rw [hv,cond_true]
  have hpe:=Z77 (Z2 a) B.wts
  rw [B.hin,B.fall,Z7F w B.pl.len] at hpe
  have e1:Zv a=false:=by
    obtain ⟨q,V,-⟩:=Z7G R B.wts B.fall B.hin w B.pl.len
    unfold Zv ZU
    rw [hE _ hv,hP]
    rw [← Z6A]
    exact Z8X V
  have e2:fcmp .neq .f32 ((Z9 ((Z4 ((Z2 a).Me)).1)).1) 0=false:=by
    rw [Z52 _ hm,hE _ (Z7m hm),Z9v B]
    decide +kernel
  have e3:fcmp .lss .f32 (((Z7 (Z2 a)).1).getD 0 default) 0=false:=by
    rw [hP,hpe]
    have h0:fcmp .lss .f32 ((Z2 a).Sp.foldl (fun w s=>fop .add .f32 w (tS (Z2 a).Me.Pq s)) 0) 0=false:=by
      rw [lssV R.v0 X32];exact decide_eq_false (by have:=R.b0.1;grind)
    exact h0
  have e4:fcmp .lss .f32 (((Z7 (Z2 a)).1).getD 1 default) 0=false:=by
    rw [hP,hpe]
    have h0:fcmp .lss .f32 ((Z2 a).Me.Tr.foldl (fun w t=>fop .add .f32 w (tT (Z2 a).Film (Z2 a).Me.Pq t)) 0) 0=false:=by
      rw [lssV R.v1 X32];exact decide_eq_false (by have:=R.b1.1;grind)
    exact h0
  have e5:fcmp .lss .f32 (((Z7 (Z2 a)).1).getD 2 default) 0=false:=by
    rw [hP,hpe]
    have h0:fcmp .lss .f32 (H.foldl (fun w h=>fop .add .f32 w (tH (Z2 a).Bend (Z2 a).Me.Pq h)) 0) 0=false:=by
      rw [lssV R.v2 X32];exact decide_eq_false (by have:=R.b2.1;grind)
    exact h0
  have e6:fcmp .neq .f32 (((Z7 (Z2 a)).1).getD 3 default) 0=false:=by
    rw [hP,hpe]
    show fcmp .neq .f32 0 0=false
    decide +kernel
  have hml:(Z1T (Z2 a) (Zb a b) 1065353216).length=(Z2 a).Me.Pq.length∧∀ j,j < (Z2 a).Me.Pq.length→(Z1T (Z2 a) (Zb a b) 1065353216).getD j default=ZD ((Z2 a).Me.Pq.getD j default) (ZK (Zk b 3) 1065353216):=by
    have hbl:=Z7E a b
    unfold Z1T
    exact Z8r _ _ _ hbl (fun j hj=>Z9Z a b (by omega)) _ 0 _ (by omega) (by omega) (by omega) rfl (fun j hj=>absurd hj (Nat.not_lt_zero _)) (fun j _=>rfl)
  have e7:Zc (Z2 a) (Zb a b) 1065353216=(Zx (Z2 a) (Zb a b) 1065353216,true):=by
    unfold Zc
    rw [hv,cond_true,Z7E a b,bne_self_eq_false,cond_false]
  have hmv:Zm (Zx (Z2 a) (Zb a b) 1065353216)=true:=by
    unfold Zx
    rw [Z8q hml.1];exact hv
  have e9:fcmp .gtr .f64 (Z13 a b) 4576918229304087675=false:=by
    obtain ⟨x,y,z,hx,hy,hz,ev⟩:=vec3 hb
    obtain ⟨q,q',V,V',N,-⟩:=Z8Z S B hx hy hz hml.1 (by rw [← ev];exact hml.2)
    obtain ⟨g,Vg,hg⟩:=X7n (X2I V') (X2I V) N (by decide +kernel)
    have hcst:Vl .f64 4576918229304087675 (5764607523034235 / 576460752303423488):=by unfold Vl;decide +kernel
    unfold Z13
    rw [e7,hE _ hmv,hE _ hv]
    unfold Zx
    show fcmp .gtr .f64 (gapW _ _) _=false
    rw [gtrV Vg hcst]
    exact decide_eq_false (by grind)
  have e10:Z1H a b = .inr ():=by
    unfold Z1H
    exact Z8s S B b _ 0 (by omega) (Nat.lt_succ_self _)
  obtain ⟨L,r1,r2,r3,r4⟩:=Z9z S B
  unfold Zq
  cases Z1c a b with
  | true=>rfl
  | false =>
    rw [cond_false,e1,cond_false,e2,cond_false,e3,cond_false,e4,cond_false,e5,cond_false,e6,cond_false,e7,cond_true,hE _ hmv,cond_true,e9,cond_false,e10]
    simp only
    rw [r1,cond_true,hE _ r4,cond_true]
    simp only
    rw [r3,r2,show fcmp .eql .f32 0 0=true from by decide +kernel,cond_true]
    exact beq_self_eq_true _
end Go.Ab
