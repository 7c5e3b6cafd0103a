/- The functions of this seat as plain Lean, and that the program's are these. Printed by a program of the prover's own. -/
import Derived.Test.YtpndflbllggeiaaGreatB1
set_option linter.unusedVariables false
set_option linter.unusedSimpArgs false
set_option maxRecDepth 100000
namespace Go.Ab
open Go.RowKit Go.Proofs.Tryz
def Z4k (YB:(List Int)) (Y10:Int) (YQ:Int):(Unit) ⊕ (Unit):=(ZR YB Y10 YQ (((YB.length:Int) - 0).toNat + 1) 0)
def Z4R (YB:(List Int)) (Y10:Int) (YQ:Int):Bool:=(match (Z4k YB Y10 YQ) with
  | .inl r1=>false
  | .inr r1=>true)
theorem Zgg (YB:(List Int)) (Y10:Int) (YQ:Int) (hp0:YB.length≤1073741824)  : Fn prog 120 [.sl (YB.map (cI .i64)), .i .i64 Y10, .i .i64 YQ] (.b (Z4R YB Y10 YQ)) []:=by
 cases h0:(Z4k YB Y10 YQ) with
 | inl r1 =>
  refine fnS E0Ok Z7 (c:=X0 f120) [] (.b false) [] func120 (sL (mR false [0,3,4,1,30]) 0 (X1 (Z5V YB Y10 YQ) (x:=(Z4k YB Y10 YQ)) (ZaM YB Y10 YQ hp0 (((YB.length:Int) - 0).toNat + 1) 0 (show 0≤0 from (by omega)) (Nat.lt_succ_self _)) h0)<|sK [] sN) rfl (by kernel_rfl) (by kernel_rfl) rfl ?_ ?_
  · simp only [Z4R,h0]
  · rfl
 | inr r1 =>
  refine fnS E0Ok Z7 (c:=X0 f120) [] (.b true) [] func120 (sL (mR false [0,3,4,1,30]) 0 (X1 (Z5V YB Y10 YQ) (x:=(Z4k YB Y10 YQ)) (ZaM YB Y10 YQ hp0 (((YB.length:Int) - 0).toNat + 1) 0 (show 0≤0 from (by omega)) (Nat.lt_succ_self _)) h0)<|sK [] sN) rfl (by kernel_rfl) (by kernel_rfl) rfl ?_ ?_
  · simp only [Z4R,h0]
  · rfl
def Zq (Yd:Gb) (Y3:(List Int)):Bool:=(Z4R Y3 0 (IntKind.wrap .i64 ((Yd.Me.Pq.length:Int) - 1)))
theorem ZgD (Yd:Gb) (Y3:(List Int)) (hp0:Yd.Me.Pq.length≤1073741824) (hp1:Yd.Me.Tr.length≤1073741824) (hp2:∀ t∈Yd.Me.Tr,t.length≤1073741824) (hp3:Yd.Sp.length≤1073741824) (hp4:Yd.We.length≤1073741824) (hp5:Y3.length≤1073741824)  : Fn prog 63 [.ref (Gb.c Yd) 0, .sl (Y3.map (cI .i64))] (.b (Zq Yd Y3)) []:=by
 refine fnS E0Ok Z7 (c:=X0 f63) [] (.b (Z4R Y3 0 (IntKind.wrap .i64 ((Yd.Me.Pq.length:Int) - 1)))) [] func63 (sZ Gv.c Yd.Me.Pq<|sW .i64 ((Yd.Me.Pq.length:Int) - 1)<|sF (Zgg Y3 0 (IntKind.wrap .i64 ((Yd.Me.Pq.length:Int) - 1)) hp5)<|sK [] sN) rfl (by kernel_rfl) (by kernel_rfl) rfl ?_ ?_
 · rfl
 · rfl
theorem ZiR (l:List Int) (h:Int):∀ (k:Nat) (i:Int),0≤i→ZR l 0 h k i = .inr ()→∀ j:Nat,i.toNat≤j→j < l.length→Zl (l.getD j default) 0 h=true:=by
  intro k
  induction k with
  | zero=>intro i _ e;cases e
  | succ k ih =>
    intro i h0 e j hj hl
    rw [ZR,decide_eq_true (show i < (l.length:Int) from by omega),cond_true] at e
    cases hc:Zl (l.getD i.toNat default) 0 h with
    | false=>rw [hc] at e;cases e
    | true =>
      have e2:ZR l 0 h k (i + 1) = .inr ():=by
        rw [hc,cond_true] at e
        cases h1:decide (i > 0) with
        | false=>rw [h1,cond_false] at e;exact e
        | true =>
          rw [h1,cond_true] at e
          cases h2:decide ((l.getD (i - 1).toNat default) ≥ (l.getD i.toNat default)) with
          | true=>rw [h2] at e;cases e
          | false=>rw [h2,cond_false] at e;exact e
      by_cases hij:i.toNat=j
      · rw [← hij];exact hc
      · exact ih (i + 1) (by omega) e2 j (by omega) hl
theorem Z8M (b:Gb) (l:List Int) (hn:b.Me.Pq.length≤1073741824) (h:Zq b l=true):OkIx b.Me.Pq.length (fun x=>x) l:=by
  intro x hx
  obtain ⟨j,hj,rfl⟩:=List.getElem_of_mem hx
  unfold Zq Z4R Z4k at h
  cases e:ZR l 0 (IntKind.wrap .i64 ((b.Me.Pq.length:Int) - 1)) (((l.length:Int) - 0).toNat + 1) 0 with
  | inl r=>rw [e] at h;cases h
  | inr r =>
    have:=ZiR l _ _ 0 (Int.le_refl 0) e j (by omega) hj
    rw [List.getD_eq_getElem?_getD,List.getElem?_eq_getElem hj,Option.getD_some] at this
    exact Zib (by omega) this
def Z8B (x_0:Nat):Bool:=(fcmp .eql .f32 (fop .sub .f32 x_0 x_0) 0)
theorem ZfO (x_0:Nat)   : Fn prog 121 [.f .f32 x_0] (.b (Z8B x_0)) []:=by
 refine fnS E0Ok Z7 (c:=X0 f121) [] (.b (fcmp .eql .f32 (fop .sub .f32 x_0 x_0) 0)) [] func121 (sK [] sN) rfl (by kernel_rfl) (by kernel_rfl) rfl ?_ ?_
 · rfl
 · rfl
def Zh (x_0:Nat):Bool:=(cond (Z8B x_0)
  (fcmp .gtr .f32 x_0 0)
  false)
theorem Zeq (x_0:Nat)   : Fn prog 69 [.f .f32 x_0] (.b (Zh x_0)) []:=by
 have p {a C} (s:Scr a C):=sF (ZfO x_0)<|s
 cases h0:(Z8B x_0) with
 | true =>
  refine fnS E0Ok Z7 (c:=X0 f69) [] (.b (fcmp .gtr .f32 x_0 0)) [] func69 (p (sB h0<|sB h0<|sB h0<|sK [] sN)) rfl (by kernel_rfl) (by kernel_rfl) rfl ?_ ?_
  · simp only [Zh,h0,cond_true]
  · rfl
 | false =>
  refine fnS E0Ok Z7 (c:=X0 f69) [] (.b false) [] func69 (p (sB h0<|sB h0<|sB h0<|sK [] sN)) rfl (by kernel_rfl) (by kernel_rfl) rfl ?_ ?_
  · simp only [Zh,h0,cond_false]
  · rfl
def Z8x (YB:(List Int)):(List Int):=(([]:List Int) ++ YB)
theorem Zh7 (YB:(List Int)) (hp0:YB.length≤1073741824)  : Fn prog 144 [.sl (YB.map (cI .i64))] (.own 0) [.vec 2 1 ((Z8x YB).map (cI .i64)) false]:=by
 have y0:([]:List Int).length + YB.length≤1073741824:=(by simp_all<;>omega)
 refine fnS E0Ok Z7 (c:=X0 f144) [] (.own 0) [.vec 2 1 (([]:List (List AV)) ++ (YB.map (cI .i64))) false] func144 (sC (show ([]:List (List AV)).length + (YB.map (cI .i64)).length≤1073741824 from (by simpa using y0))<|sC (show (YB.map (cI .i64)).all (fun cs=>cs.length == 1 && cs.all isS)=true from (X1R (fun _=>rfl)))<|sK [0] sN) rfl (by kernel_rfl) (by kernel_rfl) rfl ?_ ?_
 · rfl
 · simp [Z8x,cI]
@[simp] theorem Ziu (l:List Int):Z8x l=l:=by simp [Z8x]
theorem Zh8 (YB:(List Int)) (hp0:YB.length≤1073741824):Fn prog 144 [.sl (YB.map (cI .i64))] (.own 0) [.vec 2 1 (YB.map (cI .i64)) false]:=by
 simpa only [Ziu] using Zh7  YB hp0
def Z3I (Yi:Gm):Nat→Int→(List (List Int))→(List (List Int))
  | 0,_,_=>default
  | k + 1,Yk,Ys=>(cond (decide (Yk < (Yi.Tr.length:Int)))
    (Z3I Yi k (Yk + 1) (Ys ++ [(Yi.Tr.getD Yk.toNat default)]))
    Ys)
def Z8C (Yi:Gm) (r:(List (List Int))):Ex × St:=((.exit 0),⟨.ref (Gm.c Yi) 0 :: .any :: .ptr 0 0 0 :: .ptr 1 0 0 :: .any :: .any :: .ref (Gm.c Yi) 0 :: .ref (Gm.c Yi) 0 :: .ref (Gm.c Yi) 0 :: .sl (Yi.Pq.map Gv.c) :: .own 2 :: an 25 [],[.box 38 [.nils, .nils], .box 38 [.own 2, .own 3], .vec 40 3 (([]:List (List AV)) ++ (Yi.Pq.map Gv.c)) false, .nest 49 (r.map fun l=>l.map (cI .i64)) false]⟩)
def Z8D (Yi:Gm) (Yk:Int) (Ys:(List (List Int))):St:=⟨.ref (Gm.c Yi) 0 :: .any :: .ptr 0 0 0 :: .ptr 3 0 0 :: .i .i64 Yk :: .any :: .ref (Gm.c Yi) 0 :: .ref (Gm.c Yi) 0 :: .ref (Gm.c Yi) 0 :: .sl (Yi.Pq.map Gv.c) :: .own 1 :: an 25 [],[.box 38 [.nils, .nils], .vec 40 3 (([]:List (List AV)) ++ (Yi.Pq.map Gv.c)) false, .nest 49 (Ys.map fun l=>l.map (cI .i64)) false, .box 38 [.own 1, .own 2]]⟩
theorem ZfP (Yi:Gm) (hp0:Yi.Pq.length≤1073741824) (hp1:Yi.Tr.length≤1073741824) (hp2:∀ t∈Yi.Tr,t.length≤1073741824):∀ (k:Nat) (Yk:Int) (Ys:(List (List Int))) (ZaN:0≤Yk) (ZaO:(Ys.length:Int)=Yk) (hk:((Yi.Tr.length:Int) - Yk).toNat < k),Lp prog 0 (sub (X0 f130) [1,1,0,1,0,0]) (Z8D Yi Yk Ys) (Z8C Yi (Z3I Yi k Yk Ys)).1 (Z8C Yi (Z3I Yi k Yk Ys)).2:=by
 intro k
 induction k with
 | zero=>intro Yk Ys ZaN ZaO hk;exact absurd hk (Nat.not_lt_zero _)
 | succ k ih =>
  intro Yk Ys ZaN ZaO hk
  have p {a C} (s:Scr a C):=sZ (cL (cI .i64)) Yi.Tr<|s
  cases Yv:(decide (Yk < (Yi.Tr.length:Int))) with
  | true =>
   have YI:=odt Yv
   have YT:(0:Int)≤Yk:=by clear p;exact (by assumption)
   have YV:Yk < (Yi.Tr.length:Int):=by clear p;exact (by assumption)
   have YX:(Yi.Tr.getD Yk.toNat default).length≤1073741824:=by clear p;exact (by simp_all<;>omega)
   have YZ:Ys.length + [(Yi.Tr.getD Yk.toNat default)].length≤1073741824:=by clear p;exact (by simp_all<;>omega)
   have y_4:(-9223372036854775808:Int)≤(Yk + 1):=by clear p;exact (by omega)
   have y_5:(Yk + 1)≤(9223372036854775807:Int):=by clear p;exact (by omega)
   have e:Z3I Yi (k + 1) Yk Ys=(Z3I Yi k (Yk + 1) (Ys ++ [(Yi.Tr.getD Yk.toNat default)])):=by simp only [Z3I,Yv,cond_true]
   rw [e]
   exact X9 E0Ok Z7 [] (mR false [0,1,1,3,1,5,25]) [0,1,2,3] (⟨.ref (Gm.c Yi) 0 :: .any :: .ptr 0 0 0 :: .ptr 3 0 0 :: .i .i64 (Yk + 1) :: .any :: .ref (Gm.c Yi) 0 :: .ref (Gm.c Yi) 0 :: .ref (Gm.c Yi) 0 :: .sl (Yi.Pq.map Gv.c) :: .own 1 :: an 25 [],[.box 38 [.nils, .nils], .vec 40 3 (([]:List (List AV)) ++ (Yi.Pq.map Gv.c)) false, .nest 49 ((Ys.map fun l=>l.map (cI .i64)) ++ [((Yi.Tr.getD Yk.toNat default).map (cI .i64))]) false, .box 38 [.own 1, .own 2]]⟩) (p (sB Yv<|sK [11,11]<|sG (cL (cI .i64)) Yi.Tr Yk YT YV<|sF (Zh8 (Yi.Tr.getD Yk.toNat default) YX)<|sC (show (Ys.map fun l=>l.map (cI .i64)).length + [((Yi.Tr.getD Yk.toNat default).map (cI .i64))].length≤1073741824 from (by simpa using YZ))<|sI (Yk + 1) y_4 y_5<|sN)) (by kernel_rfl) (by simp [Z8D,Gv.c,cL,cI]) (ih (Yk + 1) (Ys ++ [(Yi.Tr.getD Yk.toNat default)]) (show 0≤(Yk + 1) from (by omega)) (show ((Ys ++ [(Yi.Tr.getD Yk.toNat default)]).length:Int)=(Yk + 1) from (by simp_all<;>omega)) (by omega))
  | false =>
   have YI:=odf Yv
   have e:Z3I Yi (k + 1) Yk Ys=Ys:=by simp only [Z3I,Yv,cond_false]
   rw [e]
   exact outR (e:=(.exit 0)) E0Ok Z7 [] (mR false [0,1,1,2,2,5,25]) [0,3,1,2] (p (sB Yv<|sN)) (by kernel_rfl) (by intro h;cases h)
def Z5W (Yi:Gm):(List (List Int)):=(Z3I Yi (((Yi.Tr.length:Int) - 0).toNat + 1) 0 ([]:List (List Int)))
def Z6K (Yi:Gm):Gm:=(⟨(([]:List Gv) ++ Yi.Pq),(Z5W Yi)⟩:Gm)
theorem Zh9 (Yi:Gm) (hp0:Yi.Pq.length≤1073741824) (hp1:Yi.Tr.length≤1073741824) (hp2:∀ t∈Yi.Tr,t.length≤1073741824)  : Fn prog 130 [.ref (Gm.c Yi) 0] (.agg [.own 0, .own 1]) [.vec 40 3 (((Z6K Yi).Pq).map Gv.c) false, .nest 49 (((Z6K Yi).Tr).map fun l=>l.map (cI .i64)) false]:=by
 have y0:([]:List Gv).length + Yi.Pq.length≤1073741824:=(by simp_all<;>omega)
 refine fnS E0Ok Z7 (c:=X0 f130) [] (.agg [.own 0, .own 1]) [.vec 40 3 (([]:List (List AV)) ++ (Yi.Pq.map Gv.c)) false, .nest 49 ((Z5W Yi).map fun l=>l.map (cI .i64)) false] func130 (sC (show ([]:List (List AV)).length + (Yi.Pq.map Gv.c).length≤1073741824 from (by simpa using y0))<|sC (show (Yi.Pq.map Gv.c).all (fun cs=>cs.length == 3 && cs.all isS)=true from (X1R (fun _=>rfl)))<|sL (mR false [0,1,1,3,1,5,25]) 4 (Xk (st2:=⟨.ref (Gm.c Yi) 0 :: .any :: .ptr 0 0 0 :: .ptr 3 0 0 :: .i .i64 0 :: .any :: .ref (Gm.c Yi) 0 :: .ref (Gm.c Yi) 0 :: .ref (Gm.c Yi) 0 :: .sl (Yi.Pq.map Gv.c) :: .own 1 :: an 25 [],[.box 38 [.nils, .nils], .vec 40 3 (([]:List (List AV)) ++ (Yi.Pq.map Gv.c)) false, .nest 49 [] false, .box 38 [.own 1, .own 2]]⟩) (X1 (Z8C Yi) (x:=(Z5W Yi)) (ZfP Yi hp0 hp1 hp2 (((Yi.Tr.length:Int) - 0).toNat + 1) 0 ([]:List (List Int)) (show 0≤0 from (by omega)) (show (([]:List (List Int)).length:Int)=0 from (by simp)) (Nat.lt_succ_self _)) rfl) (by simp [Z8D,Gv.c,cL,cI]))<|sK [2,3] sN) rfl (by kernel_rfl) (by kernel_rfl) rfl ?_ ?_
 · rfl
 · simp [Z6K,Gv.c]
@[simp] theorem Ziv (m:Gm):Z6K m=m:=by
  unfold Z6K Z5W
  rw [X3C (f:=fun i=>(m.Tr.getD i.toNat default)) (n:=(m.Tr.length:Int)) (lo:=Z3I m) (fun k i r=>rfl) _ _ _ (Nat.lt_succ_self _)]
  simp [X3v]
theorem Zha (Yi:Gm) (hp0:Yi.Pq.length≤1073741824) (hp1:Yi.Tr.length≤1073741824) (hp2:∀ t∈Yi.Tr,t.length≤1073741824):Fn prog 130 [.ref (Gm.c Yi) 0] (.agg [.own 0, .own 1]) [.vec 40 3 (Yi.Pq.map Gv.c) false, .nest 49 (Yi.Tr.map fun l=>l.map (cI .i64)) false]:=by
 simpa only [Ziv] using Zh9  Yi hp0 hp1 hp2
def Z3L (Yd:Gb):Gb:=(⟨Yd.Me,(([]:List Gs) ++ Yd.Sp),Yd.Film,Yd.Bend,(([]:List Nat) ++ Yd.We),Yd.Fall⟩:Gb)
theorem Zhb (Yd:Gb) (hp0:Yd.Me.Pq.length≤1073741824) (hp1:Yd.Me.Tr.length≤1073741824) (hp2:∀ t∈Yd.Me.Tr,t.length≤1073741824) (hp3:Yd.Sp.length≤1073741824) (hp4:Yd.We.length≤1073741824)  : Fn prog 86 [.ref (Gb.c Yd) 0] (.agg [.own 0, .own 1, .own 2, .f .f32 ((Z3L Yd).Film), .f .f32 ((Z3L Yd).Bend), .own 3, .f .f32 ((Z3L Yd).Fall.X), .f .f32 ((Z3L Yd).Fall.Y), .f .f32 ((Z3L Yd).Fall.Z)]) [.vec 40 3 (((Z3L Yd).Me.Pq).map Gv.c) false, .nest 49 (((Z3L Yd).Me.Tr).map fun l=>l.map (cI .i64)) false, .vec 133 4 (((Z3L Yd).Sp).map Gs.c) false, .vec 27 1 (((Z3L Yd).We).map (cF .f32)) false]:=by
 have y0:([]:List Gs).length + Yd.Sp.length≤1073741824:=(by simp_all<;>omega)
 have y1:([]:List Nat).length + Yd.We.length≤1073741824:=(by simp_all<;>omega)
 refine fnS E0Ok Z7 (c:=X0 f86) [] (.agg [.own 0, .own 1, .own 2, .f .f32 Yd.Film, .f .f32 Yd.Bend, .own 3, .f .f32 Yd.Fall.X, .f .f32 Yd.Fall.Y, .f .f32 Yd.Fall.Z]) [.vec 40 3 (Yd.Me.Pq.map Gv.c) false, .nest 49 (Yd.Me.Tr.map fun l=>l.map (cI .i64)) false, .vec 133 4 (([]:List (List AV)) ++ (Yd.Sp.map Gs.c)) false, .vec 27 1 (([]:List (List AV)) ++ (Yd.We.map (cF .f32))) false] func86 (sF (Fn.sub (args:=[.ref (Gb.c Yd) 0]) (r := .agg [.own 0, .own 1]) (new:=[.vec 40 3 (Yd.Me.Pq.map Gv.c) false, .nest 49 (Yd.Me.Tr.map fun l=>l.map (cI .i64)) false]) [some 2] (Zha Yd.Me hp0 hp1 hp2))<|sC (show ([]:List (List AV)).length + (Yd.Sp.map Gs.c).length≤1073741824 from (by simpa using y0))<|sC (show (Yd.Sp.map Gs.c).all (fun cs=>cs.length == 4 && cs.all isS)=true from (X1R (fun _=>rfl)))<|sC (show ([]:List (List AV)).length + (Yd.We.map (cF .f32)).length≤1073741824 from (by simpa using y1))<|sC (show (Yd.We.map (cF .f32)).all (fun cs=>cs.length == 1 && cs.all isS)=true from (X1R (fun _=>rfl)))<|sK [2,3,4,5] sN) rfl (by kernel_rfl) (by kernel_rfl) rfl ?_ ?_
 · rfl
 · simp [Z3L,Gs.c,cF]
@[simp] theorem Ziw (b:Gb):Z3L b=b:=by simp [Z3L]
theorem Zbl (Yd:Gb) (hp0:Yd.Me.Pq.length≤1073741824) (hp1:Yd.Me.Tr.length≤1073741824) (hp2:∀ t∈Yd.Me.Tr,t.length≤1073741824) (hp3:Yd.Sp.length≤1073741824) (hp4:Yd.We.length≤1073741824):Fn prog 86 [.ref (Gb.c Yd) 0] (.agg [.own 0, .own 1, .own 2, .f .f32 Yd.Film, .f .f32 Yd.Bend, .own 3, .f .f32 Yd.Fall.X, .f .f32 Yd.Fall.Y, .f .f32 Yd.Fall.Z]) [.vec 40 3 (Yd.Me.Pq.map Gv.c) false, .nest 49 (Yd.Me.Tr.map fun l=>l.map (cI .i64)) false, .vec 133 4 (Yd.Sp.map Gs.c) false, .vec 27 1 (Yd.We.map (cF .f32)) false]:=by
 simpa only [Ziw] using Zhb  Yd hp0 hp1 hp2 hp3 hp4
def Z29 (Yg:Gv) (Yw:Gv):Gv:=(⟨(fop .sub .f32 Yg.X Yw.X),(fop .sub .f32 Yg.Y Yw.Y),(fop .sub .f32 Yg.Z Yw.Z)⟩:Gv)
theorem Z5D (Yg:Gv) (Yw:Gv)   : Fn prog 99 [.agg [.f .f32 Yg.X, .f .f32 Yg.Y, .f .f32 Yg.Z], .agg [.f .f32 Yw.X, .f .f32 Yw.Y, .f .f32 Yw.Z]] (.agg [.f .f32 ((Z29 Yg Yw).X), .f .f32 ((Z29 Yg Yw).Y), .f .f32 ((Z29 Yg Yw).Z)]) []:=by
 refine fnS E0Ok Z7 (c:=X0 f99) [] (.agg [.f .f32 (fop .sub .f32 Yg.X Yw.X), .f .f32 (fop .sub .f32 Yg.Y Yw.Y), .f .f32 (fop .sub .f32 Yg.Z Yw.Z)]) [] func99 (sK [] sN) rfl (by kernel_rfl) (by kernel_rfl) rfl ?_ ?_
 · rfl
 · rfl
theorem Z2S {n:Nat} {ts:List (List Int)} {i k:Int} (h:OkE n ts) (h0:0≤i) (hi:i < (ts.length:Int)) (k0:0≤k) (k3:k < 3) :
    (ts.getD i.toNat default).length=3∧0≤Int.tmod (k + 1) 3∧Int.tmod (k + 1) 3 < 3∧0≤Int.tmod (k + 2) 3∧Int.tmod (k + 2) 3 < 3 ∧
    (0≤(ts.getD i.toNat default).getD k.toNat default∧(ts.getD i.toNat default).getD k.toNat default < (n:Int)) ∧
    (0≤(ts.getD i.toNat default).getD (Int.tmod (k + 1) 3).toNat default∧(ts.getD i.toNat default).getD (Int.tmod (k + 1) 3).toNat default < (n:Int)) ∧
    (0≤(ts.getD i.toNat default).getD (Int.tmod (k + 2) 3).toNat default∧(ts.getD i.toNat default).getD (Int.tmod (k + 2) 3).toNat default < (n:Int)):=by
  have q1:=h.tris.at2 h0 hi k0 (.inl k3)
  have q2:=X6G (x:=k + 1) (by omega)
  have q3:=h.tris.at2 h0 hi q2.1 (.inl q2.2)
  have q4:=X6G (x:=k + 2) (by omega)
  have q5:=h.tris.at2 h0 hi q4.1 (.inl q4.2)
  exact ⟨q1.1,q2.1,q2.2,q4.1,q4.2,q1.2,q3.2,q5.2⟩
def Z49 (Yg:Gv) (Yw:Gv):Nat:=(fop .add .f32 (fop .add .f32 (fop .mul .f32 Yg.X Yw.X) (fop .mul .f32 Yg.Y Yw.Y)) (fop .mul .f32 Yg.Z Yw.Z))
theorem Z7j (Yg:Gv) (Yw:Gv)   : Fn prog 131 [.agg [.f .f32 Yg.X, .f .f32 Yg.Y, .f .f32 Yg.Z], .agg [.f .f32 Yw.X, .f .f32 Yw.Y, .f .f32 Yw.Z]] (.f .f32 (Z49 Yg Yw)) []:=by
 refine fnS E0Ok Z7 (c:=X0 f131) [] (.f .f32 (fop .add .f32 (fop .add .f32 (fop .mul .f32 Yg.X Yw.X) (fop .mul .f32 Yg.Y Yw.Y)) (fop .mul .f32 Yg.Z Yw.Z))) [] func131 (sK [] sN) rfl (by kernel_rfl) (by kernel_rfl) rfl ?_ ?_
 · rfl
 · rfl
def Z5B (x_0:Nat):Nat:=(X2h x_0)
theorem Zfu (x_0:Nat)   : Fn prog 146 [.f .f64 x_0] (.f .f64 (Z5B x_0)) []:=by
 refine fnS E0Ok Z7 (c:=X0 f146) [] (.f .f64 (X2h x_0)) [] func146 (sK [] sN) rfl (by kernel_rfl) (by kernel_rfl) rfl ?_ ?_
 · rfl
 · rfl
def Z8E (x_0:Nat):Nat:=(fcv .f64 .f32 x_0)
theorem ZfQ (x_0:Nat) (hp0:X1s .f64 .f32 x_0=true)  : Fn prog 145 [.f .f64 x_0] (.f .f32 (Z8E x_0)) []:=by
 refine fnS E0Ok Z7 (c:=X0 f145) [] (.f .f32 (fcv .f64 .f32 x_0)) [] func145 (sC hp0<|sK [] sN) rfl (by kernel_rfl) (by kernel_rfl) rfl ?_ ?_
 · rfl
 · rfl
def ZaH (x_0:Nat):Nat:=(Z8E (Z5B (fcv .f32 .f64 x_0)))
theorem ZgE (x_0:Nat)   : Fn prog 136 [.f .f32 x_0] (.f .f32 (ZaH x_0)) []:=by
 have y0:X1s .f64 .f32 (Z5B (fcv .f32 .f64 x_0))=true:=(X3u _)
 refine fnS E0Ok Z7 (c:=X0 f136) [] (.f .f32 (Z8E (Z5B (fcv .f32 .f64 x_0)))) [] func136 (sC (Xo x_0)<|sF (Zfu (fcv .f32 .f64 x_0))<|sF (ZfQ (Z5B (fcv .f32 .f64 x_0)) y0)<|sK [] sN) rfl (by kernel_rfl) (by kernel_rfl) rfl ?_ ?_
 · rfl
 · rfl
def Z2w (v_0:Gv):Nat:=(ZaH (Z49 v_0 v_0))
theorem Z80 (v_0:Gv)   : Fn prog 98 [.agg [.f .f32 v_0.X, .f .f32 v_0.Y, .f .f32 v_0.Z]] (.f .f32 (Z2w v_0)) []:=by
 refine fnS E0Ok Z7 (c:=X0 f98) [] (.f .f32 (ZaH (Z49 v_0 v_0))) [] func98 (sF (Z7j v_0 v_0)<|sF (ZgE (Z49 v_0 v_0))<|sK [] sN) rfl (by kernel_rfl) (by kernel_rfl) rfl ?_ ?_
 · rfl
 · rfl
def Zu (x_0:Nat) (Y1o:Nat):Nat:=(cond (fcmp .gtr .f32 Y1o 0)
  (fop .quo .f32 x_0 Y1o)
  0)
theorem Z81 (x_0:Nat) (Y1o:Nat)   : Fn prog 87 [.f .f32 x_0, .f .f32 Y1o] (.f .f32 (Zu x_0 Y1o)) []:=by
 cases h0:(fcmp .gtr .f32 Y1o 0) with
 | true =>
  refine fnS E0Ok Z7 (c:=X0 f87) [] (.f .f32 (fop .quo .f32 x_0 Y1o)) [] func87 (sB h0<|sK [] sN) rfl (by kernel_rfl) (by kernel_rfl) rfl ?_ ?_
  · simp only [Zu,h0,cond_true]
  · rfl
 | false =>
  refine fnS E0Ok Z7 (c:=X0 f87) [] (.f .f32 0) [] func87 (sB h0<|sK [] sN) rfl (by kernel_rfl) (by kernel_rfl) rfl ?_ ?_
  · simp only [Zu,h0,cond_false]
  · rfl
def Zc2 (Yd:Gb) (x_1:Gs):Nat:=(fop .mul .f32 x_1.Stiff (fop .sub .f32 (Z2w (Z29 (Yd.Me.Pq.getD x_1.B.toNat default) (Yd.Me.Pq.getD x_1.A.toNat default))) x_1.Long))
def Zc3 (Yd:Gb) (x_1:Gs):Nat:=(Zu (Zc2 Yd x_1) (Z2w (Z29 (Yd.Me.Pq.getD x_1.B.toNat default) (Yd.Me.Pq.getD x_1.A.toNat default))))
def Z3e (Yd:Gb) (x_1:Gs):Gv × Nat:=((Z29 (Yd.Me.Pq.getD x_1.B.toNat default) (Yd.Me.Pq.getD x_1.A.toNat default)),(Zc3 Yd x_1))
theorem Zhc (Yd:Gb) (x_1:Gs) (hp0:Yd.Me.Pq.length≤1073741824) (hp1:Yd.Me.Tr.length≤1073741824) (hp2:∀ t∈Yd.Me.Tr,t.length≤1073741824) (hp3:Yd.Sp.length≤1073741824) (hp4:Yd.We.length≤1073741824) (hp5:0≤x_1.A) (hp6:x_1.A < (Yd.Me.Pq.length:Int)) (hp7:0≤x_1.B) (hp8:x_1.B < (Yd.Me.Pq.length:Int))  : Fn prog 96 [.ref (Gb.c Yd) 0, .ref (Gs.c x_1) 0] (.tup [.agg [.f .f32 ((Z3e Yd x_1).1.X), .f .f32 ((Z3e Yd x_1).1.Y), .f .f32 ((Z3e Yd x_1).1.Z)], .f .f32 ((Z3e Yd x_1).2)]) []:=by
 have y0:(0:Int)≤x_1.B:=(by assumption)
 have y1:(0:Int)≤x_1.A:=(by assumption)
 refine fnS E0Ok Z7 (c:=X0 f96) [] (.tup [.agg [.f .f32 ((Z29 (Yd.Me.Pq.getD x_1.B.toNat default) (Yd.Me.Pq.getD x_1.A.toNat default)).X), .f .f32 ((Z29 (Yd.Me.Pq.getD x_1.B.toNat default) (Yd.Me.Pq.getD x_1.A.toNat default)).Y), .f .f32 ((Z29 (Yd.Me.Pq.getD x_1.B.toNat default) (Yd.Me.Pq.getD x_1.A.toNat default)).Z)], .f .f32 (Zc3 Yd x_1)]) [] func96 (sK [24,24]<|sG Gv.c Yd.Me.Pq x_1.B y0 hp8<|sG Gv.c Yd.Me.Pq x_1.A y1 hp6<|sF (Z5D (Yd.Me.Pq.getD x_1.B.toNat default) (Yd.Me.Pq.getD x_1.A.toNat default))<|sF (Z80 (Z29 (Yd.Me.Pq.getD x_1.B.toNat default) (Yd.Me.Pq.getD x_1.A.toNat default)))<|sK [14,14]<|sF (Z81 (Zc2 Yd x_1) (Z2w (Z29 (Yd.Me.Pq.getD x_1.B.toNat default) (Yd.Me.Pq.getD x_1.A.toNat default))))<|sK [] sN) rfl (by kernel_rfl) (by kernel_rfl) rfl ?_ ?_
 · rfl
 · rfl
def Zo (v_0:Gv) (Yz:Nat):Gv:=(⟨(fop .mul .f32 v_0.X Yz),(fop .mul .f32 v_0.Y Yz),(fop .mul .f32 v_0.Z Yz)⟩:Gv)
theorem Z3y (v_0:Gv) (Yz:Nat)   : Fn prog 90 [.agg [.f .f32 v_0.X, .f .f32 v_0.Y, .f .f32 v_0.Z], .f .f32 Yz] (.agg [.f .f32 ((Zo v_0 Yz).X), .f .f32 ((Zo v_0 Yz).Y), .f .f32 ((Zo v_0 Yz).Z)]) []:=by
 refine fnS E0Ok Z7 (c:=X0 f90) [] (.agg [.f .f32 (fop .mul .f32 v_0.X Yz), .f .f32 (fop .mul .f32 v_0.Y Yz), .f .f32 (fop .mul .f32 v_0.Z Yz)]) [] func90 (sK [] sN) rfl (by kernel_rfl) (by kernel_rfl) rfl ?_ ?_
 · rfl
 · rfl
def Zv (Yg:Gv) (Yw:Gv):Gv:=(⟨(fop .add .f32 Yg.X Yw.X),(fop .add .f32 Yg.Y Yw.Y),(fop .add .f32 Yg.Z Yw.Z)⟩:Gv)
theorem Z3w (Yg:Gv) (Yw:Gv)   : Fn prog 89 [.agg [.f .f32 Yg.X, .f .f32 Yg.Y, .f .f32 Yg.Z], .agg [.f .f32 Yw.X, .f .f32 Yw.Y, .f .f32 Yw.Z]] (.agg [.f .f32 ((Zv Yg Yw).X), .f .f32 ((Zv Yg Yw).Y), .f .f32 ((Zv Yg Yw).Z)]) []:=by
 refine fnS E0Ok Z7 (c:=X0 f89) [] (.agg [.f .f32 (fop .add .f32 Yg.X Yw.X), .f .f32 (fop .add .f32 Yg.Y Yw.Y), .f .f32 (fop .add .f32 Yg.Z Yw.Z)]) [] func89 (sK [] sN) rfl (by kernel_rfl) (by kernel_rfl) rfl ?_ ?_
 · rfl
 · rfl
def Z59 (Yg:Gv) (Yw:Gv):Gv:=(⟨(fop .sub .f32 (fop .mul .f32 Yg.Y Yw.Z) (fop .mul .f32 Yg.Z Yw.Y)),(fop .sub .f32 (fop .mul .f32 Yg.Z Yw.X) (fop .mul .f32 Yg.X Yw.Z)),(fop .sub .f32 (fop .mul .f32 Yg.X Yw.Y) (fop .mul .f32 Yg.Y Yw.X))⟩:Gv)
theorem Zcs (Yg:Gv) (Yw:Gv)   : Fn prog 100 [.agg [.f .f32 Yg.X, .f .f32 Yg.Y, .f .f32 Yg.Z], .agg [.f .f32 Yw.X, .f .f32 Yw.Y, .f .f32 Yw.Z]] (.agg [.f .f32 ((Z59 Yg Yw).X), .f .f32 ((Z59 Yg Yw).Y), .f .f32 ((Z59 Yg Yw).Z)]) []:=by
 refine fnS E0Ok Z7 (c:=X0 f100) [] (.agg [.f .f32 (fop .sub .f32 (fop .mul .f32 Yg.Y Yw.Z) (fop .mul .f32 Yg.Z Yw.Y)), .f .f32 (fop .sub .f32 (fop .mul .f32 Yg.Z Yw.X) (fop .mul .f32 Yg.X Yw.Z)), .f .f32 (fop .sub .f32 (fop .mul .f32 Yg.X Yw.Y) (fop .mul .f32 Yg.Y Yw.X))]) [] func100 (sK [] sN) rfl (by kernel_rfl) (by kernel_rfl) rfl ?_ ?_
 · rfl
 · rfl
def Z5I (Yi:Gm) (t_1:(List Int)):Gv:=(Z59 (Z29 (Yi.Pq.getD (t_1.getD 1 default).toNat default) (Yi.Pq.getD (t_1.getD 0 default).toNat default)) (Z29 (Yi.Pq.getD (t_1.getD 2 default).toNat default) (Yi.Pq.getD (t_1.getD 0 default).toNat default)))
def Zr (Yi:Gm) (t_1:(List Int)):Gv:=(Z5I Yi t_1)
theorem Zc4 (Yi:Gm) (t_1:(List Int)) (hp0:Yi.Pq.length≤1073741824) (hp1:Yi.Tr.length≤1073741824) (hp2:∀ t∈Yi.Tr,t.length≤1073741824) (hp3:t_1.length≤1073741824) (hp4:t_1.length=3∧∀ x∈t_1,0≤x∧x < (Yi.Pq.length:Int))  : Fn prog 97 [.ref (Gm.c Yi) 0, .sl (t_1.map (cI .i64))] (.agg [.f .f32 ((Zr Yi t_1).X), .f .f32 ((Zr Yi t_1).Y), .f .f32 ((Zr Yi t_1).Z)]) []:=by
 have y0:(0:Int)≤0:=(by omega)
 have y1:0 < (t_1.length:Int):=(by omega)
 have y2:(0:Int)≤(t_1.getD 0 default):=(by have q:=Okt.at hp4;omega)
 have y3:(t_1.getD 0 default) < (Yi.Pq.length:Int):=(by have q:=Okt.at hp4;omega)
 have y4:(0:Int)≤1:=(by omega)
 have y5:1 < (t_1.length:Int):=(by omega)
 have y6:(0:Int)≤(t_1.getD 1 default):=(by have q:=Okt.at hp4;omega)
 have y7:(t_1.getD 1 default) < (Yi.Pq.length:Int):=(by have q:=Okt.at hp4;omega)
 have y8:(0:Int)≤2:=(by omega)
 have y9:2 < (t_1.length:Int):=(by omega)
 have y10:(0:Int)≤(t_1.getD 2 default):=(by have q:=Okt.at hp4;omega)
 have y11:(t_1.getD 2 default) < (Yi.Pq.length:Int):=(by have q:=Okt.at hp4;omega)
 refine fnS E0Ok Z7 (c:=X0 f97) [] (.agg [.f .f32 ((Z5I Yi t_1).X), .f .f32 ((Z5I Yi t_1).Y), .f .f32 ((Z5I Yi t_1).Z)]) [] func97 (sK [10,10]<|sG (cI .i64) t_1 0 y0 y1<|sG Gv.c Yi.Pq (t_1.getD 0 default) y2 y3<|sK [21,21]<|sG (cI .i64) t_1 1 y4 y5<|sG Gv.c Yi.Pq (t_1.getD 1 default) y6 y7<|sF (Z5D (Yi.Pq.getD (t_1.getD 1 default).toNat default) (Yi.Pq.getD (t_1.getD 0 default).toNat default))<|sG (cI .i64) t_1 2 y8 y9<|sG Gv.c Yi.Pq (t_1.getD 2 default) y10 y11<|sF (Z5D (Yi.Pq.getD (t_1.getD 2 default).toNat default) (Yi.Pq.getD (t_1.getD 0 default).toNat default))<|sF (Zcs (Z29 (Yi.Pq.getD (t_1.getD 1 default).toNat default) (Yi.Pq.getD (t_1.getD 0 default).toNat default)) (Z29 (Yi.Pq.getD (t_1.getD 2 default).toNat default) (Yi.Pq.getD (t_1.getD 0 default).toNat default)))<|sK [] sN) rfl (by kernel_rfl) (by kernel_rfl) rfl ?_ ?_
 · rfl
 · rfl
def Z3M (Yg:Int) (Yw:Int):Int:=(cond (decide (Yg < Yw))
  Yg
  Yw)
theorem Zhd (Yg:Int) (Yw:Int)   : Fn prog 147 [.i .i64 Yg, .i .i64 Yw] (.i .i64 (Z3M Yg Yw)) []:=by
 cases h0:(decide (Yg < Yw)) with
 | true =>
  have gh0:=odt h0
  refine fnS E0Ok Z7 (c:=X0 f147) [] (.i .i64 Yg) [] func147 (sB h0<|sK [] sN) rfl (by kernel_rfl) (by kernel_rfl) rfl ?_ ?_
  · simp only [Z3M,h0,cond_true]
  · rfl
 | false =>
  have gh0:=odf h0
  refine fnS E0Ok Z7 (c:=X0 f147) [] (.i .i64 Yw) [] func147 (sB h0<|sK [] sN) rfl (by kernel_rfl) (by kernel_rfl) rfl ?_ ?_
  · simp only [Z3M,h0,cond_false]
  · rfl
theorem Zc5 {a b n:Int} (h1:0≤a∧a < n) (h2:0≤b∧b < n):0≤Z3M a b∧Z3M a b < n:=by
  unfold Z3M;cases decide (a < b)<;>simp only [cond_true,cond_false]<;>omega
def Z3N (Yg:Int) (Yw:Int):Int:=(cond (decide (Yg > Yw))
  Yg
  Yw)
theorem Zhe (Yg:Int) (Yw:Int)   : Fn prog 148 [.i .i64 Yg, .i .i64 Yw] (.i .i64 (Z3N Yg Yw)) []:=by
 cases h0:(decide (Yg > Yw)) with
 | true =>
  have gh0:=odt h0
  refine fnS E0Ok Z7 (c:=X0 f148) [] (.i .i64 Yg) [] func148 (sB h0<|sK [] sN) rfl (by kernel_rfl) (by kernel_rfl) rfl ?_ ?_
  · simp only [Z3N,h0,cond_true]
  · rfl
 | false =>
  have gh0:=odf h0
  refine fnS E0Ok Z7 (c:=X0 f148) [] (.i .i64 Yw) [] func148 (sB h0<|sK [] sN) rfl (by kernel_rfl) (by kernel_rfl) rfl ?_ ?_
  · simp only [Z3N,h0,cond_false]
  · rfl
theorem Zc6 {a b n:Int} (h1:0≤a∧a < n) (h2:0≤b∧b < n):0≤Z3N a b∧Z3N a b < n:=by
  unfold Z3N;cases decide (a > b)<;>simp only [cond_true,cond_false]<;>omega
theorem Zdg (a b:Int):(⟨Z3M a b,Z3N a b⟩:Gedge)=mkE a b:=by
  unfold Z3M Z3N mkE
  by_cases h:a < b
  · rw [decide_eq_true h,decide_eq_false (by omega),if_pos (by omega)];rfl
  · rw [decide_eq_false h]
    by_cases h2:a > b
    · rw [decide_eq_true h2,if_neg (by omega)];rfl
    · rw [decide_eq_false h2,show a=b from by omega,if_pos (by omega)];rfl
def Z1F (Yi:Gm) (Yk:Int) (Yo:Int):Int:=(Z3M ((Yi.Tr.getD Yk.toNat default).getD Yo.toNat default) ((Yi.Tr.getD Yk.toNat default).getD (Int.tmod (Yo + 1) 3).toNat default))
def Z1Y (Yi:Gm) (Yk:Int) (Yo:Int):Int:=(Z3N ((Yi.Tr.getD Yk.toNat default).getD Yo.toNat default) ((Yi.Tr.getD Yk.toNat default).getD (Int.tmod (Yo + 1) 3).toNat default))
def Z14 (Yi:Gm) (Yk:Int) (Ye:(List Bool)):Nat→Int→(List Bool)→(List Bool)
  | 0,_,_=>default
  | k + 1,Yo,YD=>(cond (decide (Yo < 3))
    (Z14 Yi Yk Ye k (Yo + 1) (YD.set ((IntKind.wrap .i64 ((IntKind.wrap .i64 ((Z1F Yi Yk Yo) * (Yi.Pq.length:Int))) + (Z1Y Yi Yk Yo))).toNat) true))
    YD)
def Z7t (Yi:Gm) (Yk:Int) (Ye:(List Bool)) (r:(List Bool)):Ex × St:=((.exit 2),⟨.ref (Gm.c Yi) 0 :: .any :: .nils :: .i .i64 (Yi.Pq.length:Int) :: .own 0 :: .i .i64 Yk :: .sl ((Yi.Tr.getD Yk.toNat default).map (cI .i64)) :: an 6 (.ref (Gm.c Yi) 0 :: .ref (Gm.c Yi) 0 :: .ref (Gm.c Yi) 0 :: .sl (Yi.Pq.map Gv.c) :: .i .i64 (Yi.Pq.length:Int) :: .i .i64 (Yi.Pq.length:Int) :: .i .i64 (Yi.Pq.length:Int) :: .i .i64 (IntKind.wrap .i64 ((Yi.Pq.length:Int) * (Yi.Pq.length:Int))) :: .own 0 :: .i .i64 Yk :: .ref (Gm.c Yi) 0 :: .ref (Gm.c Yi) 0 :: .ref (Gm.c Yi) 1 :: .sl (Yi.Tr.map (cL (cI .i64))) :: .i .i64 (Yi.Tr.length:Int) :: .b (decide (Yk < (Yi.Tr.length:Int))) :: .any :: .any :: .ref (Gm.c Yi) 0 :: .ref (Gm.c Yi) 0 :: .ref (Gm.c Yi) 1 :: .sl (Yi.Tr.map (cL (cI .i64))) :: .i .i64 Yk :: .ref [.sl ((Yi.Tr.getD Yk.toNat default).map (cI .i64))] 0 :: .sl ((Yi.Tr.getD Yk.toNat default).map (cI .i64)) :: an 53 []),[.vec 4 1 (r.map cB) false]⟩)
def ZaP (Yi:Gm) (Yk:Int) (Ye:(List Bool)) (Yo:Int) (YD:(List Bool)):St:=⟨.ref (Gm.c Yi) 0 :: .any :: .nils :: .i .i64 (Yi.Pq.length:Int) :: .own 0 :: .i .i64 Yk :: .sl ((Yi.Tr.getD Yk.toNat default).map (cI .i64)) :: .i .i64 Yo :: an 5 (.ref (Gm.c Yi) 0 :: .ref (Gm.c Yi) 0 :: .ref (Gm.c Yi) 0 :: .sl (Yi.Pq.map Gv.c) :: .i .i64 (Yi.Pq.length:Int) :: .i .i64 (Yi.Pq.length:Int) :: .i .i64 (Yi.Pq.length:Int) :: .i .i64 (IntKind.wrap .i64 ((Yi.Pq.length:Int) * (Yi.Pq.length:Int))) :: .own 0 :: .i .i64 Yk :: .ref (Gm.c Yi) 0 :: .ref (Gm.c Yi) 0 :: .ref (Gm.c Yi) 1 :: .sl (Yi.Tr.map (cL (cI .i64))) :: .i .i64 (Yi.Tr.length:Int) :: .b (decide (Yk < (Yi.Tr.length:Int))) :: .any :: .any :: .ref (Gm.c Yi) 0 :: .ref (Gm.c Yi) 0 :: .ref (Gm.c Yi) 1 :: .sl (Yi.Tr.map (cL (cI .i64))) :: .i .i64 Yk :: .ref [.sl ((Yi.Tr.getD Yk.toNat default).map (cI .i64))] 0 :: .sl ((Yi.Tr.getD Yk.toNat default).map (cI .i64)) :: an 53 []),[.vec 4 1 (YD.map cB) false]⟩
def Z9h:List Bool:=(mR false [0,1,1,6,5,16,2,7,53])
def Zdh:List Bool:=(mR false [0,1,1,5,6,16,2,7,53])
set_option maxHeartbeats 1000000 in
theorem Zer (Yi:Gm) (Yk:Int) (Ye:(List Bool)) (hp0:Yi.Pq.length≤1073741824) (hp1:Yi.Tr.length≤1073741824) (hp2:∀ t∈Yi.Tr,t.length≤1073741824) (hp3:OkE Yi.Pq.length Yi.Tr) (Z33:0≤Yk) (Z5m:Ye.length=(IntKind.wrap .i64 ((Yi.Pq.length:Int) * (Yi.Pq.length:Int))).toNat) (Zic:(decide (Yk < (Yi.Tr.length:Int)))=true):∀ (k:Nat) (Yo:Int) (YD:(List Bool)) (Z42:0≤Yo) (Z9i:YD.length=Ye.length) (hk:((3:Int) - Yo).toNat < k),Lp prog 0 (sub (X0 f137) [1,1,1,0,1,0,0,1,0,0,1,1,0,0]) (ZaP Yi Yk Ye Yo YD) (Z7t Yi Yk Ye (Z14 Yi Yk Ye k Yo YD)).1 (Z7t Yi Yk Ye (Z14 Yi Yk Ye k Yo YD)).2:=by
 intro k
 induction k with
 | zero=>intro Yo YD Z42 Z9i hk;exact absurd hk (Nat.not_lt_zero _)
 | succ k ih =>
  intro Yo YD Z42 Z9i hk
  cases YS:(decide (Yo < 3)) with
  | true =>
   have YW:=odt YS
   have Y1c:(0:Int)≤Yo:=(by assumption)
   have Y1g:Yo < ((Yi.Tr.getD Yk.toNat default).length:Int):=(by ((have q:=OkE.at (by assumption) Z33 (odt (by assumption)) Z42 (odt (by assumption));omega)))
   have Y1e:(-9223372036854775808:Int)≤(Yo + 1):=(by omega)
   have Y19:(Yo + 1)≤(9223372036854775807:Int):=(by omega)
   have Y1f:(0:Int)≤(Int.tmod (Yo + 1) 3):=(by ((have q:=OkE.at (by assumption) Z33 (odt (by assumption)) Z42 (odt (by assumption));omega)))
   have Y1n:(Int.tmod (Yo + 1) 3) < ((Yi.Tr.getD Yk.toNat default).length:Int):=(by ((have q:=OkE.at (by assumption) Z33 (odt (by assumption)) Z42 (odt (by assumption));omega)))
   have Y1j:(0:Int)≤(IntKind.wrap .i64 ((IntKind.wrap .i64 ((Z1F Yi Yk Yo) * (Yi.Pq.length:Int))) + (Z1Y Yi Yk Yo))):=(by ((have q:=OkE.at (by assumption) Z33 (odt (by assumption)) Z42 (odt (by assumption));have q2:=ix2F q.2.2.2.2.2.1 (Zc5 q.2.2.2.1 q.2.2.2.2.1).1 (Zc5 q.2.2.2.1 q.2.2.2.2.1).2 (Zc6 q.2.2.2.1 q.2.2.2.2.1).1 (Zc6 q.2.2.2.1 q.2.2.2.2.1).2;unfold Z1F Z1Y;omega)))
   have Y1w:(IntKind.wrap .i64 ((IntKind.wrap .i64 ((Z1F Yi Yk Yo) * (Yi.Pq.length:Int))) + (Z1Y Yi Yk Yo))) < (YD.length:Int):=(by ((have q:=OkE.at (by assumption) Z33 (odt (by assumption)) Z42 (odt (by assumption));have q2:=ix2F q.2.2.2.2.2.1 (Zc5 q.2.2.2.1 q.2.2.2.2.1).1 (Zc5 q.2.2.2.1 q.2.2.2.2.1).2 (Zc6 q.2.2.2.1 q.2.2.2.2.1).1 (Zc6 q.2.2.2.1 q.2.2.2.2.1).2;unfold Z1F Z1Y;omega)))
   have Y1I:(IntKind.wrap .i64 ((IntKind.wrap .i64 ((Z1F Yi Yk Yo) * (Yi.Pq.length:Int))) + (Z1Y Yi Yk Yo))).toNat < YD.length:=(by omega)
   have e:Z14 Yi Yk Ye (k + 1) Yo YD=(Z14 Yi Yk Ye k (Yo + 1) (YD.set ((IntKind.wrap .i64 ((IntKind.wrap .i64 ((Z1F Yi Yk Yo) * (Yi.Pq.length:Int))) + (Z1Y Yi Yk Yo))).toNat) true)):=by simp only [Z14,YS,cond_true]
   rw [e]
   exact X9 E0Ok Z7 [] Z9h [0] (⟨.ref (Gm.c Yi) 0 :: .any :: .nils :: .i .i64 (Yi.Pq.length:Int) :: .own 0 :: .i .i64 Yk :: .sl ((Yi.Tr.getD Yk.toNat default).map (cI .i64)) :: .i .i64 (Yo + 1) :: an 5 (.ref (Gm.c Yi) 0 :: .ref (Gm.c Yi) 0 :: .ref (Gm.c Yi) 0 :: .sl (Yi.Pq.map Gv.c) :: .i .i64 (Yi.Pq.length:Int) :: .i .i64 (Yi.Pq.length:Int) :: .i .i64 (Yi.Pq.length:Int) :: .i .i64 (IntKind.wrap .i64 ((Yi.Pq.length:Int) * (Yi.Pq.length:Int))) :: .own 0 :: .i .i64 Yk :: .ref (Gm.c Yi) 0 :: .ref (Gm.c Yi) 0 :: .ref (Gm.c Yi) 1 :: .sl (Yi.Tr.map (cL (cI .i64))) :: .i .i64 (Yi.Tr.length:Int) :: .b (decide (Yk < (Yi.Tr.length:Int))) :: .any :: .any :: .ref (Gm.c Yi) 0 :: .ref (Gm.c Yi) 0 :: .ref (Gm.c Yi) 1 :: .sl (Yi.Tr.map (cL (cI .i64))) :: .i .i64 Yk :: .ref [.sl ((Yi.Tr.getD Yk.toNat default).map (cI .i64))] 0 :: .sl ((Yi.Tr.getD Yk.toNat default).map (cI .i64)) :: an 53 []),[.vec 4 1 ((YD.map cB).set ((IntKind.wrap .i64 ((IntKind.wrap .i64 ((Z1F Yi Yk Yo) * (Yi.Pq.length:Int))) + (Z1Y Yi Yk Yo))).toNat) [.b true]) false]⟩) (sB YS<|sG (cI .i64) (Yi.Tr.getD Yk.toNat default) Yo Y1c Y1g<|sI (Yo + 1) Y1e Y19<|sC (show (3:Int)≠0 from (by decide))<|sQ (Int.tmod (Yo + 1) 3)<|sG (cI .i64) (Yi.Tr.getD Yk.toNat default) (Int.tmod (Yo + 1) 3) Y1f Y1n<|sF (Zhd ((Yi.Tr.getD Yk.toNat default).getD Yo.toNat default) ((Yi.Tr.getD Yk.toNat default).getD (Int.tmod (Yo + 1) 3).toNat default))<|sW .i64 ((Z1F Yi Yk Yo) * (Yi.Pq.length:Int))<|sF (Zhe ((Yi.Tr.getD Yk.toNat default).getD Yo.toNat default) ((Yi.Tr.getD Yk.toNat default).getD (Int.tmod (Yo + 1) 3).toNat default))<|sW .i64 ((IntKind.wrap .i64 ((Z1F Yi Yk Yo) * (Yi.Pq.length:Int))) + (Z1Y Yi Yk Yo))<|sX cB YD (IntKind.wrap .i64 ((IntKind.wrap .i64 ((Z1F Yi Yk Yo) * (Yi.Pq.length:Int))) + (Z1Y Yi Yk Yo))) Y1j Y1w<|sC (Xl (c:=cB) (l:=YD) Y1I)<|sI (Yo + 1) Y1e Y19<|sN) (by kernel_rfl) (by simp [ZaP,cL,cI,cB]) (ih (Yo + 1) (YD.set ((IntKind.wrap .i64 ((IntKind.wrap .i64 ((Z1F Yi Yk Yo) * (Yi.Pq.length:Int))) + (Z1Y Yi Yk Yo))).toNat) true) (show 0≤(Yo + 1) from (by omega)) (show (YD.set ((IntKind.wrap .i64 ((IntKind.wrap .i64 ((Z1F Yi Yk Yo) * (Yi.Pq.length:Int))) + (Z1Y Yi Yk Yo))).toNat) true).length=Ye.length from (by simp_all<;>omega)) (by omega))
  | false =>
   have YW:=odf YS
   have e:Z14 Yi Yk Ye (k + 1) Yo YD=YD:=by simp only [Z14,YS,cond_false]
   rw [e]
   exact outR (e:=(.exit 2)) E0Ok Z7 [] Zdh [0] (sB YS<|sN) (by kernel_rfl) (by intro h;cases h)
theorem Zdi (Yi:Gm) (Yk:Int) (Ye:(List Bool)):∀ (k:Nat) (Yo:Int) (YD:(List Bool)) (hk:((3:Int) - Yo).toNat < k),(Z14 Yi Yk Ye k Yo YD).length=YD.length:=by
  intro k
  induction k with
  | zero=>intro Yo YD hk;exact absurd hk (Nat.not_lt_zero _)
  | succ k ih =>
    intro Yo YD hk
    cases YS:(decide (Yo < 3)) with
    | true =>
      have e:Z14 Yi Yk Ye (k + 1) Yo YD=(Z14 Yi Yk Ye k (Yo + 1) (YD.set ((IntKind.wrap .i64 ((IntKind.wrap .i64 ((Z1F Yi Yk Yo) * (Yi.Pq.length:Int))) + (Z1Y Yi Yk Yo))).toNat) true)):=by simp only [Z14,YS,cond_true]
      rw [e,ih (Yo + 1) (YD.set ((IntKind.wrap .i64 ((IntKind.wrap .i64 ((Z1F Yi Yk Yo) * (Yi.Pq.length:Int))) + (Z1Y Yi Yk Yo))).toNat) true) (by simp_all<;>omega)];simp
    | false =>
      have e:Z14 Yi Yk Ye (k + 1) Yo YD=YD:=by simp only [Z14,YS,cond_false]
      first | (rw [e];done) | (rw [e];rfl)
def Z2q (Yi:Gm) (Yk:Int) (Ye:(List Bool)):(List Bool):=(Z14 Yi Yk Ye (((3:Int) - 0).toNat + 1) 0 Ye)
@[simp] theorem Zbm (Yi:Gm) (Yk:Int) (Ye:(List Bool)):(Z2q Yi Yk Ye).length=(Ye:(List Bool)).length:=Zdi Yi Yk Ye (((3:Int) - 0).toNat + 1) 0 Ye (by exact Nat.lt_succ_self _)
def Z1p (Yi:Gm):Nat→Int→(List Bool)→(List Bool)
  | 0,_,_=>default
  | k + 1,Yk,Ye=>(cond (decide (Yk < (Yi.Tr.length:Int)))
    (Z1p Yi k (Yk + 1) (Z2q Yi Yk Ye))
    Ye)
def Z7u (Yi:Gm) (r:(List Bool)):Ex × St:=((.exit 0),⟨.ref (Gm.c Yi) 0 :: .any :: .nils :: .i .i64 (Yi.Pq.length:Int) :: .own 0 :: an 8 (.ref (Gm.c Yi) 0 :: .ref (Gm.c Yi) 0 :: .ref (Gm.c Yi) 0 :: .sl (Yi.Pq.map Gv.c) :: .i .i64 (Yi.Pq.length:Int) :: .i .i64 (Yi.Pq.length:Int) :: .i .i64 (Yi.Pq.length:Int) :: .i .i64 (IntKind.wrap .i64 ((Yi.Pq.length:Int) * (Yi.Pq.length:Int))) :: .own 0 :: an 69 []),[.vec 4 1 (r.map cB) false]⟩)
def ZaQ (Yi:Gm) (Yk:Int) (Ye:(List Bool)):St:=⟨.ref (Gm.c Yi) 0 :: .any :: .nils :: .i .i64 (Yi.Pq.length:Int) :: .own 0 :: .i .i64 Yk :: an 7 (.ref (Gm.c Yi) 0 :: .ref (Gm.c Yi) 0 :: .ref (Gm.c Yi) 0 :: .sl (Yi.Pq.map Gv.c) :: .i .i64 (Yi.Pq.length:Int) :: .i .i64 (Yi.Pq.length:Int) :: .i .i64 (Yi.Pq.length:Int) :: .i .i64 (IntKind.wrap .i64 ((Yi.Pq.length:Int) * (Yi.Pq.length:Int))) :: .own 0 :: an 69 []),[.vec 4 1 (Ye.map cB) false]⟩
theorem Zes (Yi:Gm) (hp0:Yi.Pq.length≤1073741824) (hp1:Yi.Tr.length≤1073741824) (hp2:∀ t∈Yi.Tr,t.length≤1073741824) (hp3:OkE Yi.Pq.length Yi.Tr):∀ (k:Nat) (Yk:Int) (Ye:(List Bool)) (Z33:0≤Yk) (Z5m:Ye.length=(IntKind.wrap .i64 ((Yi.Pq.length:Int) * (Yi.Pq.length:Int))).toNat) (hk:((Yi.Tr.length:Int) - Yk).toNat < k),Lp prog 0 (sub (X0 f137) [1,1,1,0,1,0,0]) (ZaQ Yi Yk Ye) (Z7u Yi (Z1p Yi k Yk Ye)).1 (Z7u Yi (Z1p Yi k Yk Ye)).2:=by
 intro k
 induction k with
 | zero=>intro Yk Ye Z33 Z5m hk;exact absurd hk (Nat.not_lt_zero _)
 | succ k ih =>
  intro Yk Ye Z33 Z5m hk
  have p {a C} (s:Scr a C):=sZ (cL (cI .i64)) Yi.Tr<|s
  cases Yv:(decide (Yk < (Yi.Tr.length:Int))) with
  | true =>
   have YI:=odt Yv
   have YT:(0:Int)≤Yk:=by clear p;exact (by assumption)
   have YV:Yk < (Yi.Tr.length:Int):=by clear p;exact (by assumption)
   have YX:(-9223372036854775808:Int)≤(Yk + 1):=by clear p;exact (by omega)
   have YZ:(Yk + 1)≤(9223372036854775807:Int):=by clear p;exact (by omega)
   have e:Z1p Yi (k + 1) Yk Ye=(Z1p Yi k (Yk + 1) (Z2q Yi Yk Ye)):=by simp only [Z1p,Yv,cond_true]
   rw [e]
   exact X8 E0Ok Z7 [] (mR false [0,1,1,4,7,9,69]) [0] (ih (Yk + 1) (Z2q Yi Yk Ye) (show 0≤(Yk + 1) from (by omega)) (show (Z2q Yi Yk Ye).length=(IntKind.wrap .i64 ((Yi.Pq.length:Int) * (Yi.Pq.length:Int))).toNat from (by simp_all<;>omega)) (by omega)) (p (sB Yv<|sG (cL (cI .i64)) Yi.Tr Yk YT YV<|sL Z9h 1 (X1 (Z7t Yi Yk Ye) (x:=(Z2q Yi Yk Ye)) (Zer Yi Yk Ye hp0 hp1 hp2 hp3 Z33 Z5m Yv (((3:Int) - 0).toNat + 1) 0 Ye (show 0≤0 from (by omega)) (show Ye.length=Ye.length from (by omega)) (Nat.lt_succ_self _)) rfl)<|sI (Yk + 1) YX YZ<|sN)) (by kernel_rfl)
  | false =>
   have YI:=odf Yv
   have e:Z1p Yi (k + 1) Yk Ye=Ye:=by simp only [Z1p,Yv,cond_false]
   rw [e]
   exact outR (e:=(.exit 0)) E0Ok Z7 [] (mR false [0,1,1,3,8,9,69]) [0] (p (sB Yv<|sN)) (by kernel_rfl) (by intro h;cases h)
theorem Zdj (Yi:Gm):∀ (k:Nat) (Yk:Int) (Ye:(List Bool)) (hk:((Yi.Tr.length:Int) - Yk).toNat < k),(Z1p Yi k Yk Ye).length=Ye.length:=by
  intro k
  induction k with
  | zero=>intro Yk Ye hk;exact absurd hk (Nat.not_lt_zero _)
  | succ k ih =>
    intro Yk Ye hk
    cases Yv:(decide (Yk < (Yi.Tr.length:Int))) with
    | true =>
      have e:Z1p Yi (k + 1) Yk Ye=(Z1p Yi k (Yk + 1) (Z2q Yi Yk Ye)):=by simp only [Z1p,Yv,cond_true]
      rw [e,ih (Yk + 1) (Z2q Yi Yk Ye) (by simp_all<;>omega)];simp
    | false =>
      have e:Z1p Yi (k + 1) Yk Ye=Ye:=by simp only [Z1p,Yv,cond_false]
      first | (rw [e];done) | (rw [e];rfl)
def ZW (Yi:Gm):(List Bool):=(Z1p Yi (((Yi.Tr.length:Int) - 0).toNat + 1) 0 (List.replicate (IntKind.wrap .i64 ((Yi.Pq.length:Int) * (Yi.Pq.length:Int))).toNat false))
@[simp] theorem Zbn (Yi:Gm):(ZW Yi).length=((List.replicate (IntKind.wrap .i64 ((Yi.Pq.length:Int) * (Yi.Pq.length:Int))).toNat false):(List Bool)).length:=Zdj Yi (((Yi.Tr.length:Int) - 0).toNat + 1) 0 (List.replicate (IntKind.wrap .i64 ((Yi.Pq.length:Int) * (Yi.Pq.length:Int))).toNat false) (by exact Nat.lt_succ_self _)
def Z1q (Yi:Gm) (YP:Int) (Yl:(List (List Int))):Nat→Int→(List (List Int))→(List (List Int))
  | 0,_,_=>default
  | k + 1,Y13,Yt=>(cond (decide (Y13 < (Yi.Pq.length:Int)))
    (cond ((ZW Yi).getD ((IntKind.wrap .i64 ((IntKind.wrap .i64 (YP * (Yi.Pq.length:Int))) + Y13)).toNat) default)
      (Z1q Yi YP Yl k (Y13 + 1) (Yt ++ [[YP,Y13]]))
      (Z1q Yi YP Yl k (Y13 + 1) Yt))
    Yt)
def Z7v (Yi:Gm) (YP:Int) (Yl:(List (List Int))) (r:(List (List Int))):Ex × St:=((.exit 6),⟨.ref (Gm.c Yi) 0 :: .any :: .nils :: .i .i64 (Yi.Pq.length:Int) :: .own 0 :: an 5 (.own 1 :: .i .i64 YP :: .any :: .ref (Gm.c Yi) 0 :: .ref (Gm.c Yi) 0 :: .ref (Gm.c Yi) 0 :: .sl (Yi.Pq.map Gv.c) :: .i .i64 (Yi.Pq.length:Int) :: .i .i64 (Yi.Pq.length:Int) :: .i .i64 (Yi.Pq.length:Int) :: .i .i64 (IntKind.wrap .i64 ((Yi.Pq.length:Int) * (Yi.Pq.length:Int))) :: .own 0 :: an 42 (.i .i64 YP :: .i .i64 (Yi.Pq.length:Int) :: .b (decide (YP < (Yi.Pq.length:Int))) :: .any :: .any :: .i .i64 YP :: .i .i64 (YP + 1) :: an 20 [])),[.vec 4 1 ((ZW Yi).map cB) false, .nest 49 (r.map fun l=>l.map (cI .i64)) false]⟩)
def ZaR (Yi:Gm) (YP:Int) (Yl:(List (List Int))) (Y13:Int) (Yt:(List (List Int))):St:=⟨.ref (Gm.c Yi) 0 :: .any :: .nils :: .i .i64 (Yi.Pq.length:Int) :: .own 0 :: an 5 (.own 1 :: .i .i64 YP :: .i .i64 Y13 :: .ref (Gm.c Yi) 0 :: .ref (Gm.c Yi) 0 :: .ref (Gm.c Yi) 0 :: .sl (Yi.Pq.map Gv.c) :: .i .i64 (Yi.Pq.length:Int) :: .i .i64 (Yi.Pq.length:Int) :: .i .i64 (Yi.Pq.length:Int) :: .i .i64 (IntKind.wrap .i64 ((Yi.Pq.length:Int) * (Yi.Pq.length:Int))) :: .own 0 :: an 42 (.i .i64 YP :: .i .i64 (Yi.Pq.length:Int) :: .b (decide (YP < (Yi.Pq.length:Int))) :: .any :: .any :: .i .i64 YP :: .i .i64 (YP + 1) :: an 20 [])),[.vec 4 1 ((ZW Yi).map cB) false, .nest 49 (Yt.map fun l=>l.map (cI .i64)) false]⟩
def Z6v:List Bool:=(mR false [0,1,1,3,5,12,42,3,2,2,20])
def Zdk:List Bool:=(mR false [0,1,1,3,5,2,1,9,42,3,2,2,20])
set_option maxHeartbeats 1000000 in
theorem Zet (Yi:Gm) (YP:Int) (Yl:(List (List Int))) (hp0:Yi.Pq.length≤1073741824) (hp1:Yi.Tr.length≤1073741824) (hp2:∀ t∈Yi.Tr,t.length≤1073741824) (hp3:OkE Yi.Pq.length Yi.Tr) (Z5n:0≤YP) (Z5o:(Yl.length:Int)≤64 * YP) (Z5p:(decide (YP < (Yi.Pq.length:Int)))=true):∀ (k:Nat) (Y13:Int) (Yt:(List (List Int))) (Z9j:YP < Y13) (Z9k:(Yt.length:Int)≤(Yl.length:Int) + Y13) (hk:((Yi.Pq.length:Int) - Y13).toNat < k),Lp prog 0 (sub (X0 f137) [1,1,1,1,1,0,1,0,0,1,0,0,1,0,0]) (ZaR Yi YP Yl Y13 Yt) (Z7v Yi YP Yl (Z1q Yi YP Yl k Y13 Yt)).1 (Z7v Yi YP Yl (Z1q Yi YP Yl k Y13 Yt)).2:=by
 intro k
 induction k with
 | zero=>intro Y13 Yt Z9j Z9k hk;exact absurd hk (Nat.not_lt_zero _)
 | succ k ih =>
  intro Y13 Yt Z9j Z9k hk
  cases YS:(decide (Y13 < (Yi.Pq.length:Int))) with
  | true =>
   have YW:=odt YS
   have Y1c:(0:Int)≤(IntKind.wrap .i64 ((IntKind.wrap .i64 (YP * (Yi.Pq.length:Int))) + Y13)):=(by ((have:=hp3.1;have g4:=odt Z5p;(have q2:=ix2F (n:=(Yi.Pq.length:Int)) (a:=YP) (b:=Y13) (by omega) (by omega) (by omega) (by omega) (by omega);omega))))
   have Y1g:(IntKind.wrap .i64 ((IntKind.wrap .i64 (YP * (Yi.Pq.length:Int))) + Y13)) < ((ZW Yi).length:Int):=(by ((have:=hp3.1;have g4:=odt Z5p;(have q2:=ix2F (n:=(Yi.Pq.length:Int)) (a:=YP) (b:=Y13) (by omega) (by omega) (by omega) (by omega) (by omega);(simp only [Zbn,List.length_replicate];omega)))))
   have Y1e:(IntKind.wrap .i64 ((IntKind.wrap .i64 (YP * (Yi.Pq.length:Int))) + Y13)).toNat < (ZW Yi).length:=(by omega)
   have p {a C} (s:Scr a C):=sB YS<|sW .i64 (YP * (Yi.Pq.length:Int))<|sW .i64 ((IntKind.wrap .i64 (YP * (Yi.Pq.length:Int))) + Y13)<|sX cB (ZW Yi) (IntKind.wrap .i64 ((IntKind.wrap .i64 (YP * (Yi.Pq.length:Int))) + Y13)) Y1c Y1g<|sV cB (ZW Yi) ((IntKind.wrap .i64 ((IntKind.wrap .i64 (YP * (Yi.Pq.length:Int))) + Y13)).toNat) Y1e<|s
   cases Y1a:((ZW Yi).getD ((IntKind.wrap .i64 ((IntKind.wrap .i64 (YP * (Yi.Pq.length:Int))) + Y13)).toNat) default) with
   | true =>
    have Y19:Yt.length + [[YP,Y13]].length≤1073741824:=by clear p;exact (by ((have:=hp3.1;have g4:=odt Z5p;(simp only [List.length_append,List.length_cons,List.length_nil];omega))))
    have Y1f:(-9223372036854775808:Int)≤(Y13 + 1):=by clear p;exact (by omega)
    have Y1n:(Y13 + 1)≤(9223372036854775807:Int):=by clear p;exact (by omega)
    have e:Z1q Yi YP Yl (k + 1) Y13 Yt=(Z1q Yi YP Yl k (Y13 + 1) (Yt ++ [[YP,Y13]])):=by simp only [Z1q,YS,Y1a,cond_true]
    rw [e]
    exact X9 E0Ok Z7 [] Z6v [0,1] (⟨.ref (Gm.c Yi) 0 :: .any :: .nils :: .i .i64 (Yi.Pq.length:Int) :: .own 0 :: an 5 (.own 1 :: .i .i64 YP :: .i .i64 (Y13 + 1) :: .ref (Gm.c Yi) 0 :: .ref (Gm.c Yi) 0 :: .ref (Gm.c Yi) 0 :: .sl (Yi.Pq.map Gv.c) :: .i .i64 (Yi.Pq.length:Int) :: .i .i64 (Yi.Pq.length:Int) :: .i .i64 (Yi.Pq.length:Int) :: .i .i64 (IntKind.wrap .i64 ((Yi.Pq.length:Int) * (Yi.Pq.length:Int))) :: .own 0 :: an 42 (.i .i64 YP :: .i .i64 (Yi.Pq.length:Int) :: .b (decide (YP < (Yi.Pq.length:Int))) :: .any :: .any :: .i .i64 YP :: .i .i64 (YP + 1) :: an 20 [])),[.vec 4 1 ((ZW Yi).map cB) false, .nest 49 ((Yt.map fun l=>l.map (cI .i64)) ++ [([[.i .i64 YP],[.i .i64 Y13]]:List (List AV))]) false]⟩) (p (sB Y1a<|sC (show (Yt.map fun l=>l.map (cI .i64)).length + [([[.i .i64 YP],[.i .i64 Y13]]:List (List AV))].length≤1073741824 from (by simpa using Y19))<|sI (Y13 + 1) Y1f Y1n<|sN)) (by kernel_rfl) (by simp [ZaR,cL,cI,cB]) (ih (Y13 + 1) (Yt ++ [[YP,Y13]]) (show YP < (Y13 + 1) from (by omega)) (show ((Yt ++ [[YP,Y13]]).length:Int)≤(Yl.length:Int) + (Y13 + 1) from (by ((have:=hp3.1;have g4:=odt Z5p;(simp only [List.length_append,List.length_cons,List.length_nil];omega))))) (by omega))
   | false =>
    have Y19:(-9223372036854775808:Int)≤(Y13 + 1):=by clear p;exact (by omega)
    have Y1f:(Y13 + 1)≤(9223372036854775807:Int):=by clear p;exact (by omega)
    have e:Z1q Yi YP Yl (k + 1) Y13 Yt=(Z1q Yi YP Yl k (Y13 + 1) Yt):=by simp only [Z1q,YS,Y1a,cond_true,cond_false]
    rw [e]
    exact X8 E0Ok Z7 [] Z6v [0,1] (ih (Y13 + 1) Yt (show YP < (Y13 + 1) from (by omega)) (show (Yt.length:Int)≤(Yl.length:Int) + (Y13 + 1) from (by omega)) (by omega)) (p (sB Y1a<|sI (Y13 + 1) Y19 Y1f<|sN)) (by kernel_rfl)
  | false =>
   have YW:=odf YS
   have e:Z1q Yi YP Yl (k + 1) Y13 Yt=Yt:=by simp only [Z1q,YS,cond_false]
   rw [e]
   exact outR (e:=(.exit 6)) E0Ok Z7 [] Zdk [0,1] (sB YS<|sN) (by kernel_rfl) (by intro h;cases h)
def Z3z (Yi:Gm) (YP:Int) (Yl:(List (List Int))):(List (List Int)):=(Z1q Yi YP Yl (((Yi.Pq.length:Int) - (YP + 1)).toNat + 1) (YP + 1) Yl)
theorem ZiZ (m:Gm) (a:Int) (r1:List (List Int)):∀ (k:Nat) (b:Int) (r:List (List Int)),(Z1q m a r1 k b r).length≤r.length + k:=by
  intro k
  induction k with
  | zero=>intro b r;exact Nat.zero_le _
  | succ k ih =>
    intro b r
    rw [Z1q]
    cases decide (b < (m.Pq.length:Int)) with
    | false=>rw [cond_false];omega
    | true =>
      rw [cond_true]
      cases ((ZW m).getD ((IntKind.wrap .i64 ((IntKind.wrap .i64 (a * (m.Pq.length:Int))) + b)).toNat) default) with
      | true=>rw [cond_true];have:=ih (b + 1) (r ++ [[a,b]]);simp only [List.length_append,List.length_cons,List.length_nil] at this;omega
      | false=>rw [cond_false];have:=ih (b + 1) r;omega
def Z3a (Yi:Gm):Nat→Int→(List (List Int))→(List (List Int))
  | 0,_,_=>default
  | k + 1,YP,Yl=>(cond (decide (YP < (Yi.Pq.length:Int)))
    (Z3a Yi k (YP + 1) (Z3z Yi YP Yl))
    Yl)
def Z7w (Yi:Gm) (r:(List (List Int))):Ex × St:=((.exit 4),⟨.ref (Gm.c Yi) 0 :: .any :: .nils :: .i .i64 (Yi.Pq.length:Int) :: .own 0 :: an 5 (.own 1 :: .any :: .any :: .ref (Gm.c Yi) 0 :: .ref (Gm.c Yi) 0 :: .ref (Gm.c Yi) 0 :: .sl (Yi.Pq.map Gv.c) :: .i .i64 (Yi.Pq.length:Int) :: .i .i64 (Yi.Pq.length:Int) :: .i .i64 (Yi.Pq.length:Int) :: .i .i64 (IntKind.wrap .i64 ((Yi.Pq.length:Int) * (Yi.Pq.length:Int))) :: .own 0 :: an 69 []),[.vec 4 1 ((ZW Yi).map cB) false, .nest 49 (r.map fun l=>l.map (cI .i64)) false]⟩)
def ZaS (Yi:Gm) (YP:Int) (Yl:(List (List Int))):St:=⟨.ref (Gm.c Yi) 0 :: .any :: .nils :: .i .i64 (Yi.Pq.length:Int) :: .own 0 :: an 5 (.own 1 :: .i .i64 YP :: .any :: .ref (Gm.c Yi) 0 :: .ref (Gm.c Yi) 0 :: .ref (Gm.c Yi) 0 :: .sl (Yi.Pq.map Gv.c) :: .i .i64 (Yi.Pq.length:Int) :: .i .i64 (Yi.Pq.length:Int) :: .i .i64 (Yi.Pq.length:Int) :: .i .i64 (IntKind.wrap .i64 ((Yi.Pq.length:Int) * (Yi.Pq.length:Int))) :: .own 0 :: an 69 []),[.vec 4 1 ((ZW Yi).map cB) false, .nest 49 (Yl.map fun l=>l.map (cI .i64)) false]⟩
theorem Zeu (Yi:Gm) (hp0:Yi.Pq.length≤1073741824) (hp1:Yi.Tr.length≤1073741824) (hp2:∀ t∈Yi.Tr,t.length≤1073741824) (hp3:OkE Yi.Pq.length Yi.Tr):∀ (k:Nat) (YP:Int) (Yl:(List (List Int))) (Z5n:0≤YP) (Z5o:(Yl.length:Int)≤64 * YP) (hk:((Yi.Pq.length:Int) - YP).toNat < k),Lp prog 0 (sub (X0 f137) [1,1,1,1,1,0,1,0,0]) (ZaS Yi YP Yl) (Z7w Yi (Z3a Yi k YP Yl)).1 (Z7w Yi (Z3a Yi k YP Yl)).2:=by
 intro k
 induction k with
 | zero=>intro YP Yl Z5n Z5o hk;exact absurd hk (Nat.not_lt_zero _)
 | succ k ih =>
  intro YP Yl Z5n Z5o hk
  cases Yv:(decide (YP < (Yi.Pq.length:Int))) with
  | true =>
   have YI:=odt Yv
   have YT:(-9223372036854775808:Int)≤(YP + 1):=(by omega)
   have YV:(YP + 1)≤(9223372036854775807:Int):=(by omega)
   have e:Z3a Yi (k + 1) YP Yl=(Z3a Yi k (YP + 1) (Z3z Yi YP Yl)):=by simp only [Z3a,Yv,cond_true]
   rw [e]
   exact X8 E0Ok Z7 [] (mR false [0,1,1,3,5,2,1,9,69]) [0,1] (ih (YP + 1) (Z3z Yi YP Yl) (show 0≤(YP + 1) from (by omega)) (show ((Z3z Yi YP Yl).length:Int)≤64 * (YP + 1) from (by ((have:=hp3.1;have g4:=odt Yv;have q:=ZiZ Yi YP Yl (((Yi.Pq.length:Int) - (YP + 1)).toNat + 1) (YP + 1) Yl;unfold Z3z;omega)))) (by omega)) (sB Yv<|sI (YP + 1) YT YV<|sL Z6v 2 (X1 (Z7v Yi YP Yl) (x:=(Z3z Yi YP Yl)) (Zet Yi YP Yl hp0 hp1 hp2 hp3 Z5n Z5o Yv (((Yi.Pq.length:Int) - (YP + 1)).toNat + 1) (YP + 1) Yl (show YP < (YP + 1) from (by omega)) (show (Yl.length:Int)≤(Yl.length:Int) + (YP + 1) from (by omega)) (Nat.lt_succ_self _)) rfl)<|sI (YP + 1) YT YV<|sN) (by kernel_rfl)
  | false =>
   have YI:=odf Yv
   have e:Z3a Yi (k + 1) YP Yl=Yl:=by simp only [Z3a,Yv,cond_false]
   rw [e]
   exact outR (e:=(.exit 4)) E0Ok Z7 [] (mR false [0,1,1,3,5,1,2,9,69]) [0,1] (sB Yv<|sN) (by kernel_rfl) (by intro h;cases h)
end Go.Ab
