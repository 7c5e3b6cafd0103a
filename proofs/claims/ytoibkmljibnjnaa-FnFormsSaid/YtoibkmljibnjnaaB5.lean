/- The functions of this seat as plain Lean, and that the program's are these. Printed by a program of the prover's own. -/
import Derived.Test.YtoibkmljibnjnaaB4
set_option linter.unusedVariables false
set_option linter.unusedSimpArgs false
set_option maxRecDepth 100000
namespace Go.Ab
open Go.RowKit Go.Proofs.Try
def Z1d (Y3:Gm):Nat→Int→Int→Int
  | 0,_,_=>default
  | k + 1,YJ,Ym=>(cond (decide (Ym < ((ZL Y3).length:Int)))
    (cond ((ZL Y3).getD Ym.toNat default)
      (Z1d Y3 k (YJ + 1) (Ym + 1))
      (Z1d Y3 k YJ (Ym + 1)))
    YJ)
def Z3M (Y3:Gm) (r:Int):Ex × St:=((.exit 0),⟨.agg [.sl (Y3.Pq.map Gv.c), .sl (Y3.Tr.map (cL (cI .i64)))] :: .ptr 0 0 0 :: .i .i64 0 :: .b false :: .i .i64 r :: an 4 (.agg [.sl (Y3.Pq.map Gv.c), .sl (Y3.Tr.map (cL (cI .i64)))] :: .b (Zh Y3) :: .b (!(Zh Y3)) :: .ptr 0 0 1 :: .sl (Y3.Tr.map (cL (cI .i64))) :: .i .i64 (Y3.Tr.length:Int) :: .agg [.sl (Y3.Pq.map Gv.c), .sl (Y3.Tr.map (cL (cI .i64)))] :: .own 1 :: an 18 []),[.box 27 [.sl (Y3.Pq.map Gv.c), .sl (Y3.Tr.map (cL (cI .i64)))], .vec 4 1 ((ZL Y3).map cB) false]⟩)
def Z6k (Y3:Gm) (YJ:Int) (Ym:Int):St:=⟨.agg [.sl (Y3.Pq.map Gv.c), .sl (Y3.Tr.map (cL (cI .i64)))] :: .ptr 0 0 0 :: .i .i64 0 :: .b false :: .i .i64 YJ :: an 4 (.agg [.sl (Y3.Pq.map Gv.c), .sl (Y3.Tr.map (cL (cI .i64)))] :: .b (Zh Y3) :: .b (!(Zh Y3)) :: .ptr 0 0 1 :: .sl (Y3.Tr.map (cL (cI .i64))) :: .i .i64 (Y3.Tr.length:Int) :: .agg [.sl (Y3.Pq.map Gv.c), .sl (Y3.Tr.map (cL (cI .i64)))] :: .own 1 :: .i .i64 ((ZL Y3).length:Int) :: .i .i64 Ym :: an 16 []),[.box 27 [.sl (Y3.Pq.map Gv.c), .sl (Y3.Tr.map (cL (cI .i64)))], .vec 4 1 ((ZL Y3).map cB) false]⟩
theorem Z6l (Y3:Gm) (hp0:Y3.Pq.length≤1073741824) (hp1:Y3.Tr.length≤1073741824) (hp2:∀ t∈Y3.Tr,t.length≤1073741824) (Z7s:(Zh Y3)=true):∀ (k:Nat) (YJ:Int) (Ym:Int) (Z4y:0≤Ym) (Z4z:0≤YJ) (Z4A:YJ≤1073741824 + Ym) (hk:(((ZL Y3).length:Int) - Ym).toNat < k),Lp prog 0 (sub (X1 f32) [1,1,1,0,1,0,0]) (Z6k Y3 YJ Ym) (Z3M Y3 (Z1d Y3 k YJ Ym)).1 (Z3M Y3 (Z1d Y3 k YJ Ym)).2:=by
 intro k
 induction k with
 | zero=>intro YJ Ym Z4y Z4z Z4A hk;exact absurd hk (Nat.not_lt_zero _)
 | succ k ih =>
  intro YJ Ym Z4y Z4z Z4A hk
  cases Yp:(decide (Ym < ((ZL Y3).length:Int))) with
  | true =>
   have YF:=odt Yp
   have YO:(0:Int)≤Ym:=(by assumption)
   have YL:Ym < ((ZL Y3).length:Int):=(by assumption)
   have YU:Ym.toNat < (ZL Y3).length:=(by omega)
   have p {a C} (s:Scr a C):=sB Yp<|sX cB (ZL Y3) Ym YO YL<|sV cB (ZL Y3) Ym.toNat YU<|s
   cases YI:((ZL Y3).getD Ym.toNat default) with
   | true =>
    have YR:(-9223372036854775808:Int)≤(YJ + 1):=by clear p;exact (by omega)
    have YZ:(YJ + 1)≤(9223372036854775807:Int):=by clear p;exact (by (have q:=Z2G Y3;omega))
    have y_5:(-9223372036854775808:Int)≤(Ym + 1):=by clear p;exact (by omega)
    have y_6:(Ym + 1)≤(9223372036854775807:Int):=by clear p;exact (by (have q:=Z2G Y3;omega))
    have e:Z1d Y3 (k + 1) YJ Ym=(Z1d Y3 k (YJ + 1) (Ym + 1)):=by simp only [Z1d,Yp,YI,cond_true]
    rw [e]
    exact Xb E0Ok Zo [] (mR false [0,5,4,10,16]) [0,1] (ih (YJ + 1) (Ym + 1) (show 0≤(Ym + 1) from (by omega)) (show 0≤(YJ + 1) from (by omega)) (show (YJ + 1)≤1073741824 + (Ym + 1) from (by omega)) (by omega)) (p (sB YI<|sI (YJ + 1) YR YZ<|sI (Ym + 1) y_5 y_6<|sN)) (by kernel_rfl)
   | false =>
    have YR:(-9223372036854775808:Int)≤(Ym + 1):=by clear p;exact (by omega)
    have YZ:(Ym + 1)≤(9223372036854775807:Int):=by clear p;exact (by (have q:=Z2G Y3;omega))
    have e:Z1d Y3 (k + 1) YJ Ym=(Z1d Y3 k YJ (Ym + 1)):=by simp only [Z1d,Yp,YI,cond_true,cond_false]
    rw [e]
    exact Xb E0Ok Zo [] (mR false [0,5,4,10,16]) [0,1] (ih YJ (Ym + 1) (show 0≤(Ym + 1) from (by omega)) (show 0≤YJ from (by assumption)) (show YJ≤1073741824 + (Ym + 1) from (by omega)) (by omega)) (p (sB YI<|sI (Ym + 1) YR YZ<|sN)) (by kernel_rfl)
  | false =>
   have YF:=odf Yp
   have e:Z1d Y3 (k + 1) YJ Ym=YJ:=by simp only [Z1d,Yp,cond_false]
   rw [e]
   exact outR (e:=(.exit 0)) E0Ok Zo [] (mR false [0,5,4,8,18]) [0,1] (sB Yp<|sN) (by kernel_rfl) (by intro h;cases h)
def Z22 (Y3:Gm):Int:=(Z1d Y3 ((((ZL Y3).length:Int) - 0).toNat + 1) (Y3.Tr.length:Int) 0)
def Zi (Y3:Gm):Int × Bool:=(cond (Zh Y3)
  ((IntKind.wrap .i64 ((Z22 Y3) - (((Zf Y3).2).length:Int))),true)
  (0,false))
theorem Z3H (Y3:Gm) (hp0:Y3.Pq.length≤1073741824) (hp1:Y3.Tr.length≤1073741824) (hp2:∀ t∈Y3.Tr,t.length≤1073741824)  : Fn prog 32 [.agg [.sl (Y3.Pq.map Gv.c), .sl (Y3.Tr.map (cL (cI .i64)))]] (.tup [.i .i64 ((Zi Y3).1), .b ((Zi Y3).2)]) []:=by
 have p {a C} (s:Scr a C):=sF (Z1J Y3 hp0 hp1 hp2)<|s
 cases h0:(Zh Y3) with
 | true =>
  have y0:OkE Y3.Pq.length Y3.Tr:=by clear p;exact (by exact ZO _ (by assumption))
  refine fnS E0Ok Zo (c:=X1 f32) [] (.tup [.i .i64 (IntKind.wrap .i64 ((Z22 Y3) - (((Zf Y3).2).length:Int))), .b true]) [] func32 (p (sB' h0<|sZ (cL (cI .i64)) Y3.Tr<|sF (Z6j Y3 hp0 hp1 hp2 y0)<|sZ cB (ZL Y3)<|sL (mR false [0,5,4,10,16]) 2 (X7 (Z3M Y3) (x:=(Z22 Y3)) (Z6l Y3 hp0 hp1 hp2 h0 ((((ZL Y3).length:Int) - 0).toNat + 1) (Y3.Tr.length:Int) 0 (show 0≤0 from (by omega)) (show 0≤(Y3.Tr.length:Int) from (by omega)) (show (Y3.Tr.length:Int)≤1073741824 + 0 from (by omega)) (Nat.lt_succ_self _)) rfl)<|sF (Z26 Y3 hp0 hp1 hp2 y0)<|sZ Gedge.cells ((Zf Y3).2)<|sW .i64 ((Z22 Y3) - (((Zf Y3).2).length:Int))<|sK [] sN)) rfl (by kernel_rfl) (by kernel_rfl) rfl ?_ ?_
  · simp only [Zi,h0,cond_true]
  · rfl
 | false =>
  refine fnS E0Ok Zo (c:=X1 f32) [] (.tup [.i .i64 0, .b false]) [] func32 (p (sB' h0<|sK [] sN)) rfl (by kernel_rfl) (by kernel_rfl) rfl ?_ ?_
  · simp only [Zi,h0,cond_false]
  · rfl
def ZH (Y3:Gm):Nat→Int→(List Gedge)→(List Gedge)
  | 0,_,_=>default
  | k + 1,Y1,Yf=>(cond (decide (Y1 < (((Zf Y3).2).length:Int)))
    (cond (mhas ((Zf Y3).1) (((Zf Y3).2).getD Y1.toNat default))
      (cond (((((Zf Y3).1).getD (midx ((Zf Y3).1) (((Zf Y3).2).getD Y1.toNat default)) default).2.length:Int) == 1)
        (ZH Y3 k (Y1 + 1) (Yf ++ [(((Zf Y3).2).getD Y1.toNat default)]))
        (ZH Y3 k (Y1 + 1) Yf))
      (ZH Y3 k (Y1 + 1) Yf))
    Yf)
def Z3w (Y3:Gm) (r:(List Gedge)):Ex × St:=((.exit 0),⟨.agg [.sl (Y3.Pq.map Gv.c), .sl (Y3.Tr.map (cL (cI .i64)))] :: .ptr 0 0 0 :: .nils :: .own 1 :: .any :: .own 2 :: an 4 (.agg [.sl (Y3.Pq.map Gv.c), .sl (Y3.Tr.map (cL (cI .i64)))] :: .any :: .mp 3 :: .own 2 :: .own 2 :: an 16 []),[.box 27 [.sl (Y3.Pq.map Gv.c), .sl (Y3.Tr.map (cL (cI .i64)))], .vec 113 2 (r.map Gedge.cells) false, .vec 113 2 (((Zf Y3).2).map Gedge.cells) false, .mapN 2 (mapC Gedge.pr (cI .i64) ((Zf Y3).1)) none]⟩)
def Z3x (Y3:Gm) (Y1:Int) (Yf:(List Gedge)):St:=⟨.agg [.sl (Y3.Pq.map Gv.c), .sl (Y3.Tr.map (cL (cI .i64)))] :: .ptr 0 0 0 :: .nils :: .own 1 :: .mp 2 :: .own 3 :: an 4 (.agg [.sl (Y3.Pq.map Gv.c), .sl (Y3.Tr.map (cL (cI .i64)))] :: .any :: .mp 2 :: .own 3 :: .own 3 :: .i .i64 (((Zf Y3).2).length:Int) :: .i .i64 Y1 :: an 14 []),[.box 27 [.sl (Y3.Pq.map Gv.c), .sl (Y3.Tr.map (cL (cI .i64)))], .vec 113 2 (Yf.map Gedge.cells) false, .mapN 2 (mapC Gedge.pr (cI .i64) ((Zf Y3).1)) none, .vec 113 2 (((Zf Y3).2).map Gedge.cells) false]⟩
theorem Z63 (Y3:Gm) (hp0:Y3.Pq.length≤1073741824) (hp1:Y3.Tr.length≤1073741824) (hp2:∀ t∈Y3.Tr,t.length≤1073741824) (hp3:OkE Y3.Pq.length Y3.Tr):∀ (k:Nat) (Y1:Int) (Yf:(List Gedge)) (Z1D:0≤Y1) (Z4m:(Yf.length:Int)≤Y1) (hk:((((Zf Y3).2).length:Int) - Y1).toNat < k),Lp prog 0 (sub (X1 f86) [1,1,1,0,1,0,0]) (Z3x Y3 Y1 Yf) (Z3w Y3 (ZH Y3 k Y1 Yf)).1 (Z3w Y3 (ZH Y3 k Y1 Yf)).2:=by
 intro k
 induction k with
 | zero=>intro Y1 Yf Z1D Z4m hk;exact absurd hk (Nat.not_lt_zero _)
 | succ k ih =>
  intro Y1 Yf Z1D Z4m hk
  cases Yp:(decide (Y1 < (((Zf Y3).2).length:Int))) with
  | true =>
   have YF:=odt Yp
   have YO:(0:Int)≤Y1:=(by assumption)
   have YL:Y1 < (((Zf Y3).2).length:Int):=(by assumption)
   have YU:Y1.toNat < ((Zf Y3).2).length:=(by omega)
   have p {a C} (s:Scr a C):=sB Yp<|sX Gedge.cells ((Zf Y3).2) Y1 YO YL<|sV Gedge.cells ((Zf Y3).2) Y1.toNat YU<|s
   cases YI:(mhas ((Zf Y3).1) (((Zf Y3).2).getD Y1.toNat default)) with
   | true =>
    have m_8:=X2M YI
    have q {a C} (s:Scr a C):=p (sA (.keep [midx ((Zf Y3).1) (((Zf Y3).2).getD Y1.toNat default)])<|sC (X3p (ck:=Gedge.pr) (cv:=(cI .i64)) YI)<|sM (X5T (ck:=Gedge.pr) (cv:=(cI .i64)) (l:=(Zf Y3).1) (j:=(midx ((Zf Y3).1) (((Zf Y3).2).getD Y1.toNat default))))<|s)
    clear p
    cases YS:(((((Zf Y3).1).getD (midx ((Zf Y3).1) (((Zf Y3).2).getD Y1.toNat default)) default).2.length:Int) == 1) with
    | true =>
     have Y1d:=eq_of_beq YS
     have YR:Yf.length + ([(((Zf Y3).2).getD Y1.toNat default)]).length≤1073741824:=by clear q;exact (by ((have q:=Z4T Y3 hp3 Z1D (odt (by assumption));(simp only [List.length_append,List.length_cons,List.length_nil];omega))))
     have YZ:(-9223372036854775808:Int)≤(Y1 + 1):=by clear q;exact (by omega)
     have y_5:(Y1 + 1)≤(9223372036854775807:Int):=by clear q;exact (by ((have q:=Z4T Y3 hp3 Z1D (odt (by assumption));omega)))
     have e:ZH Y3 (k + 1) Y1 Yf=(ZH Y3 k (Y1 + 1) (Yf ++ [(((Zf Y3).2).getD Y1.toNat default)])):=by simp only [ZH,Yp,YI,YS,cond_true]
     rw [e]
     exact XQ E0Ok Zo [] (mR false [0,6,4,1,1,5,14]) [0,1,2,3] (⟨.agg [.sl (Y3.Pq.map Gv.c), .sl (Y3.Tr.map (cL (cI .i64)))] :: .ptr 0 0 0 :: .nils :: .own 1 :: .mp 2 :: .own 3 :: an 4 (.agg [.sl (Y3.Pq.map Gv.c), .sl (Y3.Tr.map (cL (cI .i64)))] :: .any :: .mp 2 :: .own 3 :: .own 3 :: .i .i64 (((Zf Y3).2).length:Int) :: .i .i64 (Y1 + 1) :: an 14 []),[.box 27 [.sl (Y3.Pq.map Gv.c), .sl (Y3.Tr.map (cL (cI .i64)))], .vec 113 2 ((Yf.map Gedge.cells) ++ ([[.i .i64 ((((Zf Y3).2).getD Y1.toNat default).e0), .i .i64 ((((Zf Y3).2).getD Y1.toNat default).e1)]]:List (List AV))) false, .mapN 2 (mapC Gedge.pr (cI .i64) ((Zf Y3).1)) none, .vec 113 2 (((Zf Y3).2).map Gedge.cells) false]⟩) (q (sB YS<|sC (show (Yf.map Gedge.cells).length + ([[.i .i64 ((((Zf Y3).2).getD Y1.toNat default).e0), .i .i64 ((((Zf Y3).2).getD Y1.toNat default).e1)]]:List (List AV)).length≤1073741824 from (by simpa using YR))<|sI (Y1 + 1) YZ y_5<|sN)) (by kernel_rfl) (by simp [Z3x,Gedge.cells]) (ih (Y1 + 1) (Yf ++ [(((Zf Y3).2).getD Y1.toNat default)]) (show 0≤(Y1 + 1) from (by omega)) (show ((Yf ++ [(((Zf Y3).2).getD Y1.toNat default)]).length:Int)≤(Y1 + 1) from (by ((have q:=Z4T Y3 hp3 Z1D (odt (by assumption));(simp only [List.length_append,List.length_cons,List.length_nil];omega))))) (by omega))
    | false =>
     have Y1d:=ne_of_beq_false YS
     have YR:(-9223372036854775808:Int)≤(Y1 + 1):=by clear q;exact (by omega)
     have YZ:(Y1 + 1)≤(9223372036854775807:Int):=by clear q;exact (by ((have q:=Z4T Y3 hp3 Z1D (odt (by assumption));omega)))
     have e:ZH Y3 (k + 1) Y1 Yf=(ZH Y3 k (Y1 + 1) Yf):=by simp only [ZH,Yp,YI,YS,cond_true,cond_false]
     rw [e]
     exact Xb E0Ok Zo [] (mR false [0,6,4,1,1,5,14]) [0,1,2,3] (ih (Y1 + 1) Yf (show 0≤(Y1 + 1) from (by omega)) (show (Yf.length:Int)≤(Y1 + 1) from (by omega)) (by omega)) (q (sB YS<|sI (Y1 + 1) YR YZ<|sN)) (by kernel_rfl)
   | false =>
    have YR:(-9223372036854775808:Int)≤(Y1 + 1):=by clear p;exact (by omega)
    have YZ:(Y1 + 1)≤(9223372036854775807:Int):=by clear p;exact (by ((have q:=Z4T Y3 hp3 Z1D (odt (by assumption));omega)))
    have e:ZH Y3 (k + 1) Y1 Yf=(ZH Y3 k (Y1 + 1) Yf):=by simp only [ZH,Yp,YI,cond_true,cond_false]
    rw [e]
    exact Xb E0Ok Zo [] (mR false [0,6,4,1,1,5,14]) [0,1,2,3] (ih (Y1 + 1) Yf (show 0≤(Y1 + 1) from (by omega)) (show (Yf.length:Int)≤(Y1 + 1) from (by omega)) (by omega)) (p (sA (.keep [])<|sC (X4g (ck:=Gedge.pr) (cv:=(cI .i64)) Gedge.inj YI)<|sM (show ((0:Nat):Int)=0 from rfl)<|sB (show (0 == 1)=false from rfl)<|sI (Y1 + 1) YR YZ<|sN)) (by kernel_rfl)
  | false =>
   have YF:=odf Yp
   have e:ZH Y3 (k + 1) Y1 Yf=Yf:=by simp only [ZH,Yp,cond_false]
   rw [e]
   exact outR (e:=(.exit 0)) E0Ok Zo [] (mR false [0,4,1,1,4,1,1,3,16]) [0,1,3,2] (sB Yp<|sN) (by kernel_rfl) (by intro h;cases h)
def Z2u (Y3:Gm):(List Gedge):=(ZH Y3 (((((Zf Y3).2).length:Int) - 0).toNat + 1) 0 ([]:List Gedge))
def Z1o (Y3:Gm):(List Gedge):=(Z2u Y3)
theorem Z6s (m:Gm) (ok:OkE m.Pq.length m.Tr):Z1o m=brL m.Pq.length m.Tr:=by
  unfold Z1o Z2u
  refine (X6W (a:=(Zf m).2) (p:=fun e=>decide ((idxP m.Tr e.e0 e.e1).length=1)) (f:=fun e=>e) (lo:=ZH m) (fun k i r h0 hi => ?_) (fun k i r hi => ?_)).trans ?_
  · obtain ⟨g1,g2⟩:=Z73 m ok (Z6X m ok h0 hi)
    rw [ZH,decide_eq_true hi,cond_true,g1,cond_true,g2]
    have hc:((((idxP m.Tr ((Zf m).2.getD i.toNat default).e0 ((Zf m).2.getD i.toNat default).e1).length:Nat):Int) == 1)=decide ((idxP m.Tr ((Zf m).2.getD i.toNat default).e0 ((Zf m).2.getD i.toNat default).e1).length=1):=by
      rw [Bool.eq_iff_iff,beq_iff_eq,decide_eq_true_iff];omega
    rw [hc]
  · rw [ZH,decide_eq_false (by omega),cond_false]
  · rw [Z3X m ok,List.map_id'];rfl
theorem Z64 (m:Gm) (ok:OkE m.Pq.length m.Tr):(Z1o m).length≤4096:=by rw [Z6s m ok];exact X8i ok
theorem Z5k (Y3:Gm) (hp0:Y3.Pq.length≤1073741824) (hp1:Y3.Tr.length≤1073741824) (hp2:∀ t∈Y3.Tr,t.length≤1073741824) (hp3:OkE Y3.Pq.length Y3.Tr)  : Fn prog 86 [.agg [.sl (Y3.Pq.map Gv.c), .sl (Y3.Tr.map (cL (cI .i64)))]] (.own 0) [.vec 113 2 ((Z1o Y3).map Gedge.cells) false]:=by
 refine fnS E0Ok Zo (c:=X1 f86) [] (.own 0) [.vec 113 2 ((Z2u Y3).map Gedge.cells) false] func86 (sF (Z26 Y3 hp0 hp1 hp2 hp3)<|sZ Gedge.cells ((Zf Y3).2)<|sL (mR false [0,6,4,1,1,5,14]) 4 (XI (st2:=⟨.agg [.sl (Y3.Pq.map Gv.c), .sl (Y3.Tr.map (cL (cI .i64)))] :: .ptr 0 0 0 :: .nils :: .own 1 :: .mp 2 :: .own 3 :: an 4 (.agg [.sl (Y3.Pq.map Gv.c), .sl (Y3.Tr.map (cL (cI .i64)))] :: .any :: .mp 2 :: .own 3 :: .own 3 :: .i .i64 (((Zf Y3).2).length:Int) :: .i .i64 0 :: an 14 []),[.box 27 [.sl (Y3.Pq.map Gv.c), .sl (Y3.Tr.map (cL (cI .i64)))], .vec 113 2 ([]:List (List AV)) false, .mapN 2 (mapC Gedge.pr (cI .i64) ((Zf Y3).1)) none, .vec 113 2 (((Zf Y3).2).map Gedge.cells) false]⟩) (X7 (Z3w Y3) (x:=(Z2u Y3)) (Z63 Y3 hp0 hp1 hp2 hp3 (((((Zf Y3).2).length:Int) - 0).toNat + 1) 0 ([]:List Gedge) (show 0≤0 from (by omega)) (show (([]:List Gedge).length:Int)≤0 from (by simp)) (Nat.lt_succ_self _)) rfl) (by simp [Z3x,Gedge.cells]))<|sK [1] sN) rfl (by kernel_rfl) (by kernel_rfl) rfl ?_ ?_
 · rfl
 · simp [Z1o]
def Z1r (Yg:(List Gedge)):Nat→Int→(List (List Int))→(List (List Int))
  | 0,_,_=>default
  | k + 1,Y1,Yv=>(cond (decide (Y1 < (Yg.length:Int)))
    (Z1r Yg k (Y1 + 1) (Yv ++ [[(Yg.getD Y1.toNat default).e0,(Yg.getD Y1.toNat default).e1]]))
    Yv)
def Z3N (Yg:(List Gedge)) (r:(List (List Int))):Ex × St:=((.exit 0),⟨.sl (Yg.map Gedge.cells) :: .any :: .nils :: .own 0 :: .any :: .any :: .any :: .sl (Yg.map Gedge.cells) :: an 15 [],[.nest 60 (r.map fun l=>l.map (cI .i64)) false]⟩)
def Z3O (Yg:(List Gedge)) (Y1:Int) (Yv:(List (List Int))):St:=⟨.sl (Yg.map Gedge.cells) :: .any :: .nils :: .own 0 :: .any :: .any :: .any :: .sl (Yg.map Gedge.cells) :: .i .i64 (Yg.length:Int) :: .i .i64 Y1 :: an 13 [],[.nest 60 (Yv.map fun l=>l.map (cI .i64)) false]⟩
theorem Z6m (Yg:(List Gedge)) (hp0:Yg.length≤1073741824):∀ (k:Nat) (Y1:Int) (Yv:(List (List Int))) (Z4B:0≤Y1) (Z4C:(Yv.length:Int)=Y1) (hk:((Yg.length:Int) - Y1).toNat < k),Lp prog 0 (sub (X1 f85) [1,1,0,1,0,0]) (Z3O Yg Y1 Yv) (Z3N Yg (Z1r Yg k Y1 Yv)).1 (Z3N Yg (Z1r Yg k Y1 Yv)).2:=by
 intro k
 induction k with
 | zero=>intro Y1 Yv Z4B Z4C hk;exact absurd hk (Nat.not_lt_zero _)
 | succ k ih =>
  intro Y1 Yv Z4B Z4C hk
  cases Yp:(decide (Y1 < (Yg.length:Int))) with
  | true =>
   have YF:=odt Yp
   have YO:(0:Int)≤Y1:=(by assumption)
   have YL:Y1 < (Yg.length:Int):=(by assumption)
   have YU:Yv.length + [[(Yg.getD Y1.toNat default).e0,(Yg.getD Y1.toNat default).e1]].length≤1073741824:=(by simp_all<;>omega)
   have YR:(-9223372036854775808:Int)≤(Y1 + 1):=(by omega)
   have YZ:(Y1 + 1)≤(9223372036854775807:Int):=(by omega)
   have e:Z1r Yg (k + 1) Y1 Yv=(Z1r Yg k (Y1 + 1) (Yv ++ [[(Yg.getD Y1.toNat default).e0,(Yg.getD Y1.toNat default).e1]])):=by simp only [Z1r,Yp,cond_true]
   rw [e]
   exact XQ E0Ok Zo [] (mR false [0,1,1,2,3,3,13]) [0] (⟨.sl (Yg.map Gedge.cells) :: .any :: .nils :: .own 0 :: .any :: .any :: .any :: .sl (Yg.map Gedge.cells) :: .i .i64 (Yg.length:Int) :: .i .i64 (Y1 + 1) :: an 13 [],[.nest 60 ((Yv.map fun l=>l.map (cI .i64)) ++ [([[.i .i64 ((Yg.getD Y1.toNat default).e0)],[.i .i64 ((Yg.getD Y1.toNat default).e1)]]:List (List AV))]) false]⟩) (sB Yp<|sG Gedge.cells Yg Y1 YO YL<|sC (show (0:Int)≤0∧0 < ((2:Nat):Int) from (by decide))<|sC (show (0:Int)≤1∧1 < ((2:Nat):Int) from (by decide))<|sC (show (Yv.map fun l=>l.map (cI .i64)).length + [([[.i .i64 ((Yg.getD Y1.toNat default).e0)],[.i .i64 ((Yg.getD Y1.toNat default).e1)]]:List (List AV))].length≤1073741824 from (by simpa using YU))<|sI (Y1 + 1) YR YZ<|sN) (by kernel_rfl) (by simp [Z3O,cL,cI]) (ih (Y1 + 1) (Yv ++ [[(Yg.getD Y1.toNat default).e0,(Yg.getD Y1.toNat default).e1]]) (show 0≤(Y1 + 1) from (by omega)) (show ((Yv ++ [[(Yg.getD Y1.toNat default).e0,(Yg.getD Y1.toNat default).e1]]).length:Int)=(Y1 + 1) from (by simp_all<;>omega)) (by omega))
  | false =>
   have YF:=odf Yp
   have e:Z1r Yg (k + 1) Y1 Yv=Yv:=by simp only [Z1r,Yp,cond_false]
   rw [e]
   exact outR (e:=(.exit 0)) E0Ok Zo [] (mR false [0,1,1,2,3,1,15]) [0] (sB Yp<|sN) (by kernel_rfl) (by intro h;cases h)
def Z2D (Yg:(List Gedge)):(List (List Int)):=(Z1r Yg (((Yg.length:Int) - 0).toNat + 1) 0 ([]:List (List Int)))
def Z1t (Yg:(List Gedge)):(List (List Int)):=(Z2D Yg)
theorem Z56 (l:List Gedge):Z1t l=l.map e2:=by
  unfold Z1t Z2D
  rw [X7K (f:=fun i=>e2 (l.getD i.toNat default)) (n:=(l.length:Int)) (lo:=Z1r l) (fun k i r=>rfl) _ _ _ (Nat.lt_succ_self _),List.nil_append]
  apply List.ext_getElem (by simp)
  intro i h1 h2
  simp only [List.length_map,List.length_range] at h1
  rw [List.getElem_map,List.getElem_map,List.getElem_range,show ((0:Int) + (i:Int)).toNat=i from by omega,List.getD_eq_getElem?_getD,List.getElem?_eq_getElem (by omega)]
  rfl
theorem Z5r (Yg:(List Gedge)) (hp0:Yg.length≤1073741824)  : Fn prog 85 [.sl (Yg.map Gedge.cells)] (.own 0) [.nest 60 ((Z1t Yg).map fun l=>l.map (cI .i64)) false]:=by
 refine fnS E0Ok Zo (c:=X1 f85) [] (.own 0) [.nest 60 ((Z2D Yg).map fun l=>l.map (cI .i64)) false] func85 (sZ Gedge.cells Yg<|sL (mR false [0,1,1,2,3,3,13]) 1 (XI (st2:=⟨.sl (Yg.map Gedge.cells) :: .any :: .nils :: .own 0 :: .any :: .any :: .any :: .sl (Yg.map Gedge.cells) :: .i .i64 (Yg.length:Int) :: .i .i64 0 :: an 13 [],[.nest 60 [] false]⟩) (X7 (Z3N Yg) (x:=(Z2D Yg)) (Z6m Yg hp0 (((Yg.length:Int) - 0).toNat + 1) 0 ([]:List (List Int)) (show 0≤0 from (by omega)) (show (([]:List (List Int)).length:Int)=0 from (by simp)) (Nat.lt_succ_self _)) rfl) (by simp [Z3O,cL,cI]))<|sK [0] sN) rfl (by kernel_rfl) (by kernel_rfl) rfl ?_ ?_
 · rfl
 · simp [Z1t]
def Zl (Y3:Gm):(List (List Int)) × Bool:=(cond (Zh Y3)
  ((Z1t (Z1o Y3)),true)
  (([]:List (List Int)),false))
theorem Z30 (m:Gm):(Zl m).1.length≤4096:=by
  unfold Zl
  cases h:Zh m with
  | false=>exact Nat.zero_le _
  | true =>
    rw [cond_true]
    show (Z1t _).length≤_
    rw [Z56,List.length_map]
    exact Z64 m (ZO m h)
theorem Z3h (Y3:Gm) (hp0:Y3.Pq.length≤1073741824) (hp1:Y3.Tr.length≤1073741824) (hp2:∀ t∈Y3.Tr,t.length≤1073741824)  : Fn prog 33 [.agg [.sl (Y3.Pq.map Gv.c), .sl (Y3.Tr.map (cL (cI .i64)))]] (.tup [.own 0, .b ((Zl Y3).2)]) [.nest 60 (((Zl Y3).1).map fun l=>l.map (cI .i64)) false]:=by
 have p {a C} (s:Scr a C):=sF (Z1J Y3 hp0 hp1 hp2)<|s
 cases h0:(Zh Y3) with
 | true =>
  have y0:OkE Y3.Pq.length Y3.Tr:=by clear p;exact (by exact ZO _ (by assumption))
  have y1:(Z1o Y3).length≤1073741824:=by clear p;exact (by (have q:=Z64 Y3 (ZO Y3 (by assumption));omega))
  refine fnS E0Ok Zo (c:=X1 f33) [] (.tup [.own 0, .b true]) [.nest 60 ((Z1t (Z1o Y3)).map fun l=>l.map (cI .i64)) false] func33 (p (sB' h0<|sF (Z5k Y3 hp0 hp1 hp2 y0)<|sF (Z5r (Z1o Y3) y1)<|sK [2] sN)) rfl (by kernel_rfl) (by kernel_rfl) rfl ?_ ?_
  · simp only [Zl,h0,cond_true]
  · simp [Zl,h0]
 | false =>
  refine fnS E0Ok Zo (c:=X1 f33) [(.tm 2, .nest 60 [] false)] (.tup [.own 0, .b false]) [.nest 60 [] false] func33 (p (sB' h0<|sK [1] sN)) rfl (by kernel_rfl) (by kernel_rfl) rfl ?_ ?_
  · simp only [Zl,h0,cond_false]
  · simp [Zl,h0,cL,cI]
def Zn (Y3:Gm):(List (List Int)) × Bool:=(cond (Zh Y3)
  ((Z1t ((Zf Y3).2)),true)
  (([]:List (List Int)),false))
theorem Z3i (m:Gm):(Zn m).1.length≤4096:=by
  unfold Zn
  cases h:Zh m with
  | false=>exact Nat.zero_le _
  | true =>
    rw [cond_true]
    show (Z1t _).length≤_
    rw [Z56,List.length_map]
    exact Z5Z m (ZO m h)
theorem Z3I (Y3:Gm) (hp0:Y3.Pq.length≤1073741824) (hp1:Y3.Tr.length≤1073741824) (hp2:∀ t∈Y3.Tr,t.length≤1073741824)  : Fn prog 34 [.agg [.sl (Y3.Pq.map Gv.c), .sl (Y3.Tr.map (cL (cI .i64)))]] (.tup [.own 0, .b ((Zn Y3).2)]) [.nest 60 (((Zn Y3).1).map fun l=>l.map (cI .i64)) false]:=by
 have p {a C} (s:Scr a C):=sF (Z1J Y3 hp0 hp1 hp2)<|s
 cases h0:(Zh Y3) with
 | true =>
  have y0:OkE Y3.Pq.length Y3.Tr:=by clear p;exact (by exact ZO _ (by assumption))
  have y1:((Zf Y3).2).length≤1073741824:=by clear p;exact (by exact Nat.le_trans (Z5Z _ (by assumption)) (by decide))
  refine fnS E0Ok Zo (c:=X1 f34) [] (.tup [.own 0, .b true]) [.nest 60 ((Z1t ((Zf Y3).2)).map fun l=>l.map (cI .i64)) false] func34 (p (sB' h0<|sF (Z26 Y3 hp0 hp1 hp2 y0)<|sF (Z5r ((Zf Y3).2) y1)<|sK [3] sN)) rfl (by kernel_rfl) (by kernel_rfl) rfl ?_ ?_
  · simp only [Zn,h0,cond_true]
  · simp [Zn,h0]
 | false =>
  refine fnS E0Ok Zo (c:=X1 f34) [(.tm 2, .nest 60 [] false)] (.tup [.own 0, .b false]) [.nest 60 [] false] func34 (p (sB' h0<|sK [1] sN)) rfl (by kernel_rfl) (by kernel_rfl) rfl ?_ ?_
  · simp only [Zn,h0,cond_false]
  · simp [Zn,h0,cL,cI]
def Z1h (p:List Int):Prop:=∀ k:Int,0≤k→k < (p.length:Int)→0≤p.getD k.toNat default∧p.getD k.toNat default≤k
theorem Z1h.set {p:List Int} (h:Z1h p) {j v:Int} (h0:0≤v) (h1:v≤j):Z1h (p.set j.toNat v):=by
  intro k k0 k1
  rw [List.length_set] at k1
  have hk:k.toNat < p.length:=by omega
  have q:=h k k0 k1
  rw [List.getD_eq_getElem?_getD,List.getElem?_eq_getElem (by rw [List.length_set];exact hk),Option.getD_some,List.getElem_set]
  rw [List.getD_eq_getElem?_getD,List.getElem?_eq_getElem hk,Option.getD_some] at q
  split
  · omega
  · exact q
theorem Z1h.app {p:List Int} (h:Z1h p):Z1h (p ++ [(p.length:Int)]):=by
  intro k k0 k1
  rw [List.length_append,List.length_cons,List.length_nil] at k1
  by_cases hk:k < (p.length:Int)
  · have q:=h k k0 hk
    rw [List.getD_eq_getElem?_getD,List.getElem?_append_left (by omega),← List.getD_eq_getElem?_getD]
    exact q
  · have e:k.toNat=p.length:=by omega
    rw [List.getD_eq_getElem?_getD,e,List.getElem?_append_right (Nat.le_refl _),Nat.sub_self]
    show 0≤(p.length:Int)∧(p.length:Int)≤k
    omega
def Z12 (YT:Int) (Y9:(List Int)):Nat→Int→Int
  | 0,_=>default
  | k + 1,YH=>(cond ((Y9.getD YH.toNat default) != YH)
    (Z12 YT Y9 k (Y9.getD YH.toNat default))
    YH)
def Z31 (YT:Int) (Y9:(List Int)) (r:Int):Ex × St:=((.exit 0),⟨.i .i64 YT :: .any :: .any :: .i .i64 0 :: .i .i64 r :: .i .i64 YT :: an 11 [],[]⟩)
def Z5F (YT:Int) (Y9:(List Int)) (YH:Int):St:=⟨.i .i64 YT :: .ref [.sl (Y9.map (cI .i64))] 0 :: .any :: .i .i64 0 :: .i .i64 YH :: .i .i64 YT :: an 11 [],[]⟩
theorem Z5G (YT:Int) (Y9:(List Int)) (hp0:Y9.length≤1073741824) (hp1:Z1h Y9) (hp2:0≤YT) (hp3:YT < (Y9.length:Int)):∀ (k:Nat) (YH:Int) (Z3S:0≤YH) (Z2a:YH < (Y9.length:Int)) (hk:YH.toNat < k),Lp prog 0 (sub (X1 f87) [1,1,0,0,0]) (Z5F YT Y9 YH) (Z31 YT Y9 (Z12 YT Y9 k YH)).1 (Z31 YT Y9 (Z12 YT Y9 k YH)).2:=by
 intro k
 induction k with
 | zero=>intro YH Z3S Z2a hk;exact absurd hk (Nat.not_lt_zero _)
 | succ k ih =>
  intro YH Z3S Z2a hk
  have YO:(0:Int)≤YH:=(by assumption)
  have p {a C} (s:Scr a C):=sG (cI .i64) Y9 YH YO Z2a<|s
  cases Yp:((Y9.getD YH.toNat default) != YH) with
  | true =>
   have YF:=bne_iff_ne.1 Yp
   have e:Z12 YT Y9 (k + 1) YH=(Z12 YT Y9 k (Y9.getD YH.toNat default)):=by simp only [Z12,Yp,cond_true]
   rw [e]
   exact Xb E0Ok Zo [] (mR false [0,2,1,3,11]) [] (ih (Y9.getD YH.toNat default) (show 0≤(Y9.getD YH.toNat default) from (by have q:=hp1 YH (by assumption) (by assumption);omega)) (show (Y9.getD YH.toNat default) < (Y9.length:Int) from (by have q:=hp1 YH (by assumption) (by assumption);omega)) (by ((have q:=hp1 YH (by assumption) (by assumption);omega)))) (p (sB Yp<|sG (cI .i64) Y9 YH YO Z2a<|sN)) (by kernel_rfl)
  | false =>
   have YF:=bne_eq_false_iff_eq.1 Yp
   have e:Z12 YT Y9 (k + 1) YH=YH:=by simp only [Z12,Yp,cond_false]
   rw [e]
   exact outR (e:=(.exit 0)) E0Ok Zo [] (mR false [0,1,2,3,11]) [] (p (sB Yp<|sN)) (by kernel_rfl) (by intro h;cases h)
def Z2b (YT:Int) (Y9:(List Int)):Int:=(Z12 YT Y9 (YT.toNat + 1) YT)
def Za (YT:Int) (Y9:(List Int)):Int:=(Z2b YT Y9)
theorem Z84 (i:Int) (p:List Int) (h:Z1h p):∀ (k:Nat) (x:Int),0≤x→x < (p.length:Int)→0≤Z12 i p k x∧Z12 i p k x≤x:=by
  intro k
  induction k with
  | zero=>intro x h0 h1;exact ⟨Int.le_refl 0,h0⟩
  | succ k ih =>
    intro x h0 h1
    rw [Z12]
    cases (p.getD x.toNat default != x) with
    | true =>
      rw [cond_true]
      have q:=h x h0 h1
      have q2:=ih _ q.1 (by omega)
      omega
    | false=>rw [cond_false];omega
theorem Z6c {i:Int} {p:List Int} (h:Z1h p) (h0:0≤i) (h1:i < (p.length:Int)):0≤Za i p∧Za i p≤i:=by
  unfold Za Z2b
  exact Z84 i p h _ _ h0 h1
theorem Z3P (YT:Int) (Y9:(List Int)) (hp0:Y9.length≤1073741824) (hp1:Z1h Y9) (hp2:0≤YT) (hp3:YT < (Y9.length:Int))  : Fn prog 87 [.i .i64 YT, .ref [.sl (Y9.map (cI .i64))] 0] (.i .i64 (Za YT Y9)) []:=by
 refine fnS E0Ok Zo (c:=X1 f87) [] (.i .i64 (Z2b YT Y9)) [] func87 (sL (mR false [0,2,1,3,11]) 0 (X7 (Z31 YT Y9) (x:=(Z2b YT Y9)) (Z5G YT Y9 hp0 hp1 hp2 hp3 (YT.toNat + 1) YT (show 0≤YT from (by assumption)) (show YT < (Y9.length:Int) from (by assumption)) (Nat.lt_succ_self _)) rfl)<|sK [] sN) rfl (by kernel_rfl) (by kernel_rfl) rfl ?_ ?_
 · rfl
 · rfl
def Z1e (Y3:Gm):Nat→Int→(List Int)→(List Int)
  | 0,_,_=>default
  | k + 1,Y1,Yf=>(cond (decide (Y1 < (Y3.Pq.length:Int)))
    (Z1e Y3 k (Y1 + 1) (Yf ++ [Y1]))
    Yf)
def Z3y (Y3:Gm) (r:(List Int)):Ex × St:=((.exit 0),⟨.agg [.sl (Y3.Pq.map Gv.c), .sl (Y3.Tr.map (cL (cI .i64)))] :: .ptr 0 0 0 :: .nils :: .i .i64 0 :: .b false :: .ptr 1 0 0 :: an 12 (.agg [.sl (Y3.Pq.map Gv.c), .sl (Y3.Tr.map (cL (cI .i64)))] :: .b (Zh Y3) :: .b (!(Zh Y3)) :: .any :: .ptr 0 0 0 :: .sl (Y3.Pq.map Gv.c) :: an 71 []),[.box 27 [.sl (Y3.Pq.map Gv.c), .sl (Y3.Tr.map (cL (cI .i64)))], .box 119 [.own 2], .vec 3 1 (r.map (cI .i64)) false]⟩)
def Z3z (Y3:Gm) (Y1:Int) (Yf:(List Int)):St:=⟨.agg [.sl (Y3.Pq.map Gv.c), .sl (Y3.Tr.map (cL (cI .i64)))] :: .ptr 0 0 0 :: .nils :: .i .i64 0 :: .b false :: .ptr 2 0 0 :: an 12 (.agg [.sl (Y3.Pq.map Gv.c), .sl (Y3.Tr.map (cL (cI .i64)))] :: .b (Zh Y3) :: .b (!(Zh Y3)) :: .any :: .ptr 0 0 0 :: .sl (Y3.Pq.map Gv.c) :: .i .i64 (Y3.Pq.length:Int) :: .i .i64 Y1 :: an 69 []),[.box 27 [.sl (Y3.Pq.map Gv.c), .sl (Y3.Tr.map (cL (cI .i64)))], .vec 3 1 (Yf.map (cI .i64)) false, .box 119 [.own 1]]⟩
theorem Z65 (Y3:Gm) (hp0:Y3.Pq.length≤1073741824) (hp1:Y3.Tr.length≤1073741824) (hp2:∀ t∈Y3.Tr,t.length≤1073741824) (Z7o:(Zh Y3)=true):∀ (k:Nat) (Y1:Int) (Yf:(List Int)) (Z4n:0≤Y1) (Z4o:(Yf.length:Int)=Y1) (hk:((Y3.Pq.length:Int) - Y1).toNat < k),Lp prog 0 (sub (X1 f35) [1,1,1,0,1,0,0]) (Z3z Y3 Y1 Yf) (Z3y Y3 (Z1e Y3 k Y1 Yf)).1 (Z3y Y3 (Z1e Y3 k Y1 Yf)).2:=by
 intro k
 induction k with
 | zero=>intro Y1 Yf Z4n Z4o hk;exact absurd hk (Nat.not_lt_zero _)
 | succ k ih =>
  intro Y1 Yf Z4n Z4o hk
  cases Yp:(decide (Y1 < (Y3.Pq.length:Int))) with
  | true =>
   have YF:=odt Yp
   have YO:Yf.length + ([Y1]).length≤1073741824:=(by simp_all<;>omega)
   have YL:(-9223372036854775808:Int)≤(Y1 + 1):=(by omega)
   have YU:(Y1 + 1)≤(9223372036854775807:Int):=(by omega)
   have e:Z1e Y3 (k + 1) Y1 Yf=(Z1e Y3 k (Y1 + 1) (Yf ++ [Y1])):=by simp only [Z1e,Yp,cond_true]
   rw [e]
   exact XQ E0Ok Zo [] (mR false [0,6,12,3,1,4,69]) [0,1,2] (⟨.agg [.sl (Y3.Pq.map Gv.c), .sl (Y3.Tr.map (cL (cI .i64)))] :: .ptr 0 0 0 :: .nils :: .i .i64 0 :: .b false :: .ptr 2 0 0 :: an 12 (.agg [.sl (Y3.Pq.map Gv.c), .sl (Y3.Tr.map (cL (cI .i64)))] :: .b (Zh Y3) :: .b (!(Zh Y3)) :: .any :: .ptr 0 0 0 :: .sl (Y3.Pq.map Gv.c) :: .i .i64 (Y3.Pq.length:Int) :: .i .i64 (Y1 + 1) :: an 69 []),[.box 27 [.sl (Y3.Pq.map Gv.c), .sl (Y3.Tr.map (cL (cI .i64)))], .vec 3 1 ((Yf.map (cI .i64)) ++ ([[.i .i64 Y1]]:List (List AV))) false, .box 119 [.own 1]]⟩) (sB Yp<|sC (show (Yf.map (cI .i64)).length + ([[.i .i64 Y1]]:List (List AV)).length≤1073741824 from (by simpa using YO))<|sI (Y1 + 1) YL YU<|sN) (by kernel_rfl) (by simp [Z3z,cI]) (ih (Y1 + 1) (Yf ++ [Y1]) (show 0≤(Y1 + 1) from (by omega)) (show ((Yf ++ [Y1]).length:Int)=(Y1 + 1) from (by simp_all<;>omega)) (by omega))
  | false =>
   have YF:=odf Yp
   have e:Z1e Y3 (k + 1) Y1 Yf=Yf:=by simp only [Z1e,Yp,cond_false]
   rw [e]
   exact outR (e:=(.exit 0)) E0Ok Zo [] (mR false [0,6,12,3,1,2,71]) [0,2,1] (sB Yp<|sN) (by kernel_rfl) (by intro h;cases h)
def ZC (Y3:Gm):(List Int):=(Z1e Y3 (((Y3.Pq.length:Int) - 0).toNat + 1) 0 ([]:List Int))
theorem Z8Y (m:Gm):∀ (k:Nat) (x:Int) (r:List Int),Z1h r→(r.length:Int)=x→((m.Pq.length:Int) - x).toNat < k→x≤(m.Pq.length:Int)→Z1h (Z1e m k x r)∧(Z1e m k x r).length=m.Pq.length:=by
  intro k
  induction k with
  | zero=>intro x r _ _ hk;exact absurd hk (Nat.not_lt_zero _)
  | succ k ih =>
    intro x r h hx hk hle
    rw [Z1e]
    by_cases hi:x < (m.Pq.length:Int)
    · rw [decide_eq_true hi,cond_true]
      subst hx
      exact ih _ _ h.app (by rw [List.length_append,List.length_cons,List.length_nil];omega) (by omega) (by omega)
    · rw [decide_eq_false hi,cond_false]
      exact ⟨h,by omega⟩
theorem pc1 (m:Gm):Z1h (ZC m)∧(ZC m).length=m.Pq.length:=by
  unfold ZC
  refine Z8Y m _ 0 [] (fun k h0 h1 => ?_) rfl (by omega) (by omega)
  rw [List.length_nil] at h1;omega
theorem Z3T {m:Gm} (ok:OkE m.Pq.length m.Tr) {x i:Int} {r:List Int} (hr:r.length=(ZC m).length) (hl:Z1h r) (h0:0≤x) (hx:x < (m.Tr.length:Int)) (i0:0≤i) (hi:i < (((m.Tr.getD x.toNat default).drop 1).length:Int)) :
    (m.Tr.getD x.toNat default).length=3∧(0≤(m.Tr.getD x.toNat default).getD 0 default∧(m.Tr.getD x.toNat default).getD 0 default < (r.length:Int))∧(0≤((m.Tr.getD x.toNat default).drop 1).getD i.toNat default∧((m.Tr.getD x.toNat default).drop 1).getD i.toNat default < (r.length:Int)):=by
  have q0:=tri3 ok h0 (decide_eq_true hx)
  rw [hr,(pc1 m).2]
  rw [List.length_drop] at hi
  have g:∀ j:Nat,j < 3→0≤(m.Tr.getD x.toNat default).getD j default∧(m.Tr.getD x.toNat default).getD j default < (m.Pq.length:Int):=by
    intro j hj
    refine q0.2 _ ?_
    rw [List.getD_eq_getElem?_getD (l:=m.Tr.getD x.toNat default),List.getElem?_eq_getElem (by omega)]
    exact List.getElem_mem _
  refine ⟨q0.1,g 0 (by omega),?_⟩
  rw [List.getD_eq_getElem?_getD,List.getElem?_drop,← List.getD_eq_getElem?_getD]
  exact g _ (by omega)
theorem Z6d {m:Gm} (ok:OkE m.Pq.length m.Tr) {x i:Int} {r:List Int} (hr:r.length=(ZC m).length) (hl:Z1h r) (h0:0≤x) (hx:x < (m.Tr.length:Int)) (i0:0≤i) (hi:i < (((m.Tr.getD x.toNat default).drop 1).length:Int)) :
    (0≤Za ((m.Tr.getD x.toNat default).getD 0 default) r∧Za ((m.Tr.getD x.toNat default).getD 0 default) r < (r.length:Int))∧(0≤Za (((m.Tr.getD x.toNat default).drop 1).getD i.toNat default) r∧Za (((m.Tr.getD x.toNat default).drop 1).getD i.toNat default) r < (r.length:Int)):=by
  obtain ⟨q1,q2,q3⟩:=Z3T ok hr hl h0 hx i0 hi
  have a:=Z6c hl q2.1 q2.2
  have b:=Z6c hl q3.1 q3.2
  omega
def ZQ (Y3:Gm) (Y1:Int) (Yh:(List Int)):Nat→Int→(List Int)→(List Int)
  | 0,_,_=>default
  | k + 1,Y2,Ya=>(cond (decide (Y2 < (((Y3.Tr.getD Y1.toNat default).drop 1).length:Int)))
    (ZQ Y3 Y1 Yh k (Y2 + 1) (Ya.set ((if (Za (((Y3.Tr.getD Y1.toNat default).drop 1).getD Y2.toNat default) Ya) > (Za ((Y3.Tr.getD Y1.toNat default).getD 0 default) Ya) then (Za (((Y3.Tr.getD Y1.toNat default).drop 1).getD Y2.toNat default) Ya) else (Za ((Y3.Tr.getD Y1.toNat default).getD 0 default) Ya)).toNat) (if (Za (((Y3.Tr.getD Y1.toNat default).drop 1).getD Y2.toNat default) Ya) < (Za ((Y3.Tr.getD Y1.toNat default).getD 0 default) Ya) then (Za (((Y3.Tr.getD Y1.toNat default).drop 1).getD Y2.toNat default) Ya) else (Za ((Y3.Tr.getD Y1.toNat default).getD 0 default) Ya))))
    Ya)
def Z3A (Y3:Gm) (Y1:Int) (Yh:(List Int)) (r:(List Int)):Ex × St:=((.exit 4),⟨.agg [.sl (Y3.Pq.map Gv.c), .sl (Y3.Tr.map (cL (cI .i64)))] :: .ptr 0 0 0 :: .nils :: .i .i64 0 :: .b false :: .ptr 1 0 0 :: .any :: .fn 87 [.ptr 1 0 0] :: .any :: .sl ((Y3.Tr.getD Y1.toNat default).map (cI .i64)) :: an 8 (.agg [.sl (Y3.Pq.map Gv.c), .sl (Y3.Tr.map (cL (cI .i64)))] :: .b (Zh Y3) :: .b (!(Zh Y3)) :: .any :: .ptr 0 0 0 :: .sl (Y3.Pq.map Gv.c) :: an 9 (.fn 87 [.ptr 1 0 0] :: .ptr 0 0 1 :: .sl (Y3.Tr.map (cL (cI .i64))) :: .i .i64 (Y3.Tr.length:Int) :: .i .i64 Y1 :: .b (decide (Y1 < (Y3.Tr.length:Int))) :: .ref [.sl ((Y3.Tr.getD Y1.toNat default).map (cI .i64))] 0 :: .sl ((Y3.Tr.getD Y1.toNat default).map (cI .i64)) :: .sl ((Y3.Tr.getD Y1.toNat default).map (cI .i64)) :: .sl (((Y3.Tr.getD Y1.toNat default).map (cI .i64)).drop 1) :: .i .i64 (((Y3.Tr.getD Y1.toNat default).drop 1).length:Int) :: an 51 [])),[.box 27 [.sl (Y3.Pq.map Gv.c), .sl (Y3.Tr.map (cL (cI .i64)))], .box 119 [.own 2], .vec 3 1 (r.map (cI .i64)) false]⟩)
def Z4V (Y3:Gm) (Y1:Int) (Yh:(List Int)) (Y2:Int) (Ya:(List Int)):St:=⟨.agg [.sl (Y3.Pq.map Gv.c), .sl (Y3.Tr.map (cL (cI .i64)))] :: .ptr 0 0 0 :: .nils :: .i .i64 0 :: .b false :: .ptr 1 0 0 :: .any :: .fn 87 [.ptr 1 0 0] :: .any :: .sl ((Y3.Tr.getD Y1.toNat default).map (cI .i64)) :: an 8 (.agg [.sl (Y3.Pq.map Gv.c), .sl (Y3.Tr.map (cL (cI .i64)))] :: .b (Zh Y3) :: .b (!(Zh Y3)) :: .any :: .ptr 0 0 0 :: .sl (Y3.Pq.map Gv.c) :: an 9 (.fn 87 [.ptr 1 0 0] :: .ptr 0 0 1 :: .sl (Y3.Tr.map (cL (cI .i64))) :: .i .i64 (Y3.Tr.length:Int) :: .i .i64 Y1 :: .b (decide (Y1 < (Y3.Tr.length:Int))) :: .ref [.sl ((Y3.Tr.getD Y1.toNat default).map (cI .i64))] 0 :: .sl ((Y3.Tr.getD Y1.toNat default).map (cI .i64)) :: .sl ((Y3.Tr.getD Y1.toNat default).map (cI .i64)) :: .sl (((Y3.Tr.getD Y1.toNat default).map (cI .i64)).drop 1) :: .i .i64 (((Y3.Tr.getD Y1.toNat default).drop 1).length:Int) :: .i .i64 Y2 :: an 50 [])),[.box 27 [.sl (Y3.Pq.map Gv.c), .sl (Y3.Tr.map (cL (cI .i64)))], .box 119 [.own 2], .vec 3 1 (Ya.map (cI .i64)) false]⟩
def Z4p:List Bool:=(mR false [0,6,1,1,1,1,8,3,1,2,9,12,50])
def Z5H:List Bool:=(mR false [0,6,1,1,1,1,8,3,1,2,9,11,51])
set_option maxHeartbeats 1000000 in
theorem Z66 (Y3:Gm) (Y1:Int) (Yh:(List Int)) (hp0:Y3.Pq.length≤1073741824) (hp1:Y3.Tr.length≤1073741824) (hp2:∀ t∈Y3.Tr,t.length≤1073741824) (Z32:(Zh Y3)=true) (ZD:0≤Y1) (Z2v:Yh.length=(ZC Y3).length) (Z2w:Z1h Yh) (ZU:(decide (Y1 < (Y3.Tr.length:Int)))=true) (Z7p:(Zh Y3)=true):∀ (k:Nat) (Y2:Int) (Ya:(List Int)) (ZM:0≤Y2) (Z4q:Ya.length=Yh.length) (Z2x:Z1h Ya) (hk:((((Y3.Tr.getD Y1.toNat default).drop 1).length:Int) - Y2).toNat < k),Lp prog 0 (sub (X1 f35) [1,1,1,1,1,0,1,0,0,1,1,0,0,1,1,0,0]) (Z4V Y3 Y1 Yh Y2 Ya) (Z3A Y3 Y1 Yh (ZQ Y3 Y1 Yh k Y2 Ya)).1 (Z3A Y3 Y1 Yh (ZQ Y3 Y1 Yh k Y2 Ya)).2:=by
 intro k
 induction k with
 | zero=>intro Y2 Ya ZM Z4q Z2x hk;exact absurd hk (Nat.not_lt_zero _)
 | succ k ih =>
  intro Y2 Ya ZM Z4q Z2x hk
  cases Yr:(decide (Y2 < (((Y3.Tr.getD Y1.toNat default).drop 1).length:Int))) with
  | true =>
   have YM:=odt Yr
   have YW:(0:Int)≤Y2:=(by assumption)
   have YX:Y2 < (((Y3.Tr.getD Y1.toNat default).drop 1).length:Int):=(by assumption)
   have YQ:(0:Int)≤0:=(by omega)
   have YN:0 < ((Y3.Tr.getD Y1.toNat default).length:Int):=(by ((have q1:=(pc1 Y3).2;have q:=Z3T (r:=Ya) (ZO Y3 (by assumption)) (by omega) (by assumption) ZD (odt ZU) ZM (odt (by assumption));have q2:=Z6d (r:=Ya) (ZO Y3 (by assumption)) (by omega) (by assumption) ZD (odt ZU) ZM (odt (by assumption));have q3:((Y3.Tr.getD Y1.toNat default).drop 1).length=(Y3.Tr.getD Y1.toNat default).length - 1:=List.length_drop;omega)))
   have YY:Ya.length≤1073741824:=(by (have q1:=(pc1 Y3).2;have q:=Z3T (r:=Ya) (ZO Y3 (by assumption)) (by omega) (by assumption) ZD (odt ZU) ZM (odt (by assumption));omega))
   have Y13:0≤((Y3.Tr.getD Y1.toNat default).getD 0 default):=(by (have q1:=(pc1 Y3).2;have q:=Z3T (r:=Ya) (ZO Y3 (by assumption)) (by omega) (by assumption) ZD (odt ZU) ZM (odt (by assumption));omega))
   have Y10:((Y3.Tr.getD Y1.toNat default).getD 0 default) < (Ya.length:Int):=(by (have q1:=(pc1 Y3).2;have q:=Z3T (r:=Ya) (ZO Y3 (by assumption)) (by omega) (by assumption) ZD (odt ZU) ZM (odt (by assumption));omega))
   have Y14:0≤(((Y3.Tr.getD Y1.toNat default).drop 1).getD Y2.toNat default):=(by (have q1:=(pc1 Y3).2;have q:=Z3T (r:=Ya) (ZO Y3 (by assumption)) (by omega) (by assumption) ZD (odt ZU) ZM (odt (by assumption));omega))
   have Y19:(((Y3.Tr.getD Y1.toNat default).drop 1).getD Y2.toNat default) < (Ya.length:Int):=(by (have q1:=(pc1 Y3).2;have q:=Z3T (r:=Ya) (ZO Y3 (by assumption)) (by omega) (by assumption) ZD (odt ZU) ZM (odt (by assumption));omega))
   have Y1e:(0:Int)≤(if (Za (((Y3.Tr.getD Y1.toNat default).drop 1).getD Y2.toNat default) Ya) > (Za ((Y3.Tr.getD Y1.toNat default).getD 0 default) Ya) then (Za (((Y3.Tr.getD Y1.toNat default).drop 1).getD Y2.toNat default) Ya) else (Za ((Y3.Tr.getD Y1.toNat default).getD 0 default) Ya)):=(by ((have q1:=(pc1 Y3).2;have q:=Z3T (r:=Ya) (ZO Y3 (by assumption)) (by omega) (by assumption) ZD (odt ZU) ZM (odt (by assumption));have q2:=Z6d (r:=Ya) (ZO Y3 (by assumption)) (by omega) (by assumption) ZD (odt ZU) ZM (odt (by assumption));have q3:((Y3.Tr.getD Y1.toNat default).drop 1).length=(Y3.Tr.getD Y1.toNat default).length - 1:=List.length_drop;omega)))
   have Y1a:(if (Za (((Y3.Tr.getD Y1.toNat default).drop 1).getD Y2.toNat default) Ya) > (Za ((Y3.Tr.getD Y1.toNat default).getD 0 default) Ya) then (Za (((Y3.Tr.getD Y1.toNat default).drop 1).getD Y2.toNat default) Ya) else (Za ((Y3.Tr.getD Y1.toNat default).getD 0 default) Ya)) < (Ya.length:Int):=(by ((have q1:=(pc1 Y3).2;have q:=Z3T (r:=Ya) (ZO Y3 (by assumption)) (by omega) (by assumption) ZD (odt ZU) ZM (odt (by assumption));have q2:=Z6d (r:=Ya) (ZO Y3 (by assumption)) (by omega) (by assumption) ZD (odt ZU) ZM (odt (by assumption));have q3:((Y3.Tr.getD Y1.toNat default).drop 1).length=(Y3.Tr.getD Y1.toNat default).length - 1:=List.length_drop;omega)))
   have Y1b:(if (Za (((Y3.Tr.getD Y1.toNat default).drop 1).getD Y2.toNat default) Ya) > (Za ((Y3.Tr.getD Y1.toNat default).getD 0 default) Ya) then (Za (((Y3.Tr.getD Y1.toNat default).drop 1).getD Y2.toNat default) Ya) else (Za ((Y3.Tr.getD Y1.toNat default).getD 0 default) Ya)).toNat < Ya.length:=(by omega)
   have Y15:(-9223372036854775808:Int)≤(Y2 + 1):=(by omega)
   have Y16:(Y2 + 1)≤(9223372036854775807:Int):=(by ((have q1:=(pc1 Y3).2;have q:=Z3T (r:=Ya) (ZO Y3 (by assumption)) (by omega) (by assumption) ZD (odt ZU) ZM (odt (by assumption));have q2:=Z6d (r:=Ya) (ZO Y3 (by assumption)) (by omega) (by assumption) ZD (odt ZU) ZM (odt (by assumption));have q3:((Y3.Tr.getD Y1.toNat default).drop 1).length=(Y3.Tr.getD Y1.toNat default).length - 1:=List.length_drop;omega)))
   have e:ZQ Y3 Y1 Yh (k + 1) Y2 Ya=(ZQ Y3 Y1 Yh k (Y2 + 1) (Ya.set ((if (Za (((Y3.Tr.getD Y1.toNat default).drop 1).getD Y2.toNat default) Ya) > (Za ((Y3.Tr.getD Y1.toNat default).getD 0 default) Ya) then (Za (((Y3.Tr.getD Y1.toNat default).drop 1).getD Y2.toNat default) Ya) else (Za ((Y3.Tr.getD Y1.toNat default).getD 0 default) Ya)).toNat) (if (Za (((Y3.Tr.getD Y1.toNat default).drop 1).getD Y2.toNat default) Ya) < (Za ((Y3.Tr.getD Y1.toNat default).getD 0 default) Ya) then (Za (((Y3.Tr.getD Y1.toNat default).drop 1).getD Y2.toNat default) Ya) else (Za ((Y3.Tr.getD Y1.toNat default).getD 0 default) Ya)))):=by simp only [ZQ,Yr,cond_true]
   rw [e]
   exact XQ E0Ok Zo [] Z4p [0,1,2] (⟨.agg [.sl (Y3.Pq.map Gv.c), .sl (Y3.Tr.map (cL (cI .i64)))] :: .ptr 0 0 0 :: .nils :: .i .i64 0 :: .b false :: .ptr 1 0 0 :: .any :: .fn 87 [.ptr 1 0 0] :: .any :: .sl ((Y3.Tr.getD Y1.toNat default).map (cI .i64)) :: an 8 (.agg [.sl (Y3.Pq.map Gv.c), .sl (Y3.Tr.map (cL (cI .i64)))] :: .b (Zh Y3) :: .b (!(Zh Y3)) :: .any :: .ptr 0 0 0 :: .sl (Y3.Pq.map Gv.c) :: an 9 (.fn 87 [.ptr 1 0 0] :: .ptr 0 0 1 :: .sl (Y3.Tr.map (cL (cI .i64))) :: .i .i64 (Y3.Tr.length:Int) :: .i .i64 Y1 :: .b (decide (Y1 < (Y3.Tr.length:Int))) :: .ref [.sl ((Y3.Tr.getD Y1.toNat default).map (cI .i64))] 0 :: .sl ((Y3.Tr.getD Y1.toNat default).map (cI .i64)) :: .sl ((Y3.Tr.getD Y1.toNat default).map (cI .i64)) :: .sl (((Y3.Tr.getD Y1.toNat default).map (cI .i64)).drop 1) :: .i .i64 (((Y3.Tr.getD Y1.toNat default).drop 1).length:Int) :: .i .i64 (Y2 + 1) :: an 50 [])),[.box 27 [.sl (Y3.Pq.map Gv.c), .sl (Y3.Tr.map (cL (cI .i64)))], .box 119 [.own 2], .vec 3 1 ((Ya.map (cI .i64)).set ((if (Za (((Y3.Tr.getD Y1.toNat default).drop 1).getD Y2.toNat default) Ya) > (Za ((Y3.Tr.getD Y1.toNat default).getD 0 default) Ya) then (Za (((Y3.Tr.getD Y1.toNat default).drop 1).getD Y2.toNat default) Ya) else (Za ((Y3.Tr.getD Y1.toNat default).getD 0 default) Ya)).toNat) [.i .i64 (if (Za (((Y3.Tr.getD Y1.toNat default).drop 1).getD Y2.toNat default) Ya) < (Za ((Y3.Tr.getD Y1.toNat default).getD 0 default) Ya) then (Za (((Y3.Tr.getD Y1.toNat default).drop 1).getD Y2.toNat default) Ya) else (Za ((Y3.Tr.getD Y1.toNat default).getD 0 default) Ya))]) false]⟩) (sB Yr<|sA (.el [.i .i64 (((Y3.Tr.getD Y1.toNat default).drop 1).getD Y2.toNat default)])<|sC (show (0:Int)≤Y2∧(((Y3.Tr.getD Y1.toNat default).map (cI .i64)).drop 1)[Int.toNat Y2]? = some [.i .i64 (((Y3.Tr.getD Y1.toNat default).drop 1).getD Y2.toNat default)] from (by have q:=X7h (c:=(cI .i64)) (l:=((Y3.Tr.getD Y1.toNat default).drop 1)) (i:=Y2) YW YX;simpa [cI] using q))<|sG (cI .i64) (Y3.Tr.getD Y1.toNat default) 0 YQ YN<|sF (Z3P ((Y3.Tr.getD Y1.toNat default).getD 0 default) Ya YY Z2x Y13 Y10)<|sF (Z3P (((Y3.Tr.getD Y1.toNat default).drop 1).getD Y2.toNat default) Ya YY Z2x Y14 Y19)<|sC (show (if true=true then (if (Za (((Y3.Tr.getD Y1.toNat default).drop 1).getD Y2.toNat default) Ya) > (Za ((Y3.Tr.getD Y1.toNat default).getD 0 default) Ya) then (Za (((Y3.Tr.getD Y1.toNat default).drop 1).getD Y2.toNat default) Ya) else (Za ((Y3.Tr.getD Y1.toNat default).getD 0 default) Ya)) else (if (Za (((Y3.Tr.getD Y1.toNat default).drop 1).getD Y2.toNat default) Ya) < (Za ((Y3.Tr.getD Y1.toNat default).getD 0 default) Ya) then (Za (((Y3.Tr.getD Y1.toNat default).drop 1).getD Y2.toNat default) Ya) else (Za ((Y3.Tr.getD Y1.toNat default).getD 0 default) Ya)))=(if (Za (((Y3.Tr.getD Y1.toNat default).drop 1).getD Y2.toNat default) Ya) > (Za ((Y3.Tr.getD Y1.toNat default).getD 0 default) Ya) then (Za (((Y3.Tr.getD Y1.toNat default).drop 1).getD Y2.toNat default) Ya) else (Za ((Y3.Tr.getD Y1.toNat default).getD 0 default) Ya)) from (by simp))<|sA (.num (if (Za (((Y3.Tr.getD Y1.toNat default).drop 1).getD Y2.toNat default) Ya) > (Za ((Y3.Tr.getD Y1.toNat default).getD 0 default) Ya) then (Za (((Y3.Tr.getD Y1.toNat default).drop 1).getD Y2.toNat default) Ya) else (Za ((Y3.Tr.getD Y1.toNat default).getD 0 default) Ya)))<|sC (show (if false=true then (if (Za (((Y3.Tr.getD Y1.toNat default).drop 1).getD Y2.toNat default) Ya) > (Za ((Y3.Tr.getD Y1.toNat default).getD 0 default) Ya) then (Za (((Y3.Tr.getD Y1.toNat default).drop 1).getD Y2.toNat default) Ya) else (Za ((Y3.Tr.getD Y1.toNat default).getD 0 default) Ya)) else (if (Za (((Y3.Tr.getD Y1.toNat default).drop 1).getD Y2.toNat default) Ya) < (Za ((Y3.Tr.getD Y1.toNat default).getD 0 default) Ya) then (Za (((Y3.Tr.getD Y1.toNat default).drop 1).getD Y2.toNat default) Ya) else (Za ((Y3.Tr.getD Y1.toNat default).getD 0 default) Ya)))=(if (Za (((Y3.Tr.getD Y1.toNat default).drop 1).getD Y2.toNat default) Ya) < (Za ((Y3.Tr.getD Y1.toNat default).getD 0 default) Ya) then (Za (((Y3.Tr.getD Y1.toNat default).drop 1).getD Y2.toNat default) Ya) else (Za ((Y3.Tr.getD Y1.toNat default).getD 0 default) Ya)) from (by simp))<|sA (.num (if (Za (((Y3.Tr.getD Y1.toNat default).drop 1).getD Y2.toNat default) Ya) < (Za ((Y3.Tr.getD Y1.toNat default).getD 0 default) Ya) then (Za (((Y3.Tr.getD Y1.toNat default).drop 1).getD Y2.toNat default) Ya) else (Za ((Y3.Tr.getD Y1.toNat default).getD 0 default) Ya)))<|sX (cI .i64) Ya (if (Za (((Y3.Tr.getD Y1.toNat default).drop 1).getD Y2.toNat default) Ya) > (Za ((Y3.Tr.getD Y1.toNat default).getD 0 default) Ya) then (Za (((Y3.Tr.getD Y1.toNat default).drop 1).getD Y2.toNat default) Ya) else (Za ((Y3.Tr.getD Y1.toNat default).getD 0 default) Ya)) Y1e Y1a<|sC (X7Z (c:=(cI .i64)) (l:=Ya) Y1b)<|sI (Y2 + 1) Y15 Y16<|sN) (by kernel_rfl) (by simp [Z4V,List.map_set,cI]) (ih (Y2 + 1) (Ya.set ((if (Za (((Y3.Tr.getD Y1.toNat default).drop 1).getD Y2.toNat default) Ya) > (Za ((Y3.Tr.getD Y1.toNat default).getD 0 default) Ya) then (Za (((Y3.Tr.getD Y1.toNat default).drop 1).getD Y2.toNat default) Ya) else (Za ((Y3.Tr.getD Y1.toNat default).getD 0 default) Ya)).toNat) (if (Za (((Y3.Tr.getD Y1.toNat default).drop 1).getD Y2.toNat default) Ya) < (Za ((Y3.Tr.getD Y1.toNat default).getD 0 default) Ya) then (Za (((Y3.Tr.getD Y1.toNat default).drop 1).getD Y2.toNat default) Ya) else (Za ((Y3.Tr.getD Y1.toNat default).getD 0 default) Ya))) (show 0≤(Y2 + 1) from (by omega)) (show (Ya.set ((if (Za (((Y3.Tr.getD Y1.toNat default).drop 1).getD Y2.toNat default) Ya) > (Za ((Y3.Tr.getD Y1.toNat default).getD 0 default) Ya) then (Za (((Y3.Tr.getD Y1.toNat default).drop 1).getD Y2.toNat default) Ya) else (Za ((Y3.Tr.getD Y1.toNat default).getD 0 default) Ya)).toNat) (if (Za (((Y3.Tr.getD Y1.toNat default).drop 1).getD Y2.toNat default) Ya) < (Za ((Y3.Tr.getD Y1.toNat default).getD 0 default) Ya) then (Za (((Y3.Tr.getD Y1.toNat default).drop 1).getD Y2.toNat default) Ya) else (Za ((Y3.Tr.getD Y1.toNat default).getD 0 default) Ya))).length=Yh.length from (by simp_all<;>omega)) (show Z1h (Ya.set ((if (Za (((Y3.Tr.getD Y1.toNat default).drop 1).getD Y2.toNat default) Ya) > (Za ((Y3.Tr.getD Y1.toNat default).getD 0 default) Ya) then (Za (((Y3.Tr.getD Y1.toNat default).drop 1).getD Y2.toNat default) Ya) else (Za ((Y3.Tr.getD Y1.toNat default).getD 0 default) Ya)).toNat) (if (Za (((Y3.Tr.getD Y1.toNat default).drop 1).getD Y2.toNat default) Ya) < (Za ((Y3.Tr.getD Y1.toNat default).getD 0 default) Ya) then (Za (((Y3.Tr.getD Y1.toNat default).drop 1).getD Y2.toNat default) Ya) else (Za ((Y3.Tr.getD Y1.toNat default).getD 0 default) Ya))) from (by (have q:=Z6d (r:=Ya) (ZO Y3 (by assumption)) (by omega) (by assumption) ZD (odt ZU) ZM (odt (by assumption));refine Z1h.set (by assumption) ?_ ?_<;>(repeat split)<;>omega))) (by omega))
  | false =>
   have YM:=odf Yr
   have e:ZQ Y3 Y1 Yh (k + 1) Y2 Ya=Ya:=by simp only [ZQ,Yr,cond_false]
   rw [e]
   exact outR (e:=(.exit 4)) E0Ok Zo [] Z5H [0,1,2] (sB Yr<|sN) (by kernel_rfl) (by intro h;cases h)
theorem Z5I (Y3:Gm) (Y1:Int) (Yh:(List Int)):∀ (k:Nat) (Y2:Int) (Ya:(List Int)) (hk:((((Y3.Tr.getD Y1.toNat default).drop 1).length:Int) - Y2).toNat < k),(ZQ Y3 Y1 Yh k Y2 Ya).length=Ya.length:=by
  intro k
  induction k with
  | zero=>intro Y2 Ya hk;exact absurd hk (Nat.not_lt_zero _)
  | succ k ih =>
    intro Y2 Ya hk
    cases Yr:(decide (Y2 < (((Y3.Tr.getD Y1.toNat default).drop 1).length:Int))) with
    | true =>
      have e:ZQ Y3 Y1 Yh (k + 1) Y2 Ya=(ZQ Y3 Y1 Yh k (Y2 + 1) (Ya.set ((if (Za (((Y3.Tr.getD Y1.toNat default).drop 1).getD Y2.toNat default) Ya) > (Za ((Y3.Tr.getD Y1.toNat default).getD 0 default) Ya) then (Za (((Y3.Tr.getD Y1.toNat default).drop 1).getD Y2.toNat default) Ya) else (Za ((Y3.Tr.getD Y1.toNat default).getD 0 default) Ya)).toNat) (if (Za (((Y3.Tr.getD Y1.toNat default).drop 1).getD Y2.toNat default) Ya) < (Za ((Y3.Tr.getD Y1.toNat default).getD 0 default) Ya) then (Za (((Y3.Tr.getD Y1.toNat default).drop 1).getD Y2.toNat default) Ya) else (Za ((Y3.Tr.getD Y1.toNat default).getD 0 default) Ya)))):=by simp only [ZQ,Yr,cond_true]
      rw [e,ih (Y2 + 1) (Ya.set ((if (Za (((Y3.Tr.getD Y1.toNat default).drop 1).getD Y2.toNat default) Ya) > (Za ((Y3.Tr.getD Y1.toNat default).getD 0 default) Ya) then (Za (((Y3.Tr.getD Y1.toNat default).drop 1).getD Y2.toNat default) Ya) else (Za ((Y3.Tr.getD Y1.toNat default).getD 0 default) Ya)).toNat) (if (Za (((Y3.Tr.getD Y1.toNat default).drop 1).getD Y2.toNat default) Ya) < (Za ((Y3.Tr.getD Y1.toNat default).getD 0 default) Ya) then (Za (((Y3.Tr.getD Y1.toNat default).drop 1).getD Y2.toNat default) Ya) else (Za ((Y3.Tr.getD Y1.toNat default).getD 0 default) Ya))) (by simp_all<;>omega)];simp
    | false =>
      have e:ZQ Y3 Y1 Yh (k + 1) Y2 Ya=Ya:=by simp only [ZQ,Yr,cond_false]
      first | (rw [e];done) | (rw [e];rfl)
def Z1c (Y3:Gm) (Y1:Int) (Yh:(List Int)):(List Int):=(ZQ Y3 Y1 Yh (((((Y3.Tr.getD Y1.toNat default).drop 1).length:Int) - 0).toNat + 1) 0 Yh)
@[simp] theorem Z37 (Y3:Gm) (Y1:Int) (Yh:(List Int)):(Z1c Y3 Y1 Yh).length=(Yh:(List Int)).length:=Z5I Y3 Y1 Yh (((((Y3.Tr.getD Y1.toNat default).drop 1).length:Int) - 0).toNat + 1) 0 Yh (by exact Nat.lt_succ_self _)
theorem Z8Z {m:Gm} (ok:OkE m.Pq.length m.Tr) {x:Int} (r0:List Int) (h0:0≤x) (hx:x < (m.Tr.length:Int)):∀ (k:Nat) (i:Int) (r:List Int),0≤i→r.length=(ZC m).length→Z1h r→((((m.Tr.getD x.toNat default).drop 1).length:Int) - i).toNat < k→Z1h (ZQ m x r0 k i r):=by
  intro k
  induction k with
  | zero=>intro i r _ _ _ hk;exact absurd hk (Nat.not_lt_zero _)
  | succ k ih =>
    intro i r i0 hr hl hk
    rw [ZQ]
    by_cases hi:i < (((m.Tr.getD x.toNat default).drop 1).length:Int)
    · rw [decide_eq_true hi,cond_true]
      have q:=Z6d ok hr hl h0 hx i0 hi
      refine ih _ _ (by omega) (by rw [List.length_set];exact hr) (hl.set ?_ ?_) (by omega)
      · split<;>omega
      · split<;>split<;>omega
    · rw [decide_eq_false hi,cond_false];exact hl
theorem pc3 {m:Gm} (ok:OkE m.Pq.length m.Tr) {x:Int} {r:List Int} (h0:0≤x) (hx:x < (m.Tr.length:Int)) (hr:r.length=(ZC m).length) (hl:Z1h r):Z1h (Z1c m x r):=by
  unfold Z1c
  exact Z8Z ok r h0 hx _ _ _ (Int.le_refl 0) hr hl (by omega)
def ZR (Y3:Gm):Nat→Int→(List Int)→(List Int)
  | 0,_,_=>default
  | k + 1,Y1,Yh=>(cond (decide (Y1 < (Y3.Tr.length:Int)))
    (ZR Y3 k (Y1 + 1) (Z1c Y3 Y1 Yh))
    Yh)
def Z3B (Y3:Gm) (r:(List Int)):Ex × St:=((.exit 2),⟨.agg [.sl (Y3.Pq.map Gv.c), .sl (Y3.Tr.map (cL (cI .i64)))] :: .ptr 0 0 0 :: .nils :: .i .i64 0 :: .b false :: .ptr 1 0 0 :: .any :: .fn 87 [.ptr 1 0 0] :: an 10 (.agg [.sl (Y3.Pq.map Gv.c), .sl (Y3.Tr.map (cL (cI .i64)))] :: .b (Zh Y3) :: .b (!(Zh Y3)) :: .any :: .ptr 0 0 0 :: .sl (Y3.Pq.map Gv.c) :: an 9 (.fn 87 [.ptr 1 0 0] :: .ptr 0 0 1 :: .sl (Y3.Tr.map (cL (cI .i64))) :: an 59 [])),[.box 27 [.sl (Y3.Pq.map Gv.c), .sl (Y3.Tr.map (cL (cI .i64)))], .box 119 [.own 2], .vec 3 1 (r.map (cI .i64)) false]⟩)
def Z67 (Y3:Gm) (Y1:Int) (Yh:(List Int)):St:=⟨.agg [.sl (Y3.Pq.map Gv.c), .sl (Y3.Tr.map (cL (cI .i64)))] :: .ptr 0 0 0 :: .nils :: .i .i64 0 :: .b false :: .ptr 1 0 0 :: .any :: .fn 87 [.ptr 1 0 0] :: an 10 (.agg [.sl (Y3.Pq.map Gv.c), .sl (Y3.Tr.map (cL (cI .i64)))] :: .b (Zh Y3) :: .b (!(Zh Y3)) :: .any :: .ptr 0 0 0 :: .sl (Y3.Pq.map Gv.c) :: an 9 (.fn 87 [.ptr 1 0 0] :: .ptr 0 0 1 :: .sl (Y3.Tr.map (cL (cI .i64))) :: .i .i64 (Y3.Tr.length:Int) :: .i .i64 Y1 :: an 57 [])),[.box 27 [.sl (Y3.Pq.map Gv.c), .sl (Y3.Tr.map (cL (cI .i64)))], .box 119 [.own 2], .vec 3 1 (Yh.map (cI .i64)) false]⟩
def Z4r:List Bool:=(mR false [0,6,1,1,10,3,1,2,9,5,57])
def Z5J:List Bool:=(mR false [0,6,1,1,10,3,1,2,9,3,59])
set_option maxHeartbeats 1000000 in
theorem Z68 (Y3:Gm) (hp0:Y3.Pq.length≤1073741824) (hp1:Y3.Tr.length≤1073741824) (hp2:∀ t∈Y3.Tr,t.length≤1073741824) (Z32:(Zh Y3)=true):∀ (k:Nat) (Y1:Int) (Yh:(List Int)) (ZD:0≤Y1) (Z2v:Yh.length=(ZC Y3).length) (Z2w:Z1h Yh) (hk:((Y3.Tr.length:Int) - Y1).toNat < k),Lp prog 0 (sub (X1 f35) [1,1,1,1,1,0,1,0,0]) (Z67 Y3 Y1 Yh) (Z3B Y3 (ZR Y3 k Y1 Yh)).1 (Z3B Y3 (ZR Y3 k Y1 Yh)).2:=by
 intro k
 induction k with
 | zero=>intro Y1 Yh ZD Z2v Z2w hk;exact absurd hk (Nat.not_lt_zero _)
 | succ k ih =>
  intro Y1 Yh ZD Z2v Z2w hk
  cases Yp:(decide (Y1 < (Y3.Tr.length:Int))) with
  | true =>
   have YF:=odt Yp
   have YO:(0:Int)≤Y1:=(by assumption)
   have YL:Y1 < (Y3.Tr.length:Int):=(by assumption)
   have YU:1≤(Y3.Tr.getD Y1.toNat default).length:=(by ((have q:=(tri3 (ZO Y3 (by assumption)) (by assumption) (by assumption)).1;omega)))
   have YR:(-9223372036854775808:Int)≤(Y1 + 1):=(by omega)
   have YZ:(Y1 + 1)≤(9223372036854775807:Int):=(by omega)
   have e:ZR Y3 (k + 1) Y1 Yh=(ZR Y3 k (Y1 + 1) (Z1c Y3 Y1 Yh)):=by simp only [ZR,Yp,cond_true]
   rw [e]
   exact Xb E0Ok Zo [] Z4r [0,1,2] (ih (Y1 + 1) (Z1c Y3 Y1 Yh) (show 0≤(Y1 + 1) from (by omega)) (show (Z1c Y3 Y1 Yh).length=(ZC Y3).length from (by rw [Z37];assumption)) (show Z1h (Z1c Y3 Y1 Yh) from (by exact pc3 (ZO Y3 (by assumption)) (by assumption) (odt (by assumption)) (by assumption) (by assumption))) (by omega)) (sB Yp<|sG (cL (cI .i64)) Y3.Tr Y1 YO YL<|sC (show (0:Int)≤1∧Int.toNat 1≤((Y3.Tr.getD Y1.toNat default).map (cI .i64)).length from ⟨by decide,by simpa using YU⟩)<|sC (show ((Y3.Tr.getD Y1.toNat default).map (cI .i64)).all (fun cs=>cs.length == 1)=true from (by rw [List.all_eq_true];intro cs h;obtain ⟨x,_,rfl⟩:=List.mem_map.1 h;rfl))<|sM (show (((((Y3.Tr.getD Y1.toNat default).map (cI .i64)).drop 1).length:Nat):Int)=(((Y3.Tr.getD Y1.toNat default).drop 1).length:Int) from (by simp))<|sL Z4p 3 (X7 (Z3A Y3 Y1 Yh) (x:=(Z1c Y3 Y1 Yh)) (Z66 Y3 Y1 Yh hp0 hp1 hp2 Z32 ZD Z2v Z2w Yp Z32 (((((Y3.Tr.getD Y1.toNat default).drop 1).length:Int) - 0).toNat + 1) 0 Yh (show 0≤0 from (by omega)) (show Yh.length=Yh.length from (by omega)) (show Z1h Yh from (by assumption)) (Nat.lt_succ_self _)) rfl)<|sI (Y1 + 1) YR YZ<|sN) (by kernel_rfl)
  | false =>
   have YF:=odf Yp
   have e:ZR Y3 (k + 1) Y1 Yh=Yh:=by simp only [ZR,Yp,cond_false]
   rw [e]
   exact outR (e:=(.exit 2)) E0Ok Zo [] Z5J [0,1,2] (sB Yp<|sN) (by kernel_rfl) (by intro h;cases h)
end Go.Ab
