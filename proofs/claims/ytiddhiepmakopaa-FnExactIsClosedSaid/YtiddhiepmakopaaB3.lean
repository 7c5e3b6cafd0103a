/- The functions of this seat as plain Lean, and that the program's are these. Printed by a program of the prover's own. -/
import Derived.Test.YtiddhiepmakopaaB2
set_option linter.unusedVariables false
set_option linter.unusedSimpArgs false
set_option maxRecDepth 100000
namespace Go.Ab
open Go.RowKit Go.Proofs.Try
def Z1E (Y0:Gm):(List Int):=(Zm Y0 ((((Z1 Y0).length:Int) - 0).toNat + 1) 0 ([]:List Int))
def Z1i (Y0:Gm):(List Int):=(Z1E Y0)
theorem Z4Z (m:Gm) (ok:OkE m.Pq.length m.Tr):Z1i m=bpL m.Pq.length m.Tr:=by
  unfold Z1i Z1E
  have hl:(Z1 m).length=(edgL m.Pq.length m.Tr).length:=by rw [Z29 m ok,List.length_map]
  have hx:∀ i:Int,0≤i→i < ((edgL m.Pq.length m.Tr).length:Int)→(Z1 m).getD i.toNat default=e2 ((edgL m.Pq.length m.Tr).getD i.toNat default):=by
    intro i h0 hi
    rw [Z29 m ok,List.getD_eq_getElem?_getD,List.getD_eq_getElem?_getD,List.getElem?_map,List.getElem?_eq_getElem (by omega)];rfl
  obtain ⟨g1,g2⟩:=X7u (ts:=m.Tr) (a:=edgL m.Pq.length m.Tr) (p:=fun e=>decide ((idxP m.Tr e.e0 e.e1).length=1)) (lo:=Zm m) (fun k i r h0 hi=>by
    rw [Zm,hl,decide_eq_true hi,cond_true]
    unfold Z1g
    rw [hx i h0 hi,Z4j,Z4Y,Z4Y]
    have hc:(((idxP m.Tr ((e2 ((edgL m.Pq.length m.Tr).getD i.toNat default)).getD 0 default) ((e2 ((edgL m.Pq.length m.Tr).getD i.toNat default)).getD 1 default)).length:Int) == 1)=decide ((idxP m.Tr ((edgL m.Pq.length m.Tr).getD i.toNat default).e0 ((edgL m.Pq.length m.Tr).getD i.toNat default).e1).length=1):=by
      rw [Bool.eq_iff_iff,beq_iff_eq,decide_eq_true_iff]
      unfold e2
      simp only [List.getD_cons_zero,List.getD_cons_succ]
      omega
    rw [hc]
    rfl) (fun k i r hi=>by rw [Zm,hl,decide_eq_false (by omega),cond_false]) (((Z1 m).length:Int) - 0).toNat.succ 0 [] (Int.le_refl 0) (by omega) List.Pairwise.nil
  refine X6H g1 (X6I _ _) fun x => ?_
  have:=g2 x
  rw [Int.toNat_zero,List.drop_zero] at this
  refine this.trans ?_
  rw [X4i]
  simp only [List.not_mem_nil,false_or]
  rfl
theorem Z4l (Y0:Gm) (hp0:Y0.Pq.length≤1073741824) (hp1:Y0.Tr.length≤1073741824) (hp2:∀ t∈Y0.Tr,t.length≤1073741824) (hp3:OkE Y0.Pq.length Y0.Tr)  : Fn prog 81 [.ref (Gm.c Y0) 0] (.own 0) [.vec 2 1 ((Z1i Y0).map (cI .i64)) false]:=by
 refine fnS E0Ok Z4 (c:=X0 f81) [] (.own 0) [.vec 2 1 ((Z1E Y0).map (cI .i64)) false] func81 (sF (Z3u Y0 hp0 hp1 hp2 hp3)<|sL (mR false [0,1,1,6,39]) 2 (XV (st2:=⟨.ref (Gm.c Y0) 0 :: .any :: .nils :: .own 0 :: .own 1 :: .i .i64 0 :: .ref (Gm.c Y0) 0 :: .own 0 :: an 39 [],[.nest 79 ((Z1 Y0).map fun l=>l.map (cI .i64)) false, .vec 2 1 ([]:List (List AV)) false]⟩) (X6 (Z2e Y0) (x:=(Z1E Y0)) (Z3M Y0 hp0 hp1 hp2 hp3 ((((Z1 Y0).length:Int) - 0).toNat + 1) 0 ([]:List Int) (show 0≤0 from (by omega)) (show (([]:List Int).length:Int)≤2 * 0 from (by simp)) (Nat.lt_succ_self _)) rfl) (by simp [Z2W,cI]))<|sK [0] sN) rfl (by kernel_rfl) (by kernel_rfl) rfl ?_ ?_
 · rfl
 · simp [Z1i]
def Z1j (Y0:Gm):Bool:=(cond (Z1s Y0)
  (cond (decide ((Y0.Tr.length:Int) > 0))
    (((Z1i Y0).length:Int) == 0)
    false)
  false)
theorem Z4m (Y0:Gm) (hp0:Y0.Pq.length≤1073741824) (hp1:Y0.Tr.length≤1073741824) (hp2:∀ t∈Y0.Tr,t.length≤1073741824) (hp3:OkE Y0.Pq.length Y0.Tr)  : Fn prog 63 [.ref (Gm.c Y0) 0] (.b (Z1j Y0)) []:=by
 have p {a C} (s:Scr a C):=sF (Z4y Y0 hp0 hp1 hp2 hp3)<|s
 cases h0:(Z1s Y0) with
 | true =>
  have q {a C} (s:Scr a C):=p (sB h0<|sB h0<|sB h0<|sB h0<|sB h0<|sZ (cL (cI .i64)) Y0.Tr<|sB h0<|sB h0<|s)
  clear p
  cases h1:(decide ((Y0.Tr.length:Int) > 0)) with
  | true =>
   have gh1:=odt h1
   refine fnS E0Ok Z4 (c:=X0 f63) [] (.b (((Z1i Y0).length:Int) == 0)) [] func63 (q (sB h1<|sB h1<|sF (Z4l Y0 hp0 hp1 hp2 hp3)<|sB h1<|sZ (cI .i64) (Z1i Y0)<|sB h1<|sB h1<|sK [] sN)) rfl (by kernel_rfl) (by kernel_rfl) rfl ?_ ?_
   · simp only [Z1j,h0,h1,cond_true]
   · rfl
  | false =>
   have gh1:=odf h1
   refine fnS E0Ok Z4 (c:=X0 f63) [] (.b false) [] func63 (q (sB h1<|sB h1<|sB h1<|sB h1<|sB h1<|sK [] sN)) rfl (by kernel_rfl) (by kernel_rfl) rfl ?_ ?_
   · simp only [Z1j,h0,h1,cond_true,cond_false]
   · rfl
 | false =>
  refine fnS E0Ok Z4 (c:=X0 f63) [] (.b false) [] func63 (p (sB h0<|sB h0<|sB h0<|sB h0<|sB h0<|sB h0<|sB h0<|sB (show false=false from rfl)<|sB (show false=false from rfl)<|sB (show false=false from rfl)<|sB (show false=false from rfl)<|sB (show false=false from rfl)<|sK [] sN)) rfl (by kernel_rfl) (by kernel_rfl) rfl ?_ ?_
  · simp only [Z1j,h0,cond_false]
  · rfl
def Z1t (Y0:Gm):Bool:=(cond (ZN Y0)
  (Z1j Y0)
  false)
theorem Z4z (Y0:Gm) (hp0:Y0.Pq.length≤1073741824) (hp1:Y0.Tr.length≤1073741824) (hp2:∀ t∈Y0.Tr,t.length≤1073741824)  : Fn prog 19 [.agg [.sl (Y0.Pq.map Gv.c), .sl (Y0.Tr.map (cL (cI .i64)))]] (.b (Z1t Y0)) []:=by
 have p {a C} (s:Scr a C):=sF (Z4W Y0 hp0 hp1 hp2)<|s
 cases h0:(ZN Y0) with
 | true =>
  have y0:OkE Y0.Pq.length Y0.Tr:=by clear p;exact (by exact Z3x _ (by assumption))
  refine fnS E0Ok Z4 (c:=X0 f19) [] (.b (Z1j Y0)) [] func19 (p (sB h0<|sF (Z4m Y0 hp0 hp1 hp2 y0)<|sB h0<|sK [] sN)) rfl (by kernel_rfl) (by kernel_rfl) rfl ?_ ?_
  · simp only [Z1t,h0,cond_true]
  · rfl
 | false =>
  refine fnS E0Ok Z4 (c:=X0 f19) [] (.b false) [] func19 (p (sB h0<|sB h0<|sK [] sN)) rfl (by kernel_rfl) (by kernel_rfl) rfl ?_ ?_
  · simp only [Z1t,h0,cond_false]
  · rfl
def Z1b (YT:Int) (YG:Int) (YD:Int):Bool:=(cond (decide (YT ≥ YG))
  (decide (YT≤YD))
  false)
theorem Z4R (YT:Int) (YG:Int) (YD:Int)   : Fn prog 75 [.i .i64 YT, .i .i64 YG, .i .i64 YD] (.b (Z1b YT YG YD)) []:=by
 cases h0:(decide (YT ≥ YG)) with
 | true =>
  have gh0:=odt h0
  refine fnS E0Ok Z4 (c:=X0 f75) [] (.b (decide (YT≤YD))) [] func75 (sB h0<|sB h0<|sB h0<|sB h0<|sK [] sN) rfl (by kernel_rfl) (by kernel_rfl) rfl ?_ ?_
  · simp only [Z1b,h0,cond_true]
  · rfl
 | false =>
  have gh0:=odf h0
  refine fnS E0Ok Z4 (c:=X0 f75) [] (.b false) [] func75 (sB h0<|sB h0<|sB h0<|sB h0<|sK [] sN) rfl (by kernel_rfl) (by kernel_rfl) rfl ?_ ?_
  · simp only [Z1b,h0,cond_false]
  · rfl
def Zz (Y0:Gm) (Y1:Int):Nat→Int→(Unit) ⊕ (Unit)
  | 0,_ => .inl default
  | k + 1,Y2=>(cond (decide (Y2 < ((Y0.Tr.getD Y1.toNat default).length:Int)))
    (cond (Z1b ((Y0.Tr.getD Y1.toNat default).getD Y2.toNat default) 0 (IntKind.wrap .i64 ((Y0.Pq.length:Int) - 1)))
      (Zz Y0 Y1 k (Y2 + 1))
      (.inl ()))
    (.inr ()))
def Z1R (Y0:Gm) (Y1:Int):(Unit) ⊕ (Unit)→Ex × St
  | .inl r=>(.ret,⟨.any :: .any :: .b false :: an 66 [],[]⟩)
  | .inr r=>((.exit 2),⟨.agg [.sl (Y0.Pq.map Gv.c), .sl (Y0.Tr.map (cL (cI .i64)))] :: .ptr 0 0 0 :: .any :: .i .i64 (Y0.Pq.length:Int) :: .any :: .sl ((Y0.Tr.getD Y1.toNat default).map (cI .i64)) :: .any :: .any :: .ptr 0 0 0 :: .sl (Y0.Pq.map Gv.c) :: .i .i64 (Y0.Pq.length:Int) :: .i .i64 (Y0.Pq.length:Int) :: .b (decide ((Y0.Pq.length:Int) > 64)) :: .b (decide ((Y0.Pq.length:Int) > 64)) :: .ptr 0 0 1 :: .sl (Y0.Tr.map (cL (cI .i64))) :: .i .i64 (Y0.Tr.length:Int) :: .b (decide ((Y0.Tr.length:Int) > 128)) :: .b (decide ((Y0.Tr.length:Int) > 128)) :: .ptr 0 0 1 :: .sl (Y0.Tr.map (cL (cI .i64))) :: .i .i64 (Y0.Tr.length:Int) :: .i .i64 Y1 :: .b (decide (Y1 < (Y0.Tr.length:Int))) :: .ref [.sl ((Y0.Tr.getD Y1.toNat default).map (cI .i64))] 0 :: .sl ((Y0.Tr.getD Y1.toNat default).map (cI .i64)) :: .sl ((Y0.Tr.getD Y1.toNat default).map (cI .i64)) :: .i .i64 ((Y0.Tr.getD Y1.toNat default).length:Int) :: .b (((Y0.Tr.getD Y1.toNat default).length:Int) != 3) :: .b (((Y0.Tr.getD Y1.toNat default).length:Int) != 3) :: .sl ((Y0.Tr.getD Y1.toNat default).map (cI .i64)) :: .ref [.i .i64 ((Y0.Tr.getD Y1.toNat default).getD 0 default)] 0 :: .i .i64 ((Y0.Tr.getD Y1.toNat default).getD 0 default) :: .sl ((Y0.Tr.getD Y1.toNat default).map (cI .i64)) :: .ref [.i .i64 ((Y0.Tr.getD Y1.toNat default).getD 1 default)] 0 :: .i .i64 ((Y0.Tr.getD Y1.toNat default).getD 1 default) :: .b (((Y0.Tr.getD Y1.toNat default).getD 0 default) == ((Y0.Tr.getD Y1.toNat default).getD 1 default)) :: .b (((Y0.Tr.getD Y1.toNat default).getD 0 default) == ((Y0.Tr.getD Y1.toNat default).getD 1 default)) :: .b (((Y0.Tr.getD Y1.toNat default).getD 0 default) == ((Y0.Tr.getD Y1.toNat default).getD 1 default)) :: .sl ((Y0.Tr.getD Y1.toNat default).map (cI .i64)) :: .ref [.i .i64 ((Y0.Tr.getD Y1.toNat default).getD 1 default)] 0 :: .i .i64 ((Y0.Tr.getD Y1.toNat default).getD 1 default) :: .sl ((Y0.Tr.getD Y1.toNat default).map (cI .i64)) :: .ref [.i .i64 ((Y0.Tr.getD Y1.toNat default).getD 2 default)] 0 :: .i .i64 ((Y0.Tr.getD Y1.toNat default).getD 2 default) :: .b (((Y0.Tr.getD Y1.toNat default).getD 1 default) == ((Y0.Tr.getD Y1.toNat default).getD 2 default)) :: .b (((Y0.Tr.getD Y1.toNat default).getD 1 default) == ((Y0.Tr.getD Y1.toNat default).getD 2 default)) :: .b (((Y0.Tr.getD Y1.toNat default).getD 1 default) == ((Y0.Tr.getD Y1.toNat default).getD 2 default)) :: .sl ((Y0.Tr.getD Y1.toNat default).map (cI .i64)) :: .ref [.i .i64 ((Y0.Tr.getD Y1.toNat default).getD 0 default)] 0 :: .i .i64 ((Y0.Tr.getD Y1.toNat default).getD 0 default) :: .sl ((Y0.Tr.getD Y1.toNat default).map (cI .i64)) :: .ref [.i .i64 ((Y0.Tr.getD Y1.toNat default).getD 2 default)] 0 :: .i .i64 ((Y0.Tr.getD Y1.toNat default).getD 2 default) :: .b (((Y0.Tr.getD Y1.toNat default).getD 0 default) == ((Y0.Tr.getD Y1.toNat default).getD 2 default)) :: .b (((Y0.Tr.getD Y1.toNat default).getD 0 default) == ((Y0.Tr.getD Y1.toNat default).getD 2 default)) :: .sl ((Y0.Tr.getD Y1.toNat default).map (cI .i64)) :: .i .i64 ((Y0.Tr.getD Y1.toNat default).length:Int) :: an 11 [],[.box 35 [.sl (Y0.Pq.map Gv.c), .sl (Y0.Tr.map (cL (cI .i64)))]]⟩)
def Z3N (Y0:Gm) (Y1:Int) (Y2:Int):St:=⟨.agg [.sl (Y0.Pq.map Gv.c), .sl (Y0.Tr.map (cL (cI .i64)))] :: .ptr 0 0 0 :: .any :: .i .i64 (Y0.Pq.length:Int) :: .any :: .sl ((Y0.Tr.getD Y1.toNat default).map (cI .i64)) :: .any :: .any :: .ptr 0 0 0 :: .sl (Y0.Pq.map Gv.c) :: .i .i64 (Y0.Pq.length:Int) :: .i .i64 (Y0.Pq.length:Int) :: .b (decide ((Y0.Pq.length:Int) > 64)) :: .b (decide ((Y0.Pq.length:Int) > 64)) :: .ptr 0 0 1 :: .sl (Y0.Tr.map (cL (cI .i64))) :: .i .i64 (Y0.Tr.length:Int) :: .b (decide ((Y0.Tr.length:Int) > 128)) :: .b (decide ((Y0.Tr.length:Int) > 128)) :: .ptr 0 0 1 :: .sl (Y0.Tr.map (cL (cI .i64))) :: .i .i64 (Y0.Tr.length:Int) :: .i .i64 Y1 :: .b (decide (Y1 < (Y0.Tr.length:Int))) :: .ref [.sl ((Y0.Tr.getD Y1.toNat default).map (cI .i64))] 0 :: .sl ((Y0.Tr.getD Y1.toNat default).map (cI .i64)) :: .sl ((Y0.Tr.getD Y1.toNat default).map (cI .i64)) :: .i .i64 ((Y0.Tr.getD Y1.toNat default).length:Int) :: .b (((Y0.Tr.getD Y1.toNat default).length:Int) != 3) :: .b (((Y0.Tr.getD Y1.toNat default).length:Int) != 3) :: .sl ((Y0.Tr.getD Y1.toNat default).map (cI .i64)) :: .ref [.i .i64 ((Y0.Tr.getD Y1.toNat default).getD 0 default)] 0 :: .i .i64 ((Y0.Tr.getD Y1.toNat default).getD 0 default) :: .sl ((Y0.Tr.getD Y1.toNat default).map (cI .i64)) :: .ref [.i .i64 ((Y0.Tr.getD Y1.toNat default).getD 1 default)] 0 :: .i .i64 ((Y0.Tr.getD Y1.toNat default).getD 1 default) :: .b (((Y0.Tr.getD Y1.toNat default).getD 0 default) == ((Y0.Tr.getD Y1.toNat default).getD 1 default)) :: .b (((Y0.Tr.getD Y1.toNat default).getD 0 default) == ((Y0.Tr.getD Y1.toNat default).getD 1 default)) :: .b (((Y0.Tr.getD Y1.toNat default).getD 0 default) == ((Y0.Tr.getD Y1.toNat default).getD 1 default)) :: .sl ((Y0.Tr.getD Y1.toNat default).map (cI .i64)) :: .ref [.i .i64 ((Y0.Tr.getD Y1.toNat default).getD 1 default)] 0 :: .i .i64 ((Y0.Tr.getD Y1.toNat default).getD 1 default) :: .sl ((Y0.Tr.getD Y1.toNat default).map (cI .i64)) :: .ref [.i .i64 ((Y0.Tr.getD Y1.toNat default).getD 2 default)] 0 :: .i .i64 ((Y0.Tr.getD Y1.toNat default).getD 2 default) :: .b (((Y0.Tr.getD Y1.toNat default).getD 1 default) == ((Y0.Tr.getD Y1.toNat default).getD 2 default)) :: .b (((Y0.Tr.getD Y1.toNat default).getD 1 default) == ((Y0.Tr.getD Y1.toNat default).getD 2 default)) :: .b (((Y0.Tr.getD Y1.toNat default).getD 1 default) == ((Y0.Tr.getD Y1.toNat default).getD 2 default)) :: .sl ((Y0.Tr.getD Y1.toNat default).map (cI .i64)) :: .ref [.i .i64 ((Y0.Tr.getD Y1.toNat default).getD 0 default)] 0 :: .i .i64 ((Y0.Tr.getD Y1.toNat default).getD 0 default) :: .sl ((Y0.Tr.getD Y1.toNat default).map (cI .i64)) :: .ref [.i .i64 ((Y0.Tr.getD Y1.toNat default).getD 2 default)] 0 :: .i .i64 ((Y0.Tr.getD Y1.toNat default).getD 2 default) :: .b (((Y0.Tr.getD Y1.toNat default).getD 0 default) == ((Y0.Tr.getD Y1.toNat default).getD 2 default)) :: .b (((Y0.Tr.getD Y1.toNat default).getD 0 default) == ((Y0.Tr.getD Y1.toNat default).getD 2 default)) :: .sl ((Y0.Tr.getD Y1.toNat default).map (cI .i64)) :: .i .i64 ((Y0.Tr.getD Y1.toNat default).length:Int) :: .i .i64 Y2 :: an 10 [],[.box 35 [.sl (Y0.Pq.map Gv.c), .sl (Y0.Tr.map (cL (cI .i64)))]]⟩
def Z22:List Bool:=(mR false [0,2,1,1,1,1,2,51,10])
def Z3z:List Bool:=(mR false [0,2,1,1,1,1,2,50,11])
theorem Z2X (Y0:Gm) (Y1:Int) (hp0:Y0.Pq.length≤1073741824) (hp1:Y0.Tr.length≤1073741824) (hp2:∀ t∈Y0.Tr,t.length≤1073741824) (Z1l:(decide ((Y0.Pq.length:Int) > 64))=false) (Z1m:(decide ((Y0.Tr.length:Int) > 128))=false) (Z1n:0≤Y1) (Z56:(((Y0.Tr.getD Y1.toNat default).length:Int) != 3)=false) (Z57:(decide ((Y0.Pq.length:Int) > 64))=false) (Z58:(decide ((Y0.Tr.length:Int) > 128))=false) (Z59:(decide (Y1 < (Y0.Tr.length:Int)))=true):∀ (k:Nat) (Y2:Int) (Z2G:0≤Y2) (hk:(((Y0.Tr.getD Y1.toNat default).length:Int) - Y2).toNat < k),Lp prog 0 (sub (X0 f68) [1,1,1,0,1,0,0,1,1,0,0,1,1,1,0,0]) (Z3N Y0 Y1 Y2) (Z1R Y0 Y1 (Zz Y0 Y1 k Y2)).1 (Z1R Y0 Y1 (Zz Y0 Y1 k Y2)).2:=by
 intro k
 induction k with
 | zero=>intro Y2 Z2G hk;exact absurd hk (Nat.not_lt_zero _)
 | succ k ih =>
  intro Y2 Z2G hk
  cases Yr:(decide (Y2 < ((Y0.Tr.getD Y1.toNat default).length:Int))) with
  | true =>
   have YI:=odt Yr
   have YN:(0:Int)≤Y2:=(by assumption)
   have YO:Y2 < ((Y0.Tr.getD Y1.toNat default).length:Int):=(by assumption)
   have p {a C} (s:Scr a C):=sB Yr<|sG (cI .i64) (Y0.Tr.getD Y1.toNat default) Y2 YN YO<|sW .i64 ((Y0.Pq.length:Int) - 1)<|sF (Z4R ((Y0.Tr.getD Y1.toNat default).getD Y2.toNat default) 0 (IntKind.wrap .i64 ((Y0.Pq.length:Int) - 1)))<|s
   cases Yu:(Z1b ((Y0.Tr.getD Y1.toNat default).getD Y2.toNat default) 0 (IntKind.wrap .i64 ((Y0.Pq.length:Int) - 1))) with
   | true =>
    have YJ:(-9223372036854775808:Int)≤(Y2 + 1):=by clear p;exact (by omega)
    have YH:(Y2 + 1)≤(9223372036854775807:Int):=by clear p;exact (by simp_all<;>omega)
    have e:Zz Y0 Y1 (k + 1) Y2=(Zz Y0 Y1 k (Y2 + 1)):=by simp only [Zz,Yr,Yu,cond_true]
    rw [e]
    exact Xp E0Ok Z4 [] Z22 [0] (ih (Y2 + 1) (show 0≤(Y2 + 1) from (by omega)) (by omega)) (p (sB' Yu<|sI (Y2 + 1) YJ YH<|sN)) (by kernel_rfl)
   | false =>
    have e:Zz Y0 Y1 (k + 1) Y2=(.inl ()):=by simp only [Zz,Yr,Yu,cond_true,cond_false]
    rw [e]
    exact outR (e := .ret) E0Ok Z4 [] (mR false [2,1,66]) [] (p (sB' Yu<|sN)) (by kernel_rfl) (by intro h;cases h)
  | false =>
   have YI:=odf Yr
   have e:Zz Y0 Y1 (k + 1) Y2=(.inr ()):=by simp only [Zz,Yr,cond_false]
   rw [e]
   exact outR (e:=(.exit 2)) E0Ok Z4 [] Z3z [0] (sB Yr<|sN) (by kernel_rfl) (by intro h;cases h)
def Z18 (Y0:Gm) (Y1:Int):(Unit) ⊕ (Unit):=(Zz Y0 Y1 ((((Y0.Tr.getD Y1.toNat default).length:Int) - 0).toNat + 1) 0)
def Z8 (Y0:Gm):Nat→Int→(Unit) ⊕ (Unit)
  | 0,_ => .inl default
  | k + 1,Y1=>(cond (decide (Y1 < (Y0.Tr.length:Int)))
    (cond (((Y0.Tr.getD Y1.toNat default).length:Int) != 3)
      (.inl ())
      (cond (((Y0.Tr.getD Y1.toNat default).getD 0 default) == ((Y0.Tr.getD Y1.toNat default).getD 1 default))
        (.inl ())
        (cond (((Y0.Tr.getD Y1.toNat default).getD 1 default) == ((Y0.Tr.getD Y1.toNat default).getD 2 default))
          (.inl ())
          (cond (((Y0.Tr.getD Y1.toNat default).getD 0 default) == ((Y0.Tr.getD Y1.toNat default).getD 2 default))
            (.inl ())
            (match (Z18 Y0 Y1) with
              | .inl r_6=>(.inl ())
              | .inr r_6=>(Z8 Y0 k (Y1 + 1)))))))
    (.inr ()))
def Z1S (Y0:Gm):(Unit) ⊕ (Unit)→Ex × St
  | .inl r=>(.ret,⟨.any :: .any :: .b false :: an 66 [],[]⟩)
  | .inr r=>((.exit 0),⟨.agg [.sl (Y0.Pq.map Gv.c), .sl (Y0.Tr.map (cL (cI .i64)))] :: .ptr 0 0 0 :: .any :: .i .i64 (Y0.Pq.length:Int) :: an 4 (.ptr 0 0 0 :: .sl (Y0.Pq.map Gv.c) :: .i .i64 (Y0.Pq.length:Int) :: .i .i64 (Y0.Pq.length:Int) :: .b (decide ((Y0.Pq.length:Int) > 64)) :: .b (decide ((Y0.Pq.length:Int) > 64)) :: .ptr 0 0 1 :: .sl (Y0.Tr.map (cL (cI .i64))) :: .i .i64 (Y0.Tr.length:Int) :: .b (decide ((Y0.Tr.length:Int) > 128)) :: .b (decide ((Y0.Tr.length:Int) > 128)) :: .ptr 0 0 1 :: .sl (Y0.Tr.map (cL (cI .i64))) :: an 48 []),[.box 35 [.sl (Y0.Pq.map Gv.c), .sl (Y0.Tr.map (cL (cI .i64)))]]⟩)
def Z3O (Y0:Gm) (Y1:Int):St:=⟨.agg [.sl (Y0.Pq.map Gv.c), .sl (Y0.Tr.map (cL (cI .i64)))] :: .ptr 0 0 0 :: .any :: .i .i64 (Y0.Pq.length:Int) :: an 4 (.ptr 0 0 0 :: .sl (Y0.Pq.map Gv.c) :: .i .i64 (Y0.Pq.length:Int) :: .i .i64 (Y0.Pq.length:Int) :: .b (decide ((Y0.Pq.length:Int) > 64)) :: .b (decide ((Y0.Pq.length:Int) > 64)) :: .ptr 0 0 1 :: .sl (Y0.Tr.map (cL (cI .i64))) :: .i .i64 (Y0.Tr.length:Int) :: .b (decide ((Y0.Tr.length:Int) > 128)) :: .b (decide ((Y0.Tr.length:Int) > 128)) :: .ptr 0 0 1 :: .sl (Y0.Tr.map (cL (cI .i64))) :: .i .i64 (Y0.Tr.length:Int) :: .i .i64 Y1 :: an 46 []),[.box 35 [.sl (Y0.Pq.map Gv.c), .sl (Y0.Tr.map (cL (cI .i64)))]]⟩
theorem Z2Y (Y0:Gm) (hp0:Y0.Pq.length≤1073741824) (hp1:Y0.Tr.length≤1073741824) (hp2:∀ t∈Y0.Tr,t.length≤1073741824) (Z1l:(decide ((Y0.Pq.length:Int) > 64))=false) (Z1m:(decide ((Y0.Tr.length:Int) > 128))=false):∀ (k:Nat) (Y1:Int) (Z1n:0≤Y1) (hk:((Y0.Tr.length:Int) - Y1).toNat < k),Lp prog 0 (sub (X0 f68) [1,1,1,0,1,0,0]) (Z3O Y0 Y1) (Z1S Y0 (Z8 Y0 k Y1)).1 (Z1S Y0 (Z8 Y0 k Y1)).2:=by
 intro k
 induction k with
 | zero=>intro Y1 Z1n hk;exact absurd hk (Nat.not_lt_zero _)
 | succ k ih =>
  intro Y1 Z1n hk
  cases Yf:(decide (Y1 < (Y0.Tr.length:Int))) with
  | true =>
   have Yt:=odt Yf
   have Yx:(0:Int)≤Y1:=(by assumption)
   have Yw:Y1 < (Y0.Tr.length:Int):=(by assumption)
   have p {a C} (s:Scr a C):=sB Yf<|sG (cL (cI .i64)) Y0.Tr Y1 Yx Yw<|sK [28,28]<|sZ (cI .i64) (Y0.Tr.getD Y1.toNat default)<|s
   cases Yi:(((Y0.Tr.getD Y1.toNat default).length:Int) != 3) with
   | true =>
    have YM:=bne_iff_ne.1 Yi
    have e:Z8 Y0 (k + 1) Y1=(.inl ()):=by simp only [Z8,Yf,Yi,cond_true]
    rw [e]
    exact outR (e := .ret) E0Ok Z4 [] (mR false [2,1,66]) [] (p (sB Yi<|sB Yi<|sB Yi<|sB Yi<|sB Yi<|sB Yi<|sB Yi<|sB Yi<|sB (show true=true from rfl)<|sB (show true=true from rfl)<|sB (show true=true from rfl)<|sB (show true=true from rfl)<|sB (show true=true from rfl)<|sB (show true=true from rfl)<|sB (show true=true from rfl)<|sB (show true=true from rfl)<|sB (show true=true from rfl)<|sB (show true=true from rfl)<|sB (show true=true from rfl)<|sB (show true=true from rfl)<|sB (show true=true from rfl)<|sB (show true=true from rfl)<|sB (show true=true from rfl)<|sB (show true=true from rfl)<|sB (show true=true from rfl)<|sN)) (by kernel_rfl) (by intro h;cases h)
   | false =>
    have YM:=bne_eq_false_iff_eq.1 Yi
    have YC:(0:Int)≤0:=by clear p;exact (by omega)
    have YA:0 < ((Y0.Tr.getD Y1.toNat default).length:Int):=by clear p;exact (by omega)
    have YE:(0:Int)≤1:=by clear p;exact (by omega)
    have YL:1 < ((Y0.Tr.getD Y1.toNat default).length:Int):=by clear p;exact (by omega)
    have q {a C} (s:Scr a C):=p (sB Yi<|sB Yi<|sG (cI .i64) (Y0.Tr.getD Y1.toNat default) 0 YC YA<|sB Yi<|sB Yi<|sB Yi<|sG (cI .i64) (Y0.Tr.getD Y1.toNat default) 1 YE YL<|sB Yi<|sB Yi<|sB Yi<|s)
    clear p
    cases Ym:(((Y0.Tr.getD Y1.toNat default).getD 0 default) == ((Y0.Tr.getD Y1.toNat default).getD 1 default)) with
    | true =>
     have YQ:=eq_of_beq Ym
     have e:Z8 Y0 (k + 1) Y1=(.inl ()):=by simp only [Z8,Yf,Yi,Ym,cond_true,cond_false]
     rw [e]
     exact outR (e := .ret) E0Ok Z4 [] (mR false [2,1,66]) [] (q (sB Ym<|sB Ym<|sB Ym<|sB Ym<|sB Ym<|sB Ym<|sB Ym<|sB Ym<|sB (show true=true from rfl)<|sB (show true=true from rfl)<|sB (show true=true from rfl)<|sB (show true=true from rfl)<|sB (show true=true from rfl)<|sB (show true=true from rfl)<|sB (show true=true from rfl)<|sB (show true=true from rfl)<|sB (show true=true from rfl)<|sN)) (by kernel_rfl) (by intro h;cases h)
    | false =>
     have YQ:=ne_of_beq_false Ym
     have YW:(0:Int)≤2:=by clear q;exact (by omega)
     have y_7:2 < ((Y0.Tr.getD Y1.toNat default).length:Int):=by clear q;exact (by omega)
     have p {a C} (s:Scr a C):=q (sB Ym<|sB Ym<|sG (cI .i64) (Y0.Tr.getD Y1.toNat default) 1 YE YL<|sB Ym<|sB Ym<|sB Ym<|sG (cI .i64) (Y0.Tr.getD Y1.toNat default) 2 YW y_7<|sB Ym<|sB Ym<|sB Ym<|s)
     clear q
     cases YF:(((Y0.Tr.getD Y1.toNat default).getD 1 default) == ((Y0.Tr.getD Y1.toNat default).getD 2 default)) with
     | true =>
      have YY:=eq_of_beq YF
      have e:Z8 Y0 (k + 1) Y1=(.inl ()):=by simp only [Z8,Yf,Yi,Ym,YF,cond_true,cond_false]
      rw [e]
      exact outR (e := .ret) E0Ok Z4 [] (mR false [2,1,66]) [] (p (sB YF<|sB YF<|sB YF<|sB YF<|sB YF<|sB YF<|sB YF<|sB YF<|sB (show true=true from rfl)<|sN)) (by kernel_rfl) (by intro h;cases h)
     | false =>
      have YY:=ne_of_beq_false YF
      have q {a C} (s:Scr a C):=p (sB YF<|sB YF<|sG (cI .i64) (Y0.Tr.getD Y1.toNat default) 0 YC YA<|sB YF<|sB YF<|sB YF<|sG (cI .i64) (Y0.Tr.getD Y1.toNat default) 2 YW y_7<|sB YF<|sB YF<|sB YF<|s)
      clear p
      cases h_4:(((Y0.Tr.getD Y1.toNat default).getD 0 default) == ((Y0.Tr.getD Y1.toNat default).getD 2 default)) with
      | true =>
       have gh_4:=eq_of_beq h_4
       have e:Z8 Y0 (k + 1) Y1=(.inl ()):=by simp only [Z8,Yf,Yi,Ym,YF,h_4,cond_true,cond_false]
       rw [e]
       exact outR (e := .ret) E0Ok Z4 [] (mR false [2,1,66]) [] (q (sB h_4<|sN)) (by kernel_rfl) (by intro h;cases h)
      | false =>
       have gh_4:=ne_of_beq_false h_4
       have p {a C} (s:Scr a C):=q (sB h_4<|sZ (cI .i64) (Y0.Tr.getD Y1.toNat default)<|s)
       clear q
       cases h_5:(Z18 Y0 Y1) with
       | inl r_6 =>
        have e:Z8 Y0 (k + 1) Y1=(.inl ()):=by simp only [Z8,Yf,Yi,Ym,YF,h_4,h_5,cond_true,cond_false]
        rw [e]
        exact outR (e := .ret) E0Ok Z4 [] (mR false [2,1,66]) [] (p (sL Z22 1 (X6 (Z1R Y0 Y1) (x:=(Z18 Y0 Y1)) (Z2X Y0 Y1 hp0 hp1 hp2 Z1l Z1m Z1n Yi Z1l Z1m Yf ((((Y0.Tr.getD Y1.toNat default).length:Int) - 0).toNat + 1) 0 (show 0≤0 from (by assumption)) (Nat.lt_succ_self _)) h_5)<|sN)) (by kernel_rfl) (by intro h;cases h)
       | inr r_6 =>
        have y_8:(-9223372036854775808:Int)≤(Y1 + 1):=by clear p;exact (by omega)
        have y_9:(Y1 + 1)≤(9223372036854775807:Int):=by clear p;exact (by omega)
        have e:Z8 Y0 (k + 1) Y1=(Z8 Y0 k (Y1 + 1)):=by simp only [Z8,Yf,Yi,Ym,YF,h_4,h_5,cond_true,cond_false]
        rw [e]
        exact Xp E0Ok Z4 [] (mR false [0,2,1,1,4,15,46]) [0] (ih (Y1 + 1) (show 0≤(Y1 + 1) from (by omega)) (by omega)) (p (sL Z22 1 (X6 (Z1R Y0 Y1) (x:=(Z18 Y0 Y1)) (Z2X Y0 Y1 hp0 hp1 hp2 Z1l Z1m Z1n Yi Z1l Z1m Yf ((((Y0.Tr.getD Y1.toNat default).length:Int) - 0).toNat + 1) 0 (show 0≤0 from (by assumption)) (Nat.lt_succ_self _)) h_5)<|sI (Y1 + 1) y_8 y_9<|sN)) (by kernel_rfl)
  | false =>
   have Yt:=odf Yf
   have e:Z8 Y0 (k + 1) Y1=(.inr ()):=by simp only [Z8,Yf,cond_false]
   rw [e]
   exact outR (e:=(.exit 0)) E0Ok Z4 [] (mR false [0,2,1,1,4,13,48]) [0] (sB Yf<|sN) (by kernel_rfl) (by intro h;cases h)
def Z1o (Y0:Gm):(Unit) ⊕ (Unit):=(Z8 Y0 (((Y0.Tr.length:Int) - 0).toNat + 1) 0)
def Zb (Y0:Gm):Bool:=(cond (decide ((Y0.Pq.length:Int) > 64))
  false
  (cond (decide ((Y0.Tr.length:Int) > 128))
    false
    (match (Z1o Y0) with
      | .inl r3=>false
      | .inr r3=>true)))
theorem Z4n (Y0:Gm) (hp0:Y0.Pq.length≤1073741824) (hp1:Y0.Tr.length≤1073741824) (hp2:∀ t∈Y0.Tr,t.length≤1073741824)  : Fn prog 68 [.agg [.sl (Y0.Pq.map Gv.c), .sl (Y0.Tr.map (cL (cI .i64)))]] (.b (Zb Y0)) []:=by
 have p {a C} (s:Scr a C):=sZ Gv.c Y0.Pq<|s
 cases h0:(decide ((Y0.Pq.length:Int) > 64)) with
 | true =>
  have gh0:=odt h0
  refine fnS E0Ok Z4 (c:=X0 f68) [] (.b false) [] func68 (p (sB h0<|sB h0<|sB h0<|sB h0<|sB h0<|sB (show true=true from rfl)<|sK [] sN)) rfl (by kernel_rfl) (by kernel_rfl) rfl ?_ ?_
  · simp only [Zb,h0,cond_true]
  · rfl
 | false =>
  have gh0:=odf h0
  have q {a C} (s:Scr a C):=p (sB h0<|sB h0<|sB h0<|sZ (cL (cI .i64)) Y0.Tr<|sB h0<|sB h0<|s)
  clear p
  cases h1:(decide ((Y0.Tr.length:Int) > 128)) with
  | true =>
   have gh1:=odt h1
   refine fnS E0Ok Z4 (c:=X0 f68) [] (.b false) [] func68 (q (sB h1<|sK [] sN)) rfl (by kernel_rfl) (by kernel_rfl) rfl ?_ ?_
   · simp only [Zb,h0,h1,cond_true,cond_false]
   · rfl
  | false =>
   have gh1:=odf h1
   have p {a C} (s:Scr a C):=q (sB h1<|sZ (cL (cI .i64)) Y0.Tr<|s)
   clear q
   cases h2:(Z1o Y0) with
   | inl r3 =>
    refine fnS E0Ok Z4 (c:=X0 f68) [] (.b false) [] func68 (p (sL (mR false [0,2,1,1,4,15,46]) 1 (X6 (Z1S Y0) (x:=(Z1o Y0)) (Z2Y Y0 hp0 hp1 hp2 h0 h1 (((Y0.Tr.length:Int) - 0).toNat + 1) 0 (show 0≤0 from (by omega)) (Nat.lt_succ_self _)) h2)<|sK [] sN)) rfl (by kernel_rfl) (by kernel_rfl) rfl ?_ ?_
    · simp only [Zb,h0,h1,h2,cond_false]
    · rfl
   | inr r3 =>
    refine fnS E0Ok Z4 (c:=X0 f68) [] (.b true) [] func68 (p (sL (mR false [0,2,1,1,4,15,46]) 1 (X6 (Z1S Y0) (x:=(Z1o Y0)) (Z2Y Y0 hp0 hp1 hp2 h0 h1 (((Y0.Tr.length:Int) - 0).toNat + 1) 0 (show 0≤0 from (by omega)) (Nat.lt_succ_self _)) h2)<|sK [] sN)) rfl (by kernel_rfl) (by kernel_rfl) rfl ?_ ?_
    · simp only [Zb,h0,h1,h2,cond_false]
    · rfl
theorem triB (t:List Int) (n:Int):(!((t.length:Int) != 3) && (!(t.getD 0 default == t.getD 1 default) && (!(t.getD 1 default == t.getD 2 default) && (!(t.getD 0 default == t.getD 2 default) && t.all fun x=>Z1b x 0 (IntKind.wrap .i64 (n - 1))))))=Zc t n:=by
  unfold Zc
  cases hl:((t.length:Int) != 3) with
  | true=>rfl
  | false =>
    have hl3:t.length=3:=by simp at hl;omega
    match t,hl3 with
    | [a,b,c],_ =>
      simp only [List.getD_cons_zero,List.getD_cons_succ,List.all_cons,List.all_nil,Bool.and_true]
      rw [show Z1b=ZT from rfl]
      cases (a == b)<;>cases (b == c)<;>cases (a == c)<;>cases ZT a 0 (IntKind.wrap .i64 (n - 1))<;>cases ZT b 0 (IntKind.wrap .i64 (n - 1))<;>cases ZT c 0 (IntKind.wrap .i64 (n - 1))<;>rfl
theorem Z50 (m:Gm) (k:Nat) (i:Int):Z8 m (k + 1) i=cond (decide (i < (m.Tr.length:Int))) (cond (Zc (m.Tr.getD i.toNat default) (m.Pq.length:Int)) (Z8 m k (i + 1)) (.inl ())) (.inr ()):=by
  rw [Z8,← triB]
  have hin:Z18 m i=cond ((m.Tr.getD i.toNat default).all fun x=>Z1b x 0 (IntKind.wrap .i64 ((m.Pq.length:Int) - 1))) (.inr ()) (.inl ()):=by
    unfold Z18
    exact X29 (a:=m.Tr.getD i.toNat default) (p:=fun x=>Z1b x 0 (IntKind.wrap .i64 ((m.Pq.length:Int) - 1))) (lo:=Zz m i) (x:=()) (y:=()) (fun k i=>rfl)
  rw [hin]
  generalize m.Tr.getD i.toNat default=t
  generalize (t.all fun x=>Z1b x 0 (IntKind.wrap .i64 ((m.Pq.length:Int) - 1)))=q
  cases ((t.length:Int) != 3)<;>cases (t.getD 0 default == t.getD 1 default)<;>cases (t.getD 1 default == t.getD 2 default)<;>cases (t.getD 0 default == t.getD 2 default)<;>cases q<;>rfl
theorem Z2S (m:Gm):Zb m=ZN m:=by
  rw [Z4i]
  unfold Zb Z1o
  rw [X29 (a:=m.Tr) (p:=fun t=>Zc t (m.Pq.length:Int)) (lo:=Z8 m) (x:=()) (y:=()) (Z50 m)]
  cases (m.Tr.all fun t=>Zc t (m.Pq.length:Int))<;>rfl
def Z1V (Y5:Int) (Yd:Int):Gedge:=(⟨(if Yd < Y5 then Yd else Y5),(if Yd > Y5 then Yd else Y5)⟩:Gedge)
theorem Z3I (Y5:Int) (Yd:Int)   : Fn prog 79 [.i .i64 Y5, .i .i64 Yd] (.agg [.i .i64 ((Z1V Y5 Yd).e0), .i .i64 ((Z1V Y5 Yd).e1)]) []:=by
 refine fnS E0Ok Z4 (c:=X0 f79) [] (.agg [.i .i64 (if Yd < Y5 then Yd else Y5), .i .i64 (if Yd > Y5 then Yd else Y5)]) [] func79 (sC (show (if false=true then (if Yd > Y5 then Yd else Y5) else (if Yd < Y5 then Yd else Y5))=(if Yd < Y5 then Yd else Y5) from (by simp))<|sA (.num (if Yd < Y5 then Yd else Y5))<|sC (show (if true=true then (if Yd > Y5 then Yd else Y5) else (if Yd < Y5 then Yd else Y5))=(if Yd > Y5 then Yd else Y5) from (by simp))<|sA (.num (if Yd > Y5 then Yd else Y5))<|sK [] sN) rfl (by kernel_rfl) (by kernel_rfl) rfl ?_ ?_
 · rfl
 · rfl
theorem Z4L (a b:Int):Z1V a b=mkE a b:=by
  unfold Z1V mkE
  by_cases h:a≤b
  · rw [if_pos h,if_neg (by omega)]
    by_cases h2:b > a
    · rw [if_pos h2]
    · rw [if_neg h2,show a=b from by omega]
  · rw [if_neg h,if_pos (by omega),if_neg (by omega)]
def Z3 (Y0:Gm) (Y1:Int) (Y2:Int):Gedge:=(Z1V ((Y0.Tr.getD Y1.toNat default).getD Y2.toNat default) ((Y0.Tr.getD Y1.toNat default).getD (Int.tmod (Y2 + 1) 3).toNat default))
def Zp (Y0:Gm) (Y1:Int) (Y6:(List ((Int × Int) × Int))) (Yb:(List ((Int × Int) × Int))):Nat→Int→(List ((Int × Int) × Int))→(List ((Int × Int) × Int))→(Unit) ⊕ ((List ((Int × Int) × Int)) × (List ((Int × Int) × Int)))
  | 0,_,_,_ => .inl default
  | k + 1,Y2,Y4,Y8=>(cond (decide (Y2 < 3))
    (cond ((X5 Y4 (((Y0.Tr.getD Y1.toNat default).getD Y2.toNat default),((Y0.Tr.getD Y1.toNat default).getD (Int.tmod (Y2 + 1) 3).toNat default))) == 1)
      (.inl ())
      (cond (decide ((X5 (Xo Y8 ((Z3 Y0 Y1 Y2).e0,(Z3 Y0 Y1 Y2).e1) (IntKind.wrap .i64 ((X5 Y8 ((Z3 Y0 Y1 Y2).e0,(Z3 Y0 Y1 Y2).e1)) + 1))) ((Z3 Y0 Y1 Y2).e0,(Z3 Y0 Y1 Y2).e1)) > 2))
        (.inl ())
        (Zp Y0 Y1 Y6 Yb k (Y2 + 1) (Xo Y4 (((Y0.Tr.getD Y1.toNat default).getD Y2.toNat default),((Y0.Tr.getD Y1.toNat default).getD (Int.tmod (Y2 + 1) 3).toNat default)) 1) (Xo Y8 ((Z3 Y0 Y1 Y2).e0,(Z3 Y0 Y1 Y2).e1) (IntKind.wrap .i64 ((X5 Y8 ((Z3 Y0 Y1 Y2).e0,(Z3 Y0 Y1 Y2).e1)) + 1))))))
    (.inr (Y4,Y8)))
def Z20 (Y0:Gm) (Y1:Int) (Y6:(List ((Int × Int) × Int))) (Yb:(List ((Int × Int) × Int))):(Unit) ⊕ ((List ((Int × Int) × Int)) × (List ((Int × Int) × Int)))→Ex × St
  | .inl r=>(.ret,⟨.any :: .any :: .b false :: an 57 [],[]⟩)
  | .inr r=>((.exit 2),⟨.agg [.sl (Y0.Pq.map Gv.c), .sl (Y0.Tr.map (cL (cI .i64)))] :: .ptr 0 0 0 :: .any :: .mp 1 :: .mp 2 :: .any :: .sl ((Y0.Tr.getD Y1.toNat default).map (cI .i64)) :: .any :: .any :: .any :: .agg [.sl (Y0.Pq.map Gv.c), .sl (Y0.Tr.map (cL (cI .i64)))] :: .b (Zb Y0) :: .b (!(Zb Y0)) :: .mp 1 :: .mp 2 :: .ptr 0 0 1 :: .sl (Y0.Tr.map (cL (cI .i64))) :: .i .i64 (Y0.Tr.length:Int) :: .i .i64 Y1 :: .b (decide (Y1 < (Y0.Tr.length:Int))) :: .ref [.sl ((Y0.Tr.getD Y1.toNat default).map (cI .i64))] 0 :: .sl ((Y0.Tr.getD Y1.toNat default).map (cI .i64)) :: an 38 [],[.box 35 [.sl (Y0.Pq.map Gv.c), .sl (Y0.Tr.map (cL (cI .i64)))], .mapS 116 none r.1 none, .mapS 117 (some .i64) r.2 none]⟩)
def Z47 (Y0:Gm) (Y1:Int) (Y6:(List ((Int × Int) × Int))) (Yb:(List ((Int × Int) × Int))) (Y2:Int) (Y4:(List ((Int × Int) × Int))) (Y8:(List ((Int × Int) × Int))):St:=⟨.agg [.sl (Y0.Pq.map Gv.c), .sl (Y0.Tr.map (cL (cI .i64)))] :: .ptr 0 0 0 :: .any :: .mp 1 :: .mp 2 :: .any :: .sl ((Y0.Tr.getD Y1.toNat default).map (cI .i64)) :: .any :: .any :: .any :: .agg [.sl (Y0.Pq.map Gv.c), .sl (Y0.Tr.map (cL (cI .i64)))] :: .b (Zb Y0) :: .b (!(Zb Y0)) :: .mp 1 :: .mp 2 :: .ptr 0 0 1 :: .sl (Y0.Tr.map (cL (cI .i64))) :: .i .i64 (Y0.Tr.length:Int) :: .i .i64 Y1 :: .b (decide (Y1 < (Y0.Tr.length:Int))) :: .ref [.sl ((Y0.Tr.getD Y1.toNat default).map (cI .i64))] 0 :: .sl ((Y0.Tr.getD Y1.toNat default).map (cI .i64)) :: .i .i64 Y2 :: an 37 [],[.box 35 [.sl (Y0.Pq.map Gv.c), .sl (Y0.Tr.map (cL (cI .i64)))], .mapS 116 none Y4 none, .mapS 117 (some .i64) Y8 none]⟩
def Z2f:List Bool:=(mR false [0,2,1,2,1,1,3,13,37])
def Z3P:List Bool:=(mR false [0,2,1,2,1,1,3,12,38])
set_option maxHeartbeats 1000000 in
theorem Z3i (Y0:Gm) (Y1:Int) (Y6:(List ((Int × Int) × Int))) (Yb:(List ((Int × Int) × Int))) (hp0:Y0.Pq.length≤1073741824) (hp1:Y0.Tr.length≤1073741824) (hp2:∀ t∈Y0.Tr,t.length≤1073741824) (ZW:(Zb Y0)=true) (ZX:0≤Y1) (Z2g:(decide (Y1 < (Y0.Tr.length:Int)))=true) (Z5g:(Zb Y0)=true):∀ (k:Nat) (Y2:Int) (Y4:(List ((Int × Int) × Int))) (Y8:(List ((Int × Int) × Int))) (Z1x:0≤Y2) (hk:((3:Int) - Y2).toNat < k),Lp prog 0 (sub (X0 f64) [1,1,1,0,1,0,0,1,1,0,0,1,1,0,0]) (Z47 Y0 Y1 Y6 Yb Y2 Y4 Y8) (Z20 Y0 Y1 Y6 Yb (Zp Y0 Y1 Y6 Yb k Y2 Y4 Y8)).1 (Z20 Y0 Y1 Y6 Yb (Zp Y0 Y1 Y6 Yb k Y2 Y4 Y8)).2:=by
 intro k
 induction k with
 | zero=>intro Y2 Y4 Y8 Z1x hk;exact absurd hk (Nat.not_lt_zero _)
 | succ k ih =>
  intro Y2 Y4 Y8 Z1x hk
  cases Yr:(decide (Y2 < 3)) with
  | true =>
   have YI:=odt Yr
   have YN:(0:Int)≤Y2:=(by assumption)
   have YO:Y2 < ((Y0.Tr.getD Y1.toNat default).length:Int):=(by (have ok_:=Z3x Y0 (by rw [← Z2S];exact ZW);have q:=OkE.at ok_ ZX (odt Z2g) Z1x (odt (by assumption));omega))
   have YJ:(-9223372036854775808:Int)≤(Y2 + 1):=(by omega)
   have YH:(Y2 + 1)≤(9223372036854775807:Int):=(by omega)
   have YP:(0:Int)≤(Int.tmod (Y2 + 1) 3):=(by (have ok_:=Z3x Y0 (by rw [← Z2S];exact ZW);have q:=OkE.at ok_ ZX (odt Z2g) Z1x (odt (by assumption));omega))
   have YU:(Int.tmod (Y2 + 1) 3) < ((Y0.Tr.getD Y1.toNat default).length:Int):=(by (have ok_:=Z3x Y0 (by rw [← Z2S];exact ZW);have q:=OkE.at ok_ ZX (odt Z2g) Z1x (odt (by assumption));omega))
   have p {a C} (s:Scr a C):=sB Yr<|sK [12,12]<|sG (cI .i64) (Y0.Tr.getD Y1.toNat default) Y2 YN YO<|sI (Y2 + 1) YJ YH<|sC (show (3:Int)≠0 from (by decide))<|sQ (Int.tmod (Y2 + 1) 3)<|sG (cI .i64) (Y0.Tr.getD Y1.toNat default) (Int.tmod (Y2 + 1) 3) YP YU<|sC (show (0:Int)≤0∧0 < ((2:Nat):Int) from (by decide))<|sC (show (0:Int)≤1∧1 < ((2:Nat):Int) from (by decide))<|sF (Z3I ((Y0.Tr.getD Y1.toNat default).getD Y2.toNat default) ((Y0.Tr.getD Y1.toNat default).getD (Int.tmod (Y2 + 1) 3).toNat default))<|sR (X7S E0Ok Z4 (id:=12) (ops:=X8d (sub (X0 f64) [1,1,1,0,1,0,0,1,1,0,0,1,1,0,0,1,1,0,0,1,1,1,0])) (⟨.agg [.sl (Y0.Pq.map Gv.c), .sl (Y0.Tr.map (cL (cI .i64)))] :: .ptr 0 0 0 :: .any :: .mp 1 :: .mp 2 :: .any :: .sl ((Y0.Tr.getD Y1.toNat default).map (cI .i64)) :: .i .i64 Y2 :: .ptr 3 0 0 :: .ptr 4 0 0 :: .agg [.sl (Y0.Pq.map Gv.c), .sl (Y0.Tr.map (cL (cI .i64)))] :: .b (Zb Y0) :: .b (!(Zb Y0)) :: .mp 1 :: .mp 2 :: .ptr 0 0 1 :: .sl (Y0.Tr.map (cL (cI .i64))) :: .i .i64 (Y0.Tr.length:Int) :: .i .i64 Y1 :: .b (decide (Y1 < (Y0.Tr.length:Int))) :: .ref [.sl ((Y0.Tr.getD Y1.toNat default).map (cI .i64))] 0 :: .sl ((Y0.Tr.getD Y1.toNat default).map (cI .i64)) :: .i .i64 Y2 :: .b (decide (Y2 < 3)) :: .i .i64 Y2 :: .sl ((Y0.Tr.getD Y1.toNat default).map (cI .i64)) :: .i .i64 Y2 :: .ref [.i .i64 ((Y0.Tr.getD Y1.toNat default).getD Y2.toNat default)] 0 :: .i .i64 ((Y0.Tr.getD Y1.toNat default).getD Y2.toNat default) :: .sl ((Y0.Tr.getD Y1.toNat default).map (cI .i64)) :: .i .i64 Y2 :: .i .i64 (Y2 + 1) :: .i .i64 (Int.tmod (Y2 + 1) 3) :: .ref [.i .i64 ((Y0.Tr.getD Y1.toNat default).getD (Int.tmod (Y2 + 1) 3).toNat default)] 0 :: .i .i64 ((Y0.Tr.getD Y1.toNat default).getD (Int.tmod (Y2 + 1) 3).toNat default) :: .agg [.i .i64 ((Y0.Tr.getD Y1.toNat default).getD Y2.toNat default), .i .i64 ((Y0.Tr.getD Y1.toNat default).getD (Int.tmod (Y2 + 1) 3).toNat default)] :: .ptr 3 0 0 :: .i .i64 ((Y0.Tr.getD Y1.toNat default).getD Y2.toNat default) :: .ptr 3 0 1 :: .i .i64 ((Y0.Tr.getD Y1.toNat default).getD (Int.tmod (Y2 + 1) 3).toNat default) :: .agg [.i .i64 ((Z3 Y0 Y1 Y2).e0), .i .i64 ((Z3 Y0 Y1 Y2).e1)] :: an 19 [],[.box 35 [.sl (Y0.Pq.map Gv.c), .sl (Y0.Tr.map (cL (cI .i64)))], .mapS 116 none Y4 none, .mapS 117 (some .i64) Y8 none, .box 92 [.i .i64 ((Y0.Tr.getD Y1.toNat default).getD Y2.toNat default), .i .i64 ((Y0.Tr.getD Y1.toNat default).getD (Int.tmod (Y2 + 1) 3).toNat default)], .box 92 [.i .i64 ((Z3 Y0 Y1 Y2).e0), .i .i64 ((Z3 Y0 Y1 Y2).e1)]]⟩) (⟨.agg [.sl (Y0.Pq.map Gv.c), .sl (Y0.Tr.map (cL (cI .i64)))] :: .ptr 0 0 0 :: .any :: .mp 1 :: .mp 2 :: .any :: .sl ((Y0.Tr.getD Y1.toNat default).map (cI .i64)) :: .i .i64 Y2 :: .ptr 3 0 0 :: .ptr 4 0 0 :: .agg [.sl (Y0.Pq.map Gv.c), .sl (Y0.Tr.map (cL (cI .i64)))] :: .b (Zb Y0) :: .b (!(Zb Y0)) :: .mp 1 :: .mp 2 :: .ptr 0 0 1 :: .sl (Y0.Tr.map (cL (cI .i64))) :: .i .i64 (Y0.Tr.length:Int) :: .i .i64 Y1 :: .b (decide (Y1 < (Y0.Tr.length:Int))) :: .ref [.sl ((Y0.Tr.getD Y1.toNat default).map (cI .i64))] 0 :: .sl ((Y0.Tr.getD Y1.toNat default).map (cI .i64)) :: .i .i64 Y2 :: .b (decide (Y2 < 3)) :: .i .i64 Y2 :: .sl ((Y0.Tr.getD Y1.toNat default).map (cI .i64)) :: .i .i64 Y2 :: .ref [.i .i64 ((Y0.Tr.getD Y1.toNat default).getD Y2.toNat default)] 0 :: .i .i64 ((Y0.Tr.getD Y1.toNat default).getD Y2.toNat default) :: .sl ((Y0.Tr.getD Y1.toNat default).map (cI .i64)) :: .i .i64 Y2 :: .i .i64 (Y2 + 1) :: .i .i64 (Int.tmod (Y2 + 1) 3) :: .ref [.i .i64 ((Y0.Tr.getD Y1.toNat default).getD (Int.tmod (Y2 + 1) 3).toNat default)] 0 :: .i .i64 ((Y0.Tr.getD Y1.toNat default).getD (Int.tmod (Y2 + 1) 3).toNat default) :: .agg [.i .i64 ((Y0.Tr.getD Y1.toNat default).getD Y2.toNat default), .i .i64 ((Y0.Tr.getD Y1.toNat default).getD (Int.tmod (Y2 + 1) 3).toNat default)] :: .ptr 3 0 0 :: .i .i64 ((Y0.Tr.getD Y1.toNat default).getD Y2.toNat default) :: .ptr 3 0 1 :: .i .i64 ((Y0.Tr.getD Y1.toNat default).getD (Int.tmod (Y2 + 1) 3).toNat default) :: .agg [.i .i64 ((Z3 Y0 Y1 Y2).e0), .i .i64 ((Z3 Y0 Y1 Y2).e1)] :: .mp 2 :: .agg [.i .i64 ((Z3 Y0 Y1 Y2).e0), .i .i64 ((Z3 Y0 Y1 Y2).e1)] :: .i .i64 (X5 Y8 ((Z3 Y0 Y1 Y2).e0,(Z3 Y0 Y1 Y2).e1)) :: .i .i64 (IntKind.wrap .i64 ((X5 Y8 ((Z3 Y0 Y1 Y2).e0,(Z3 Y0 Y1 Y2).e1)) + 1)) :: .tup [.i .i64 (X5 Y8 ((Z3 Y0 Y1 Y2).e0,(Z3 Y0 Y1 Y2).e1)), .i .i64 ((Xa Y8 ((Z3 Y0 Y1 Y2).e0,(Z3 Y0 Y1 Y2).e1):Nat):Int)] :: .i .i64 ((Xa Y8 ((Z3 Y0 Y1 Y2).e0,(Z3 Y0 Y1 Y2).e1):Nat):Int) :: an 13 [],[.box 35 [.sl (Y0.Pq.map Gv.c), .sl (Y0.Tr.map (cL (cI .i64)))], .mapS 116 none Y4 none, .mapS 117 (some .i64) (Xo Y8 ((Z3 Y0 Y1 Y2).e0,(Z3 Y0 Y1 Y2).e1) (IntKind.wrap .i64 ((X5 Y8 ((Z3 Y0 Y1 Y2).e0,(Z3 Y0 Y1 Y2).e1)) + 1))) none, .box 92 [.i .i64 ((Y0.Tr.getD Y1.toNat default).getD Y2.toNat default), .i .i64 ((Y0.Tr.getD Y1.toNat default).getD (Int.tmod (Y2 + 1) 3).toNat default)], .box 92 [.i .i64 ((Z3 Y0 Y1 Y2).e0), .i .i64 ((Z3 Y0 Y1 Y2).e1)]]⟩) 0 [(0,41, .mp 2),(1,42, .agg [.i .i64 ((Z3 Y0 Y1 Y2).e0), .i .i64 ((Z3 Y0 Y1 Y2).e1)]),(2,43, .i .i64 (X5 Y8 ((Z3 Y0 Y1 Y2).e0,(Z3 Y0 Y1 Y2).e1))),(3,44, .i .i64 (IntKind.wrap .i64 ((X5 Y8 ((Z3 Y0 Y1 Y2).e0,(Z3 Y0 Y1 Y2).e1)) + 1))),(4,45, .tup [.i .i64 (X5 Y8 ((Z3 Y0 Y1 Y2).e0,(Z3 Y0 Y1 Y2).e1)), .i .i64 ((Xa Y8 ((Z3 Y0 Y1 Y2).e0,(Z3 Y0 Y1 Y2).e1):Nat):Int)]),(5,46, .i .i64 ((Xa Y8 ((Z3 Y0 Y1 Y2).e0,(Z3 Y0 Y1 Y2).e1):Nat):Int))] [(4,2, .mapS 117 (some .i64) Y8 (some ((Z3 Y0 Y1 Y2).e0,(Z3 Y0 Y1 Y2).e1))),(6,2, .mapS 117 (some .i64) (Xo Y8 ((Z3 Y0 Y1 Y2).e0,(Z3 Y0 Y1 Y2).e1) (IntKind.wrap .i64 ((X5 Y8 ((Z3 Y0 Y1 Y2).e0,(Z3 Y0 Y1 Y2).e1)) + 1))) none)] [5,5,5,5,5,5,5] [⟨_,_,sN⟩,⟨_,_,sN⟩,⟨_,_,sN⟩,⟨_,_,sW .i64 ((X5 Y8 ((Z3 Y0 Y1 Y2).e0,(Z3 Y0 Y1 Y2).e1)) + 1)<|sN⟩,⟨_,_,sN⟩,⟨_,_,sN⟩,⟨_,_,sC (show ((Xa Y8 ((Z3 Y0 Y1 Y2).e0,(Z3 Y0 Y1 Y2).e1):Nat):Int)=((Xa Y8 ((Z3 Y0 Y1 Y2).e0,(Z3 Y0 Y1 Y2).e1):Nat):Int) from rfl)<|sN⟩] [0,1,2,3,7,19,15,23,51,31,55,63,127] (by kernel_rfl) (by kernel_rfl) (by kernel_rfl) (by kernel_rfl))<|s
   cases Yu:((X5 Y4 (((Y0.Tr.getD Y1.toNat default).getD Y2.toNat default),((Y0.Tr.getD Y1.toNat default).getD (Int.tmod (Y2 + 1) 3).toNat default))) == 1) with
   | true =>
    have gh__1:=eq_of_beq Yu
    have e:Zp Y0 Y1 Y6 Yb (k + 1) Y2 Y4 Y8=(.inl ()):=by simp only [Zp,Yr,Yu,cond_true]
    rw [e]
    exact outR (e := .ret) E0Ok Z4 [] (mR false [2,1,57]) [] (p (sB Yu<|sB Yu<|sB Yu<|sB Yu<|sB Yu<|sB (show true=true from rfl)<|sN)) (by kernel_rfl) (by intro h;cases h)
   | false =>
    have gh__1:=ne_of_beq_false Yu
    have q {a C} (s:Scr a C):=p (sB Yu<|sB Yu<|sB Yu<|sB Yu<|sB Yu<|s)
    clear p
    cases YK:(decide ((X5 (Xo Y8 ((Z3 Y0 Y1 Y2).e0,(Z3 Y0 Y1 Y2).e1) (IntKind.wrap .i64 ((X5 Y8 ((Z3 Y0 Y1 Y2).e0,(Z3 Y0 Y1 Y2).e1)) + 1))) ((Z3 Y0 Y1 Y2).e0,(Z3 Y0 Y1 Y2).e1)) > 2)) with
    | true =>
     have YZ:=odt YK
     have e:Zp Y0 Y1 Y6 Yb (k + 1) Y2 Y4 Y8=(.inl ()):=by simp only [Zp,Yr,Yu,YK,cond_true,cond_false]
     rw [e]
     exact outR (e := .ret) E0Ok Z4 [] (mR false [2,1,57]) [] (q (sB YK<|sN)) (by kernel_rfl) (by intro h;cases h)
    | false =>
     have YZ:=odf YK
     have e:Zp Y0 Y1 Y6 Yb (k + 1) Y2 Y4 Y8=(Zp Y0 Y1 Y6 Yb k (Y2 + 1) (Xo Y4 (((Y0.Tr.getD Y1.toNat default).getD Y2.toNat default),((Y0.Tr.getD Y1.toNat default).getD (Int.tmod (Y2 + 1) 3).toNat default)) 1) (Xo Y8 ((Z3 Y0 Y1 Y2).e0,(Z3 Y0 Y1 Y2).e1) (IntKind.wrap .i64 ((X5 Y8 ((Z3 Y0 Y1 Y2).e0,(Z3 Y0 Y1 Y2).e1)) + 1)))):=by simp only [Zp,Yr,Yu,YK,cond_true,cond_false]
     rw [e]
     exact Xp E0Ok Z4 [] Z2f [0,1,2] (ih (Y2 + 1) (Xo Y4 (((Y0.Tr.getD Y1.toNat default).getD Y2.toNat default),((Y0.Tr.getD Y1.toNat default).getD (Int.tmod (Y2 + 1) 3).toNat default)) 1) (Xo Y8 ((Z3 Y0 Y1 Y2).e0,(Z3 Y0 Y1 Y2).e1) (IntKind.wrap .i64 ((X5 Y8 ((Z3 Y0 Y1 Y2).e0,(Z3 Y0 Y1 Y2).e1)) + 1))) (show 0≤(Y2 + 1) from (by omega)) (by omega)) (q (sB YK<|sI (Y2 + 1) YJ YH<|sN)) (by kernel_rfl)
  | false =>
   have YI:=odf Yr
   have e:Zp Y0 Y1 Y6 Yb (k + 1) Y2 Y4 Y8=(.inr (Y4,Y8)):=by simp only [Zp,Yr,cond_false]
   rw [e]
   exact outR (e:=(.exit 2)) E0Ok Z4 [] Z3P [0,1,2] (sB Yr<|sN) (by kernel_rfl) (by intro h;cases h)
def Z1y (Y0:Gm) (Y1:Int) (Y6:(List ((Int × Int) × Int))) (Yb:(List ((Int × Int) × Int))):(Unit) ⊕ ((List ((Int × Int) × Int)) × (List ((Int × Int) × Int))):=(Zp Y0 Y1 Y6 Yb (((3:Int) - 0).toNat + 1) 0 Y6 Yb)
def Zv (Y0:Gm):Nat→Int→(List ((Int × Int) × Int))→(List ((Int × Int) × Int))→(Unit) ⊕ ((List ((Int × Int) × Int)) × (List ((Int × Int) × Int)))
  | 0,_,_,_ => .inl default
  | k + 1,Y1,Y6,Yb=>(cond (decide (Y1 < (Y0.Tr.length:Int)))
    (match (Z1y Y0 Y1 Y6 Yb) with
      | .inl r_2=>(.inl ())
      | .inr r_2=>(Zv Y0 k (Y1 + 1) r_2.1 r_2.2))
    (.inr (Y6,Yb)))
def Z21 (Y0:Gm):(Unit) ⊕ ((List ((Int × Int) × Int)) × (List ((Int × Int) × Int)))→Ex × St
  | .inl r=>(.ret,⟨.any :: .any :: .b false :: an 57 [],[]⟩)
  | .inr r=>((.exit 0),⟨.agg [.sl (Y0.Pq.map Gv.c), .sl (Y0.Tr.map (cL (cI .i64)))] :: .ptr 0 0 0 :: an 8 (.agg [.sl (Y0.Pq.map Gv.c), .sl (Y0.Tr.map (cL (cI .i64)))] :: .b (Zb Y0) :: .b (!(Zb Y0)) :: .mp 1 :: .mp 2 :: .ptr 0 0 1 :: .sl (Y0.Tr.map (cL (cI .i64))) :: an 43 []),[.box 35 [.sl (Y0.Pq.map Gv.c), .sl (Y0.Tr.map (cL (cI .i64)))], .mapS 116 none r.1 none, .mapS 117 (some .i64) r.2 none]⟩)
def Z48 (Y0:Gm) (Y1:Int) (Y6:(List ((Int × Int) × Int))) (Yb:(List ((Int × Int) × Int))):St:=⟨.agg [.sl (Y0.Pq.map Gv.c), .sl (Y0.Tr.map (cL (cI .i64)))] :: .ptr 0 0 0 :: .any :: .mp 1 :: .mp 2 :: an 5 (.agg [.sl (Y0.Pq.map Gv.c), .sl (Y0.Tr.map (cL (cI .i64)))] :: .b (Zb Y0) :: .b (!(Zb Y0)) :: .mp 1 :: .mp 2 :: .ptr 0 0 1 :: .sl (Y0.Tr.map (cL (cI .i64))) :: .i .i64 (Y0.Tr.length:Int) :: .i .i64 Y1 :: an 41 []),[.box 35 [.sl (Y0.Pq.map Gv.c), .sl (Y0.Tr.map (cL (cI .i64)))], .mapS 116 none Y6 none, .mapS 117 (some .i64) Yb none]⟩
theorem Z3j (Y0:Gm) (hp0:Y0.Pq.length≤1073741824) (hp1:Y0.Tr.length≤1073741824) (hp2:∀ t∈Y0.Tr,t.length≤1073741824) (ZW:(Zb Y0)=true):∀ (k:Nat) (Y1:Int) (Y6:(List ((Int × Int) × Int))) (Yb:(List ((Int × Int) × Int))) (ZX:0≤Y1) (hk:((Y0.Tr.length:Int) - Y1).toNat < k),Lp prog 0 (sub (X0 f64) [1,1,1,0,1,0,0]) (Z48 Y0 Y1 Y6 Yb) (Z21 Y0 (Zv Y0 k Y1 Y6 Yb)).1 (Z21 Y0 (Zv Y0 k Y1 Y6 Yb)).2:=by
 intro k
 induction k with
 | zero=>intro Y1 Y6 Yb ZX hk;exact absurd hk (Nat.not_lt_zero _)
 | succ k ih =>
  intro Y1 Y6 Yb ZX hk
  cases Yf:(decide (Y1 < (Y0.Tr.length:Int))) with
  | true =>
   have Yt:=odt Yf
   have Yx:(0:Int)≤Y1:=(by assumption)
   have Yw:Y1 < (Y0.Tr.length:Int):=(by assumption)
   have p {a C} (s:Scr a C):=sB Yf<|sG (cL (cI .i64)) Y0.Tr Y1 Yx Yw<|s
   cases Yi:(Z1y Y0 Y1 Y6 Yb) with
   | inl r_2 =>
    have e:Zv Y0 (k + 1) Y1 Y6 Yb=(.inl ()):=by simp only [Zv,Yf,Yi,cond_true]
    rw [e]
    exact outR (e := .ret) E0Ok Z4 [] (mR false [2,1,57]) [] (p (sL Z2f 3 (X6 (Z20 Y0 Y1 Y6 Yb) (x:=(Z1y Y0 Y1 Y6 Yb)) (Z3i Y0 Y1 Y6 Yb hp0 hp1 hp2 ZW ZX Yf ZW (((3:Int) - 0).toNat + 1) 0 Y6 Yb (show 0≤0 from (by omega)) (Nat.lt_succ_self _)) Yi)<|sN)) (by kernel_rfl) (by intro h;cases h)
   | inr r_2 =>
    have YC:(-9223372036854775808:Int)≤(Y1 + 1):=by clear p;exact (by omega)
    have YA:(Y1 + 1)≤(9223372036854775807:Int):=by clear p;exact (by omega)
    have e:Zv Y0 (k + 1) Y1 Y6 Yb=(Zv Y0 k (Y1 + 1) r_2.1 r_2.2):=by simp only [Zv,Yf,Yi,cond_true]
    rw [e]
    exact Xp E0Ok Z4 [] (mR false [0,2,1,2,5,9,41]) [0,1,2] (ih (Y1 + 1) r_2.1 r_2.2 (show 0≤(Y1 + 1) from (by omega)) (by omega)) (p (sL Z2f 3 (X6 (Z20 Y0 Y1 Y6 Yb) (x:=(Z1y Y0 Y1 Y6 Yb)) (Z3i Y0 Y1 Y6 Yb hp0 hp1 hp2 ZW ZX Yf ZW (((3:Int) - 0).toNat + 1) 0 Y6 Yb (show 0≤0 from (by omega)) (Nat.lt_succ_self _)) Yi)<|sI (Y1 + 1) YC YA<|sN)) (by kernel_rfl)
  | false =>
   have Yt:=odf Yf
   have e:Zv Y0 (k + 1) Y1 Y6 Yb=(.inr (Y6,Yb)):=by simp only [Zv,Yf,cond_false]
   rw [e]
   exact outR (e:=(.exit 0)) E0Ok Z4 [] (mR false [0,2,8,7,43]) [0,1,2] (sB Yf<|sN) (by kernel_rfl) (by intro h;cases h)
def Z1z (Y0:Gm):(Unit) ⊕ ((List ((Int × Int) × Int)) × (List ((Int × Int) × Int))):=(Zv Y0 (((Y0.Tr.length:Int) - 0).toNat + 1) 0 ([]:List ((Int × Int) × Int)) ([]:List ((Int × Int) × Int)))
def Z1d (Y0:Gm):Bool:=(cond (Zb Y0)
  (match (Z1z Y0) with
    | .inl r2=>false
    | .inr r2=>true)
  false)
theorem Z4H (Y0:Gm) (hp0:Y0.Pq.length≤1073741824) (hp1:Y0.Tr.length≤1073741824) (hp2:∀ t∈Y0.Tr,t.length≤1073741824)  : Fn prog 64 [.agg [.sl (Y0.Pq.map Gv.c), .sl (Y0.Tr.map (cL (cI .i64)))]] (.b (Z1d Y0)) []:=by
 have p {a C} (s:Scr a C):=sF (Z4n Y0 hp0 hp1 hp2)<|s
 cases h0:(Zb Y0) with
 | true =>
  have q {a C} (s:Scr a C):=p (sB' h0<|sZ (cL (cI .i64)) Y0.Tr<|s)
  clear p
  cases h1:(Z1z Y0) with
  | inl r2 =>
   refine fnS E0Ok Z4 (c:=X0 f64) [] (.b false) [] func64 (q (sL (mR false [0,2,1,2,5,9,41]) 3 (X6 (Z21 Y0) (x:=(Z1z Y0)) (Z3j Y0 hp0 hp1 hp2 h0 (((Y0.Tr.length:Int) - 0).toNat + 1) 0 ([]:List ((Int × Int) × Int)) ([]:List ((Int × Int) × Int)) (show 0≤0 from (by omega)) (Nat.lt_succ_self _)) h1)<|sK [] sN)) rfl (by kernel_rfl) (by kernel_rfl) rfl ?_ ?_
   · simp only [Z1d,h0,h1,cond_true]
   · rfl
  | inr r2 =>
   refine fnS E0Ok Z4 (c:=X0 f64) [] (.b true) [] func64 (q (sL (mR false [0,2,1,2,5,9,41]) 3 (X6 (Z21 Y0) (x:=(Z1z Y0)) (Z3j Y0 hp0 hp1 hp2 h0 (((Y0.Tr.length:Int) - 0).toNat + 1) 0 ([]:List ((Int × Int) × Int)) ([]:List ((Int × Int) × Int)) (show 0≤0 from (by omega)) (Nat.lt_succ_self _)) h1)<|sK [] sN)) rfl (by kernel_rfl) (by kernel_rfl) rfl ?_ ?_
   · simp only [Z1d,h0,h1,cond_true]
   · rfl
 | false =>
  refine fnS E0Ok Z4 (c:=X0 f64) [] (.b false) [] func64 (p (sB' h0<|sK [] sN)) rfl (by kernel_rfl) (by kernel_rfl) rfl ?_ ?_
  · simp only [Z1d,h0,cond_false]
  · rfl
theorem Z5j (m:Gm) (x:Int) (r1 r2:List ((Int × Int) × Int)):∀ (k:Nat) (i:Int) (g mm:List ((Int × Int) × Int)) (D:List (Int × Int)),0≤i→i≤3→((3:Int) - i).toNat < k→SInv D g mm →
    ((D ++ (dE (m.Tr.getD x.toNat default)).drop i.toNat).Nodup∧∃ g' m',Zp m x r1 r2 k i g mm = .inr (g',m')∧SInv (D ++ (dE (m.Tr.getD x.toNat default)).drop i.toNat) g' m')∨(¬(D ++ (dE (m.Tr.getD x.toNat default)).drop i.toNat).Nodup∧Zp m x r1 r2 k i g mm = .inl ()):=by
  intro k
  induction k with
  | zero=>intro i g mm D _ _ hk;exact absurd hk (Nat.not_lt_zero _)
  | succ k ih =>
    intro i g mm D h0 h3 hk hS
    rw [Zp]
    by_cases hi:i < 3
    · generalize hw:((m.Tr.getD x.toNat default).getD i.toNat default,(m.Tr.getD x.toNat default).getD (Int.tmod (i + 1) 3).toNat default)=w
      have hd:(dE (m.Tr.getD x.toNat default)).drop i.toNat=w :: (dE (m.Tr.getD x.toNat default)).drop (i + 1).toNat:=by
        have hc:i=0∨i=1∨i=2:=by omega
        rw [← hw]
        rcases hc with rfl | rfl | rfl<;>rfl
      have he:((Z3 m x i).e0,(Z3 m x i).e1)=uE w:=by
        unfold Z3
        rw [Z4L,← hw];rfl
      rw [decide_eq_true hi,cond_true,hd,he]
      cases hg:(X5 g w == 1) with
      | true =>
        right
        refine ⟨fun hN => ?_,rfl⟩
        have hm:=hS.hit hg
        exact (List.nodup_append.1 hN).2.2 w hm w List.mem_cons_self rfl
      | false =>
        obtain ⟨q1,q2⟩:=hS.step hg
        rw [cond_false,q1,cond_false]
        have:=ih (i + 1) _ _ _ (by omega) (by omega) (by omega) q2
        rw [List.append_assoc,List.singleton_append] at this
        exact this
    · have hi3:i=3:=by omega
      subst hi3
      left
      have hd:(dE (m.Tr.getD x.toNat default)).drop (3:Int).toNat=[]:=rfl
      rw [hd,List.append_nil]
      exact ⟨hS.nd,g,mm,rfl,hS⟩
theorem Z5k (m:Gm):∀ (k:Nat) (i:Int) (g mm:List ((Int × Int) × Int)) (D:List (Int × Int)),0≤i→((m.Tr.length:Int) - i).toNat < k→SInv D g mm →
    ((D ++ (m.Tr.drop i.toNat).flatMap dE).Nodup∧∃ r,Zv m k i g mm = .inr r)∨(¬(D ++ (m.Tr.drop i.toNat).flatMap dE).Nodup∧Zv m k i g mm = .inl ()):=by
  intro k
  induction k with
  | zero=>intro i g mm D _ hk;exact absurd hk (Nat.not_lt_zero _)
  | succ k ih =>
    intro i g mm D h0 hk hS
    rw [Zv]
    by_cases hi:i < (m.Tr.length:Int)
    · have hn:i.toNat < m.Tr.length:=by omega
      have hg:m.Tr.getD i.toNat default=m.Tr[i.toNat]:=by rw [List.getD_eq_getElem?_getD,List.getElem?_eq_getElem hn];rfl
      rw [decide_eq_true hi,cond_true,List.drop_eq_getElem_cons hn,List.flatMap_cons,← show (i + 1).toNat=i.toNat + 1 from by omega]
      have q:=Z5j m i g mm (((3:Int) - 0).toNat + 1) 0 g mm D (Int.le_refl 0) (by omega) (Nat.lt_succ_self _) hS
      rw [show (0:Int).toNat=0 from rfl,List.drop_zero,hg] at q
      unfold Z1y
      rcases q with ⟨q1,g',m',q2,q3⟩ | ⟨q1,q2⟩
      · rw [q2]
        have:=ih (i + 1) g' m' _ (by omega) (by omega) q3
        rw [List.append_assoc] at this
        exact this
      · rw [q2]
        right
        refine ⟨fun hN=>q1 ?_,rfl⟩
        rw [← List.append_assoc] at hN
        exact (List.nodup_append.1 hN).1
    · rw [decide_eq_false hi,cond_false,List.drop_eq_nil_of_le (by omega)]
      left
      rw [List.flatMap_nil,List.append_nil]
      exact ⟨hS.nd,_,rfl⟩
theorem Z4A (m:Gm):Z1d m=cond (ZN m) (decide ((m.Tr.flatMap dE).Nodup)) false:=by
  unfold Z1d Z1z
  rw [Z2S]
  have q:=Z5k m (((m.Tr.length:Int) - 0).toNat + 1) 0 [] [] [] (Int.le_refl 0) (Nat.lt_succ_self _) SInv.nil
  rw [List.nil_append,show (0:Int).toNat=0 from rfl,List.drop_zero] at q
  rcases q with ⟨q1,r,q2⟩ | ⟨q1,q2⟩
  · rw [q2,decide_eq_true q1]
  · rw [q2,decide_eq_false q1]
def Z13 (YR:Int):Bool:=(YR != YR)
theorem Z39 (YR:Int)   : Fn prog 145 [.i .i64 YR] (.b (Z13 YR)) []:=by
 refine fnS E0Ok Z4 (c:=X0 f145) [] (.b (YR != YR)) [] func145 (sK [] sN) rfl (by kernel_rfl) (by kernel_rfl) rfl ?_ ?_
 · rfl
 · rfl
def Zt (YR:Int) (Yw:Int):Int:=(cond (Z13 YR)
  (cond (Z13 Yw)
    0
    (-1))
  (cond (Z13 Yw)
    1
    (cond (decide (YR < Yw))
      (-1)
      (cond (decide (YR > Yw))
        1
        0))))
theorem Z3F (YR:Int) (Yw:Int)   : Fn prog 137 [.i .i64 YR, .i .i64 Yw] (.i .i64 (Zt YR Yw)) []:=by
 have p {a C} (s:Scr a C):=sF (Z39 YR)<|sF (Z39 Yw)<|s
 cases h0:(Z13 YR) with
 | true =>
  have q {a C} (s:Scr a C):=p (sB h0<|s)
  clear p
  cases h1:(Z13 Yw) with
  | true =>
   refine fnS E0Ok Z4 (c:=X0 f137) [] (.i .i64 0) [] func137 (q (sB h1<|sK [] sN)) rfl (by kernel_rfl) (by kernel_rfl) rfl ?_ ?_
   · simp only [Zt,h0,h1,cond_true]
   · rfl
  | false =>
   refine fnS E0Ok Z4 (c:=X0 f137) [] (.i .i64 (-1)) [] func137 (q (sB h1<|sK [] sN)) rfl (by kernel_rfl) (by kernel_rfl) rfl ?_ ?_
   · simp only [Zt,h0,h1,cond_true,cond_false]
   · rfl
 | false =>
  have q {a C} (s:Scr a C):=p (sB h0<|s)
  clear p
  cases h1:(Z13 Yw) with
  | true =>
   refine fnS E0Ok Z4 (c:=X0 f137) [] (.i .i64 1) [] func137 (q (sB h1<|sK [] sN)) rfl (by kernel_rfl) (by kernel_rfl) rfl ?_ ?_
   · simp only [Zt,h0,h1,cond_true,cond_false]
   · rfl
  | false =>
   have p {a C} (s:Scr a C):=q (sB h1<|s)
   clear q
   cases h2:(decide (YR < Yw)) with
   | true =>
    have gh2:=odt h2
    refine fnS E0Ok Z4 (c:=X0 f137) [] (.i .i64 (-1)) [] func137 (p (sB h2<|sK [] sN)) rfl (by kernel_rfl) (by kernel_rfl) rfl ?_ ?_
    · simp only [Zt,h0,h1,h2,cond_true,cond_false]
    · rfl
   | false =>
    have gh2:=odf h2
    have q {a C} (s:Scr a C):=p (sB h2<|s)
    clear p
    cases h3:(decide (YR > Yw)) with
    | true =>
     have gh3:=odt h3
     refine fnS E0Ok Z4 (c:=X0 f137) [] (.i .i64 1) [] func137 (q (sB h3<|sK [] sN)) rfl (by kernel_rfl) (by kernel_rfl) rfl ?_ ?_
     · simp only [Zt,h0,h1,h2,h3,cond_true,cond_false]
     · rfl
    | false =>
     have gh3:=odf h3
     refine fnS E0Ok Z4 (c:=X0 f137) [] (.i .i64 0) [] func137 (q (sB h3<|sK [] sN)) rfl (by kernel_rfl) (by kernel_rfl) rfl ?_ ?_
     · simp only [Zt,h0,h1,h2,h3,cond_false]
     · rfl
def Z6 (Yn:(List Int)) (Yq:(List Int)):Nat→Int→(Int) ⊕ (Unit)
  | 0,_ => .inl default
  | k + 1,Y1=>(cond (decide (Y1 < (Yn.length:Int)))
    (cond (decide (Y1 ≥ (Yq.length:Int)))
      (.inl 1)
      (cond ((Zt (Yn.getD Y1.toNat default) (Yq.getD Y1.toNat default)) != 0)
        (.inl (Zt (Yn.getD Y1.toNat default) (Yq.getD Y1.toNat default)))
        (Z6 Yn Yq k (Y1 + 1))))
    (.inr ()))
def ZY (Yn:(List Int)) (Yq:(List Int)):(Int) ⊕ (Unit)→Ex × St
  | .inl r=>(.ret,⟨an 4 (.i .i64 r :: an 31 []),[]⟩)
  | .inr r=>((.exit 0),⟨.sl (Yn.map (cI .i64)) :: .sl (Yq.map (cI .i64)) :: an 7 (.sl (Yn.map (cI .i64)) :: an 26 []),[]⟩)
def Z2x (Yn:(List Int)) (Yq:(List Int)) (Y1:Int):St:=⟨.sl (Yn.map (cI .i64)) :: .sl (Yq.map (cI .i64)) :: an 7 (.sl (Yn.map (cI .i64)) :: .i .i64 (Yn.length:Int) :: .i .i64 Y1 :: an 24 []),[]⟩
theorem Z1G (Yn:(List Int)) (Yq:(List Int)) (hp0:Yn.length≤1073741824) (hp1:Yq.length≤1073741824):∀ (k:Nat) (Y1:Int) (Z1B:0≤Y1) (hk:((Yn.length:Int) - Y1).toNat < k),Lp prog 0 (sub (X0 f123) [1,0,1,0,0]) (Z2x Yn Yq Y1) (ZY Yn Yq (Z6 Yn Yq k Y1)).1 (ZY Yn Yq (Z6 Yn Yq k Y1)).2:=by
 intro k
 induction k with
 | zero=>intro Y1 Z1B hk;exact absurd hk (Nat.not_lt_zero _)
 | succ k ih =>
  intro Y1 Z1B hk
  cases Yf:(decide (Y1 < (Yn.length:Int))) with
  | true =>
   have Yt:=odt Yf
   have Yx:(0:Int)≤Y1:=(by assumption)
   have Yw:Y1 < (Yn.length:Int):=(by assumption)
   have p {a C} (s:Scr a C):=sB Yf<|sG (cI .i64) Yn Y1 Yx Yw<|sZ (cI .i64) Yq<|s
   cases Yi:(decide (Y1 ≥ (Yq.length:Int))) with
   | true =>
    have YM:=odt Yi
    have e:Z6 Yn Yq (k + 1) Y1=(.inl 1):=by simp only [Z6,Yf,Yi,cond_true]
    rw [e]
    exact outR (e := .ret) E0Ok Z4 [] (mR false [4,1,31]) [] (p (sB Yi<|sN)) (by kernel_rfl) (by intro h;cases h)
   | false =>
    have YM:=odf Yi
    have YC:Y1 < (Yq.length:Int):=by clear p;exact (by omega)
    have q {a C} (s:Scr a C):=p (sB Yi<|sG (cI .i64) Yq Y1 Yx YC<|sF (Z3F (Yn.getD Y1.toNat default) (Yq.getD Y1.toNat default))<|s)
    clear p
    cases Ym:((Zt (Yn.getD Y1.toNat default) (Yq.getD Y1.toNat default)) != 0) with
    | true =>
     have YQ:=bne_iff_ne.1 Ym
     have e:Z6 Yn Yq (k + 1) Y1=(.inl (Zt (Yn.getD Y1.toNat default) (Yq.getD Y1.toNat default))):=by simp only [Z6,Yf,Yi,Ym,cond_true,cond_false]
     rw [e]
     exact outR (e := .ret) E0Ok Z4 [] (mR false [4,1,31]) [] (q (sB Ym<|sN)) (by kernel_rfl) (by intro h;cases h)
    | false =>
     have YQ:=bne_eq_false_iff_eq.1 Ym
     have YA:(-9223372036854775808:Int)≤(Y1 + 1):=by clear q;exact (by omega)
     have YE:(Y1 + 1)≤(9223372036854775807:Int):=by clear q;exact (by omega)
     have e:Z6 Yn Yq (k + 1) Y1=(Z6 Yn Yq k (Y1 + 1)):=by simp only [Z6,Yf,Yi,Ym,cond_true,cond_false]
     rw [e]
     exact Xp E0Ok Z4 [] (mR false [0,2,7,3,24]) [] (ih (Y1 + 1) (show 0≤(Y1 + 1) from (by omega)) (by omega)) (q (sB Ym<|sI (Y1 + 1) YA YE<|sN)) (by kernel_rfl)
  | false =>
   have Yt:=odf Yf
   have e:Z6 Yn Yq (k + 1) Y1=(.inr ()):=by simp only [Z6,Yf,cond_false]
   rw [e]
   exact outR (e:=(.exit 0)) E0Ok Z4 [] (mR false [0,2,7,1,26]) [] (sB Yf<|sN) (by kernel_rfl) (by intro h;cases h)
def ZI (Yn:(List Int)) (Yq:(List Int)):(Int) ⊕ (Unit):=(Z6 Yn Yq (((Yn.length:Int) - 0).toNat + 1) 0)
def Zy (Yn:(List Int)) (Yq:(List Int)):Int:=(match (ZI Yn Yq) with
  | .inl r1=>r1
  | .inr r1=>(cond (decide ((Yn.length:Int) < (Yq.length:Int)))
    (-1)
    0))
theorem Z2J (Yn:(List Int)) (Yq:(List Int)) (hp0:Yn.length≤1073741824) (hp1:Yq.length≤1073741824)  : Fn prog 123 [.sl (Yn.map (cI .i64)), .sl (Yq.map (cI .i64))] (.i .i64 (Zy Yn Yq)) []:=by
 have p {a C} (s:Scr a C):=sZ (cI .i64) Yn<|s
 cases h0:(ZI Yn Yq) with
 | inl r1 =>
  refine fnS E0Ok Z4 (c:=X0 f123) [] (.i .i64 r1) [] func123 (p (sL (mR false [0,2,7,3,24]) 0 (X6 (ZY Yn Yq) (x:=(ZI Yn Yq)) (Z1G Yn Yq hp0 hp1 (((Yn.length:Int) - 0).toNat + 1) 0 (show 0≤0 from (by omega)) (Nat.lt_succ_self _)) h0)<|sK [] sN)) rfl (by kernel_rfl) (by kernel_rfl) rfl ?_ ?_
  · simp only [Zy,h0]
  · rfl
 | inr r1 =>
  have q {a C} (s:Scr a C):=p (sL (mR false [0,2,7,3,24]) 0 (X6 (ZY Yn Yq) (x:=(ZI Yn Yq)) (Z1G Yn Yq hp0 hp1 (((Yn.length:Int) - 0).toNat + 1) 0 (show 0≤0 from (by omega)) (Nat.lt_succ_self _)) h0)<|sZ (cI .i64) Yn<|sZ (cI .i64) Yq<|s)
  clear p
  cases h1:(decide ((Yn.length:Int) < (Yq.length:Int))) with
  | true =>
   have gh1:=odt h1
   refine fnS E0Ok Z4 (c:=X0 f123) [] (.i .i64 (-1)) [] func123 (q (sB h1<|sK [] sN)) rfl (by kernel_rfl) (by kernel_rfl) rfl ?_ ?_
   · simp only [Zy,h0,h1,cond_true]
   · rfl
  | false =>
   have gh1:=odf h1
   refine fnS E0Ok Z4 (c:=X0 f123) [] (.i .i64 0) [] func123 (q (sB h1<|sK [] sN)) rfl (by kernel_rfl) (by kernel_rfl) rfl ?_ ?_
   · simp only [Zy,h0,h1,cond_false]
   · rfl
def Z2h (Y5:Gedge) (Yd:Gedge):Int:=(Zy ([Y5.e0,Y5.e1]) ([Yd.e0,Yd.e1]))
theorem Z2Z (Y5:Gedge) (Yd:Gedge)   : Fn prog 112 [.agg [.i .i64 Y5.e0, .i .i64 Y5.e1], .agg [.i .i64 Yd.e0, .i .i64 Yd.e1]] (.i .i64 (Z2h Y5 Yd)) []:=by
 have y0:([Y5.e0,Y5.e1]).length≤1073741824:=(by simp_all<;>omega)
 have y1:([Yd.e0,Yd.e1]).length≤1073741824:=(by assumption)
 refine fnS E0Ok Z4 (c:=X0 f112) [] (.i .i64 (Zy ([Y5.e0,Y5.e1]) ([Yd.e0,Yd.e1]))) [] func112 (sK [2,2]<|sF (Z2J ([Y5.e0,Y5.e1]) ([Yd.e0,Yd.e1]) y0 y1)<|sK [] sN) rfl (by kernel_rfl) (by kernel_rfl) rfl ?_ ?_
 · rfl
 · rfl
def Z0 (Y0:Gm) (Y1:Int) (Y2:Int):Gedge:=(Z1V ((Y0.Tr.getD Y1.toNat default).getD Y2.toNat default) ((Y0.Tr.getD Y1.toNat default).getD (Int.tmod (Y2 + 1) 3).toNat default))
def Z5 (Y0:Gm) (Y1:Int) (Y6:(List (Gedge × List Int))) (Yb:(List Gedge)):Nat→Int→(List (Gedge × List Int))→(List Gedge)→(List (Gedge × List Int)) × (List Gedge)
  | 0,_,_,_=>default
  | k + 1,Y2,Y4,Y8=>(cond (decide (Y2 < 3))
    (cond (mhas Y4 (Z0 Y0 Y1 Y2))
      (cond (((Y4.getD (midx Y4 (Z0 Y0 Y1 Y2)) default).2.length:Int) == 0)
        (Z5 Y0 Y1 Y6 Yb k (Y2 + 1) (mput Y4 (midx Y4 (Z0 Y0 Y1 Y2)) ((Y4.getD (midx Y4 (Z0 Y0 Y1 Y2)) default).2 ++ [Y1])) (Y8 ++ [(Z0 Y0 Y1 Y2)]))
        (Z5 Y0 Y1 Y6 Yb k (Y2 + 1) (mput Y4 (midx Y4 (Z0 Y0 Y1 Y2)) ((Y4.getD (midx Y4 (Z0 Y0 Y1 Y2)) default).2 ++ [Y1])) Y8))
      (Z5 Y0 Y1 Y6 Yb k (Y2 + 1) (Y4 ++ [((Z0 Y0 Y1 Y2),[Y1])]) (Y8 ++ [(Z0 Y0 Y1 Y2)])))
    (Y4,Y8))
def Z1N (Y0:Gm) (Y1:Int) (Y6:(List (Gedge × List Int))) (Yb:(List Gedge)) (r:(List (Gedge × List Int)) × (List Gedge)):Ex × St:=((.exit 2),⟨.agg [.sl (Y0.Pq.map Gv.c), .sl (Y0.Tr.map (cL (cI .i64)))] :: .ptr 0 0 0 :: .any :: .nils :: .mp 1 :: .own 2 :: .i .i64 Y1 :: .sl ((Y0.Tr.getD Y1.toNat default).map (cI .i64)) :: .any :: .any :: .mp 1 :: .any :: .ptr 0 0 1 :: .sl (Y0.Tr.map (cL (cI .i64))) :: .i .i64 (Y0.Tr.length:Int) :: .i .i64 Y1 :: .b (decide (Y1 < (Y0.Tr.length:Int))) :: .i .i64 Y1 :: .ref [.sl ((Y0.Tr.getD Y1.toNat default).map (cI .i64))] 0 :: .sl ((Y0.Tr.getD Y1.toNat default).map (cI .i64)) :: an 37 [],[.box 35 [.sl (Y0.Pq.map Gv.c), .sl (Y0.Tr.map (cL (cI .i64)))], .mapN 2 (mapC Gedge.pr (cI .i64) r.1) none, .vec 92 2 (r.2.map Gedge.cells) false]⟩)
def Z3k (Y0:Gm) (Y1:Int) (Y6:(List (Gedge × List Int))) (Yb:(List Gedge)) (Y2:Int) (Y4:(List (Gedge × List Int))) (Y8:(List Gedge)):St:=⟨.agg [.sl (Y0.Pq.map Gv.c), .sl (Y0.Tr.map (cL (cI .i64)))] :: .ptr 0 0 0 :: .any :: .nils :: .mp 1 :: .own 2 :: .i .i64 Y1 :: .sl ((Y0.Tr.getD Y1.toNat default).map (cI .i64)) :: .any :: .any :: .mp 1 :: .any :: .ptr 0 0 1 :: .sl (Y0.Tr.map (cL (cI .i64))) :: .i .i64 (Y0.Tr.length:Int) :: .i .i64 Y1 :: .b (decide (Y1 < (Y0.Tr.length:Int))) :: .i .i64 Y1 :: .ref [.sl ((Y0.Tr.getD Y1.toNat default).map (cI .i64))] 0 :: .sl ((Y0.Tr.getD Y1.toNat default).map (cI .i64)) :: .i .i64 Y2 :: an 36 [],[.box 35 [.sl (Y0.Pq.map Gv.c), .sl (Y0.Tr.map (cL (cI .i64)))], .mapN 2 (mapC Gedge.pr (cI .i64) Y4) none, .vec 92 2 (Y8.map Gedge.cells) false]⟩
set_option maxHeartbeats 1000000 in
theorem Z3l (Y0:Gm) (Y1:Int) (Y6:(List (Gedge × List Int))) (Yb:(List Gedge)) (hp0:Y0.Pq.length≤1073741824) (hp1:Y0.Tr.length≤1073741824) (hp2:∀ t∈Y0.Tr,t.length≤1073741824) (hp3:OkE Y0.Pq.length Y0.Tr) (Ze:0≤Y1) (Z1e:(Yb.length:Int)≤3 * Y1) (Z14:∀ y∈Y6,(y.2.length:Int)≤3 * Y1) (ZJ:(decide (Y1 < (Y0.Tr.length:Int)))=true):∀ (k:Nat) (Y2:Int) (Y4:(List (Gedge × List Int))) (Y8:(List Gedge)) (Zu:0≤Y2) (Z23:(Y8.length:Int)≤(Yb.length:Int) + Y2) (Z24:∀ y∈Y4,(y.2.length:Int)≤3 * Y1 + Y2) (hk:((3:Int) - Y2).toNat < k),Lp prog 0 (sub (X0 f77) [1,1,0,1,0,0,1,1,0,0,1,1,0,0]) (Z3k Y0 Y1 Y6 Yb Y2 Y4 Y8) (Z1N Y0 Y1 Y6 Yb (Z5 Y0 Y1 Y6 Yb k Y2 Y4 Y8)).1 (Z1N Y0 Y1 Y6 Yb (Z5 Y0 Y1 Y6 Yb k Y2 Y4 Y8)).2:=by
 intro k
 induction k with
 | zero=>intro Y2 Y4 Y8 Zu Z23 Z24 hk;exact absurd hk (Nat.not_lt_zero _)
 | succ k ih =>
  intro Y2 Y4 Y8 Zu Z23 Z24 hk
  cases Yr:(decide (Y2 < 3)) with
  | true =>
   have YI:=odt Yr
   have YN:(0:Int)≤Y2:=(by assumption)
   have YO:Y2 < ((Y0.Tr.getD Y1.toNat default).length:Int):=(by ((have g5:=odt ZJ;have q:=OkE.at hp3 Ze g5 Zu (odt (by assumption));omega)))
   have YJ:(-9223372036854775808:Int)≤(Y2 + 1):=(by omega)
   have YH:(Y2 + 1)≤(9223372036854775807:Int):=(by omega)
   have YP:(0:Int)≤(Int.tmod (Y2 + 1) 3):=(by ((have g5:=odt ZJ;have q:=OkE.at hp3 Ze g5 Zu (odt (by assumption));omega)))
   have YU:(Int.tmod (Y2 + 1) 3) < ((Y0.Tr.getD Y1.toNat default).length:Int):=(by ((have g5:=odt ZJ;have q:=OkE.at hp3 Ze g5 Zu (odt (by assumption));omega)))
   have p {a C} (s:Scr a C):=sB Yr<|sK [12,12]<|sG (cI .i64) (Y0.Tr.getD Y1.toNat default) Y2 YN YO<|sI (Y2 + 1) YJ YH<|sC (show (3:Int)≠0 from (by decide))<|sQ (Int.tmod (Y2 + 1) 3)<|sG (cI .i64) (Y0.Tr.getD Y1.toNat default) (Int.tmod (Y2 + 1) 3) YP YU<|sF (Z3I ((Y0.Tr.getD Y1.toNat default).getD Y2.toNat default) ((Y0.Tr.getD Y1.toNat default).getD (Int.tmod (Y2 + 1) 3).toNat default))<|s
   cases Yu:(mhas Y4 (Z0 Y0 Y1 Y2)) with
   | true =>
    have m__16:=X2D Yu
    have q {a C} (s:Scr a C):=p (sA (.keep [midx Y4 (Z0 Y0 Y1 Y2)])<|sC (X3m (ck:=Gedge.pr) (cv:=(cI .i64)) Yu)<|sM (X5G (ck:=Gedge.pr) (cv:=(cI .i64)) (l:=Y4) (j:=(midx Y4 (Z0 Y0 Y1 Y2))))<|s)
    clear p
    cases YK:(((Y4.getD (midx Y4 (Z0 Y0 Y1 Y2)) default).2.length:Int) == 0) with
    | true =>
     have YZ:=eq_of_beq YK
     have YS:Y8.length + ([(Z0 Y0 Y1 Y2)]).length≤1073741824:=by clear q;exact (by ((have g5:=odt ZJ;have q:=OkE.at hp3 Ze g5 Zu (odt (by assumption));(simp only [List.length_append,List.length_cons,List.length_nil];omega))))
     have YX:(midx Y4 (Z0 Y0 Y1 Y2)) < Y4.length:=by clear q;exact (by assumption)
     have Y11:((Y4.getD (midx Y4 (Z0 Y0 Y1 Y2)) default).2).length + ([Y1]).length≤1073741824:=by clear q;exact (by ((have g5:=odt ZJ;have q:=OkE.at hp3 Ze g5 Zu (odt (by assumption));(simp only [List.length_append,List.length_cons,List.length_nil];omega))))
     have e:Z5 Y0 Y1 Y6 Yb (k + 1) Y2 Y4 Y8=(Z5 Y0 Y1 Y6 Yb k (Y2 + 1) (mput Y4 (midx Y4 (Z0 Y0 Y1 Y2)) ((Y4.getD (midx Y4 (Z0 Y0 Y1 Y2)) default).2 ++ [Y1])) (Y8 ++ [(Z0 Y0 Y1 Y2)])):=by simp only [Z5,Yr,Yu,YK,cond_true]
     rw [e]
     exact XW E0Ok Z4 [] (mR false [0,2,1,5,2,1,1,9,36]) [0,1,2] (⟨.agg [.sl (Y0.Pq.map Gv.c), .sl (Y0.Tr.map (cL (cI .i64)))] :: .ptr 0 0 0 :: .any :: .nils :: .mp 1 :: .own 2 :: .i .i64 Y1 :: .sl ((Y0.Tr.getD Y1.toNat default).map (cI .i64)) :: .any :: .any :: .mp 1 :: .any :: .ptr 0 0 1 :: .sl (Y0.Tr.map (cL (cI .i64))) :: .i .i64 (Y0.Tr.length:Int) :: .i .i64 Y1 :: .b (decide (Y1 < (Y0.Tr.length:Int))) :: .i .i64 Y1 :: .ref [.sl ((Y0.Tr.getD Y1.toNat default).map (cI .i64))] 0 :: .sl ((Y0.Tr.getD Y1.toNat default).map (cI .i64)) :: .i .i64 (Y2 + 1) :: an 36 [],[.box 35 [.sl (Y0.Pq.map Gv.c), .sl (Y0.Tr.map (cL (cI .i64)))], .mapN 2 (((mapC Gedge.pr (cI .i64) Y4).set (midx Y4 (Z0 Y0 Y1 Y2)) (((mapC Gedge.pr (cI .i64) Y4).getD (midx Y4 (Z0 Y0 Y1 Y2)) default).1,[])).set (midx Y4 (Z0 Y0 Y1 Y2)) ((((mapC Gedge.pr (cI .i64) Y4).set (midx Y4 (Z0 Y0 Y1 Y2)) (((mapC Gedge.pr (cI .i64) Y4).getD (midx Y4 (Z0 Y0 Y1 Y2)) default).1,[])).getD (midx Y4 (Z0 Y0 Y1 Y2)) default).1,(((mapC Gedge.pr (cI .i64) Y4).getD (midx Y4 (Z0 Y0 Y1 Y2)) default).2 ++ ([Y1].map (cI .i64))))) none, .vec 92 2 ((Y8.map Gedge.cells) ++ ([[.i .i64 ((Z0 Y0 Y1 Y2).e0), .i .i64 ((Z0 Y0 Y1 Y2).e1)]]:List (List AV))) false]⟩) (q (sB YK<|sC (show (Y8.map Gedge.cells).length + ([[.i .i64 ((Z0 Y0 Y1 Y2).e0), .i .i64 ((Z0 Y0 Y1 Y2).e1)]]:List (List AV)).length≤1073741824 from (by simpa using YS))<|sA (.keep [midx Y4 (Z0 Y0 Y1 Y2)])<|sC (X3m (ck:=Gedge.pr) (cv:=(cI .i64)) Yu)<|sC (show (midx Y4 (Z0 Y0 Y1 Y2)) < (mapC Gedge.pr (cI .i64) Y4).length from (by simpa using YX))<|sC (show (((mapC Gedge.pr (cI .i64) Y4).getD (midx Y4 (Z0 Y0 Y1 Y2)) default).2).length + ([[.i .i64 Y1]]:List (List AV)).length≤1073741824 from (by simpa using Y11))<|sA (.keep [(midx Y4 (Z0 Y0 Y1 Y2))])<|sC (show ((midx Y4 (Z0 Y0 Y1 Y2)):Int)=(((midx Y4 (Z0 Y0 Y1 Y2)):Nat):Int) from rfl)<|sC (show (midx Y4 (Z0 Y0 Y1 Y2)) < ((mapC Gedge.pr (cI .i64) Y4).set (midx Y4 (Z0 Y0 Y1 Y2)) (((mapC Gedge.pr (cI .i64) Y4).getD (midx Y4 (Z0 Y0 Y1 Y2)) default).1,[])).length from (by simpa using YX))<|sC (show ∀ i,some (midx Y4 (Z0 Y0 Y1 Y2))=some i→i=(midx Y4 (Z0 Y0 Y1 Y2)) from (fun i h=>by cases h;rfl))<|sI (Y2 + 1) YJ YH<|sN)) (by kernel_rfl) (show _=⟨.agg [.sl (Y0.Pq.map Gv.c), .sl (Y0.Tr.map (cL (cI .i64)))] :: .ptr 0 0 0 :: .any :: .nils :: .mp 1 :: .own 2 :: .i .i64 Y1 :: .sl ((Y0.Tr.getD Y1.toNat default).map (cI .i64)) :: .any :: .any :: .mp 1 :: .any :: .ptr 0 0 1 :: .sl (Y0.Tr.map (cL (cI .i64))) :: .i .i64 (Y0.Tr.length:Int) :: .i .i64 Y1 :: .b (decide (Y1 < (Y0.Tr.length:Int))) :: .i .i64 Y1 :: .ref [.sl ((Y0.Tr.getD Y1.toNat default).map (cI .i64))] 0 :: .sl ((Y0.Tr.getD Y1.toNat default).map (cI .i64)) :: .i .i64 (Y2 + 1) :: an 36 [],[.box 35 [.sl (Y0.Pq.map Gv.c), .sl (Y0.Tr.map (cL (cI .i64)))], .mapN 2 (mapC Gedge.pr (cI .i64) (mput Y4 (midx Y4 (Z0 Y0 Y1 Y2)) ((Y4.getD (midx Y4 (Z0 Y0 Y1 Y2)) default).2 ++ [Y1]))) none, .vec 92 2 ((Y8 ++ [(Z0 Y0 Y1 Y2)]).map Gedge.cells) false]⟩ from (by rw [X5H (X2D Yu)];simp [List.map_set,Gedge.cells])) (ih (Y2 + 1) (mput Y4 (midx Y4 (Z0 Y0 Y1 Y2)) ((Y4.getD (midx Y4 (Z0 Y0 Y1 Y2)) default).2 ++ [Y1])) (Y8 ++ [(Z0 Y0 Y1 Y2)]) (show 0≤(Y2 + 1) from (by omega)) (show ((Y8 ++ [(Z0 Y0 Y1 Y2)]).length:Int)≤(Yb.length:Int) + (Y2 + 1) from (by simp only [List.length_append,List.length_cons,List.length_nil];omega)) (show ∀ y∈(mput Y4 (midx Y4 (Z0 Y0 Y1 Y2)) ((Y4.getD (midx Y4 (Z0 Y0 Y1 Y2)) default).2 ++ [Y1])),(y.2.length:Int)≤3 * Y1 + (Y2 + 1) from (by exact X2V (by assumption) (by omega) (by omega))) (by omega))
    | false =>
     have YZ:=ne_of_beq_false YK
     have YS:(midx Y4 (Z0 Y0 Y1 Y2)) < Y4.length:=by clear q;exact (by assumption)
     have YX:((Y4.getD (midx Y4 (Z0 Y0 Y1 Y2)) default).2).length + ([Y1]).length≤1073741824:=by clear q;exact (by ((have g5:=odt ZJ;have q:=OkE.at hp3 Ze g5 Zu (odt (by assumption));(have q3:=X5I (N:=3 * Y1 + Y2) (by omega) (by assumption) (midx Y4 (Z0 Y0 Y1 Y2));simp only [List.length_cons,List.length_nil];omega))))
     have e:Z5 Y0 Y1 Y6 Yb (k + 1) Y2 Y4 Y8=(Z5 Y0 Y1 Y6 Yb k (Y2 + 1) (mput Y4 (midx Y4 (Z0 Y0 Y1 Y2)) ((Y4.getD (midx Y4 (Z0 Y0 Y1 Y2)) default).2 ++ [Y1])) Y8):=by simp only [Z5,Yr,Yu,YK,cond_true,cond_false]
     rw [e]
     exact XW E0Ok Z4 [] (mR false [0,2,1,5,2,1,1,9,36]) [0,1,2] (⟨.agg [.sl (Y0.Pq.map Gv.c), .sl (Y0.Tr.map (cL (cI .i64)))] :: .ptr 0 0 0 :: .any :: .nils :: .mp 1 :: .own 2 :: .i .i64 Y1 :: .sl ((Y0.Tr.getD Y1.toNat default).map (cI .i64)) :: .any :: .any :: .mp 1 :: .any :: .ptr 0 0 1 :: .sl (Y0.Tr.map (cL (cI .i64))) :: .i .i64 (Y0.Tr.length:Int) :: .i .i64 Y1 :: .b (decide (Y1 < (Y0.Tr.length:Int))) :: .i .i64 Y1 :: .ref [.sl ((Y0.Tr.getD Y1.toNat default).map (cI .i64))] 0 :: .sl ((Y0.Tr.getD Y1.toNat default).map (cI .i64)) :: .i .i64 (Y2 + 1) :: an 36 [],[.box 35 [.sl (Y0.Pq.map Gv.c), .sl (Y0.Tr.map (cL (cI .i64)))], .mapN 2 (((mapC Gedge.pr (cI .i64) Y4).set (midx Y4 (Z0 Y0 Y1 Y2)) (((mapC Gedge.pr (cI .i64) Y4).getD (midx Y4 (Z0 Y0 Y1 Y2)) default).1,[])).set (midx Y4 (Z0 Y0 Y1 Y2)) ((((mapC Gedge.pr (cI .i64) Y4).set (midx Y4 (Z0 Y0 Y1 Y2)) (((mapC Gedge.pr (cI .i64) Y4).getD (midx Y4 (Z0 Y0 Y1 Y2)) default).1,[])).getD (midx Y4 (Z0 Y0 Y1 Y2)) default).1,(((mapC Gedge.pr (cI .i64) Y4).getD (midx Y4 (Z0 Y0 Y1 Y2)) default).2 ++ ([Y1].map (cI .i64))))) none, .vec 92 2 (Y8.map Gedge.cells) false]⟩) (q (sB YK<|sA (.keep [midx Y4 (Z0 Y0 Y1 Y2)])<|sC (X3m (ck:=Gedge.pr) (cv:=(cI .i64)) Yu)<|sC (show (midx Y4 (Z0 Y0 Y1 Y2)) < (mapC Gedge.pr (cI .i64) Y4).length from (by simpa using YS))<|sC (show (((mapC Gedge.pr (cI .i64) Y4).getD (midx Y4 (Z0 Y0 Y1 Y2)) default).2).length + ([[.i .i64 Y1]]:List (List AV)).length≤1073741824 from (by simpa using YX))<|sA (.keep [(midx Y4 (Z0 Y0 Y1 Y2))])<|sC (show ((midx Y4 (Z0 Y0 Y1 Y2)):Int)=(((midx Y4 (Z0 Y0 Y1 Y2)):Nat):Int) from rfl)<|sC (show (midx Y4 (Z0 Y0 Y1 Y2)) < ((mapC Gedge.pr (cI .i64) Y4).set (midx Y4 (Z0 Y0 Y1 Y2)) (((mapC Gedge.pr (cI .i64) Y4).getD (midx Y4 (Z0 Y0 Y1 Y2)) default).1,[])).length from (by simpa using YS))<|sC (show ∀ i,some (midx Y4 (Z0 Y0 Y1 Y2))=some i→i=(midx Y4 (Z0 Y0 Y1 Y2)) from (fun i h=>by cases h;rfl))<|sI (Y2 + 1) YJ YH<|sN)) (by kernel_rfl) (show _=⟨.agg [.sl (Y0.Pq.map Gv.c), .sl (Y0.Tr.map (cL (cI .i64)))] :: .ptr 0 0 0 :: .any :: .nils :: .mp 1 :: .own 2 :: .i .i64 Y1 :: .sl ((Y0.Tr.getD Y1.toNat default).map (cI .i64)) :: .any :: .any :: .mp 1 :: .any :: .ptr 0 0 1 :: .sl (Y0.Tr.map (cL (cI .i64))) :: .i .i64 (Y0.Tr.length:Int) :: .i .i64 Y1 :: .b (decide (Y1 < (Y0.Tr.length:Int))) :: .i .i64 Y1 :: .ref [.sl ((Y0.Tr.getD Y1.toNat default).map (cI .i64))] 0 :: .sl ((Y0.Tr.getD Y1.toNat default).map (cI .i64)) :: .i .i64 (Y2 + 1) :: an 36 [],[.box 35 [.sl (Y0.Pq.map Gv.c), .sl (Y0.Tr.map (cL (cI .i64)))], .mapN 2 (mapC Gedge.pr (cI .i64) (mput Y4 (midx Y4 (Z0 Y0 Y1 Y2)) ((Y4.getD (midx Y4 (Z0 Y0 Y1 Y2)) default).2 ++ [Y1]))) none, .vec 92 2 (Y8.map Gedge.cells) false]⟩ from (by rw [X5H (X2D Yu)];done)) (ih (Y2 + 1) (mput Y4 (midx Y4 (Z0 Y0 Y1 Y2)) ((Y4.getD (midx Y4 (Z0 Y0 Y1 Y2)) default).2 ++ [Y1])) Y8 (show 0≤(Y2 + 1) from (by omega)) (show (Y8.length:Int)≤(Yb.length:Int) + (Y2 + 1) from (by omega)) (show ∀ y∈(mput Y4 (midx Y4 (Z0 Y0 Y1 Y2)) ((Y4.getD (midx Y4 (Z0 Y0 Y1 Y2)) default).2 ++ [Y1])),(y.2.length:Int)≤3 * Y1 + (Y2 + 1) from (by exact X2V (by assumption) (by omega) (by omega))) (by omega))
   | false =>
    have YS:Y8.length + ([(Z0 Y0 Y1 Y2)]).length≤1073741824:=by clear p;exact (by ((have g5:=odt ZJ;have q:=OkE.at hp3 Ze g5 Zu (odt (by assumption));(simp only [List.length_append,List.length_cons,List.length_nil];omega))))
    have e:Z5 Y0 Y1 Y6 Yb (k + 1) Y2 Y4 Y8=(Z5 Y0 Y1 Y6 Yb k (Y2 + 1) (Y4 ++ [((Z0 Y0 Y1 Y2),[Y1])]) (Y8 ++ [(Z0 Y0 Y1 Y2)])):=by simp only [Z5,Yr,Yu,cond_true,cond_false]
    rw [e]
    exact XW E0Ok Z4 [] (mR false [0,2,1,5,2,1,1,9,36]) [0,1,2] (⟨.agg [.sl (Y0.Pq.map Gv.c), .sl (Y0.Tr.map (cL (cI .i64)))] :: .ptr 0 0 0 :: .any :: .nils :: .mp 1 :: .own 2 :: .i .i64 Y1 :: .sl ((Y0.Tr.getD Y1.toNat default).map (cI .i64)) :: .any :: .any :: .mp 1 :: .any :: .ptr 0 0 1 :: .sl (Y0.Tr.map (cL (cI .i64))) :: .i .i64 (Y0.Tr.length:Int) :: .i .i64 Y1 :: .b (decide (Y1 < (Y0.Tr.length:Int))) :: .i .i64 Y1 :: .ref [.sl ((Y0.Tr.getD Y1.toNat default).map (cI .i64))] 0 :: .sl ((Y0.Tr.getD Y1.toNat default).map (cI .i64)) :: .i .i64 (Y2 + 1) :: an 36 [],[.box 35 [.sl (Y0.Pq.map Gv.c), .sl (Y0.Tr.map (cL (cI .i64)))], .mapN 2 (((mapC Gedge.pr (cI .i64) Y4) ++ [((Gedge.pr (Z0 Y0 Y1 Y2)),[])]).set (mapC Gedge.pr (cI .i64) Y4).length ((((mapC Gedge.pr (cI .i64) Y4) ++ [((Gedge.pr (Z0 Y0 Y1 Y2)),[])]).getD (mapC Gedge.pr (cI .i64) Y4).length default).1,(([Y1]).map (cI .i64)))) none, .vec 92 2 ((Y8.map Gedge.cells) ++ ([[.i .i64 ((Z0 Y0 Y1 Y2).e0), .i .i64 ((Z0 Y0 Y1 Y2).e1)]]:List (List AV))) false]⟩) (p (sA (.keep [])<|sC (X4g (ck:=Gedge.pr) (cv:=(cI .i64)) Gedge.inj Yu)<|sM (show ((0:Nat):Int)=0 from rfl)<|sB (show (0 == 0)=true from rfl)<|sC (show (Y8.map Gedge.cells).length + ([[.i .i64 ((Z0 Y0 Y1 Y2).e0), .i .i64 ((Z0 Y0 Y1 Y2).e1)]]:List (List AV)).length≤1073741824 from (by simpa using YS))<|sA (.keep [])<|sC (X4g (ck:=Gedge.pr) (cv:=(cI .i64)) Gedge.inj Yu)<|sC (show ([[.i .i64 Y1]]:List (List AV))≠[] from (by simp))<|sC (show ([[.i .i64 Y1]]:List (List AV)).length≤1073741824 from (by simp))<|sA (.keep [(mapC Gedge.pr (cI .i64) Y4).length])<|sC (show ((mapC Gedge.pr (cI .i64) Y4).length:Int)=(((mapC Gedge.pr (cI .i64) Y4).length:Nat):Int) from rfl)<|sC (show (mapC Gedge.pr (cI .i64) Y4).length < ((mapC Gedge.pr (cI .i64) Y4) ++ [((Gedge.pr (Z0 Y0 Y1 Y2)),[])]).length from (by simp))<|sC (show ∀ i,(none:Option Nat)=some i→i=(mapC Gedge.pr (cI .i64) Y4).length from (fun i h=>by cases h))<|sI (Y2 + 1) YJ YH<|sN)) (by kernel_rfl) (show _=⟨.agg [.sl (Y0.Pq.map Gv.c), .sl (Y0.Tr.map (cL (cI .i64)))] :: .ptr 0 0 0 :: .any :: .nils :: .mp 1 :: .own 2 :: .i .i64 Y1 :: .sl ((Y0.Tr.getD Y1.toNat default).map (cI .i64)) :: .any :: .any :: .mp 1 :: .any :: .ptr 0 0 1 :: .sl (Y0.Tr.map (cL (cI .i64))) :: .i .i64 (Y0.Tr.length:Int) :: .i .i64 Y1 :: .b (decide (Y1 < (Y0.Tr.length:Int))) :: .i .i64 Y1 :: .ref [.sl ((Y0.Tr.getD Y1.toNat default).map (cI .i64))] 0 :: .sl ((Y0.Tr.getD Y1.toNat default).map (cI .i64)) :: .i .i64 (Y2 + 1) :: an 36 [],[.box 35 [.sl (Y0.Pq.map Gv.c), .sl (Y0.Tr.map (cL (cI .i64)))], .mapN 2 (mapC Gedge.pr (cI .i64) (Y4 ++ [((Z0 Y0 Y1 Y2),[Y1])])) none, .vec 92 2 ((Y8 ++ [(Z0 Y0 Y1 Y2)]).map Gedge.cells) false]⟩ from (by rw [X7q];simp [List.map_set,Gedge.cells])) (ih (Y2 + 1) (Y4 ++ [((Z0 Y0 Y1 Y2),[Y1])]) (Y8 ++ [(Z0 Y0 Y1 Y2)]) (show 0≤(Y2 + 1) from (by omega)) (show ((Y8 ++ [(Z0 Y0 Y1 Y2)]).length:Int)≤(Yb.length:Int) + (Y2 + 1) from (by simp only [List.length_append,List.length_cons,List.length_nil];omega)) (show ∀ y∈(Y4 ++ [((Z0 Y0 Y1 Y2),[Y1])]),(y.2.length:Int)≤3 * Y1 + (Y2 + 1) from (by exact X5J (by assumption) (by omega) (by omega))) (by omega))
  | false =>
   have YI:=odf Yr
   have e:Z5 Y0 Y1 Y6 Yb (k + 1) Y2 Y4 Y8=(Y4,Y8):=by simp only [Z5,Yr,cond_false]
   rw [e]
   exact outR (e:=(.exit 2)) E0Ok Z4 [] (mR false [0,2,1,5,2,1,1,8,37]) [0,1,2] (sB Yr<|sN) (by kernel_rfl) (by intro h;cases h)
end Go.Ab
