/- The functions of this seat as plain Lean, and that the program's are these. Printed by a program of the prover's own. -/
import Derived.Test.YtoibkmljibnjnaaB0
set_option linter.unusedVariables false
set_option linter.unusedSimpArgs false
set_option maxRecDepth 100000
namespace Go.Ab
open Go.RowKit Go.Proofs.Try
def Z1q (YB:(List Int)) (YV:(List Int)):Bool:=(cond (decide ((YB.length:Int) > 48))
  true
  (decide ((YV.length:Int) > 48)))
theorem Z7u {a b:List Int} (h:Z1q a b=false):a.length≤48∧b.length≤48:=by
  unfold Z1q at h
  cases h1:decide ((a.length:Int) > 48) with
  | true=>rw [h1] at h;cases h
  | false =>
    rw [h1,cond_false] at h
    have h1:=odf h1
    have h2:=odf h
    omega
theorem eqC {a c d:Bool} (h:a=c) (e:(c == d)=true):(a == d)=true:=by rw [h];exact e
theorem Z6Z (YB:(List Int)) (YV:(List Int)) (hp0:YB.length≤9223372036854775807) (hp1:YV.length≤9223372036854775807)  : Fn prog 17 [.sl (YB.map (cI .u8)), .sl (YV.map (cI .u8))] (.b (Z1q YB YV)) []:=by
 have p {a C} (s:Scr a C):=sZ (cI .u8) YB<|s
 cases h0:(decide ((YB.length:Int) > 48)) with
 | true =>
  have gh0:=odt h0
  refine fnS E0Ok Zo (c:=X1 f17) [] (.b true) [] func17 (p (sB h0<|sB h0<|sB h0<|sB h0<|sK [] sN)) rfl (by kernel_rfl) (by kernel_rfl) rfl ?_ ?_
  · simp only [Z1q,h0,cond_true]
  · rfl
 | false =>
  have gh0:=odf h0
  refine fnS E0Ok Zo (c:=X1 f17) [] (.b (decide ((YV.length:Int) > 48))) [] func17 (p (sB h0<|sB h0<|sZ (cI .u8) YV<|sB h0<|sB h0<|sK [] sN)) rfl (by kernel_rfl) (by kernel_rfl) rfl ?_ ?_
  · simp only [Z1q,h0,cond_false]
  · rfl
def Z0 (YB:(List Int)) (k_1:Int) (n_2:Int):Int:=(cond (decide (n_2≤1))
  0
  (cond (decide (k_1 ≥ (YB.length:Int)))
    0
    (Int.tmod (IntKind.wrap .i64 (YB.getD k_1.toNat default)) n_2)))
theorem Z57 {c:List Int} {k n:Int} (hc:OkB c) (h0:0≤k) (hn:1≤n):0≤Z0 c k n∧Z0 c k n < n:=by
  unfold Z0
  by_cases h1:n≤1
  · rw [decide_eq_true h1,cond_true];omega
  · rw [decide_eq_false h1,cond_false]
    by_cases h2:k ≥ (c.length:Int)
    · rw [decide_eq_true h2,cond_true];omega
    · rw [decide_eq_false h2,cond_false]
      have hm:c.getD k.toNat default∈c:=by
        rw [List.getD_eq_getElem?_getD,List.getElem?_eq_getElem (show k.toNat < c.length by omega)];exact List.getElem_mem _
      have q:=hc _ hm
      rw [X1g (by omega) (by omega)]
      exact ⟨Int.tmod_nonneg _ q.1,Int.tmod_lt_of_pos _ (by omega)⟩
theorem Z38 (YB:(List Int)) (k_1:Int) (n_2:Int) (hp0:YB.length≤1073741824) (hp1:(0:Int)≤k_1)  : Fn prog 20 [.sl (YB.map (cI .u8)), .i .i64 k_1, .i .i64 n_2] (.i .i64 (Z0 YB k_1 n_2)) []:=by
 cases h0:(decide (n_2≤1)) with
 | true =>
  have gh0:=odt h0
  refine fnS E0Ok Zo (c:=X1 f20) [] (.i .i64 0) [] func20 (sB h0<|sB h0<|sB h0<|sB h0<|sB h0<|sB (show true=true from rfl)<|sK [] sN) rfl (by kernel_rfl) (by kernel_rfl) rfl ?_ ?_
  · simp only [Z0,h0,cond_true]
  · rfl
 | false =>
  have gh0:=odf h0
  have p {a C} (s:Scr a C):=sB h0<|sB h0<|sB h0<|sZ (cI .u8) YB<|sB h0<|sB h0<|s
  cases h1:(decide (k_1 ≥ (YB.length:Int))) with
  | true =>
   have gh1:=odt h1
   refine fnS E0Ok Zo (c:=X1 f20) [] (.i .i64 0) [] func20 (p (sB h1<|sK [] sN)) rfl (by kernel_rfl) (by kernel_rfl) rfl ?_ ?_
   · simp only [Z0,h0,h1,cond_true,cond_false]
   · rfl
  | false =>
   have gh1:=odf h1
   have y0:k_1 < (YB.length:Int):=by clear p;exact (by omega)
   have y1:n_2≠0:=by clear p;exact (by omega)
   refine fnS E0Ok Zo (c:=X1 f20) [] (.i .i64 (Int.tmod (IntKind.wrap .i64 (YB.getD k_1.toNat default)) n_2)) [] func20 (p (sB h1<|sG (cI .u8) YB k_1 hp1 y0<|sW .i64 (YB.getD k_1.toNat default)<|sC y1<|sQ (Int.tmod (IntKind.wrap .i64 (YB.getD k_1.toNat default)) n_2)<|sK [] sN)) rfl (by kernel_rfl) (by kernel_rfl) rfl ?_ ?_
   · simp only [Z0,h0,h1,cond_false]
   · rfl
def Z4 (n_0:Int) (Y18:Int) (Y12:Int):Bool:=(cond (decide (n_0 ≥ Y18))
  (decide (n_0≤Y12))
  false)
theorem Z2H (n_0:Int) (Y18:Int) (Y12:Int)   : Fn prog 62 [.i .i64 n_0, .i .i64 Y18, .i .i64 Y12] (.b (Z4 n_0 Y18 Y12)) []:=by
 cases h0:(decide (n_0 ≥ Y18)) with
 | true =>
  have gh0:=odt h0
  refine fnS E0Ok Zo (c:=X1 f62) [] (.b (decide (n_0≤Y12))) [] func62 (sB h0<|sB h0<|sB h0<|sB h0<|sK [] sN) rfl (by kernel_rfl) (by kernel_rfl) rfl ?_ ?_
  · simp only [Z4,h0,cond_true]
  · rfl
 | false =>
  have gh0:=odf h0
  refine fnS E0Ok Zo (c:=X1 f62) [] (.b false) [] func62 (sB h0<|sB h0<|sB h0<|sB h0<|sK [] sN) rfl (by kernel_rfl) (by kernel_rfl) rfl ?_ ?_
  · simp only [Z4,h0,cond_false]
  · rfl
def Z2I (Yj:Nat):Bool:=(fcmp .eql .f32 (fop .sub .f32 Yj Yj) 0)
theorem Z5j (Yj:Nat)   : Fn prog 74 [.f .f32 Yj] (.b (Z2I Yj)) []:=by
 refine fnS E0Ok Zo (c:=X1 f74) [] (.b (fcmp .eql .f32 (fop .sub .f32 Yj Yj) 0)) [] func74 (sK [] sN) rfl (by kernel_rfl) (by kernel_rfl) rfl ?_ ?_
 · rfl
 · rfl
def Z6 (Yj:Nat):Bool:=(cond (Z2I Yj)
  (fcmp .gtr .f32 Yj 0)
  false)
theorem Z35 (Yj:Nat)   : Fn prog 65 [.f .f32 Yj] (.b (Z6 Yj)) []:=by
 have p {a C} (s:Scr a C):=sF (Z5j Yj)<|s
 cases h0:(Z2I Yj) with
 | true =>
  refine fnS E0Ok Zo (c:=X1 f65) [] (.b (fcmp .gtr .f32 Yj 0)) [] func65 (p (sB h0<|sB h0<|sB h0<|sK [] sN)) rfl (by kernel_rfl) (by kernel_rfl) rfl ?_ ?_
  · simp only [Z6,h0,cond_true]
  · rfl
 | false =>
  refine fnS E0Ok Zo (c:=X1 f65) [] (.b false) [] func65 (p (sB h0<|sB h0<|sB h0<|sK [] sN)) rfl (by kernel_rfl) (by kernel_rfl) rfl ?_ ?_
  · simp only [Z6,h0,cond_false]
  · rfl
def Z1a (Y3:Gm) (Y1:Int):Nat→Int→(Unit) ⊕ (Unit)
  | 0,_ => .inl default
  | k + 1,Y2=>(cond (decide (Y2 < ((Y3.Tr.getD Y1.toNat default).length:Int)))
    (cond (Z4 ((Y3.Tr.getD Y1.toNat default).getD Y2.toNat default) 0 (IntKind.wrap .i64 ((Y3.Pq.length:Int) - 1)))
      (Z1a Y3 Y1 k (Y2 + 1))
      (.inl ()))
    (.inr ()))
def Z2A (Y3:Gm) (Y1:Int):(Unit) ⊕ (Unit)→Ex × St
  | .inl r=>(.ret,⟨.any :: .any :: .b false :: an 66 [],[]⟩)
  | .inr r=>((.exit 2),⟨.agg [.sl (Y3.Pq.map Gv.c), .sl (Y3.Tr.map (cL (cI .i64)))] :: .ptr 0 0 0 :: .any :: .i .i64 (Y3.Pq.length:Int) :: .any :: .sl ((Y3.Tr.getD Y1.toNat default).map (cI .i64)) :: .any :: .any :: .ptr 0 0 0 :: .sl (Y3.Pq.map Gv.c) :: .i .i64 (Y3.Pq.length:Int) :: .i .i64 (Y3.Pq.length:Int) :: .b (decide ((Y3.Pq.length:Int) > 64)) :: .b (decide ((Y3.Pq.length:Int) > 64)) :: .ptr 0 0 1 :: .sl (Y3.Tr.map (cL (cI .i64))) :: .i .i64 (Y3.Tr.length:Int) :: .b (decide ((Y3.Tr.length:Int) > 128)) :: .b (decide ((Y3.Tr.length:Int) > 128)) :: .ptr 0 0 1 :: .sl (Y3.Tr.map (cL (cI .i64))) :: .i .i64 (Y3.Tr.length:Int) :: .i .i64 Y1 :: .b (decide (Y1 < (Y3.Tr.length:Int))) :: .ref [.sl ((Y3.Tr.getD Y1.toNat default).map (cI .i64))] 0 :: .sl ((Y3.Tr.getD Y1.toNat default).map (cI .i64)) :: .sl ((Y3.Tr.getD Y1.toNat default).map (cI .i64)) :: .i .i64 ((Y3.Tr.getD Y1.toNat default).length:Int) :: .b (((Y3.Tr.getD Y1.toNat default).length:Int) != 3) :: .b (((Y3.Tr.getD Y1.toNat default).length:Int) != 3) :: .sl ((Y3.Tr.getD Y1.toNat default).map (cI .i64)) :: .ref [.i .i64 ((Y3.Tr.getD Y1.toNat default).getD 0 default)] 0 :: .i .i64 ((Y3.Tr.getD Y1.toNat default).getD 0 default) :: .sl ((Y3.Tr.getD Y1.toNat default).map (cI .i64)) :: .ref [.i .i64 ((Y3.Tr.getD Y1.toNat default).getD 1 default)] 0 :: .i .i64 ((Y3.Tr.getD Y1.toNat default).getD 1 default) :: .b (((Y3.Tr.getD Y1.toNat default).getD 0 default) == ((Y3.Tr.getD Y1.toNat default).getD 1 default)) :: .b (((Y3.Tr.getD Y1.toNat default).getD 0 default) == ((Y3.Tr.getD Y1.toNat default).getD 1 default)) :: .b (((Y3.Tr.getD Y1.toNat default).getD 0 default) == ((Y3.Tr.getD Y1.toNat default).getD 1 default)) :: .sl ((Y3.Tr.getD Y1.toNat default).map (cI .i64)) :: .ref [.i .i64 ((Y3.Tr.getD Y1.toNat default).getD 1 default)] 0 :: .i .i64 ((Y3.Tr.getD Y1.toNat default).getD 1 default) :: .sl ((Y3.Tr.getD Y1.toNat default).map (cI .i64)) :: .ref [.i .i64 ((Y3.Tr.getD Y1.toNat default).getD 2 default)] 0 :: .i .i64 ((Y3.Tr.getD Y1.toNat default).getD 2 default) :: .b (((Y3.Tr.getD Y1.toNat default).getD 1 default) == ((Y3.Tr.getD Y1.toNat default).getD 2 default)) :: .b (((Y3.Tr.getD Y1.toNat default).getD 1 default) == ((Y3.Tr.getD Y1.toNat default).getD 2 default)) :: .b (((Y3.Tr.getD Y1.toNat default).getD 1 default) == ((Y3.Tr.getD Y1.toNat default).getD 2 default)) :: .sl ((Y3.Tr.getD Y1.toNat default).map (cI .i64)) :: .ref [.i .i64 ((Y3.Tr.getD Y1.toNat default).getD 0 default)] 0 :: .i .i64 ((Y3.Tr.getD Y1.toNat default).getD 0 default) :: .sl ((Y3.Tr.getD Y1.toNat default).map (cI .i64)) :: .ref [.i .i64 ((Y3.Tr.getD Y1.toNat default).getD 2 default)] 0 :: .i .i64 ((Y3.Tr.getD Y1.toNat default).getD 2 default) :: .b (((Y3.Tr.getD Y1.toNat default).getD 0 default) == ((Y3.Tr.getD Y1.toNat default).getD 2 default)) :: .b (((Y3.Tr.getD Y1.toNat default).getD 0 default) == ((Y3.Tr.getD Y1.toNat default).getD 2 default)) :: .sl ((Y3.Tr.getD Y1.toNat default).map (cI .i64)) :: .i .i64 ((Y3.Tr.getD Y1.toNat default).length:Int) :: an 11 [],[.box 27 [.sl (Y3.Pq.map Gv.c), .sl (Y3.Tr.map (cL (cI .i64)))]]⟩)
def Z5M (Y3:Gm) (Y1:Int) (Y2:Int):St:=⟨.agg [.sl (Y3.Pq.map Gv.c), .sl (Y3.Tr.map (cL (cI .i64)))] :: .ptr 0 0 0 :: .any :: .i .i64 (Y3.Pq.length:Int) :: .any :: .sl ((Y3.Tr.getD Y1.toNat default).map (cI .i64)) :: .any :: .any :: .ptr 0 0 0 :: .sl (Y3.Pq.map Gv.c) :: .i .i64 (Y3.Pq.length:Int) :: .i .i64 (Y3.Pq.length:Int) :: .b (decide ((Y3.Pq.length:Int) > 64)) :: .b (decide ((Y3.Pq.length:Int) > 64)) :: .ptr 0 0 1 :: .sl (Y3.Tr.map (cL (cI .i64))) :: .i .i64 (Y3.Tr.length:Int) :: .b (decide ((Y3.Tr.length:Int) > 128)) :: .b (decide ((Y3.Tr.length:Int) > 128)) :: .ptr 0 0 1 :: .sl (Y3.Tr.map (cL (cI .i64))) :: .i .i64 (Y3.Tr.length:Int) :: .i .i64 Y1 :: .b (decide (Y1 < (Y3.Tr.length:Int))) :: .ref [.sl ((Y3.Tr.getD Y1.toNat default).map (cI .i64))] 0 :: .sl ((Y3.Tr.getD Y1.toNat default).map (cI .i64)) :: .sl ((Y3.Tr.getD Y1.toNat default).map (cI .i64)) :: .i .i64 ((Y3.Tr.getD Y1.toNat default).length:Int) :: .b (((Y3.Tr.getD Y1.toNat default).length:Int) != 3) :: .b (((Y3.Tr.getD Y1.toNat default).length:Int) != 3) :: .sl ((Y3.Tr.getD Y1.toNat default).map (cI .i64)) :: .ref [.i .i64 ((Y3.Tr.getD Y1.toNat default).getD 0 default)] 0 :: .i .i64 ((Y3.Tr.getD Y1.toNat default).getD 0 default) :: .sl ((Y3.Tr.getD Y1.toNat default).map (cI .i64)) :: .ref [.i .i64 ((Y3.Tr.getD Y1.toNat default).getD 1 default)] 0 :: .i .i64 ((Y3.Tr.getD Y1.toNat default).getD 1 default) :: .b (((Y3.Tr.getD Y1.toNat default).getD 0 default) == ((Y3.Tr.getD Y1.toNat default).getD 1 default)) :: .b (((Y3.Tr.getD Y1.toNat default).getD 0 default) == ((Y3.Tr.getD Y1.toNat default).getD 1 default)) :: .b (((Y3.Tr.getD Y1.toNat default).getD 0 default) == ((Y3.Tr.getD Y1.toNat default).getD 1 default)) :: .sl ((Y3.Tr.getD Y1.toNat default).map (cI .i64)) :: .ref [.i .i64 ((Y3.Tr.getD Y1.toNat default).getD 1 default)] 0 :: .i .i64 ((Y3.Tr.getD Y1.toNat default).getD 1 default) :: .sl ((Y3.Tr.getD Y1.toNat default).map (cI .i64)) :: .ref [.i .i64 ((Y3.Tr.getD Y1.toNat default).getD 2 default)] 0 :: .i .i64 ((Y3.Tr.getD Y1.toNat default).getD 2 default) :: .b (((Y3.Tr.getD Y1.toNat default).getD 1 default) == ((Y3.Tr.getD Y1.toNat default).getD 2 default)) :: .b (((Y3.Tr.getD Y1.toNat default).getD 1 default) == ((Y3.Tr.getD Y1.toNat default).getD 2 default)) :: .b (((Y3.Tr.getD Y1.toNat default).getD 1 default) == ((Y3.Tr.getD Y1.toNat default).getD 2 default)) :: .sl ((Y3.Tr.getD Y1.toNat default).map (cI .i64)) :: .ref [.i .i64 ((Y3.Tr.getD Y1.toNat default).getD 0 default)] 0 :: .i .i64 ((Y3.Tr.getD Y1.toNat default).getD 0 default) :: .sl ((Y3.Tr.getD Y1.toNat default).map (cI .i64)) :: .ref [.i .i64 ((Y3.Tr.getD Y1.toNat default).getD 2 default)] 0 :: .i .i64 ((Y3.Tr.getD Y1.toNat default).getD 2 default) :: .b (((Y3.Tr.getD Y1.toNat default).getD 0 default) == ((Y3.Tr.getD Y1.toNat default).getD 2 default)) :: .b (((Y3.Tr.getD Y1.toNat default).getD 0 default) == ((Y3.Tr.getD Y1.toNat default).getD 2 default)) :: .sl ((Y3.Tr.getD Y1.toNat default).map (cI .i64)) :: .i .i64 ((Y3.Tr.getD Y1.toNat default).length:Int) :: .i .i64 Y2 :: an 10 [],[.box 27 [.sl (Y3.Pq.map Gv.c), .sl (Y3.Tr.map (cL (cI .i64)))]]⟩
def Z2Q:List Bool:=(mR false [0,2,1,1,1,1,2,51,10])
def Z5n:List Bool:=(mR false [0,2,1,1,1,1,2,50,11])
theorem Z4v (Y3:Gm) (Y1:Int) (hp0:Y3.Pq.length≤1073741824) (hp1:Y3.Tr.length≤1073741824) (hp2:∀ t∈Y3.Tr,t.length≤1073741824) (Z1U:(decide ((Y3.Pq.length:Int) > 64))=false) (Z1V:(decide ((Y3.Tr.length:Int) > 128))=false) (Z1W:0≤Y1) (Z7b:(((Y3.Tr.getD Y1.toNat default).length:Int) != 3)=false) (Z7c:(decide ((Y3.Pq.length:Int) > 64))=false) (Z7d:(decide ((Y3.Tr.length:Int) > 128))=false) (Z7e:(decide (Y1 < (Y3.Tr.length:Int)))=true):∀ (k:Nat) (Y2:Int) (Z3Z:0≤Y2) (hk:(((Y3.Tr.getD Y1.toNat default).length:Int) - Y2).toNat < k),Lp prog 0 (sub (X1 f61) [1,1,1,0,1,0,0,1,1,0,0,1,1,1,0,0]) (Z5M Y3 Y1 Y2) (Z2A Y3 Y1 (Z1a Y3 Y1 k Y2)).1 (Z2A Y3 Y1 (Z1a Y3 Y1 k Y2)).2:=by
 intro k
 induction k with
 | zero=>intro Y2 Z3Z hk;exact absurd hk (Nat.not_lt_zero _)
 | succ k ih =>
  intro Y2 Z3Z hk
  cases Yr:(decide (Y2 < ((Y3.Tr.getD Y1.toNat default).length:Int))) with
  | true =>
   have YM:=odt Yr
   have YW:(0:Int)≤Y2:=(by assumption)
   have YX:Y2 < ((Y3.Tr.getD Y1.toNat default).length:Int):=(by assumption)
   have p {a C} (s:Scr a C):=sB Yr<|sG (cI .i64) (Y3.Tr.getD Y1.toNat default) Y2 YW YX<|sW .i64 ((Y3.Pq.length:Int) - 1)<|sF (Z2H ((Y3.Tr.getD Y1.toNat default).getD Y2.toNat default) 0 (IntKind.wrap .i64 ((Y3.Pq.length:Int) - 1)))<|s
   cases YD:(Z4 ((Y3.Tr.getD Y1.toNat default).getD Y2.toNat default) 0 (IntKind.wrap .i64 ((Y3.Pq.length:Int) - 1))) with
   | true =>
    have YQ:(-9223372036854775808:Int)≤(Y2 + 1):=by clear p;exact (by omega)
    have YN:(Y2 + 1)≤(9223372036854775807:Int):=by clear p;exact (by simp_all<;>omega)
    have e:Z1a Y3 Y1 (k + 1) Y2=(Z1a Y3 Y1 k (Y2 + 1)):=by simp only [Z1a,Yr,YD,cond_true]
    rw [e]
    exact Xb E0Ok Zo [] Z2Q [0] (ih (Y2 + 1) (show 0≤(Y2 + 1) from (by omega)) (by omega)) (p (sB' YD<|sI (Y2 + 1) YQ YN<|sN)) (by kernel_rfl)
   | false =>
    have e:Z1a Y3 Y1 (k + 1) Y2=(.inl ()):=by simp only [Z1a,Yr,YD,cond_true,cond_false]
    rw [e]
    exact outR (e := .ret) E0Ok Zo [] (mR false [2,1,66]) [] (p (sB' YD<|sN)) (by kernel_rfl) (by intro h;cases h)
  | false =>
   have YM:=odf Yr
   have e:Z1a Y3 Y1 (k + 1) Y2=(.inr ()):=by simp only [Z1a,Yr,cond_false]
   rw [e]
   exact outR (e:=(.exit 2)) E0Ok Zo [] Z5n [0] (sB Yr<|sN) (by kernel_rfl) (by intro h;cases h)
def Z1I (Y3:Gm) (Y1:Int):(Unit) ⊕ (Unit):=(Z1a Y3 Y1 ((((Y3.Tr.getD Y1.toNat default).length:Int) - 0).toNat + 1) 0)
def ZB (Y3:Gm):Nat→Int→(Unit) ⊕ (Unit)
  | 0,_ => .inl default
  | k + 1,Y1=>(cond (decide (Y1 < (Y3.Tr.length:Int)))
    (cond (((Y3.Tr.getD Y1.toNat default).length:Int) != 3)
      (.inl ())
      (cond (((Y3.Tr.getD Y1.toNat default).getD 0 default) == ((Y3.Tr.getD Y1.toNat default).getD 1 default))
        (.inl ())
        (cond (((Y3.Tr.getD Y1.toNat default).getD 1 default) == ((Y3.Tr.getD Y1.toNat default).getD 2 default))
          (.inl ())
          (cond (((Y3.Tr.getD Y1.toNat default).getD 0 default) == ((Y3.Tr.getD Y1.toNat default).getD 2 default))
            (.inl ())
            (match (Z1I Y3 Y1) with
              | .inl r_6=>(.inl ())
              | .inr r_6=>(ZB Y3 k (Y1 + 1)))))))
    (.inr ()))
def Z2B (Y3:Gm):(Unit) ⊕ (Unit)→Ex × St
  | .inl r=>(.ret,⟨.any :: .any :: .b false :: an 66 [],[]⟩)
  | .inr r=>((.exit 0),⟨.agg [.sl (Y3.Pq.map Gv.c), .sl (Y3.Tr.map (cL (cI .i64)))] :: .ptr 0 0 0 :: .any :: .i .i64 (Y3.Pq.length:Int) :: an 4 (.ptr 0 0 0 :: .sl (Y3.Pq.map Gv.c) :: .i .i64 (Y3.Pq.length:Int) :: .i .i64 (Y3.Pq.length:Int) :: .b (decide ((Y3.Pq.length:Int) > 64)) :: .b (decide ((Y3.Pq.length:Int) > 64)) :: .ptr 0 0 1 :: .sl (Y3.Tr.map (cL (cI .i64))) :: .i .i64 (Y3.Tr.length:Int) :: .b (decide ((Y3.Tr.length:Int) > 128)) :: .b (decide ((Y3.Tr.length:Int) > 128)) :: .ptr 0 0 1 :: .sl (Y3.Tr.map (cL (cI .i64))) :: an 48 []),[.box 27 [.sl (Y3.Pq.map Gv.c), .sl (Y3.Tr.map (cL (cI .i64)))]]⟩)
def Z5N (Y3:Gm) (Y1:Int):St:=⟨.agg [.sl (Y3.Pq.map Gv.c), .sl (Y3.Tr.map (cL (cI .i64)))] :: .ptr 0 0 0 :: .any :: .i .i64 (Y3.Pq.length:Int) :: an 4 (.ptr 0 0 0 :: .sl (Y3.Pq.map Gv.c) :: .i .i64 (Y3.Pq.length:Int) :: .i .i64 (Y3.Pq.length:Int) :: .b (decide ((Y3.Pq.length:Int) > 64)) :: .b (decide ((Y3.Pq.length:Int) > 64)) :: .ptr 0 0 1 :: .sl (Y3.Tr.map (cL (cI .i64))) :: .i .i64 (Y3.Tr.length:Int) :: .b (decide ((Y3.Tr.length:Int) > 128)) :: .b (decide ((Y3.Tr.length:Int) > 128)) :: .ptr 0 0 1 :: .sl (Y3.Tr.map (cL (cI .i64))) :: .i .i64 (Y3.Tr.length:Int) :: .i .i64 Y1 :: an 46 []),[.box 27 [.sl (Y3.Pq.map Gv.c), .sl (Y3.Tr.map (cL (cI .i64)))]]⟩
theorem Z4w (Y3:Gm) (hp0:Y3.Pq.length≤1073741824) (hp1:Y3.Tr.length≤1073741824) (hp2:∀ t∈Y3.Tr,t.length≤1073741824) (Z1U:(decide ((Y3.Pq.length:Int) > 64))=false) (Z1V:(decide ((Y3.Tr.length:Int) > 128))=false):∀ (k:Nat) (Y1:Int) (Z1W:0≤Y1) (hk:((Y3.Tr.length:Int) - Y1).toNat < k),Lp prog 0 (sub (X1 f61) [1,1,1,0,1,0,0]) (Z5N Y3 Y1) (Z2B Y3 (ZB Y3 k Y1)).1 (Z2B Y3 (ZB Y3 k Y1)).2:=by
 intro k
 induction k with
 | zero=>intro Y1 Z1W hk;exact absurd hk (Nat.not_lt_zero _)
 | succ k ih =>
  intro Y1 Z1W hk
  cases Yp:(decide (Y1 < (Y3.Tr.length:Int))) with
  | true =>
   have YF:=odt Yp
   have YO:(0:Int)≤Y1:=(by assumption)
   have YL:Y1 < (Y3.Tr.length:Int):=(by assumption)
   have p {a C} (s:Scr a C):=sB Yp<|sG (cL (cI .i64)) Y3.Tr Y1 YO YL<|sK [28,28]<|sZ (cI .i64) (Y3.Tr.getD Y1.toNat default)<|s
   cases YI:(((Y3.Tr.getD Y1.toNat default).length:Int) != 3) with
   | true =>
    have Y1c:=bne_iff_ne.1 YI
    have e:ZB Y3 (k + 1) Y1=(.inl ()):=by simp only [ZB,Yp,YI,cond_true]
    rw [e]
    exact outR (e := .ret) E0Ok Zo [] (mR false [2,1,66]) [] (p (sB YI<|sB YI<|sB YI<|sB YI<|sB YI<|sB YI<|sB YI<|sB YI<|sB (show true=true from rfl)<|sB (show true=true from rfl)<|sB (show true=true from rfl)<|sB (show true=true from rfl)<|sB (show true=true from rfl)<|sB (show true=true from rfl)<|sB (show true=true from rfl)<|sB (show true=true from rfl)<|sB (show true=true from rfl)<|sB (show true=true from rfl)<|sB (show true=true from rfl)<|sB (show true=true from rfl)<|sB (show true=true from rfl)<|sB (show true=true from rfl)<|sB (show true=true from rfl)<|sB (show true=true from rfl)<|sB (show true=true from rfl)<|sN)) (by kernel_rfl) (by intro h;cases h)
   | false =>
    have Y1c:=bne_eq_false_iff_eq.1 YI
    have YU:(0:Int)≤0:=by clear p;exact (by omega)
    have YR:0 < ((Y3.Tr.getD Y1.toNat default).length:Int):=by clear p;exact (by omega)
    have YZ:(0:Int)≤1:=by clear p;exact (by omega)
    have y_5:1 < ((Y3.Tr.getD Y1.toNat default).length:Int):=by clear p;exact (by omega)
    have q {a C} (s:Scr a C):=p (sB YI<|sB YI<|sG (cI .i64) (Y3.Tr.getD Y1.toNat default) 0 YU YR<|sB YI<|sB YI<|sB YI<|sG (cI .i64) (Y3.Tr.getD Y1.toNat default) 1 YZ y_5<|sB YI<|sB YI<|sB YI<|s)
    clear p
    cases YS:(((Y3.Tr.getD Y1.toNat default).getD 0 default) == ((Y3.Tr.getD Y1.toNat default).getD 1 default)) with
    | true =>
     have Y1d:=eq_of_beq YS
     have e:ZB Y3 (k + 1) Y1=(.inl ()):=by simp only [ZB,Yp,YI,YS,cond_true,cond_false]
     rw [e]
     exact outR (e := .ret) E0Ok Zo [] (mR false [2,1,66]) [] (q (sB YS<|sB YS<|sB YS<|sB YS<|sB YS<|sB YS<|sB YS<|sB YS<|sB (show true=true from rfl)<|sB (show true=true from rfl)<|sB (show true=true from rfl)<|sB (show true=true from rfl)<|sB (show true=true from rfl)<|sB (show true=true from rfl)<|sB (show true=true from rfl)<|sB (show true=true from rfl)<|sB (show true=true from rfl)<|sN)) (by kernel_rfl) (by intro h;cases h)
    | false =>
     have Y1d:=ne_of_beq_false YS
     have y_6:(0:Int)≤2:=by clear q;exact (by omega)
     have y_7:2 < ((Y3.Tr.getD Y1.toNat default).length:Int):=by clear q;exact (by omega)
     have p {a C} (s:Scr a C):=q (sB YS<|sB YS<|sG (cI .i64) (Y3.Tr.getD Y1.toNat default) 1 YZ y_5<|sB YS<|sB YS<|sB YS<|sG (cI .i64) (Y3.Tr.getD Y1.toNat default) 2 y_6 y_7<|sB YS<|sB YS<|sB YS<|s)
     clear q
     cases h_3:(((Y3.Tr.getD Y1.toNat default).getD 1 default) == ((Y3.Tr.getD Y1.toNat default).getD 2 default)) with
     | true =>
      have gh_3:=eq_of_beq h_3
      have e:ZB Y3 (k + 1) Y1=(.inl ()):=by simp only [ZB,Yp,YI,YS,h_3,cond_true,cond_false]
      rw [e]
      exact outR (e := .ret) E0Ok Zo [] (mR false [2,1,66]) [] (p (sB h_3<|sB h_3<|sB h_3<|sB h_3<|sB h_3<|sB h_3<|sB h_3<|sB h_3<|sB (show true=true from rfl)<|sN)) (by kernel_rfl) (by intro h;cases h)
     | false =>
      have gh_3:=ne_of_beq_false h_3
      have q {a C} (s:Scr a C):=p (sB h_3<|sB h_3<|sG (cI .i64) (Y3.Tr.getD Y1.toNat default) 0 YU YR<|sB h_3<|sB h_3<|sB h_3<|sG (cI .i64) (Y3.Tr.getD Y1.toNat default) 2 y_6 y_7<|sB h_3<|sB h_3<|sB h_3<|s)
      clear p
      cases h_4:(((Y3.Tr.getD Y1.toNat default).getD 0 default) == ((Y3.Tr.getD Y1.toNat default).getD 2 default)) with
      | true =>
       have gh_4:=eq_of_beq h_4
       have e:ZB Y3 (k + 1) Y1=(.inl ()):=by simp only [ZB,Yp,YI,YS,h_3,h_4,cond_true,cond_false]
       rw [e]
       exact outR (e := .ret) E0Ok Zo [] (mR false [2,1,66]) [] (q (sB h_4<|sN)) (by kernel_rfl) (by intro h;cases h)
      | false =>
       have gh_4:=ne_of_beq_false h_4
       have p {a C} (s:Scr a C):=q (sB h_4<|sZ (cI .i64) (Y3.Tr.getD Y1.toNat default)<|s)
       clear q
       cases h_5:(Z1I Y3 Y1) with
       | inl r_6 =>
        have e:ZB Y3 (k + 1) Y1=(.inl ()):=by simp only [ZB,Yp,YI,YS,h_3,h_4,h_5,cond_true,cond_false]
        rw [e]
        exact outR (e := .ret) E0Ok Zo [] (mR false [2,1,66]) [] (p (sL Z2Q 1 (X7 (Z2A Y3 Y1) (x:=(Z1I Y3 Y1)) (Z4v Y3 Y1 hp0 hp1 hp2 Z1U Z1V Z1W YI Z1U Z1V Yp ((((Y3.Tr.getD Y1.toNat default).length:Int) - 0).toNat + 1) 0 (show 0≤0 from (by assumption)) (Nat.lt_succ_self _)) h_5)<|sN)) (by kernel_rfl) (by intro h;cases h)
       | inr r_6 =>
        have y_8:(-9223372036854775808:Int)≤(Y1 + 1):=by clear p;exact (by omega)
        have y_9:(Y1 + 1)≤(9223372036854775807:Int):=by clear p;exact (by omega)
        have e:ZB Y3 (k + 1) Y1=(ZB Y3 k (Y1 + 1)):=by simp only [ZB,Yp,YI,YS,h_3,h_4,h_5,cond_true,cond_false]
        rw [e]
        exact Xb E0Ok Zo [] (mR false [0,2,1,1,4,15,46]) [0] (ih (Y1 + 1) (show 0≤(Y1 + 1) from (by omega)) (by omega)) (p (sL Z2Q 1 (X7 (Z2A Y3 Y1) (x:=(Z1I Y3 Y1)) (Z4v Y3 Y1 hp0 hp1 hp2 Z1U Z1V Z1W YI Z1U Z1V Yp ((((Y3.Tr.getD Y1.toNat default).length:Int) - 0).toNat + 1) 0 (show 0≤0 from (by assumption)) (Nat.lt_succ_self _)) h_5)<|sI (Y1 + 1) y_8 y_9<|sN)) (by kernel_rfl)
  | false =>
   have YF:=odf Yp
   have e:ZB Y3 (k + 1) Y1=(.inr ()):=by simp only [ZB,Yp,cond_false]
   rw [e]
   exact outR (e:=(.exit 0)) E0Ok Zo [] (mR false [0,2,1,1,4,13,48]) [0] (sB Yp<|sN) (by kernel_rfl) (by intro h;cases h)
def Z1X (Y3:Gm):(Unit) ⊕ (Unit):=(ZB Y3 (((Y3.Tr.length:Int) - 0).toNat + 1) 0)
def Zh (Y3:Gm):Bool:=(cond (decide ((Y3.Pq.length:Int) > 64))
  false
  (cond (decide ((Y3.Tr.length:Int) > 128))
    false
    (match (Z1X Y3) with
      | .inl r3=>false
      | .inr r3=>true)))
def triI (t:List Int) (n:Int):Bool:=(!((t.length:Int) != 3) && (!(t.getD 0 default == t.getD 1 default) && (!(t.getD 1 default == t.getD 2 default) && (!(t.getD 0 default == t.getD 2 default) && t.all fun x=>Z4 x 0 (IntKind.wrap .i64 (n - 1))))))
theorem Z7v (m:Gm) (k:Nat) (i:Int):ZB m (k + 1) i=cond (decide (i < (m.Tr.length:Int))) (cond (triI (m.Tr.getD i.toNat default) (m.Pq.length:Int)) (ZB m k (i + 1)) (.inl ())) (.inr ()):=by
  rw [ZB]
  have hin:Z1I m i=cond ((m.Tr.getD i.toNat default).all fun x=>Z4 x 0 (IntKind.wrap .i64 ((m.Pq.length:Int) - 1))) (.inr ()) (.inl ()):=by
    unfold Z1I
    exact X5O (a:=m.Tr.getD i.toNat default) (p:=fun x=>Z4 x 0 (IntKind.wrap .i64 ((m.Pq.length:Int) - 1))) (lo:=Z1a m i) (x:=()) (y:=()) (fun k i=>rfl)
  rw [hin]
  unfold triI
  generalize m.Tr.getD i.toNat default=t
  generalize (t.all fun x=>Z4 x 0 (IntKind.wrap .i64 ((m.Pq.length:Int) - 1)))=q
  cases ((t.length:Int) != 3)<;>cases (t.getD 0 default == t.getD 1 default)<;>cases (t.getD 1 default == t.getD 2 default)<;>cases (t.getD 0 default == t.getD 2 default)<;>cases q<;>rfl
theorem Z7N (m:Gm):Zh m=cond (decide ((m.Pq.length:Int) > 64)) false (cond (decide ((m.Tr.length:Int) > 128)) false (m.Tr.all fun t=>triI t (m.Pq.length:Int))):=by
  unfold Zh Z1X
  rw [X5O (a:=m.Tr) (p:=fun t=>triI t (m.Pq.length:Int)) (lo:=ZB m) (x:=()) (y:=()) (Z7v m)]
  cases (m.Tr.all fun t=>triI t (m.Pq.length:Int))<;>rfl
theorem ZO (m:Gm) (h:Zh m=true):OkE m.Pq.length m.Tr:=by
  rw [Z7N] at h
  cases h1:decide ((m.Pq.length:Int) > 64)<;>rw [h1] at h<;>(try (cases h;done))
  cases h2:decide ((m.Tr.length:Int) > 128)<;>rw [h2] at h<;>(try (cases h;done))
  simp only [cond_false,List.all_eq_true,decide_eq_false_iff_not] at h h1 h2
  refine ⟨by omega,by omega,fun t ht => ?_⟩
  have h3:=h t ht
  unfold triI at h3
  rw [X7F (by omega) (by omega)] at h3
  simp only [Bool.and_eq_true,Bool.not_eq_true',List.all_eq_true,bne_eq_false_iff_eq,beq_eq_false_iff_ne] at h3
  obtain ⟨g0,g1,g2,g3,g4⟩:=h3
  have hl:t.length=3:=by omega
  match t,hl with
  | [a,b,c],_ =>
    have hw:∀ x,Z4 x 0 ((m.Pq.length:Int) - 1)=true→0≤x∧x < (m.Pq.length:Int):=by
      intro x hx
      unfold Z4 at hx
      cases f1:decide (x ≥ 0)<;>rw [f1] at hx<;>(try (cases hx;done))
      simp only [cond_true,decide_eq_true_eq] at hx f1
      omega
    exact ⟨a,b,c,rfl,hw a (g4 a (by simp)),hw b (g4 b (by simp)),hw c (g4 c (by simp)),g1,g2,g3⟩
theorem Z1J (Y3:Gm) (hp0:Y3.Pq.length≤1073741824) (hp1:Y3.Tr.length≤1073741824) (hp2:∀ t∈Y3.Tr,t.length≤1073741824)  : Fn prog 61 [.agg [.sl (Y3.Pq.map Gv.c), .sl (Y3.Tr.map (cL (cI .i64)))]] (.b (Zh Y3)) []:=by
 have p {a C} (s:Scr a C):=sZ Gv.c Y3.Pq<|s
 cases h0:(decide ((Y3.Pq.length:Int) > 64)) with
 | true =>
  have gh0:=odt h0
  refine fnS E0Ok Zo (c:=X1 f61) [] (.b false) [] func61 (p (sB h0<|sB h0<|sB h0<|sB h0<|sB h0<|sB (show true=true from rfl)<|sK [] sN)) rfl (by kernel_rfl) (by kernel_rfl) rfl ?_ ?_
  · simp only [Zh,h0,cond_true]
  · rfl
 | false =>
  have gh0:=odf h0
  have q {a C} (s:Scr a C):=p (sB h0<|sB h0<|sB h0<|sZ (cL (cI .i64)) Y3.Tr<|sB h0<|sB h0<|s)
  clear p
  cases h1:(decide ((Y3.Tr.length:Int) > 128)) with
  | true =>
   have gh1:=odt h1
   refine fnS E0Ok Zo (c:=X1 f61) [] (.b false) [] func61 (q (sB h1<|sK [] sN)) rfl (by kernel_rfl) (by kernel_rfl) rfl ?_ ?_
   · simp only [Zh,h0,h1,cond_true,cond_false]
   · rfl
  | false =>
   have gh1:=odf h1
   have p {a C} (s:Scr a C):=q (sB h1<|sZ (cL (cI .i64)) Y3.Tr<|s)
   clear q
   cases h2:(Z1X Y3) with
   | inl r3 =>
    refine fnS E0Ok Zo (c:=X1 f61) [] (.b false) [] func61 (p (sL (mR false [0,2,1,1,4,15,46]) 1 (X7 (Z2B Y3) (x:=(Z1X Y3)) (Z4w Y3 hp0 hp1 hp2 h0 h1 (((Y3.Tr.length:Int) - 0).toNat + 1) 0 (show 0≤0 from (by omega)) (Nat.lt_succ_self _)) h2)<|sK [] sN)) rfl (by kernel_rfl) (by kernel_rfl) rfl ?_ ?_
    · simp only [Zh,h0,h1,h2,cond_false]
    · rfl
   | inr r3 =>
    refine fnS E0Ok Zo (c:=X1 f61) [] (.b true) [] func61 (p (sL (mR false [0,2,1,1,4,15,46]) 1 (X7 (Z2B Y3) (x:=(Z1X Y3)) (Z4w Y3 hp0 hp1 hp2 h0 h1 (((Y3.Tr.length:Int) - 0).toNat + 1) 0 (show 0≤0 from (by omega)) (Nat.lt_succ_self _)) h2)<|sK [] sN)) rfl (by kernel_rfl) (by kernel_rfl) rfl ?_ ?_
    · simp only [Zh,h0,h1,h2,cond_false]
    · rfl
def Zm (Y3:Gm):Gm × Bool × (List Gv) × (List (List Int)):=(cond (Zh Y3)
  (Y3,true,Y3.Pq,Y3.Tr)
  ((⟨([]:List Gv),([]:List (List Int))⟩:Gm),false,Y3.Pq,Y3.Tr))
def ZA (Y3:Gm):Bool:=(cond (Zh Y3)
  false
  true)
theorem Z2y (Y3:Gm) (hp0:Y3.Pq.length≤1073741824) (hp1:Y3.Tr.length≤1073741824) (hp2:∀ t∈Y3.Tr,t.length≤1073741824) (hs1:ZA Y3=false):Xj prog 80 [.vec 32 3 (Y3.Pq.map Gv.c) false, .nest 60 (Y3.Tr.map fun l=>l.map (cI .i64)) false] [.agg [.own 0, .own 1]] (.tup [.agg [.own 0, .own 1], .b ((Zm Y3).2.1)]) [.vec 32 3 (((Zm Y3).2.2.1).map Gv.c) false, .nest 60 (((Zm Y3).2.2.2).map fun l=>l.map (cI .i64)) false]:=by
 have p {a C} (s:Scr a C):=sF (Fn.castA (args':=[.agg [.sl (Y3.Pq.map Gv.c), .sl ((Y3.Tr.map fun l=>l.map (cI .i64)).map fun l => [.sl l])]]) (Z1J Y3 hp0 hp1 hp2) (by simp [cL,Function.comp_def];done))<|s
 cases h0:(Zh Y3) with
 | true =>
  refine X80 (EpOk 2) Zo (c:=X1 f80) [.vec 32 3 (Y3.Pq.map Gv.c) false, .nest 60 (Y3.Tr.map fun l=>l.map (cI .i64)) false] [] (.tup [.agg [.own 0, .own 1], .b true]) [.vec 32 3 (Y3.Pq.map Gv.c) false, .nest 60 (Y3.Tr.map fun l=>l.map (cI .i64)) false] func80 (p (sB' h0<|sK [] sN)) rfl (by kernel_rfl) (by kernel_rfl) ?_ ?_
  · simp only [Zm,h0,cond_true]
  · simp [Zm,h0]
 | false =>
  simp [ZA,h0] at hs1
theorem Z2z (Y3:Gm) (hp0:Y3.Pq.length≤1073741824) (hp1:Y3.Tr.length≤1073741824) (hp2:∀ t∈Y3.Tr,t.length≤1073741824) (hs1:ZA Y3=true):Xj prog 80 [.vec 32 3 (Y3.Pq.map Gv.c) false, .nest 60 (Y3.Tr.map fun l=>l.map (cI .i64)) false] [.agg [.own 0, .own 1]] (.tup [.agg [.own 2, .own 3], .b ((Zm Y3).2.1)]) [.vec 32 3 (((Zm Y3).2.2.1).map Gv.c) false, .nest 60 (((Zm Y3).2.2.2).map fun l=>l.map (cI .i64)) false, .vec 32 3 (((Zm Y3).1.Pq).map Gv.c) false, .nest 60 (((Zm Y3).1.Tr).map fun l=>l.map (cI .i64)) false]:=by
 have p {a C} (s:Scr a C):=sF (Fn.castA (args':=[.agg [.sl (Y3.Pq.map Gv.c), .sl ((Y3.Tr.map fun l=>l.map (cI .i64)).map fun l => [.sl l])]]) (Z1J Y3 hp0 hp1 hp2) (by simp [cL,Function.comp_def];done))<|s
 cases h0:(Zh Y3) with
 | true =>
  simp [ZA,h0] at hs1
 | false =>
  refine X80 (EpOk 2) Zo (c:=X1 f80) [.vec 32 3 (Y3.Pq.map Gv.c) false, .nest 60 (Y3.Tr.map fun l=>l.map (cI .i64)) false] [(.row 3 0, .vec 32 3 [] false),(.row 3 1, .nest 60 [] false)] (.tup [.agg [.own 2, .own 3], .b false]) [.vec 32 3 (Y3.Pq.map Gv.c) false, .nest 60 (Y3.Tr.map fun l=>l.map (cI .i64)) false, .vec 32 3 [] false, .nest 60 [] false] func80 (p (sB' h0<|sK [4,5] sN)) rfl (by kernel_rfl) (by kernel_rfl) ?_ ?_
  · simp only [Zm,h0,cond_false]
  · simp [Zm,h0,Gv.c,cL,cI]
theorem Z1Y {a b:Int} (h0:0≤a) (h1:a≤8) (h2:0≤b) (h3:b≤8):0≤a * b∧a * b≤64:=⟨Int.mul_nonneg h0 h2,by have:=Int.mul_le_mul h1 h3 h2 (by omega:(0:Int)≤8);omega⟩
def Z1j (Y4:Int) (Y5:Int) (Yc:Nat) (Y1:Int) (Yh:(List Gv)):Nat→Int→(List Gv)→(List Gv)
  | 0,_,_=>default
  | k + 1,Y2,Ya=>(cond (decide (Y2 < (Y4 + 1)))
    (Z1j Y4 Y5 Yc Y1 Yh k (Y2 + 1) (Ya ++ [(⟨(fop .mul .f32 (X0 .f32 Y2) Yc),(fop .mul .f32 (X0 .f32 Y1) Yc),0⟩:Gv)]))
    Ya)
def Z3l (Y4:Int) (Y5:Int) (Yc:Nat) (Y1:Int) (Yh:(List Gv)) (r:(List Gv)):Ex × St:=((.exit 2),⟨.i .i64 Y4 :: .i .i64 Y5 :: .f .f32 Yc :: .any :: .any :: .any :: .ptr 0 0 0 :: .b false :: .ptr 1 0 0 :: .i .i64 Y1 :: an 5 (.i .i64 Y4 :: .b (Z4 Y4 1 64) :: .b (!(Z4 Y4 1 64)) :: .b (!(Z4 Y4 1 64)) :: .i .i64 Y5 :: .b (Z4 Y5 1 64) :: .b (!(Z4 Y5 1 64)) :: .b (!(Z4 Y5 1 64)) :: .b (!(Z4 Y5 1 64)) :: .i .i64 Y4 :: .i .i64 (Y4 + 1) :: .i .i64 Y5 :: .i .i64 (Y5 + 1) :: .i .i64 ((Y4 + 1) * (Y5 + 1)) :: .b (decide (((Y4 + 1) * (Y5 + 1)) > 64)) :: .b (decide (((Y4 + 1) * (Y5 + 1)) > 64)) :: .b (decide (((Y4 + 1) * (Y5 + 1)) > 64)) :: .f .f32 Yc :: .b (Z6 Yc) :: .b (!(Z6 Yc)) :: .b (!(Z6 Yc)) :: .any :: .agg [.nils, .nils] :: .i .i64 Y5 :: .i .i64 (Y5 + 1) :: .i .i64 Y1 :: .b (decide (Y1 < (Y5 + 1))) :: .i .i64 Y1 :: .i .i64 Y4 :: .i .i64 (Y4 + 1) :: an 59 []),[.box 27 [.nils, .nils], .box 27 [.own 2, .nils], .vec 32 3 (r.map Gv.c) false]⟩)
def Z4N (Y4:Int) (Y5:Int) (Yc:Nat) (Y1:Int) (Yh:(List Gv)) (Y2:Int) (Ya:(List Gv)):St:=⟨.i .i64 Y4 :: .i .i64 Y5 :: .f .f32 Yc :: .any :: .any :: .any :: .ptr 0 0 0 :: .b false :: .ptr 1 0 0 :: .i .i64 Y1 :: an 5 (.i .i64 Y4 :: .b (Z4 Y4 1 64) :: .b (!(Z4 Y4 1 64)) :: .b (!(Z4 Y4 1 64)) :: .i .i64 Y5 :: .b (Z4 Y5 1 64) :: .b (!(Z4 Y5 1 64)) :: .b (!(Z4 Y5 1 64)) :: .b (!(Z4 Y5 1 64)) :: .i .i64 Y4 :: .i .i64 (Y4 + 1) :: .i .i64 Y5 :: .i .i64 (Y5 + 1) :: .i .i64 ((Y4 + 1) * (Y5 + 1)) :: .b (decide (((Y4 + 1) * (Y5 + 1)) > 64)) :: .b (decide (((Y4 + 1) * (Y5 + 1)) > 64)) :: .b (decide (((Y4 + 1) * (Y5 + 1)) > 64)) :: .f .f32 Yc :: .b (Z6 Yc) :: .b (!(Z6 Yc)) :: .b (!(Z6 Yc)) :: .any :: .agg [.nils, .nils] :: .i .i64 Y5 :: .i .i64 (Y5 + 1) :: .i .i64 Y1 :: .b (decide (Y1 < (Y5 + 1))) :: .i .i64 Y1 :: .i .i64 Y4 :: .i .i64 (Y4 + 1) :: .i .i64 Y2 :: an 58 []),[.box 27 [.nils, .nils], .box 27 [.own 2, .nils], .vec 32 3 (Ya.map Gv.c) false]⟩
def Z41:List Bool:=(mR false [0,3,3,4,5,21,1,9,58])
def Z5s:List Bool:=(mR false [0,3,3,4,5,21,1,8,59])
theorem Z5S (Y4:Int) (Y5:Int) (Yc:Nat) (Y1:Int) (Yh:(List Gv)) (hp0:1≤Y4) (hp1:Y4≤6) (hp2:1≤Y5) (hp3:Y5≤6) (Z2h:0≤Y1) (Z2i:(Yh.length:Int)≤7 * Y1) (Z2j:Y1≤Y5 + 1):∀ (k:Nat) (Y2:Int) (Ya:(List Gv)) (Z42:0≤Y2) (Z43:(Ya.length:Int)=(Yh.length:Int) + Y2) (hk:((Y4 + 1) - Y2).toNat < k),Lp prog 0 (sub (X1 f29) [1,1,1,0,1,0,0,1,1,0,0,1,1,0,0]) (Z4N Y4 Y5 Yc Y1 Yh Y2 Ya) (Z3l Y4 Y5 Yc Y1 Yh (Z1j Y4 Y5 Yc Y1 Yh k Y2 Ya)).1 (Z3l Y4 Y5 Yc Y1 Yh (Z1j Y4 Y5 Yc Y1 Yh k Y2 Ya)).2:=by
 intro k
 induction k with
 | zero=>intro Y2 Ya Z42 Z43 hk;exact absurd hk (Nat.not_lt_zero _)
 | succ k ih =>
  intro Y2 Ya Z42 Z43 hk
  cases Yr:(decide (Y2 < (Y4 + 1))) with
  | true =>
   have YM:=odt Yr
   have YW:Ya.length + ([(⟨(fop .mul .f32 (X0 .f32 Y2) Yc),(fop .mul .f32 (X0 .f32 Y1) Yc),0⟩:Gv)]).length≤1073741824:=(by ((have q:=Z1Y (a:=Y4 + 1) (b:=Y1) (by omega) (by omega) (by omega) (by omega);(simp only [List.length_append,List.length_cons,List.length_nil];omega))))
   have YX:(-9223372036854775808:Int)≤(Y2 + 1):=(by omega)
   have YQ:(Y2 + 1)≤(9223372036854775807:Int):=(by omega)
   have e:Z1j Y4 Y5 Yc Y1 Yh (k + 1) Y2 Ya=(Z1j Y4 Y5 Yc Y1 Yh k (Y2 + 1) (Ya ++ [(⟨(fop .mul .f32 (X0 .f32 Y2) Yc),(fop .mul .f32 (X0 .f32 Y1) Yc),0⟩:Gv)])):=by simp only [Z1j,Yr,cond_true]
   rw [e]
   exact XQ E0Ok Zo [] Z41 [0,1,2] (⟨.i .i64 Y4 :: .i .i64 Y5 :: .f .f32 Yc :: .any :: .any :: .any :: .ptr 0 0 0 :: .b false :: .ptr 1 0 0 :: .i .i64 Y1 :: an 5 (.i .i64 Y4 :: .b (Z4 Y4 1 64) :: .b (!(Z4 Y4 1 64)) :: .b (!(Z4 Y4 1 64)) :: .i .i64 Y5 :: .b (Z4 Y5 1 64) :: .b (!(Z4 Y5 1 64)) :: .b (!(Z4 Y5 1 64)) :: .b (!(Z4 Y5 1 64)) :: .i .i64 Y4 :: .i .i64 (Y4 + 1) :: .i .i64 Y5 :: .i .i64 (Y5 + 1) :: .i .i64 ((Y4 + 1) * (Y5 + 1)) :: .b (decide (((Y4 + 1) * (Y5 + 1)) > 64)) :: .b (decide (((Y4 + 1) * (Y5 + 1)) > 64)) :: .b (decide (((Y4 + 1) * (Y5 + 1)) > 64)) :: .f .f32 Yc :: .b (Z6 Yc) :: .b (!(Z6 Yc)) :: .b (!(Z6 Yc)) :: .any :: .agg [.nils, .nils] :: .i .i64 Y5 :: .i .i64 (Y5 + 1) :: .i .i64 Y1 :: .b (decide (Y1 < (Y5 + 1))) :: .i .i64 Y1 :: .i .i64 Y4 :: .i .i64 (Y4 + 1) :: .i .i64 (Y2 + 1) :: an 58 []),[.box 27 [.nils, .nils], .box 27 [.own 2, .nils], .vec 32 3 ((Ya.map Gv.c) ++ ([[.f .f32 (fop .mul .f32 (X0 .f32 Y2) Yc), .f .f32 (fop .mul .f32 (X0 .f32 Y1) Yc), .f .f32 0]]:List (List AV))) false]⟩) (sB Yr<|sC (show (Ya.map Gv.c).length + ([[.f .f32 (fop .mul .f32 (X0 .f32 Y2) Yc), .f .f32 (fop .mul .f32 (X0 .f32 Y1) Yc), .f .f32 0]]:List (List AV)).length≤1073741824 from (by simpa using YW))<|sI (Y2 + 1) YX YQ<|sN) (by kernel_rfl) (by simp [Z4N,Gv.c]) (ih (Y2 + 1) (Ya ++ [(⟨(fop .mul .f32 (X0 .f32 Y2) Yc),(fop .mul .f32 (X0 .f32 Y1) Yc),0⟩:Gv)]) (show 0≤(Y2 + 1) from (by omega)) (show ((Ya ++ [(⟨(fop .mul .f32 (X0 .f32 Y2) Yc),(fop .mul .f32 (X0 .f32 Y1) Yc),0⟩:Gv)]).length:Int)=(Yh.length:Int) + (Y2 + 1) from (by simp_all<;>omega)) (by omega))
  | false =>
   have YM:=odf Yr
   have e:Z1j Y4 Y5 Yc Y1 Yh (k + 1) Y2 Ya=Ya:=by simp only [Z1j,Yr,cond_false]
   rw [e]
   exact outR (e:=(.exit 2)) E0Ok Zo [] Z5s [0,1,2] (sB Yr<|sN) (by kernel_rfl) (by intro h;cases h)
def Z1A (Y4:Int) (Y5:Int) (Yc:Nat) (Y1:Int) (Yh:(List Gv)):(List Gv):=(Z1j Y4 Y5 Yc Y1 Yh (((Y4 + 1) - 0).toNat + 1) 0 Yh)
theorem Z7V (w h:Int) (s:Nat) (x:Int) (r0:List Gv):∀ (k:Nat) (i:Int) (r:List Gv),0≤i→(Z1j w h s x r0 k i r).length≤r.length + (w + 1 - i).toNat:=by
  intro k
  induction k with
  | zero=>intro i r _;exact Nat.zero_le _
  | succ k ih =>
    intro i r h0
    rw [Z1j]
    by_cases hi:i < w + 1
    · rw [decide_eq_true hi,cond_true]
      refine Nat.le_trans (ih (i + 1) _ (by omega)) ?_
      simp only [List.length_append,List.length_cons,List.length_nil];omega
    · rw [decide_eq_false hi,cond_false];omega
theorem Z7w (w h:Int) (s:Nat) (x:Int) (r:List Gv):(Z1A w h s x r).length≤r.length + (w + 1).toNat:=by
  unfold Z1A
  refine Nat.le_trans (Z7V _ _ _ _ _ _ _ _ (Int.le_refl 0)) ?_
  omega
def Z1k (Y4:Int) (Y5:Int) (Yc:Nat):Nat→Int→(List Gv)→(List Gv)
  | 0,_,_=>default
  | k + 1,Y1,Yh=>(cond (decide (Y1 < (Y5 + 1)))
    (Z1k Y4 Y5 Yc k (Y1 + 1) (Z1A Y4 Y5 Yc Y1 Yh))
    Yh)
def Z3m (Y4:Int) (Y5:Int) (Yc:Nat) (r:(List Gv)):Ex × St:=((.exit 0),⟨.i .i64 Y4 :: .i .i64 Y5 :: .f .f32 Yc :: .any :: .any :: .any :: .ptr 0 0 0 :: .b false :: .ptr 1 0 0 :: an 6 (.i .i64 Y4 :: .b (Z4 Y4 1 64) :: .b (!(Z4 Y4 1 64)) :: .b (!(Z4 Y4 1 64)) :: .i .i64 Y5 :: .b (Z4 Y5 1 64) :: .b (!(Z4 Y5 1 64)) :: .b (!(Z4 Y5 1 64)) :: .b (!(Z4 Y5 1 64)) :: .i .i64 Y4 :: .i .i64 (Y4 + 1) :: .i .i64 Y5 :: .i .i64 (Y5 + 1) :: .i .i64 ((Y4 + 1) * (Y5 + 1)) :: .b (decide (((Y4 + 1) * (Y5 + 1)) > 64)) :: .b (decide (((Y4 + 1) * (Y5 + 1)) > 64)) :: .b (decide (((Y4 + 1) * (Y5 + 1)) > 64)) :: .f .f32 Yc :: .b (Z6 Yc) :: .b (!(Z6 Yc)) :: .b (!(Z6 Yc)) :: .any :: .agg [.nils, .nils] :: .i .i64 Y5 :: an 65 []),[.box 27 [.nils, .nils], .box 27 [.own 2, .nils], .vec 32 3 (r.map Gv.c) false]⟩)
def Z4O (Y4:Int) (Y5:Int) (Yc:Nat) (Y1:Int) (Yh:(List Gv)):St:=⟨.i .i64 Y4 :: .i .i64 Y5 :: .f .f32 Yc :: .any :: .any :: .any :: .ptr 0 0 0 :: .b false :: .ptr 1 0 0 :: an 6 (.i .i64 Y4 :: .b (Z4 Y4 1 64) :: .b (!(Z4 Y4 1 64)) :: .b (!(Z4 Y4 1 64)) :: .i .i64 Y5 :: .b (Z4 Y5 1 64) :: .b (!(Z4 Y5 1 64)) :: .b (!(Z4 Y5 1 64)) :: .b (!(Z4 Y5 1 64)) :: .i .i64 Y4 :: .i .i64 (Y4 + 1) :: .i .i64 Y5 :: .i .i64 (Y5 + 1) :: .i .i64 ((Y4 + 1) * (Y5 + 1)) :: .b (decide (((Y4 + 1) * (Y5 + 1)) > 64)) :: .b (decide (((Y4 + 1) * (Y5 + 1)) > 64)) :: .b (decide (((Y4 + 1) * (Y5 + 1)) > 64)) :: .f .f32 Yc :: .b (Z6 Yc) :: .b (!(Z6 Yc)) :: .b (!(Z6 Yc)) :: .any :: .agg [.nils, .nils] :: .i .i64 Y5 :: .i .i64 (Y5 + 1) :: .i .i64 Y1 :: an 63 []),[.box 27 [.nils, .nils], .box 27 [.own 2, .nils], .vec 32 3 (Yh.map Gv.c) false]⟩
def Z44:List Bool:=(mR false [0,3,3,3,6,21,1,4,63])
def Z5t:List Bool:=(mR false [0,3,3,3,6,21,1,2,65])
theorem Z5T (Y4:Int) (Y5:Int) (Yc:Nat) (hp0:1≤Y4) (hp1:Y4≤6) (hp2:1≤Y5) (hp3:Y5≤6):∀ (k:Nat) (Y1:Int) (Yh:(List Gv)) (Z2h:0≤Y1) (Z2i:(Yh.length:Int)≤7 * Y1) (Z2j:Y1≤Y5 + 1) (hk:((Y5 + 1) - Y1).toNat < k),Lp prog 0 (sub (X1 f29) [1,1,1,0,1,0,0]) (Z4O Y4 Y5 Yc Y1 Yh) (Z3m Y4 Y5 Yc (Z1k Y4 Y5 Yc k Y1 Yh)).1 (Z3m Y4 Y5 Yc (Z1k Y4 Y5 Yc k Y1 Yh)).2:=by
 intro k
 induction k with
 | zero=>intro Y1 Yh Z2h Z2i Z2j hk;exact absurd hk (Nat.not_lt_zero _)
 | succ k ih =>
  intro Y1 Yh Z2h Z2i Z2j hk
  cases Yp:(decide (Y1 < (Y5 + 1))) with
  | true =>
   have YF:=odt Yp
   have YO:(-9223372036854775808:Int)≤(Y4 + 1):=(by omega)
   have YL:(Y4 + 1)≤(9223372036854775807:Int):=(by omega)
   have YU:(-9223372036854775808:Int)≤(Y1 + 1):=(by omega)
   have YR:(Y1 + 1)≤(9223372036854775807:Int):=(by omega)
   have e:Z1k Y4 Y5 Yc (k + 1) Y1 Yh=(Z1k Y4 Y5 Yc k (Y1 + 1) (Z1A Y4 Y5 Yc Y1 Yh)):=by simp only [Z1k,Yp,cond_true]
   rw [e]
   exact Xb E0Ok Zo [] Z44 [0,1,2] (ih (Y1 + 1) (Z1A Y4 Y5 Yc Y1 Yh) (show 0≤(Y1 + 1) from (by omega)) (show ((Z1A Y4 Y5 Yc Y1 Yh).length:Int)≤7 * (Y1 + 1) from (by have q:=Z7w Y4 Y5 Yc Y1 Yh;omega)) (show (Y1 + 1)≤Y5 + 1 from (by assumption)) (by omega)) (sB Yp<|sI (Y4 + 1) YO YL<|sL Z41 3 (X7 (Z3l Y4 Y5 Yc Y1 Yh) (x:=(Z1A Y4 Y5 Yc Y1 Yh)) (Z5S Y4 Y5 Yc Y1 Yh hp0 hp1 hp2 hp3 Z2h Z2i Z2j (((Y4 + 1) - 0).toNat + 1) 0 Yh (show 0≤0 from (by omega)) (show (Yh.length:Int)=(Yh.length:Int) + 0 from (by omega)) (Nat.lt_succ_self _)) rfl)<|sI (Y1 + 1) YU YR<|sN) (by kernel_rfl)
  | false =>
   have YF:=odf Yp
   have e:Z1k Y4 Y5 Yc (k + 1) Y1 Yh=Yh:=by simp only [Z1k,Yp,cond_false]
   rw [e]
   exact outR (e:=(.exit 0)) E0Ok Zo [] Z5t [0,1,2] (sB Yp<|sN) (by kernel_rfl) (by intro h;cases h)
def Zg (Y4:Int) (Y5:Int) (Yc:Nat):(List Gv):=(Z1k Y4 Y5 Yc (((Y5 + 1) - 0).toNat + 1) 0 ([]:List Gv))
theorem Z7W (w h:Int) (s:Nat) (hw:w≤6):∀ (k:Nat) (i:Int) (r:List Gv),0≤i→(Z1k w h s k i r).length≤r.length + 7 * (h + 1 - i).toNat:=by
  intro k
  induction k with
  | zero=>intro i r _;exact Nat.zero_le _
  | succ k ih =>
    intro i r h0
    rw [Z1k]
    by_cases hi:i < h + 1
    · rw [decide_eq_true hi,cond_true]
      refine Nat.le_trans (ih (i + 1) _ (by omega)) ?_
      have q:=Z7w w h s i r;omega
    · rw [decide_eq_false hi,cond_false];omega
theorem Z7x (w h:Int) (s:Nat) (hw:w≤6) (hh:h≤6):(Zg w h s).length≤49:=by
  unfold Zg
  have q:=Z7W w h s hw (((h + 1) - 0).toNat + 1) 0 [] (Int.le_refl 0)
  rw [List.length_nil] at q
  omega
def Z14 (Y4:Int) (Y5:Int) (Yc:Nat) (Y1:Int) (Yt:(List (List Int))):Nat→Int→(List (List Int))→(List (List Int))
  | 0,_,_=>default
  | k + 1,Y2,Yx=>(cond (decide (Y2 < Y4))
    (Z14 Y4 Y5 Yc Y1 Yt k (Y2 + 1) (Yx ++ [[(Y2 + ((Y4 + 1) * Y1)),((Y2 + ((Y4 + 1) * Y1)) + 1),((((Y2 + ((Y4 + 1) * Y1)) + Y4) + 1) + 1)],[(Y2 + ((Y4 + 1) * Y1)),((((Y2 + ((Y4 + 1) * Y1)) + Y4) + 1) + 1),(((Y2 + ((Y4 + 1) * Y1)) + Y4) + 1)]]))
    Yx)
def Z3n (Y4:Int) (Y5:Int) (Yc:Nat) (Y1:Int) (Yt:(List (List Int))) (r:(List (List Int))):Ex × St:=((.exit 6),⟨.i .i64 Y4 :: .i .i64 Y5 :: .f .f32 Yc :: .any :: .any :: .any :: .ptr 0 0 0 :: .b false :: .ptr 1 0 0 :: .any :: .any :: .i .i64 Y1 :: .any :: .any :: .any :: .i .i64 Y4 :: .b (Z4 Y4 1 64) :: .b (!(Z4 Y4 1 64)) :: .b (!(Z4 Y4 1 64)) :: .i .i64 Y5 :: .b (Z4 Y5 1 64) :: .b (!(Z4 Y5 1 64)) :: .b (!(Z4 Y5 1 64)) :: .b (!(Z4 Y5 1 64)) :: .i .i64 Y4 :: .i .i64 (Y4 + 1) :: .i .i64 Y5 :: .i .i64 (Y5 + 1) :: .i .i64 ((Y4 + 1) * (Y5 + 1)) :: .b (decide (((Y4 + 1) * (Y5 + 1)) > 64)) :: .b (decide (((Y4 + 1) * (Y5 + 1)) > 64)) :: .b (decide (((Y4 + 1) * (Y5 + 1)) > 64)) :: .f .f32 Yc :: .b (Z6 Yc) :: .b (!(Z6 Yc)) :: .b (!(Z6 Yc)) :: .any :: .agg [.nils, .nils] :: .i .i64 Y5 :: an 25 (.i .i64 Y5 :: .i .i64 Y1 :: .b (decide (Y1 < Y5)) :: .i .i64 Y1 :: .i .i64 Y4 :: an 35 []),[.box 27 [.nils, .nils], .box 27 [.own 2, .own 3], .vec 32 3 ((Zg Y4 Y5 Yc).map Gv.c) false, .nest 60 (r.map fun l=>l.map (cI .i64)) false]⟩)
def Z4P (Y4:Int) (Y5:Int) (Yc:Nat) (Y1:Int) (Yt:(List (List Int))) (Y2:Int) (Yx:(List (List Int))):St:=⟨.i .i64 Y4 :: .i .i64 Y5 :: .f .f32 Yc :: .any :: .any :: .any :: .ptr 0 0 0 :: .b false :: .ptr 1 0 0 :: .any :: .any :: .i .i64 Y1 :: .any :: .any :: .any :: .i .i64 Y4 :: .b (Z4 Y4 1 64) :: .b (!(Z4 Y4 1 64)) :: .b (!(Z4 Y4 1 64)) :: .i .i64 Y5 :: .b (Z4 Y5 1 64) :: .b (!(Z4 Y5 1 64)) :: .b (!(Z4 Y5 1 64)) :: .b (!(Z4 Y5 1 64)) :: .i .i64 Y4 :: .i .i64 (Y4 + 1) :: .i .i64 Y5 :: .i .i64 (Y5 + 1) :: .i .i64 ((Y4 + 1) * (Y5 + 1)) :: .b (decide (((Y4 + 1) * (Y5 + 1)) > 64)) :: .b (decide (((Y4 + 1) * (Y5 + 1)) > 64)) :: .b (decide (((Y4 + 1) * (Y5 + 1)) > 64)) :: .f .f32 Yc :: .b (Z6 Yc) :: .b (!(Z6 Yc)) :: .b (!(Z6 Yc)) :: .any :: .agg [.nils, .nils] :: .i .i64 Y5 :: an 25 (.i .i64 Y5 :: .i .i64 Y1 :: .b (decide (Y1 < Y5)) :: .i .i64 Y1 :: .i .i64 Y4 :: .i .i64 Y2 :: an 34 []),[.box 27 [.nils, .nils], .box 27 [.own 2, .own 3], .vec 32 3 ((Zg Y4 Y5 Yc).map Gv.c) false, .nest 60 (Yx.map fun l=>l.map (cI .i64)) false]⟩
def Z45:List Bool:=(mR false [0,3,3,3,2,1,3,21,1,2,25,6,34])
def Z5u:List Bool:=(mR false [0,3,3,3,2,1,3,21,1,2,25,5,35])
set_option maxHeartbeats 1000000 in
theorem Z5U (Y4:Int) (Y5:Int) (Yc:Nat) (Y1:Int) (Yt:(List (List Int))) (hp0:1≤Y4) (hp1:Y4≤6) (hp2:1≤Y5) (hp3:Y5≤6) (Z2k:0≤Y1) (Z2l:(Yt.length:Int)≤12 * Y1) (Z2m:Y1≤Y5):∀ (k:Nat) (Y2:Int) (Yx:(List (List Int))) (Z46:0≤Y2) (Z47:(Yx.length:Int)=(Yt.length:Int) + 2 * Y2) (hk:(Y4 - Y2).toNat < k),Lp prog 0 (sub (X1 f29) [1,1,1,1,0,1,0,0,1,1,0,0,1,1,0,0]) (Z4P Y4 Y5 Yc Y1 Yt Y2 Yx) (Z3n Y4 Y5 Yc Y1 Yt (Z14 Y4 Y5 Yc Y1 Yt k Y2 Yx)).1 (Z3n Y4 Y5 Yc Y1 Yt (Z14 Y4 Y5 Yc Y1 Yt k Y2 Yx)).2:=by
 intro k
 induction k with
 | zero=>intro Y2 Yx Z46 Z47 hk;exact absurd hk (Nat.not_lt_zero _)
 | succ k ih =>
  intro Y2 Yx Z46 Z47 hk
  cases Yr:(decide (Y2 < Y4)) with
  | true =>
   have YM:=odt Yr
   have YW:(-9223372036854775808:Int)≤(Y4 + 1):=(by omega)
   have YX:(Y4 + 1)≤(9223372036854775807:Int):=(by omega)
   have YQ:(-9223372036854775808:Int)≤((Y4 + 1) * Y1):=(by ((have q:=Z1Y (a:=Y4 + 1) (b:=Y1) (by omega) (by omega) (by omega) (by omega);omega)))
   have YN:((Y4 + 1) * Y1)≤(9223372036854775807:Int):=(by ((have q:=Z1Y (a:=Y4 + 1) (b:=Y1) (by omega) (by omega) (by omega) (by omega);omega)))
   have YY:(-9223372036854775808:Int)≤(Y2 + ((Y4 + 1) * Y1)):=(by omega)
   have Y13:(Y2 + ((Y4 + 1) * Y1))≤(9223372036854775807:Int):=(by ((have q:=Z1Y (a:=Y4 + 1) (b:=Y1) (by omega) (by omega) (by omega) (by omega);omega)))
   have Y10:(-9223372036854775808:Int)≤((Y2 + ((Y4 + 1) * Y1)) + Y4):=(by omega)
   have Y14:((Y2 + ((Y4 + 1) * Y1)) + Y4)≤(9223372036854775807:Int):=(by ((have q:=Z1Y (a:=Y4 + 1) (b:=Y1) (by omega) (by omega) (by omega) (by omega);omega)))
   have Y19:(-9223372036854775808:Int)≤(((Y2 + ((Y4 + 1) * Y1)) + Y4) + 1):=(by omega)
   have Y1e:(((Y2 + ((Y4 + 1) * Y1)) + Y4) + 1)≤(9223372036854775807:Int):=(by ((have q:=Z1Y (a:=Y4 + 1) (b:=Y1) (by omega) (by omega) (by omega) (by omega);omega)))
   have Y1a:(-9223372036854775808:Int)≤((Y2 + ((Y4 + 1) * Y1)) + 1):=(by omega)
   have Y1b:((Y2 + ((Y4 + 1) * Y1)) + 1)≤(9223372036854775807:Int):=(by omega)
   have Y15:(-9223372036854775808:Int)≤((((Y2 + ((Y4 + 1) * Y1)) + Y4) + 1) + 1):=(by omega)
   have Y16:((((Y2 + ((Y4 + 1) * Y1)) + Y4) + 1) + 1)≤(9223372036854775807:Int):=(by ((have q:=Z1Y (a:=Y4 + 1) (b:=Y1) (by omega) (by omega) (by omega) (by omega);omega)))
   have Y1f:Yx.length + [[(Y2 + ((Y4 + 1) * Y1)),((Y2 + ((Y4 + 1) * Y1)) + 1),((((Y2 + ((Y4 + 1) * Y1)) + Y4) + 1) + 1)],[(Y2 + ((Y4 + 1) * Y1)),((((Y2 + ((Y4 + 1) * Y1)) + Y4) + 1) + 1),(((Y2 + ((Y4 + 1) * Y1)) + Y4) + 1)]].length≤1073741824:=(by ((have q:=Z1Y (a:=Y4 + 1) (b:=Y1) (by omega) (by omega) (by omega) (by omega);(simp only [List.length_append,List.length_cons,List.length_nil];omega))))
   have Y1g:(-9223372036854775808:Int)≤(Y2 + 1):=(by omega)
   have Y1h:(Y2 + 1)≤(9223372036854775807:Int):=(by omega)
   have e:Z14 Y4 Y5 Yc Y1 Yt (k + 1) Y2 Yx=(Z14 Y4 Y5 Yc Y1 Yt k (Y2 + 1) (Yx ++ [[(Y2 + ((Y4 + 1) * Y1)),((Y2 + ((Y4 + 1) * Y1)) + 1),((((Y2 + ((Y4 + 1) * Y1)) + Y4) + 1) + 1)],[(Y2 + ((Y4 + 1) * Y1)),((((Y2 + ((Y4 + 1) * Y1)) + Y4) + 1) + 1),(((Y2 + ((Y4 + 1) * Y1)) + Y4) + 1)]])):=by simp only [Z14,Yr,cond_true]
   rw [e]
   exact XQ E0Ok Zo [] Z45 [0,1,2,3] (⟨.i .i64 Y4 :: .i .i64 Y5 :: .f .f32 Yc :: .any :: .any :: .any :: .ptr 0 0 0 :: .b false :: .ptr 1 0 0 :: .any :: .any :: .i .i64 Y1 :: .any :: .any :: .any :: .i .i64 Y4 :: .b (Z4 Y4 1 64) :: .b (!(Z4 Y4 1 64)) :: .b (!(Z4 Y4 1 64)) :: .i .i64 Y5 :: .b (Z4 Y5 1 64) :: .b (!(Z4 Y5 1 64)) :: .b (!(Z4 Y5 1 64)) :: .b (!(Z4 Y5 1 64)) :: .i .i64 Y4 :: .i .i64 (Y4 + 1) :: .i .i64 Y5 :: .i .i64 (Y5 + 1) :: .i .i64 ((Y4 + 1) * (Y5 + 1)) :: .b (decide (((Y4 + 1) * (Y5 + 1)) > 64)) :: .b (decide (((Y4 + 1) * (Y5 + 1)) > 64)) :: .b (decide (((Y4 + 1) * (Y5 + 1)) > 64)) :: .f .f32 Yc :: .b (Z6 Yc) :: .b (!(Z6 Yc)) :: .b (!(Z6 Yc)) :: .any :: .agg [.nils, .nils] :: .i .i64 Y5 :: an 25 (.i .i64 Y5 :: .i .i64 Y1 :: .b (decide (Y1 < Y5)) :: .i .i64 Y1 :: .i .i64 Y4 :: .i .i64 (Y2 + 1) :: an 34 []),[.box 27 [.nils, .nils], .box 27 [.own 2, .own 3], .vec 32 3 ((Zg Y4 Y5 Yc).map Gv.c) false, .nest 60 ((Yx.map fun l=>l.map (cI .i64)) ++ [([[.i .i64 (Y2 + ((Y4 + 1) * Y1))],[.i .i64 ((Y2 + ((Y4 + 1) * Y1)) + 1)],[.i .i64 ((((Y2 + ((Y4 + 1) * Y1)) + Y4) + 1) + 1)]]:List (List AV)),([[.i .i64 (Y2 + ((Y4 + 1) * Y1))],[.i .i64 ((((Y2 + ((Y4 + 1) * Y1)) + Y4) + 1) + 1)],[.i .i64 (((Y2 + ((Y4 + 1) * Y1)) + Y4) + 1)]]:List (List AV))]) false]⟩) (sB Yr<|sI (Y4 + 1) YW YX<|sI ((Y4 + 1) * Y1) YQ YN<|sI (Y2 + ((Y4 + 1) * Y1)) YY Y13<|sI ((Y2 + ((Y4 + 1) * Y1)) + Y4) Y10 Y14<|sI (((Y2 + ((Y4 + 1) * Y1)) + Y4) + 1) Y19 Y1e<|sI ((Y2 + ((Y4 + 1) * Y1)) + 1) Y1a Y1b<|sI ((((Y2 + ((Y4 + 1) * Y1)) + Y4) + 1) + 1) Y15 Y16<|sI ((((Y2 + ((Y4 + 1) * Y1)) + Y4) + 1) + 1) Y15 Y16<|sC (show (Yx.map fun l=>l.map (cI .i64)).length + [([[.i .i64 (Y2 + ((Y4 + 1) * Y1))],[.i .i64 ((Y2 + ((Y4 + 1) * Y1)) + 1)],[.i .i64 ((((Y2 + ((Y4 + 1) * Y1)) + Y4) + 1) + 1)]]:List (List AV)),([[.i .i64 (Y2 + ((Y4 + 1) * Y1))],[.i .i64 ((((Y2 + ((Y4 + 1) * Y1)) + Y4) + 1) + 1)],[.i .i64 (((Y2 + ((Y4 + 1) * Y1)) + Y4) + 1)]]:List (List AV))].length≤1073741824 from (by simpa using Y1f))<|sI (Y2 + 1) Y1g Y1h<|sN) (by kernel_rfl) (by simp [Z4P,cL,cI]) (ih (Y2 + 1) (Yx ++ [[(Y2 + ((Y4 + 1) * Y1)),((Y2 + ((Y4 + 1) * Y1)) + 1),((((Y2 + ((Y4 + 1) * Y1)) + Y4) + 1) + 1)],[(Y2 + ((Y4 + 1) * Y1)),((((Y2 + ((Y4 + 1) * Y1)) + Y4) + 1) + 1),(((Y2 + ((Y4 + 1) * Y1)) + Y4) + 1)]]) (show 0≤(Y2 + 1) from (by omega)) (show ((Yx ++ [[(Y2 + ((Y4 + 1) * Y1)),((Y2 + ((Y4 + 1) * Y1)) + 1),((((Y2 + ((Y4 + 1) * Y1)) + Y4) + 1) + 1)],[(Y2 + ((Y4 + 1) * Y1)),((((Y2 + ((Y4 + 1) * Y1)) + Y4) + 1) + 1),(((Y2 + ((Y4 + 1) * Y1)) + Y4) + 1)]]).length:Int)=(Yt.length:Int) + 2 * (Y2 + 1) from (by simp_all<;>omega)) (by omega))
  | false =>
   have YM:=odf Yr
   have e:Z14 Y4 Y5 Yc Y1 Yt (k + 1) Y2 Yx=Yx:=by simp only [Z14,Yr,cond_false]
   rw [e]
   exact outR (e:=(.exit 6)) E0Ok Zo [] Z5u [0,1,2,3] (sB Yr<|sN) (by kernel_rfl) (by intro h;cases h)
def Z1B (Y4:Int) (Y5:Int) (Yc:Nat) (Y1:Int) (Yt:(List (List Int))):(List (List Int)):=(Z14 Y4 Y5 Yc Y1 Yt ((Y4 - 0).toNat + 1) 0 Yt)
theorem Z7X (w h:Int) (s:Nat) (x:Int) (r0:List (List Int)):∀ (k:Nat) (i:Int) (r:List (List Int)),0≤i→(Z14 w h s x r0 k i r).length≤r.length + 2 * (w - i).toNat:=by
  intro k
  induction k with
  | zero=>intro i r _;exact Nat.zero_le _
  | succ k ih =>
    intro i r h0
    rw [Z14]
    by_cases hi:i < w
    · rw [decide_eq_true hi,cond_true]
      refine Nat.le_trans (ih (i + 1) _ (by omega)) ?_
      simp only [List.length_append,List.length_cons,List.length_nil];omega
    · rw [decide_eq_false hi,cond_false];omega
theorem Z7y (w h:Int) (s:Nat) (x:Int) (r:List (List Int)):(Z1B w h s x r).length≤r.length + 2 * w.toNat:=by
  unfold Z1B
  refine Nat.le_trans (Z7X _ _ _ _ _ _ _ _ (Int.le_refl 0)) ?_
  omega
def Z15 (Y4:Int) (Y5:Int) (Yc:Nat):Nat→Int→(List (List Int))→(List (List Int))
  | 0,_,_=>default
  | k + 1,Y1,Yt=>(cond (decide (Y1 < Y5))
    (Z15 Y4 Y5 Yc k (Y1 + 1) (Z1B Y4 Y5 Yc Y1 Yt))
    Yt)
def Z3o (Y4:Int) (Y5:Int) (Yc:Nat) (r:(List (List Int))):Ex × St:=((.exit 4),⟨.i .i64 Y4 :: .i .i64 Y5 :: .f .f32 Yc :: .any :: .any :: .any :: .ptr 0 0 0 :: .b false :: .ptr 1 0 0 :: an 6 (.i .i64 Y4 :: .b (Z4 Y4 1 64) :: .b (!(Z4 Y4 1 64)) :: .b (!(Z4 Y4 1 64)) :: .i .i64 Y5 :: .b (Z4 Y5 1 64) :: .b (!(Z4 Y5 1 64)) :: .b (!(Z4 Y5 1 64)) :: .b (!(Z4 Y5 1 64)) :: .i .i64 Y4 :: .i .i64 (Y4 + 1) :: .i .i64 Y5 :: .i .i64 (Y5 + 1) :: .i .i64 ((Y4 + 1) * (Y5 + 1)) :: .b (decide (((Y4 + 1) * (Y5 + 1)) > 64)) :: .b (decide (((Y4 + 1) * (Y5 + 1)) > 64)) :: .b (decide (((Y4 + 1) * (Y5 + 1)) > 64)) :: .f .f32 Yc :: .b (Z6 Yc) :: .b (!(Z6 Yc)) :: .b (!(Z6 Yc)) :: .any :: .agg [.nils, .nils] :: .i .i64 Y5 :: an 65 []),[.box 27 [.nils, .nils], .box 27 [.own 2, .own 3], .vec 32 3 ((Zg Y4 Y5 Yc).map Gv.c) false, .nest 60 (r.map fun l=>l.map (cI .i64)) false]⟩)
def Z4Q (Y4:Int) (Y5:Int) (Yc:Nat) (Y1:Int) (Yt:(List (List Int))):St:=⟨.i .i64 Y4 :: .i .i64 Y5 :: .f .f32 Yc :: .any :: .any :: .any :: .ptr 0 0 0 :: .b false :: .ptr 1 0 0 :: an 6 (.i .i64 Y4 :: .b (Z4 Y4 1 64) :: .b (!(Z4 Y4 1 64)) :: .b (!(Z4 Y4 1 64)) :: .i .i64 Y5 :: .b (Z4 Y5 1 64) :: .b (!(Z4 Y5 1 64)) :: .b (!(Z4 Y5 1 64)) :: .b (!(Z4 Y5 1 64)) :: .i .i64 Y4 :: .i .i64 (Y4 + 1) :: .i .i64 Y5 :: .i .i64 (Y5 + 1) :: .i .i64 ((Y4 + 1) * (Y5 + 1)) :: .b (decide (((Y4 + 1) * (Y5 + 1)) > 64)) :: .b (decide (((Y4 + 1) * (Y5 + 1)) > 64)) :: .b (decide (((Y4 + 1) * (Y5 + 1)) > 64)) :: .f .f32 Yc :: .b (Z6 Yc) :: .b (!(Z6 Yc)) :: .b (!(Z6 Yc)) :: .any :: .agg [.nils, .nils] :: .i .i64 Y5 :: an 25 (.i .i64 Y5 :: .i .i64 Y1 :: an 38 [])),[.box 27 [.nils, .nils], .box 27 [.own 2, .own 3], .vec 32 3 ((Zg Y4 Y5 Yc).map Gv.c) false, .nest 60 (Yt.map fun l=>l.map (cI .i64)) false]⟩
def Z48:List Bool:=(mR false [0,3,3,3,6,21,1,2,25,2,38])
def Z5v:List Bool:=(mR false [0,3,3,3,6,21,1,2,65])
theorem Z5V (Y4:Int) (Y5:Int) (Yc:Nat) (hp0:1≤Y4) (hp1:Y4≤6) (hp2:1≤Y5) (hp3:Y5≤6):∀ (k:Nat) (Y1:Int) (Yt:(List (List Int))) (Z2k:0≤Y1) (Z2l:(Yt.length:Int)≤12 * Y1) (Z2m:Y1≤Y5) (hk:(Y5 - Y1).toNat < k),Lp prog 0 (sub (X1 f29) [1,1,1,1,0,1,0,0]) (Z4Q Y4 Y5 Yc Y1 Yt) (Z3o Y4 Y5 Yc (Z15 Y4 Y5 Yc k Y1 Yt)).1 (Z3o Y4 Y5 Yc (Z15 Y4 Y5 Yc k Y1 Yt)).2:=by
 intro k
 induction k with
 | zero=>intro Y1 Yt Z2k Z2l Z2m hk;exact absurd hk (Nat.not_lt_zero _)
 | succ k ih =>
  intro Y1 Yt Z2k Z2l Z2m hk
  cases Yp:(decide (Y1 < Y5)) with
  | true =>
   have YF:=odt Yp
   have YO:(-9223372036854775808:Int)≤(Y1 + 1):=(by omega)
   have YL:(Y1 + 1)≤(9223372036854775807:Int):=(by omega)
   have e:Z15 Y4 Y5 Yc (k + 1) Y1 Yt=(Z15 Y4 Y5 Yc k (Y1 + 1) (Z1B Y4 Y5 Yc Y1 Yt)):=by simp only [Z15,Yp,cond_true]
   rw [e]
   exact Xb E0Ok Zo [] Z48 [0,1,2,3] (ih (Y1 + 1) (Z1B Y4 Y5 Yc Y1 Yt) (show 0≤(Y1 + 1) from (by omega)) (show ((Z1B Y4 Y5 Yc Y1 Yt).length:Int)≤12 * (Y1 + 1) from (by have q:=Z7y Y4 Y5 Yc Y1 Yt;omega)) (show (Y1 + 1)≤Y5 from (by assumption)) (by omega)) (sB Yp<|sL Z45 4 (X7 (Z3n Y4 Y5 Yc Y1 Yt) (x:=(Z1B Y4 Y5 Yc Y1 Yt)) (Z5U Y4 Y5 Yc Y1 Yt hp0 hp1 hp2 hp3 Z2k Z2l Z2m ((Y4 - 0).toNat + 1) 0 Yt (show 0≤0 from (by omega)) (show (Yt.length:Int)=(Yt.length:Int) + 2 * 0 from (by omega)) (Nat.lt_succ_self _)) rfl)<|sI (Y1 + 1) YO YL<|sN) (by kernel_rfl)
  | false =>
   have YF:=odf Yp
   have e:Z15 Y4 Y5 Yc (k + 1) Y1 Yt=Yt:=by simp only [Z15,Yp,cond_false]
   rw [e]
   exact outR (e:=(.exit 4)) E0Ok Zo [] Z5v [0,1,2,3] (sB Yp<|sN) (by kernel_rfl) (by intro h;cases h)
def Z9 (Y4:Int) (Y5:Int) (Yc:Nat):(List (List Int)):=(Z15 Y4 Y5 Yc ((Y5 - 0).toNat + 1) 0 ([]:List (List Int)))
theorem Z7Y (w h:Int) (s:Nat) (hw:w≤6):∀ (k:Nat) (i:Int) (r:List (List Int)),0≤i→(Z15 w h s k i r).length≤r.length + 12 * (h - i).toNat:=by
  intro k
  induction k with
  | zero=>intro i r _;exact Nat.zero_le _
  | succ k ih =>
    intro i r h0
    rw [Z15]
    by_cases hi:i < h
    · rw [decide_eq_true hi,cond_true]
      refine Nat.le_trans (ih (i + 1) _ (by omega)) ?_
      have q:=Z7y w h s i r;omega
    · rw [decide_eq_false hi,cond_false];omega
theorem Z7z (w h:Int) (s:Nat) (hw:w≤6) (hh:h≤6):(Z9 w h s).length≤72:=by
  unfold Z9
  have q:=Z7Y w h s hw ((h - 0).toNat + 1) 0 [] (Int.le_refl 0)
  rw [List.length_nil] at q
  omega
theorem Z7Z (w h:Int) (s:Nat) (x:Int) (r0:List (List Int)):∀ (k:Nat) (i:Int) (r:List (List Int)),(∀ t∈r,t.length=3)→∀ t∈Z14 w h s x r0 k i r,t.length=3:=by
  intro k
  induction k with
  | zero=>intro i r _ t ht;cases ht
  | succ k ih =>
    intro i r hr
    rw [Z14]
    cases decide (i < w) with
    | true =>
      rw [cond_true]
      refine ih (i + 1) _ (fun t ht => ?_)
      rcases List.mem_append.1 ht with ht | ht
      · exact hr t ht
      · simp only [List.mem_cons,List.not_mem_nil,or_false] at ht
        rcases ht with rfl | rfl<;>rfl
    | false=>rw [cond_false];exact hr
theorem Z80 (w h:Int) (s:Nat):∀ (k:Nat) (i:Int) (r:List (List Int)),(∀ t∈r,t.length=3)→∀ t∈Z15 w h s k i r,t.length=3:=by
  intro k
  induction k with
  | zero=>intro i r _ t ht;cases ht
  | succ k ih =>
    intro i r hr
    rw [Z15]
    cases decide (i < h) with
    | true=>rw [cond_true];exact ih (i + 1) _ (Z7Z _ _ _ _ _ _ _ _ hr)
    | false=>rw [cond_false];exact hr
theorem Z7U (w h:Int) (s:Nat):∀ t∈Z9 w h s,t.length=3:=Z80 w h s _ _ _ (fun t ht=>by cases ht)
def Z1 (Y4:Int) (Y5:Int) (Yc:Nat):Gm × Bool:=(cond (Z4 Y4 1 64)
  (cond (Z4 Y5 1 64)
    (cond (decide (((Y4 + 1) * (Y5 + 1)) > 64))
      ((⟨([]:List Gv),([]:List (List Int))⟩:Gm),false)
      (cond (Z6 Yc)
        (cond (ZA (⟨(Zg Y4 Y5 Yc),(Z9 Y4 Y5 Yc)⟩:Gm))
          ((Zm (⟨(Zg Y4 Y5 Yc),(Z9 Y4 Y5 Yc)⟩:Gm)).1,(Zm (⟨(Zg Y4 Y5 Yc),(Z9 Y4 Y5 Yc)⟩:Gm)).2.1)
          ((⟨(Zm (⟨(Zg Y4 Y5 Yc),(Z9 Y4 Y5 Yc)⟩:Gm)).2.2.1,(Zm (⟨(Zg Y4 Y5 Yc),(Z9 Y4 Y5 Yc)⟩:Gm)).2.2.2⟩:Gm),(Zm (⟨(Zg Y4 Y5 Yc),(Z9 Y4 Y5 Yc)⟩:Gm)).2.1))
        ((⟨([]:List Gv),([]:List (List Int))⟩:Gm),false)))
    ((⟨([]:List Gv),([]:List (List Int))⟩:Gm),false))
  ((⟨([]:List Gv),([]:List (List Int))⟩:Gm),false))
set_option maxHeartbeats 1000000 in
theorem Z6A (Y4:Int) (Y5:Int) (Yc:Nat) (hp0:1≤Y4) (hp1:Y4≤6) (hp2:1≤Y5) (hp3:Y5≤6)  : Fn prog 29 [.i .i64 Y4, .i .i64 Y5, .f .f32 Yc] (.tup [.agg [.own 0, .own 1], .b ((Z1 Y4 Y5 Yc).2)]) [.vec 32 3 (((Z1 Y4 Y5 Yc).1.Pq).map Gv.c) false, .nest 60 (((Z1 Y4 Y5 Yc).1.Tr).map fun l=>l.map (cI .i64)) false]:=by
 have p {a C} (s:Scr a C):=sF (Z2H Y4 1 64)<|s
 cases h0:(Z4 Y4 1 64) with
 | true =>
  have q {a C} (s:Scr a C):=p (sB' h0<|sB' h0<|sF (Z2H Y5 1 64)<|sB' h0<|sB' h0<|s)
  clear p
  cases h1:(Z4 Y5 1 64) with
  | true =>
   have y0:(-9223372036854775808:Int)≤(Y4 + 1):=by clear q;exact (by omega)
   have y1:(Y4 + 1)≤(9223372036854775807:Int):=by clear q;exact (by omega)
   have y2:(-9223372036854775808:Int)≤(Y5 + 1):=by clear q;exact (by omega)
   have y3:(Y5 + 1)≤(9223372036854775807:Int):=by clear q;exact (by omega)
   have y4:(-9223372036854775808:Int)≤((Y4 + 1) * (Y5 + 1)):=by clear q;exact (by ((have q:=Z1Y (a:=Y4 + 1) (b:=Y5 + 1) (by omega) (by omega) (by omega) (by omega);omega)))
   have y5:((Y4 + 1) * (Y5 + 1))≤(9223372036854775807:Int):=by clear q;exact (by ((have q:=Z1Y (a:=Y4 + 1) (b:=Y5 + 1) (by omega) (by omega) (by omega) (by omega);omega)))
   have p {a C} (s:Scr a C):=q (sB' h1<|sB' h1<|sI (Y4 + 1) y0 y1<|sB' h1<|sB' h1<|sI (Y5 + 1) y2 y3<|sB' h1<|sI ((Y4 + 1) * (Y5 + 1)) y4 y5<|sB' h1<|sB' h1<|s)
   clear q
   cases h2:(decide (((Y4 + 1) * (Y5 + 1)) > 64)) with
   | true =>
    have gh2:=odt h2
    refine fnS E0Ok Zo (c:=X1 f29) [(.row 0 0, .vec 32 3 [] false),(.row 0 1, .nest 60 [] false)] (.tup [.agg [.own 0, .own 1], .b false]) [.vec 32 3 [] false, .nest 60 [] false] func29 (p (sB h2<|sB h2<|sB h2<|sB h2<|sB (show true=true from rfl)<|sK [1,2] sN)) rfl (by kernel_rfl) (by kernel_rfl) rfl ?_ ?_
    · simp only [Z1,h0,h1,h2,cond_true]
    · simp [Z1,h0,h1,h2,Gv.c,cL,cI]
   | false =>
    have gh2:=odf h2
    have q {a C} (s:Scr a C):=p (sB h2<|sB h2<|sF (Z35 Yc)<|sB h2<|sB h2<|s)
    clear p
    cases h3:(Z6 Yc) with
    | true =>
     have p {a C} (s:Scr a C):=q (sB' h3<|sI (Y5 + 1) y2 y3<|sL Z44 2 (Lp.nil (st:=⟨.i .i64 Y4 :: .i .i64 Y5 :: .f .f32 Yc :: .any :: .any :: .any :: .ptr 0 0 0 :: .b false :: .ptr 1 0 0 :: an 6 (.i .i64 Y4 :: .b (Z4 Y4 1 64) :: .b (!(Z4 Y4 1 64)) :: .b (!(Z4 Y4 1 64)) :: .i .i64 Y5 :: .b (Z4 Y5 1 64) :: .b (!(Z4 Y5 1 64)) :: .b (!(Z4 Y5 1 64)) :: .b (!(Z4 Y5 1 64)) :: .i .i64 Y4 :: .i .i64 (Y4 + 1) :: .i .i64 Y5 :: .i .i64 (Y5 + 1) :: .i .i64 ((Y4 + 1) * (Y5 + 1)) :: .b (decide (((Y4 + 1) * (Y5 + 1)) > 64)) :: .b (decide (((Y4 + 1) * (Y5 + 1)) > 64)) :: .b (decide (((Y4 + 1) * (Y5 + 1)) > 64)) :: .f .f32 Yc :: .b (Z6 Yc) :: .b (!(Z6 Yc)) :: .b (!(Z6 Yc)) :: .any :: .agg [.nils, .nils] :: .i .i64 Y5 :: .i .i64 (Y5 + 1) :: .i .i64 0 :: an 63 []),[.box 27 [.nils, .nils], .box 27 [.nils, .nils]]⟩) (st2:=⟨.i .i64 Y4 :: .i .i64 Y5 :: .f .f32 Yc :: .any :: .any :: .any :: .ptr 0 0 0 :: .b false :: .ptr 1 0 0 :: an 6 (.i .i64 Y4 :: .b (Z4 Y4 1 64) :: .b (!(Z4 Y4 1 64)) :: .b (!(Z4 Y4 1 64)) :: .i .i64 Y5 :: .b (Z4 Y5 1 64) :: .b (!(Z4 Y5 1 64)) :: .b (!(Z4 Y5 1 64)) :: .b (!(Z4 Y5 1 64)) :: .i .i64 Y4 :: .i .i64 (Y4 + 1) :: .i .i64 Y5 :: .i .i64 (Y5 + 1) :: .i .i64 ((Y4 + 1) * (Y5 + 1)) :: .b (decide (((Y4 + 1) * (Y5 + 1)) > 64)) :: .b (decide (((Y4 + 1) * (Y5 + 1)) > 64)) :: .b (decide (((Y4 + 1) * (Y5 + 1)) > 64)) :: .f .f32 Yc :: .b (Z6 Yc) :: .b (!(Z6 Yc)) :: .b (!(Z6 Yc)) :: .any :: .agg [.nils, .nils] :: .i .i64 Y5 :: .i .i64 (Y5 + 1) :: .i .i64 0 :: an 63 []),[.box 27 [.nils, .nils], .box 27 [.own 2, .nils], .vec 32 3 [] false]⟩) (ps:=[(.row 1 0, .vec 32 3 [] false)]) rfl (XI (st2:=⟨.i .i64 Y4 :: .i .i64 Y5 :: .f .f32 Yc :: .any :: .any :: .any :: .ptr 0 0 0 :: .b false :: .ptr 1 0 0 :: an 6 (.i .i64 Y4 :: .b (Z4 Y4 1 64) :: .b (!(Z4 Y4 1 64)) :: .b (!(Z4 Y4 1 64)) :: .i .i64 Y5 :: .b (Z4 Y5 1 64) :: .b (!(Z4 Y5 1 64)) :: .b (!(Z4 Y5 1 64)) :: .b (!(Z4 Y5 1 64)) :: .i .i64 Y4 :: .i .i64 (Y4 + 1) :: .i .i64 Y5 :: .i .i64 (Y5 + 1) :: .i .i64 ((Y4 + 1) * (Y5 + 1)) :: .b (decide (((Y4 + 1) * (Y5 + 1)) > 64)) :: .b (decide (((Y4 + 1) * (Y5 + 1)) > 64)) :: .b (decide (((Y4 + 1) * (Y5 + 1)) > 64)) :: .f .f32 Yc :: .b (Z6 Yc) :: .b (!(Z6 Yc)) :: .b (!(Z6 Yc)) :: .any :: .agg [.nils, .nils] :: .i .i64 Y5 :: .i .i64 (Y5 + 1) :: .i .i64 0 :: an 63 []),[.box 27 [.nils, .nils], .box 27 [.own 2, .nils], .vec 32 3 [] false]⟩) (X7 (Z3m Y4 Y5 Yc) (x:=(Zg Y4 Y5 Yc)) (Z5T Y4 Y5 Yc hp0 hp1 hp2 hp3 (((Y5 + 1) - 0).toNat + 1) 0 ([]:List Gv) (show 0≤0 from (by omega)) (show (([]:List Gv).length:Int)≤7 * 0 from (by simp;done)) (show 0≤Y5 + 1 from (by omega)) (Nat.lt_succ_self _)) rfl) (by simp [Z4O,Gv.c])))<|sL Z48 3 (Lp.nil (st:=⟨.i .i64 Y4 :: .i .i64 Y5 :: .f .f32 Yc :: .any :: .any :: .any :: .ptr 0 0 0 :: .b false :: .ptr 1 0 0 :: an 6 (.i .i64 Y4 :: .b (Z4 Y4 1 64) :: .b (!(Z4 Y4 1 64)) :: .b (!(Z4 Y4 1 64)) :: .i .i64 Y5 :: .b (Z4 Y5 1 64) :: .b (!(Z4 Y5 1 64)) :: .b (!(Z4 Y5 1 64)) :: .b (!(Z4 Y5 1 64)) :: .i .i64 Y4 :: .i .i64 (Y4 + 1) :: .i .i64 Y5 :: .i .i64 (Y5 + 1) :: .i .i64 ((Y4 + 1) * (Y5 + 1)) :: .b (decide (((Y4 + 1) * (Y5 + 1)) > 64)) :: .b (decide (((Y4 + 1) * (Y5 + 1)) > 64)) :: .b (decide (((Y4 + 1) * (Y5 + 1)) > 64)) :: .f .f32 Yc :: .b (Z6 Yc) :: .b (!(Z6 Yc)) :: .b (!(Z6 Yc)) :: .any :: .agg [.nils, .nils] :: .i .i64 Y5 :: an 25 (.i .i64 Y5 :: .i .i64 0 :: an 38 [])),[.box 27 [.nils, .nils], .box 27 [.own 2, .nils], .vec 32 3 ((Zg Y4 Y5 Yc).map Gv.c) false]⟩) (st2:=⟨.i .i64 Y4 :: .i .i64 Y5 :: .f .f32 Yc :: .any :: .any :: .any :: .ptr 0 0 0 :: .b false :: .ptr 1 0 0 :: an 6 (.i .i64 Y4 :: .b (Z4 Y4 1 64) :: .b (!(Z4 Y4 1 64)) :: .b (!(Z4 Y4 1 64)) :: .i .i64 Y5 :: .b (Z4 Y5 1 64) :: .b (!(Z4 Y5 1 64)) :: .b (!(Z4 Y5 1 64)) :: .b (!(Z4 Y5 1 64)) :: .i .i64 Y4 :: .i .i64 (Y4 + 1) :: .i .i64 Y5 :: .i .i64 (Y5 + 1) :: .i .i64 ((Y4 + 1) * (Y5 + 1)) :: .b (decide (((Y4 + 1) * (Y5 + 1)) > 64)) :: .b (decide (((Y4 + 1) * (Y5 + 1)) > 64)) :: .b (decide (((Y4 + 1) * (Y5 + 1)) > 64)) :: .f .f32 Yc :: .b (Z6 Yc) :: .b (!(Z6 Yc)) :: .b (!(Z6 Yc)) :: .any :: .agg [.nils, .nils] :: .i .i64 Y5 :: an 25 (.i .i64 Y5 :: .i .i64 0 :: an 38 [])),[.box 27 [.nils, .nils], .box 27 [.own 2, .own 3], .vec 32 3 ((Zg Y4 Y5 Yc).map Gv.c) false, .nest 60 [] false]⟩) (ps:=[(.row 1 1, .nest 60 [] false)]) rfl (XI (st2:=⟨.i .i64 Y4 :: .i .i64 Y5 :: .f .f32 Yc :: .any :: .any :: .any :: .ptr 0 0 0 :: .b false :: .ptr 1 0 0 :: an 6 (.i .i64 Y4 :: .b (Z4 Y4 1 64) :: .b (!(Z4 Y4 1 64)) :: .b (!(Z4 Y4 1 64)) :: .i .i64 Y5 :: .b (Z4 Y5 1 64) :: .b (!(Z4 Y5 1 64)) :: .b (!(Z4 Y5 1 64)) :: .b (!(Z4 Y5 1 64)) :: .i .i64 Y4 :: .i .i64 (Y4 + 1) :: .i .i64 Y5 :: .i .i64 (Y5 + 1) :: .i .i64 ((Y4 + 1) * (Y5 + 1)) :: .b (decide (((Y4 + 1) * (Y5 + 1)) > 64)) :: .b (decide (((Y4 + 1) * (Y5 + 1)) > 64)) :: .b (decide (((Y4 + 1) * (Y5 + 1)) > 64)) :: .f .f32 Yc :: .b (Z6 Yc) :: .b (!(Z6 Yc)) :: .b (!(Z6 Yc)) :: .any :: .agg [.nils, .nils] :: .i .i64 Y5 :: an 25 (.i .i64 Y5 :: .i .i64 0 :: an 38 [])),[.box 27 [.nils, .nils], .box 27 [.own 2, .own 3], .vec 32 3 ((Zg Y4 Y5 Yc).map Gv.c) false, .nest 60 [] false]⟩) (X7 (Z3o Y4 Y5 Yc) (x:=(Z9 Y4 Y5 Yc)) (Z5V Y4 Y5 Yc hp0 hp1 hp2 hp3 ((Y5 - 0).toNat + 1) 0 ([]:List (List Int)) (show 0≤0 from (by omega)) (show (([]:List (List Int)).length:Int)≤12 * 0 from (by simp;done)) (show 0≤Y5 from (by omega)) (Nat.lt_succ_self _)) rfl) (by simp [Z4Q,cL,cI])))<|s)
     clear q
     cases h4:(ZA (⟨(Zg Y4 Y5 Yc),(Z9 Y4 Y5 Yc)⟩:Gm)) with
     | true =>
      have y6:(⟨(Zg Y4 Y5 Yc),(Z9 Y4 Y5 Yc)⟩:Gm).Pq.length≤1073741824:=by clear p;exact (by exact Nat.le_trans (Z7x Y4 Y5 Yc (by omega) (by omega)) (by omega))
      have y7:(⟨(Zg Y4 Y5 Yc),(Z9 Y4 Y5 Yc)⟩:Gm).Tr.length≤1073741824:=by clear p;exact (by exact Nat.le_trans (Z7z Y4 Y5 Yc (by omega) (by omega)) (by omega))
      have y8:∀ t∈(⟨(Zg Y4 Y5 Yc),(Z9 Y4 Y5 Yc)⟩:Gm).Tr,t.length≤1073741824:=by clear p;exact (by intro t ht;have q:=Z7U Y4 Y5 Yc t ht;omega)
      refine fnS E0Ok Zo (c:=X1 f29) [] (.tup [.agg [.own 0, .own 1], .b ((Zm (⟨(Zg Y4 Y5 Yc),(Z9 Y4 Y5 Yc)⟩:Gm)).2.1)]) [.vec 32 3 (((Zm (⟨(Zg Y4 Y5 Yc),(Z9 Y4 Y5 Yc)⟩:Gm)).1.Pq).map Gv.c) false, .nest 60 (((Zm (⟨(Zg Y4 Y5 Yc),(Z9 Y4 Y5 Yc)⟩:Gm)).1.Tr).map fun l=>l.map (cI .i64)) false] func29 (p (sS (Xj.frame (Z2z (⟨(Zg Y4 Y5 Yc),(Z9 Y4 Y5 Yc)⟩:Gm) y6 y7 y8 h4) [2,3] (R:=[.box 27 [.nils, .nils], .box 27 [.own 2, .own 3], .vec 32 3 ((Zg Y4 Y5 Yc).map Gv.c) false, .nest 60 ((Z9 Y4 Y5 Yc).map fun l=>l.map (cI .i64)) false]) (args':=[.agg [.own 2, .own 3]]) rfl rfl rfl rfl rfl rfl)<|sK [4,5] sN)) rfl (by kernel_rfl) (by kernel_rfl) rfl ?_ ?_
      · simp only [Z1,h0,h1,h2,h3,h4,cond_true,cond_false]
      · simp [Z1,h0,h1,h2,h3,h4]
     | false =>
      have y6:(⟨(Zg Y4 Y5 Yc),(Z9 Y4 Y5 Yc)⟩:Gm).Pq.length≤1073741824:=by clear p;exact (by exact Nat.le_trans (Z7x Y4 Y5 Yc (by omega) (by omega)) (by omega))
      have y7:(⟨(Zg Y4 Y5 Yc),(Z9 Y4 Y5 Yc)⟩:Gm).Tr.length≤1073741824:=by clear p;exact (by exact Nat.le_trans (Z7z Y4 Y5 Yc (by omega) (by omega)) (by omega))
      have y8:∀ t∈(⟨(Zg Y4 Y5 Yc),(Z9 Y4 Y5 Yc)⟩:Gm).Tr,t.length≤1073741824:=by clear p;exact (by intro t ht;have q:=Z7U Y4 Y5 Yc t ht;omega)
      refine fnS E0Ok Zo (c:=X1 f29) [] (.tup [.agg [.own 0, .own 1], .b ((Zm (⟨(Zg Y4 Y5 Yc),(Z9 Y4 Y5 Yc)⟩:Gm)).2.1)]) [.vec 32 3 (((Zm (⟨(Zg Y4 Y5 Yc),(Z9 Y4 Y5 Yc)⟩:Gm)).2.2.1).map Gv.c) false, .nest 60 (((Zm (⟨(Zg Y4 Y5 Yc),(Z9 Y4 Y5 Yc)⟩:Gm)).2.2.2).map fun l=>l.map (cI .i64)) false] func29 (p (sS (Xj.frame (Z2y (⟨(Zg Y4 Y5 Yc),(Z9 Y4 Y5 Yc)⟩:Gm) y6 y7 y8 h4) [2,3] (R:=[.box 27 [.nils, .nils], .box 27 [.own 2, .own 3], .vec 32 3 ((Zg Y4 Y5 Yc).map Gv.c) false, .nest 60 ((Z9 Y4 Y5 Yc).map fun l=>l.map (cI .i64)) false]) (args':=[.agg [.own 2, .own 3]]) rfl rfl rfl rfl rfl rfl)<|sK [2,3] sN)) rfl (by kernel_rfl) (by kernel_rfl) rfl ?_ ?_
      · simp only [Z1,h0,h1,h2,h3,h4,cond_true,cond_false]
      · simp [Z1,h0,h1,h2,h3,h4]
    | false =>
     refine fnS E0Ok Zo (c:=X1 f29) [(.row 0 0, .vec 32 3 [] false),(.row 0 1, .nest 60 [] false)] (.tup [.agg [.own 0, .own 1], .b false]) [.vec 32 3 [] false, .nest 60 [] false] func29 (q (sB' h3<|sK [1,2] sN)) rfl (by kernel_rfl) (by kernel_rfl) rfl ?_ ?_
     · simp only [Z1,h0,h1,h2,h3,cond_true,cond_false]
     · simp [Z1,h0,h1,h2,h3,Gv.c,cL,cI]
  | false =>
   refine fnS E0Ok Zo (c:=X1 f29) [(.row 0 0, .vec 32 3 [] false),(.row 0 1, .nest 60 [] false)] (.tup [.agg [.own 0, .own 1], .b false]) [.vec 32 3 [] false, .nest 60 [] false] func29 (q (sB' h1<|sB' h1<|sB' h1<|sB' h1<|sB' h1<|sB' h1<|sB' h1<|sB (show true=true from rfl)<|sB (show true=true from rfl)<|sB (show true=true from rfl)<|sB (show true=true from rfl)<|sB (show true=true from rfl)<|sK [1,2] sN)) rfl (by kernel_rfl) (by kernel_rfl) rfl ?_ ?_
   · simp only [Z1,h0,h1,cond_true,cond_false]
   · simp [Z1,h0,h1,Gv.c,cL,cI]
 | false =>
  refine fnS E0Ok Zo (c:=X1 f29) [(.row 0 0, .vec 32 3 [] false),(.row 0 1, .nest 60 [] false)] (.tup [.agg [.own 0, .own 1], .b false]) [.vec 32 3 [] false, .nest 60 [] false] func29 (p (sB' h0<|sB' h0<|sB' h0<|sB' h0<|sB (show true=true from rfl)<|sB (show true=true from rfl)<|sB (show true=true from rfl)<|sB (show true=true from rfl)<|sB (show true=true from rfl)<|sB (show true=true from rfl)<|sB (show true=true from rfl)<|sB (show true=true from rfl)<|sB (show true=true from rfl)<|sB (show true=true from rfl)<|sB (show true=true from rfl)<|sB (show true=true from rfl)<|sK [1,2] sN)) rfl (by kernel_rfl) (by kernel_rfl) rfl ?_ ?_
  · simp only [Z1,h0,cond_false]
  · simp [Z1,h0,Gv.c,cL,cI]
def Z5w (Yj:Nat):Nat:=(cn .f64 (Int.toNat (bitsOf .andNot .u64 ((Yj:Nat):Int) 9223372036854775808)))
theorem Z7m (Yj:Nat) (hp0:Xg .f64 Yj=false)  : Fn prog 117 [.f .f64 Yj] (.f .f64 (Z5w Yj)) []:=by
 have y0:Int.toNat (bitsOf .andNot .u64 ((Yj:Nat):Int) 9223372036854775808) < 2 ^ 64:=(by (have q:=X62 ((Yj:Nat):Int) 9223372036854775808;omega))
 refine fnS E0Ok Zo (c:=X1 f117) [] (.f .f64 (cn .f64 (Int.toNat (bitsOf .andNot .u64 ((Yj:Nat):Int) 9223372036854775808)))) [] func117 (sC (show Xg .f64 Yj=false from (by assumption))<|sQ (bitsOf .andNot .u64 ((Yj:Nat):Int) 9223372036854775808)<|sC y0<|sK [] sN) rfl (by kernel_rfl) (by kernel_rfl) rfl ?_ ?_
 · rfl
 · rfl
def Zb (Yj:Nat):Nat:=(cond (fcmp .lss .f64 (fop .sub .f64 Yj (X0 .f64 ((floatToIntVal .f64 Yj .i64).getD 0))) 0)
  (fop .add .f64 (fop .sub .f64 Yj (X0 .f64 ((floatToIntVal .f64 Yj .i64).getD 0))) 4607182418800017408)
  (fop .sub .f64 Yj (X0 .f64 ((floatToIntVal .f64 Yj .i64).getD 0))))
theorem Z6B (Yj:Nat) (hp0:(floatToIntVal .f64 Yj .i64).isSome=true)  : Fn prog 129 [.f .f64 Yj] (.f .f64 (Zb Yj)) []:=by
 have p {a C} (s:Scr a C):=sC (show floatToIntVal .f64 Yj .i64=some ((floatToIntVal .f64 Yj .i64).getD 0) from (by obtain ⟨n,h⟩:=Option.isSome_iff_exists.1 hp0;rw [h];rfl))<|sA (.num ((floatToIntVal .f64 Yj .i64).getD 0))<|s
 cases h0:(fcmp .lss .f64 (fop .sub .f64 Yj (X0 .f64 ((floatToIntVal .f64 Yj .i64).getD 0))) 0) with
 | true =>
  refine fnS E0Ok Zo (c:=X1 f129) [] (.f .f64 (fop .add .f64 (fop .sub .f64 Yj (X0 .f64 ((floatToIntVal .f64 Yj .i64).getD 0))) 4607182418800017408)) [] func129 (p (sB h0<|sK [] sN)) rfl (by kernel_rfl) (by kernel_rfl) rfl ?_ ?_
  · simp only [Zb,h0,cond_true]
  · rfl
 | false =>
  refine fnS E0Ok Zo (c:=X1 f129) [] (.f .f64 (fop .sub .f64 Yj (X0 .f64 ((floatToIntVal .f64 Yj .i64).getD 0)))) [] func129 (p (sB h0<|sK [] sN)) rfl (by kernel_rfl) (by kernel_rfl) rfl ?_ ?_
  · simp only [Zb,h0,cond_false]
  · rfl
end Go.Ab
