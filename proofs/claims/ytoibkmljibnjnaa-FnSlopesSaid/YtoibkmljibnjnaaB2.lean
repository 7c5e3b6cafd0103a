/- The functions of this seat as plain Lean, and that the program's are these. Printed by a program of the prover's own. -/
import Derived.Test.YtoibkmljibnjnaaB1
set_option linter.unusedVariables false
set_option linter.unusedSimpArgs false
set_option maxRecDepth 100000
namespace Go.Ab
open Go.RowKit Go.Proofs.Try
def Z5V:List Bool:=(mR false [0,1,1,5,6,16,2,7,53])
set_option maxHeartbeats 1000000 in
theorem Z6r (Y4:Gm) (Yj:Int) (Yt:(List Bool)) (hp0:Y4.Pq.length≤1073741824) (hp1:Y4.Tr.length≤1073741824) (hp2:∀ t∈Y4.Tr,t.length≤1073741824) (hp3:OkE Y4.Pq.length Y4.Tr) (Z1j:0≤Yj) (Z2v:Yt.length=(IntKind.wrap .i64 ((Y4.Pq.length:Int) * (Y4.Pq.length:Int))).toNat) (Z8I:(decide (Yj < (Y4.Tr.length:Int)))=true):∀ (k:Nat) (Yy:Int) (Yu:(List Bool)) (Z1V:0≤Yy) (Z4l:Yu.length=Yt.length) (hk:((3:Int) - Yy).toNat < k),Lp prog 0 (sub (X0 f59) [1,1,1,0,1,0,0,1,0,0,1,1,0,0]) (Z59 Y4 Yj Yt Yy Yu) (Z3m Y4 Yj Yt (ZC Y4 Yj Yt k Yy Yu)).1 (Z3m Y4 Yj Yt (ZC Y4 Yj Yt k Yy Yu)).2:=by
 intro k
 induction k with
 | zero=>intro Yy Yu Z1V Z4l hk;exact absurd hk (Nat.not_lt_zero _)
 | succ k ih =>
  intro Yy Yu Z1V Z4l hk
  cases YA:(decide (Yy < 3)) with
  | true =>
   have YC:=odt YA
   have Y19:(0:Int)≤Yy:=(by assumption)
   have Y1a:Yy < ((Y4.Tr.getD Yj.toNat default).length:Int):=(by ((have q:=OkE.at (by assumption) Z1j (odt (by assumption)) Z1V (odt (by assumption));omega)))
   have Y16:(-9223372036854775808:Int)≤(Yy + 1):=(by omega)
   have Y17:(Yy + 1)≤(9223372036854775807:Int):=(by omega)
   have Y1c:(0:Int)≤(Int.tmod (Yy + 1) 3):=(by ((have q:=OkE.at (by assumption) Z1j (odt (by assumption)) Z1V (odt (by assumption));omega)))
   have Y1f:(Int.tmod (Yy + 1) 3) < ((Y4.Tr.getD Yj.toNat default).length:Int):=(by ((have q:=OkE.at (by assumption) Z1j (odt (by assumption)) Z1V (odt (by assumption));omega)))
   have Y1b:(0:Int)≤(IntKind.wrap .i64 ((IntKind.wrap .i64 ((ZP Y4 Yj Yy) * (Y4.Pq.length:Int))) + (ZV Y4 Yj Yy))):=(by ((have q:=OkE.at (by assumption) Z1j (odt (by assumption)) Z1V (odt (by assumption));have q2:=ix2F q.2.2.2.2.2.1 (Z5E q.2.2.2.1 q.2.2.2.2.1).1 (Z5E q.2.2.2.1 q.2.2.2.2.1).2 (Z5F q.2.2.2.1 q.2.2.2.2.1).1 (Z5F q.2.2.2.1 q.2.2.2.2.1).2;unfold ZP ZV;omega)))
   have Y1d:(IntKind.wrap .i64 ((IntKind.wrap .i64 ((ZP Y4 Yj Yy) * (Y4.Pq.length:Int))) + (ZV Y4 Yj Yy))) < (Yu.length:Int):=(by ((have q:=OkE.at (by assumption) Z1j (odt (by assumption)) Z1V (odt (by assumption));have q2:=ix2F q.2.2.2.2.2.1 (Z5E q.2.2.2.1 q.2.2.2.2.1).1 (Z5E q.2.2.2.1 q.2.2.2.2.1).2 (Z5F q.2.2.2.1 q.2.2.2.2.1).1 (Z5F q.2.2.2.1 q.2.2.2.2.1).2;unfold ZP ZV;omega)))
   have Y1m:(IntKind.wrap .i64 ((IntKind.wrap .i64 ((ZP Y4 Yj Yy) * (Y4.Pq.length:Int))) + (ZV Y4 Yj Yy))).toNat < Yu.length:=(by omega)
   have e:ZC Y4 Yj Yt (k + 1) Yy Yu=(ZC Y4 Yj Yt k (Yy + 1) (Yu.set ((IntKind.wrap .i64 ((IntKind.wrap .i64 ((ZP Y4 Yj Yy) * (Y4.Pq.length:Int))) + (ZV Y4 Yj Yy))).toNat) true)):=by simp only [ZC,YA,cond_true]
   rw [e]
   exact X14 E0Ok Ze [] Z4k [0] (⟨.ref (Gm.c Y4) 0 :: .any :: .nils :: .i .i64 (Y4.Pq.length:Int) :: .own 0 :: .i .i64 Yj :: .sl ((Y4.Tr.getD Yj.toNat default).map (cI .i64)) :: .i .i64 (Yy + 1) :: an 5 (.ref (Gm.c Y4) 0 :: .ref (Gm.c Y4) 0 :: .ref (Gm.c Y4) 0 :: .sl (Y4.Pq.map Gv.c) :: .i .i64 (Y4.Pq.length:Int) :: .i .i64 (Y4.Pq.length:Int) :: .i .i64 (Y4.Pq.length:Int) :: .i .i64 (IntKind.wrap .i64 ((Y4.Pq.length:Int) * (Y4.Pq.length:Int))) :: .own 0 :: .i .i64 Yj :: .ref (Gm.c Y4) 0 :: .ref (Gm.c Y4) 0 :: .ref (Gm.c Y4) 1 :: .sl (Y4.Tr.map (cL (cI .i64))) :: .i .i64 (Y4.Tr.length:Int) :: .b (decide (Yj < (Y4.Tr.length:Int))) :: .any :: .any :: .ref (Gm.c Y4) 0 :: .ref (Gm.c Y4) 0 :: .ref (Gm.c Y4) 1 :: .sl (Y4.Tr.map (cL (cI .i64))) :: .i .i64 Yj :: .ref [.sl ((Y4.Tr.getD Yj.toNat default).map (cI .i64))] 0 :: .sl ((Y4.Tr.getD Yj.toNat default).map (cI .i64)) :: an 53 []),[.vec 4 1 ((Yu.map cB).set ((IntKind.wrap .i64 ((IntKind.wrap .i64 ((ZP Y4 Yj Yy) * (Y4.Pq.length:Int))) + (ZV Y4 Yj Yy))).toNat) [.b true]) false]⟩) (sB YA<|sG (cI .i64) (Y4.Tr.getD Yj.toNat default) Yy Y19 Y1a<|sI (Yy + 1) Y16 Y17<|sC (show (3:Int)≠0 from (by decide))<|sQ (Int.tmod (Yy + 1) 3)<|sG (cI .i64) (Y4.Tr.getD Yj.toNat default) (Int.tmod (Yy + 1) 3) Y1c Y1f<|sF (Z7Z ((Y4.Tr.getD Yj.toNat default).getD Yy.toNat default) ((Y4.Tr.getD Yj.toNat default).getD (Int.tmod (Yy + 1) 3).toNat default))<|sW .i64 ((ZP Y4 Yj Yy) * (Y4.Pq.length:Int))<|sF (Z80 ((Y4.Tr.getD Yj.toNat default).getD Yy.toNat default) ((Y4.Tr.getD Yj.toNat default).getD (Int.tmod (Yy + 1) 3).toNat default))<|sW .i64 ((IntKind.wrap .i64 ((ZP Y4 Yj Yy) * (Y4.Pq.length:Int))) + (ZV Y4 Yj Yy))<|sX cB Yu (IntKind.wrap .i64 ((IntKind.wrap .i64 ((ZP Y4 Yj Yy) * (Y4.Pq.length:Int))) + (ZV Y4 Yj Yy))) Y1b Y1d<|sC (X3B (c:=cB) (l:=Yu) Y1m)<|sI (Yy + 1) Y16 Y17<|sN) (by kernel_rfl) (by simp [Z59,cL,cI,cB]) (ih (Yy + 1) (Yu.set ((IntKind.wrap .i64 ((IntKind.wrap .i64 ((ZP Y4 Yj Yy) * (Y4.Pq.length:Int))) + (ZV Y4 Yj Yy))).toNat) true) (show 0≤(Yy + 1) from (by omega)) (show (Yu.set ((IntKind.wrap .i64 ((IntKind.wrap .i64 ((ZP Y4 Yj Yy) * (Y4.Pq.length:Int))) + (ZV Y4 Yj Yy))).toNat) true).length=Yt.length from (by simp_all<;>omega)) (by omega))
  | false =>
   have YC:=odf YA
   have e:ZC Y4 Yj Yt (k + 1) Yy Yu=Yu:=by simp only [ZC,YA,cond_false]
   rw [e]
   exact outR (e:=(.exit 2)) E0Ok Ze [] Z5V [0] (sB YA<|sN) (by kernel_rfl) (by intro h;cases h)
theorem Z5W (Y4:Gm) (Yj:Int) (Yt:(List Bool)):∀ (k:Nat) (Yy:Int) (Yu:(List Bool)) (hk:((3:Int) - Yy).toNat < k),(ZC Y4 Yj Yt k Yy Yu).length=Yu.length:=by
  intro k
  induction k with
  | zero=>intro Yy Yu hk;exact absurd hk (Nat.not_lt_zero _)
  | succ k ih =>
    intro Yy Yu hk
    cases YA:(decide (Yy < 3)) with
    | true =>
      have e:ZC Y4 Yj Yt (k + 1) Yy Yu=(ZC Y4 Yj Yt k (Yy + 1) (Yu.set ((IntKind.wrap .i64 ((IntKind.wrap .i64 ((ZP Y4 Yj Yy) * (Y4.Pq.length:Int))) + (ZV Y4 Yj Yy))).toNat) true)):=by simp only [ZC,YA,cond_true]
      rw [e,ih (Yy + 1) (Yu.set ((IntKind.wrap .i64 ((IntKind.wrap .i64 ((ZP Y4 Yj Yy) * (Y4.Pq.length:Int))) + (ZV Y4 Yj Yy))).toNat) true) (by simp_all<;>omega)]<;>simp
    | false =>
      have e:ZC Y4 Yj Yt (k + 1) Yy Yu=Yu:=by simp only [ZC,YA,cond_false]
      first | (rw [e];done) | (rw [e];rfl)
def Z19 (Y4:Gm) (Yj:Int) (Yt:(List Bool)):(List Bool):=(ZC Y4 Yj Yt (((3:Int) - 0).toNat + 1) 0 Yt)
@[simp] theorem Z5i (Y4:Gm) (Yj:Int) (Yt:(List Bool)):(Z19 Y4 Yj Yt).length=(Yt:(List Bool)).length:=Z5W Y4 Yj Yt (((3:Int) - 0).toNat + 1) 0 Yt (by exact Nat.lt_succ_self _)
def ZK (Y4:Gm):Nat→Int→(List Bool)→(List Bool)
  | 0,_,_=>default
  | k + 1,Yj,Yt=>(cond (decide (Yj < (Y4.Tr.length:Int)))
    (ZK Y4 k (Yj + 1) (Z19 Y4 Yj Yt))
    Yt)
def Z3n (Y4:Gm) (r:(List Bool)):Ex × St:=((.exit 0),⟨.ref (Gm.c Y4) 0 :: .any :: .nils :: .i .i64 (Y4.Pq.length:Int) :: .own 0 :: an 8 (.ref (Gm.c Y4) 0 :: .ref (Gm.c Y4) 0 :: .ref (Gm.c Y4) 0 :: .sl (Y4.Pq.map Gv.c) :: .i .i64 (Y4.Pq.length:Int) :: .i .i64 (Y4.Pq.length:Int) :: .i .i64 (Y4.Pq.length:Int) :: .i .i64 (IntKind.wrap .i64 ((Y4.Pq.length:Int) * (Y4.Pq.length:Int))) :: .own 0 :: an 69 []),[.vec 4 1 (r.map cB) false]⟩)
def Z5a (Y4:Gm) (Yj:Int) (Yt:(List Bool)):St:=⟨.ref (Gm.c Y4) 0 :: .any :: .nils :: .i .i64 (Y4.Pq.length:Int) :: .own 0 :: .i .i64 Yj :: an 7 (.ref (Gm.c Y4) 0 :: .ref (Gm.c Y4) 0 :: .ref (Gm.c Y4) 0 :: .sl (Y4.Pq.map Gv.c) :: .i .i64 (Y4.Pq.length:Int) :: .i .i64 (Y4.Pq.length:Int) :: .i .i64 (Y4.Pq.length:Int) :: .i .i64 (IntKind.wrap .i64 ((Y4.Pq.length:Int) * (Y4.Pq.length:Int))) :: .own 0 :: an 69 []),[.vec 4 1 (Yt.map cB) false]⟩
theorem Z6s (Y4:Gm) (hp0:Y4.Pq.length≤1073741824) (hp1:Y4.Tr.length≤1073741824) (hp2:∀ t∈Y4.Tr,t.length≤1073741824) (hp3:OkE Y4.Pq.length Y4.Tr):∀ (k:Nat) (Yj:Int) (Yt:(List Bool)) (Z1j:0≤Yj) (Z2v:Yt.length=(IntKind.wrap .i64 ((Y4.Pq.length:Int) * (Y4.Pq.length:Int))).toNat) (hk:((Y4.Tr.length:Int) - Yj).toNat < k),Lp prog 0 (sub (X0 f59) [1,1,1,0,1,0,0]) (Z5a Y4 Yj Yt) (Z3n Y4 (ZK Y4 k Yj Yt)).1 (Z3n Y4 (ZK Y4 k Yj Yt)).2:=by
 intro k
 induction k with
 | zero=>intro Yj Yt Z1j Z2v hk;exact absurd hk (Nat.not_lt_zero _)
 | succ k ih =>
  intro Yj Yt Z1j Z2v hk
  have p {a C} (s:Scr a C):=sZ (cL (cI .i64)) Y4.Tr<|s
  cases Yk:(decide (Yj < (Y4.Tr.length:Int))) with
  | true =>
   have YH:=odt Yk
   have YQ:(0:Int)≤Yj:=by clear p;exact (by assumption)
   have YN:Yj < (Y4.Tr.length:Int):=by clear p;exact (by assumption)
   have y_2:(-9223372036854775808:Int)≤(Yj + 1):=by clear p;exact (by omega)
   have YR:(Yj + 1)≤(9223372036854775807:Int):=by clear p;exact (by omega)
   have e:ZK Y4 (k + 1) Yj Yt=(ZK Y4 k (Yj + 1) (Z19 Y4 Yj Yt)):=by simp only [ZK,Yk,cond_true]
   rw [e]
   exact XG E0Ok Ze [] (mR false [0,1,1,4,7,9,69]) [0] (ih (Yj + 1) (Z19 Y4 Yj Yt) (show 0≤(Yj + 1) from (by omega)) (show (Z19 Y4 Yj Yt).length=(IntKind.wrap .i64 ((Y4.Pq.length:Int) * (Y4.Pq.length:Int))).toNat from (by simp_all<;>omega)) (by omega)) (p (sB Yk<|sG (cL (cI .i64)) Y4.Tr Yj YQ YN<|sL Z4k 1 (X9 (Z3m Y4 Yj Yt) (x:=(Z19 Y4 Yj Yt)) (Z6r Y4 Yj Yt hp0 hp1 hp2 hp3 Z1j Z2v Yk (((3:Int) - 0).toNat + 1) 0 Yt (show 0≤0 from (by omega)) (show Yt.length=Yt.length from (by omega)) (Nat.lt_succ_self _)) rfl)<|sI (Yj + 1) y_2 YR<|sN)) (by kernel_rfl)
  | false =>
   have YH:=odf Yk
   have e:ZK Y4 (k + 1) Yj Yt=Yt:=by simp only [ZK,Yk,cond_false]
   rw [e]
   exact outR (e:=(.exit 0)) E0Ok Ze [] (mR false [0,1,1,3,8,9,69]) [0] (p (sB Yk<|sN)) (by kernel_rfl) (by intro h;cases h)
theorem Z5X (Y4:Gm):∀ (k:Nat) (Yj:Int) (Yt:(List Bool)) (hk:((Y4.Tr.length:Int) - Yj).toNat < k),(ZK Y4 k Yj Yt).length=Yt.length:=by
  intro k
  induction k with
  | zero=>intro Yj Yt hk;exact absurd hk (Nat.not_lt_zero _)
  | succ k ih =>
    intro Yj Yt hk
    cases Yk:(decide (Yj < (Y4.Tr.length:Int))) with
    | true =>
      have e:ZK Y4 (k + 1) Yj Yt=(ZK Y4 k (Yj + 1) (Z19 Y4 Yj Yt)):=by simp only [ZK,Yk,cond_true]
      rw [e,ih (Yj + 1) (Z19 Y4 Yj Yt) (by simp_all<;>omega)]<;>simp
    | false =>
      have e:ZK Y4 (k + 1) Yj Yt=Yt:=by simp only [ZK,Yk,cond_false]
      first | (rw [e];done) | (rw [e];rfl)
def Zy (Y4:Gm):(List Bool):=(ZK Y4 (((Y4.Tr.length:Int) - 0).toNat + 1) 0 (List.replicate (IntKind.wrap .i64 ((Y4.Pq.length:Int) * (Y4.Pq.length:Int))).toNat false))
@[simp] theorem Z5j (Y4:Gm):(Zy Y4).length=((List.replicate (IntKind.wrap .i64 ((Y4.Pq.length:Int) * (Y4.Pq.length:Int))).toNat false):(List Bool)).length:=Z5X Y4 (((Y4.Tr.length:Int) - 0).toNat + 1) 0 (List.replicate (IntKind.wrap .i64 ((Y4.Pq.length:Int) * (Y4.Pq.length:Int))).toNat false) (by exact Nat.lt_succ_self _)
def ZL (Y4:Gm) (Yr:Int) (Y3:(List (List Int))):Nat→Int→(List (List Int))→(List (List Int))
  | 0,_,_=>default
  | k + 1,YE,Y8=>(cond (decide (YE < (Y4.Pq.length:Int)))
    (cond ((Zy Y4).getD ((IntKind.wrap .i64 ((IntKind.wrap .i64 (Yr * (Y4.Pq.length:Int))) + YE)).toNat) default)
      (ZL Y4 Yr Y3 k (YE + 1) (Y8 ++ [[Yr,YE]]))
      (ZL Y4 Yr Y3 k (YE + 1) Y8))
    Y8)
def Z3o (Y4:Gm) (Yr:Int) (Y3:(List (List Int))) (r:(List (List Int))):Ex × St:=((.exit 6),⟨.ref (Gm.c Y4) 0 :: .any :: .nils :: .i .i64 (Y4.Pq.length:Int) :: .own 0 :: an 5 (.own 1 :: .i .i64 Yr :: .any :: .ref (Gm.c Y4) 0 :: .ref (Gm.c Y4) 0 :: .ref (Gm.c Y4) 0 :: .sl (Y4.Pq.map Gv.c) :: .i .i64 (Y4.Pq.length:Int) :: .i .i64 (Y4.Pq.length:Int) :: .i .i64 (Y4.Pq.length:Int) :: .i .i64 (IntKind.wrap .i64 ((Y4.Pq.length:Int) * (Y4.Pq.length:Int))) :: .own 0 :: an 42 (.i .i64 Yr :: .i .i64 (Y4.Pq.length:Int) :: .b (decide (Yr < (Y4.Pq.length:Int))) :: .any :: .any :: .i .i64 Yr :: .i .i64 (Yr + 1) :: an 20 [])),[.vec 4 1 ((Zy Y4).map cB) false, .nest 60 (r.map fun l=>l.map (cI .i64)) false]⟩)
def Z5b (Y4:Gm) (Yr:Int) (Y3:(List (List Int))) (YE:Int) (Y8:(List (List Int))):St:=⟨.ref (Gm.c Y4) 0 :: .any :: .nils :: .i .i64 (Y4.Pq.length:Int) :: .own 0 :: an 5 (.own 1 :: .i .i64 Yr :: .i .i64 YE :: .ref (Gm.c Y4) 0 :: .ref (Gm.c Y4) 0 :: .ref (Gm.c Y4) 0 :: .sl (Y4.Pq.map Gv.c) :: .i .i64 (Y4.Pq.length:Int) :: .i .i64 (Y4.Pq.length:Int) :: .i .i64 (Y4.Pq.length:Int) :: .i .i64 (IntKind.wrap .i64 ((Y4.Pq.length:Int) * (Y4.Pq.length:Int))) :: .own 0 :: an 42 (.i .i64 Yr :: .i .i64 (Y4.Pq.length:Int) :: .b (decide (Yr < (Y4.Pq.length:Int))) :: .any :: .any :: .i .i64 Yr :: .i .i64 (Yr + 1) :: an 20 [])),[.vec 4 1 ((Zy Y4).map cB) false, .nest 60 (Y8.map fun l=>l.map (cI .i64)) false]⟩
def Z31:List Bool:=(mR false [0,1,1,3,5,12,42,3,2,2,20])
def Z5Y:List Bool:=(mR false [0,1,1,3,5,2,1,9,42,3,2,2,20])
set_option maxHeartbeats 1000000 in
theorem Z6t (Y4:Gm) (Yr:Int) (Y3:(List (List Int))) (hp0:Y4.Pq.length≤1073741824) (hp1:Y4.Tr.length≤1073741824) (hp2:∀ t∈Y4.Tr,t.length≤1073741824) (hp3:OkE Y4.Pq.length Y4.Tr) (Z2w:0≤Yr) (Z2x:(Y3.length:Int)≤64 * Yr) (Z2y:(decide (Yr < (Y4.Pq.length:Int)))=true):∀ (k:Nat) (YE:Int) (Y8:(List (List Int))) (Z4m:Yr < YE) (Z4n:(Y8.length:Int)≤(Y3.length:Int) + YE) (hk:((Y4.Pq.length:Int) - YE).toNat < k),Lp prog 0 (sub (X0 f59) [1,1,1,1,1,0,1,0,0,1,0,0,1,0,0]) (Z5b Y4 Yr Y3 YE Y8) (Z3o Y4 Yr Y3 (ZL Y4 Yr Y3 k YE Y8)).1 (Z3o Y4 Yr Y3 (ZL Y4 Yr Y3 k YE Y8)).2:=by
 intro k
 induction k with
 | zero=>intro YE Y8 Z4m Z4n hk;exact absurd hk (Nat.not_lt_zero _)
 | succ k ih =>
  intro YE Y8 Z4m Z4n hk
  cases YA:(decide (YE < (Y4.Pq.length:Int))) with
  | true =>
   have YC:=odt YA
   have Y19:(0:Int)≤(IntKind.wrap .i64 ((IntKind.wrap .i64 (Yr * (Y4.Pq.length:Int))) + YE)):=(by ((have:=hp3.1;have g4:=odt Z2y;(have q2:=ix2F (n:=(Y4.Pq.length:Int)) (a:=Yr) (b:=YE) (by omega) (by omega) (by omega) (by omega) (by omega);omega))))
   have Y1a:(IntKind.wrap .i64 ((IntKind.wrap .i64 (Yr * (Y4.Pq.length:Int))) + YE)) < ((Zy Y4).length:Int):=(by ((have:=hp3.1;have g4:=odt Z2y;(have q2:=ix2F (n:=(Y4.Pq.length:Int)) (a:=Yr) (b:=YE) (by omega) (by omega) (by omega) (by omega) (by omega);(simp only [Z5j,List.length_replicate];omega)))))
   have Y16:(IntKind.wrap .i64 ((IntKind.wrap .i64 (Yr * (Y4.Pq.length:Int))) + YE)).toNat < (Zy Y4).length:=(by omega)
   have p {a C} (s:Scr a C):=sB YA<|sW .i64 (Yr * (Y4.Pq.length:Int))<|sW .i64 ((IntKind.wrap .i64 (Yr * (Y4.Pq.length:Int))) + YE)<|sX cB (Zy Y4) (IntKind.wrap .i64 ((IntKind.wrap .i64 (Yr * (Y4.Pq.length:Int))) + YE)) Y19 Y1a<|sV cB (Zy Y4) ((IntKind.wrap .i64 ((IntKind.wrap .i64 (Yr * (Y4.Pq.length:Int))) + YE)).toNat) Y16<|s
   cases YV:((Zy Y4).getD ((IntKind.wrap .i64 ((IntKind.wrap .i64 (Yr * (Y4.Pq.length:Int))) + YE)).toNat) default) with
   | true =>
    have Y17:Y8.length + [[Yr,YE]].length≤1073741824:=by clear p;exact (by ((have:=hp3.1;have g4:=odt Z2y;(simp only [List.length_append,List.length_cons,List.length_nil];omega))))
    have Y1c:(-9223372036854775808:Int)≤(YE + 1):=by clear p;exact (by omega)
    have Y1f:(YE + 1)≤(9223372036854775807:Int):=by clear p;exact (by omega)
    have e:ZL Y4 Yr Y3 (k + 1) YE Y8=(ZL Y4 Yr Y3 k (YE + 1) (Y8 ++ [[Yr,YE]])):=by simp only [ZL,YA,YV,cond_true]
    rw [e]
    exact X14 E0Ok Ze [] Z31 [0,1] (⟨.ref (Gm.c Y4) 0 :: .any :: .nils :: .i .i64 (Y4.Pq.length:Int) :: .own 0 :: an 5 (.own 1 :: .i .i64 Yr :: .i .i64 (YE + 1) :: .ref (Gm.c Y4) 0 :: .ref (Gm.c Y4) 0 :: .ref (Gm.c Y4) 0 :: .sl (Y4.Pq.map Gv.c) :: .i .i64 (Y4.Pq.length:Int) :: .i .i64 (Y4.Pq.length:Int) :: .i .i64 (Y4.Pq.length:Int) :: .i .i64 (IntKind.wrap .i64 ((Y4.Pq.length:Int) * (Y4.Pq.length:Int))) :: .own 0 :: an 42 (.i .i64 Yr :: .i .i64 (Y4.Pq.length:Int) :: .b (decide (Yr < (Y4.Pq.length:Int))) :: .any :: .any :: .i .i64 Yr :: .i .i64 (Yr + 1) :: an 20 [])),[.vec 4 1 ((Zy Y4).map cB) false, .nest 60 ((Y8.map fun l=>l.map (cI .i64)) ++ [([[.i .i64 Yr],[.i .i64 YE]]:List (List AV))]) false]⟩) (p (sB YV<|sC (show (Y8.map fun l=>l.map (cI .i64)).length + [([[.i .i64 Yr],[.i .i64 YE]]:List (List AV))].length≤1073741824 from (by simpa using Y17))<|sI (YE + 1) Y1c Y1f<|sN)) (by kernel_rfl) (by simp [Z5b,cL,cI,cB]) (ih (YE + 1) (Y8 ++ [[Yr,YE]]) (show Yr < (YE + 1) from (by omega)) (show ((Y8 ++ [[Yr,YE]]).length:Int)≤(Y3.length:Int) + (YE + 1) from (by ((have:=hp3.1;have g4:=odt Z2y;(simp only [List.length_append,List.length_cons,List.length_nil];omega))))) (by omega))
   | false =>
    have Y17:(-9223372036854775808:Int)≤(YE + 1):=by clear p;exact (by omega)
    have Y1c:(YE + 1)≤(9223372036854775807:Int):=by clear p;exact (by omega)
    have e:ZL Y4 Yr Y3 (k + 1) YE Y8=(ZL Y4 Yr Y3 k (YE + 1) Y8):=by simp only [ZL,YA,YV,cond_true,cond_false]
    rw [e]
    exact XG E0Ok Ze [] Z31 [0,1] (ih (YE + 1) Y8 (show Yr < (YE + 1) from (by omega)) (show (Y8.length:Int)≤(Y3.length:Int) + (YE + 1) from (by omega)) (by omega)) (p (sB YV<|sI (YE + 1) Y17 Y1c<|sN)) (by kernel_rfl)
  | false =>
   have YC:=odf YA
   have e:ZL Y4 Yr Y3 (k + 1) YE Y8=Y8:=by simp only [ZL,YA,cond_false]
   rw [e]
   exact outR (e:=(.exit 6)) E0Ok Ze [] Z5Y [0,1] (sB YA<|sN) (by kernel_rfl) (by intro h;cases h)
def Z1w (Y4:Gm) (Yr:Int) (Y3:(List (List Int))):(List (List Int)):=(ZL Y4 Yr Y3 (((Y4.Pq.length:Int) - (Yr + 1)).toNat + 1) (Yr + 1) Y3)
theorem Z9I (m:Gm) (a:Int) (r1:List (List Int)):∀ (k:Nat) (b:Int) (r:List (List Int)),(ZL m a r1 k b r).length≤r.length + k:=by
  intro k
  induction k with
  | zero=>intro b r;exact Nat.zero_le _
  | succ k ih =>
    intro b r
    rw [ZL]
    cases decide (b < (m.Pq.length:Int)) with
    | false=>rw [cond_false];omega
    | true =>
      rw [cond_true]
      cases ((Zy m).getD ((IntKind.wrap .i64 ((IntKind.wrap .i64 (a * (m.Pq.length:Int))) + b)).toNat) default) with
      | true=>rw [cond_true];have:=ih (b + 1) (r ++ [[a,b]]);simp only [List.length_append,List.length_cons,List.length_nil] at this;omega
      | false=>rw [cond_false];have:=ih (b + 1) r;omega
def Z1p (Y4:Gm):Nat→Int→(List (List Int))→(List (List Int))
  | 0,_,_=>default
  | k + 1,Yr,Y3=>(cond (decide (Yr < (Y4.Pq.length:Int)))
    (Z1p Y4 k (Yr + 1) (Z1w Y4 Yr Y3))
    Y3)
def Z3p (Y4:Gm) (r:(List (List Int))):Ex × St:=((.exit 4),⟨.ref (Gm.c Y4) 0 :: .any :: .nils :: .i .i64 (Y4.Pq.length:Int) :: .own 0 :: an 5 (.own 1 :: .any :: .any :: .ref (Gm.c Y4) 0 :: .ref (Gm.c Y4) 0 :: .ref (Gm.c Y4) 0 :: .sl (Y4.Pq.map Gv.c) :: .i .i64 (Y4.Pq.length:Int) :: .i .i64 (Y4.Pq.length:Int) :: .i .i64 (Y4.Pq.length:Int) :: .i .i64 (IntKind.wrap .i64 ((Y4.Pq.length:Int) * (Y4.Pq.length:Int))) :: .own 0 :: an 69 []),[.vec 4 1 ((Zy Y4).map cB) false, .nest 60 (r.map fun l=>l.map (cI .i64)) false]⟩)
def Z5c (Y4:Gm) (Yr:Int) (Y3:(List (List Int))):St:=⟨.ref (Gm.c Y4) 0 :: .any :: .nils :: .i .i64 (Y4.Pq.length:Int) :: .own 0 :: an 5 (.own 1 :: .i .i64 Yr :: .any :: .ref (Gm.c Y4) 0 :: .ref (Gm.c Y4) 0 :: .ref (Gm.c Y4) 0 :: .sl (Y4.Pq.map Gv.c) :: .i .i64 (Y4.Pq.length:Int) :: .i .i64 (Y4.Pq.length:Int) :: .i .i64 (Y4.Pq.length:Int) :: .i .i64 (IntKind.wrap .i64 ((Y4.Pq.length:Int) * (Y4.Pq.length:Int))) :: .own 0 :: an 69 []),[.vec 4 1 ((Zy Y4).map cB) false, .nest 60 (Y3.map fun l=>l.map (cI .i64)) false]⟩
theorem Z6u (Y4:Gm) (hp0:Y4.Pq.length≤1073741824) (hp1:Y4.Tr.length≤1073741824) (hp2:∀ t∈Y4.Tr,t.length≤1073741824) (hp3:OkE Y4.Pq.length Y4.Tr):∀ (k:Nat) (Yr:Int) (Y3:(List (List Int))) (Z2w:0≤Yr) (Z2x:(Y3.length:Int)≤64 * Yr) (hk:((Y4.Pq.length:Int) - Yr).toNat < k),Lp prog 0 (sub (X0 f59) [1,1,1,1,1,0,1,0,0]) (Z5c Y4 Yr Y3) (Z3p Y4 (Z1p Y4 k Yr Y3)).1 (Z3p Y4 (Z1p Y4 k Yr Y3)).2:=by
 intro k
 induction k with
 | zero=>intro Yr Y3 Z2w Z2x hk;exact absurd hk (Nat.not_lt_zero _)
 | succ k ih =>
  intro Yr Y3 Z2w Z2x hk
  cases Yk:(decide (Yr < (Y4.Pq.length:Int))) with
  | true =>
   have YH:=odt Yk
   have YQ:(-9223372036854775808:Int)≤(Yr + 1):=(by omega)
   have YN:(Yr + 1)≤(9223372036854775807:Int):=(by omega)
   have e:Z1p Y4 (k + 1) Yr Y3=(Z1p Y4 k (Yr + 1) (Z1w Y4 Yr Y3)):=by simp only [Z1p,Yk,cond_true]
   rw [e]
   exact XG E0Ok Ze [] (mR false [0,1,1,3,5,2,1,9,69]) [0,1] (ih (Yr + 1) (Z1w Y4 Yr Y3) (show 0≤(Yr + 1) from (by omega)) (show ((Z1w Y4 Yr Y3).length:Int)≤64 * (Yr + 1) from (by ((have:=hp3.1;have g4:=odt Yk;have q:=Z9I Y4 Yr Y3 (((Y4.Pq.length:Int) - (Yr + 1)).toNat + 1) (Yr + 1) Y3;unfold Z1w;omega)))) (by omega)) (sB Yk<|sI (Yr + 1) YQ YN<|sL Z31 2 (X9 (Z3o Y4 Yr Y3) (x:=(Z1w Y4 Yr Y3)) (Z6t Y4 Yr Y3 hp0 hp1 hp2 hp3 Z2w Z2x Yk (((Y4.Pq.length:Int) - (Yr + 1)).toNat + 1) (Yr + 1) Y3 (show Yr < (Yr + 1) from (by omega)) (show (Y3.length:Int)≤(Y3.length:Int) + (Yr + 1) from (by omega)) (Nat.lt_succ_self _)) rfl)<|sI (Yr + 1) YQ YN<|sN) (by kernel_rfl)
  | false =>
   have YH:=odf Yk
   have e:Z1p Y4 (k + 1) Yr Y3=Y3:=by simp only [Z1p,Yk,cond_false]
   rw [e]
   exact outR (e:=(.exit 4)) E0Ok Ze [] (mR false [0,1,1,3,5,1,2,9,69]) [0,1] (sB Yk<|sN) (by kernel_rfl) (by intro h;cases h)
def Z2z (Y4:Gm):(List (List Int)):=(Z1p Y4 (((Y4.Pq.length:Int) - 0).toNat + 1) 0 ([]:List (List Int)))
def Zc (Y4:Gm):(List (List Int)):=(Z2z Y4)
theorem Z99 (m:Gm) (i:Int) (r:List Bool):Z19 m i r=((r.set (IntKind.wrap .i64 (IntKind.wrap .i64 (Z1H ((m.Tr.getD i.toNat default).getD 0 default) ((m.Tr.getD i.toNat default).getD 1 default) * (m.Pq.length:Int)) + Z1I ((m.Tr.getD i.toNat default).getD 0 default) ((m.Tr.getD i.toNat default).getD 1 default))).toNat true).set (IntKind.wrap .i64 (IntKind.wrap .i64 (Z1H ((m.Tr.getD i.toNat default).getD 1 default) ((m.Tr.getD i.toNat default).getD 2 default) * (m.Pq.length:Int)) + Z1I ((m.Tr.getD i.toNat default).getD 1 default) ((m.Tr.getD i.toNat default).getD 2 default))).toNat true).set (IntKind.wrap .i64 (IntKind.wrap .i64 (Z1H ((m.Tr.getD i.toNat default).getD 2 default) ((m.Tr.getD i.toNat default).getD 0 default) * (m.Pq.length:Int)) + Z1I ((m.Tr.getD i.toNat default).getD 2 default) ((m.Tr.getD i.toNat default).getD 0 default))).toNat true:=by
  have one:∀ (r0:List Bool) (k:Nat) (x:Int) (s:List Bool),x < 3→ZC m i r0 (k + 1) x s=ZC m i r0 k (x + 1) (s.set (IntKind.wrap .i64 (IntKind.wrap .i64 (ZP m i x * (m.Pq.length:Int)) + ZV m i x)).toNat true):=by
    intro r0 k x s hx
    rw [ZC,decide_eq_true hx,cond_true]
  unfold Z19
  show ZC m i r 4 0 r=_
  rw [one r 3 0 r (by omega),one r 2 (0 + 1) _ (by omega),one r 1 (0 + 1 + 1) _ (by omega),ZC]
  show cond (decide ((3:Int) < 3)) _ _=_
  rw [decide_eq_false (by omega),cond_false]
  rfl
theorem Z9a (m:Gm) (ok:OkE m.Pq.length m.Tr) {a b:Int} (ha:0≤a) (hab:a < b) (hb:b < (m.Pq.length:Int)):∀ (k:Nat) (i:Nat) (r:List Bool),i≤m.Tr.length→((m.Tr.length:Int) - i).toNat < k→r.length=(IntKind.wrap .i64 ((m.Pq.length:Int) * (m.Pq.length:Int))).toNat →
    (ZK m k i r).getD (IntKind.wrap .i64 (IntKind.wrap .i64 (a * (m.Pq.length:Int)) + b)).toNat default=(r.getD (IntKind.wrap .i64 (IntKind.wrap .i64 (a * (m.Pq.length:Int)) + b)).toNat default || (m.Tr.drop i).any fun t=>tHas t a b):=by
  intro k
  induction k with
  | zero=>intro i r _ hk;exact absurd hk (Nat.not_lt_zero _)
  | succ k ih =>
    intro i r hle hk hr
    rw [ZK]
    by_cases hi:(i:Int) < (m.Tr.length:Int)
    · have hn:i < m.Tr.length:=by omega
      rw [decide_eq_true hi,cond_true]
      have:=ih (i + 1) (Z19 m i r) (by omega) (by omega) (by rw [Z5i];exact hr)
      rw [show ((i:Int) + 1)=((i + 1:Nat):Int) from by omega,this,Z99,List.drop_eq_getElem_cons hn,List.any_cons]
      have hg:m.Tr.getD ((i:Nat):Int).toNat default=m.Tr[i]:=by rw [show ((i:Nat):Int).toNat=i from by omega,List.getD_eq_getElem?_getD,List.getElem?_eq_getElem hn];rfl
      obtain ⟨x,y,z,ht,r1,r2,r3,n1,n2,n3⟩:=ok.2.2 _ (List.getElem_mem hn)
      have h64:(m.Pq.length:Int)≤64:=by have:=ok.1;omega
      rw [hg,ht]
      simp only [List.getD_cons_zero,List.getD_cons_succ]
      rw [X4x h64 (Z5U z x) (Z5E r3 r1) (Z5F r3 r1) ha hab hb (by simpa using hr),X4x h64 (Z5U y z) (Z5E r2 r3) (Z5F r2 r3) ha hab hb (by simpa using hr),X4x h64 (Z5U x y) (Z5E r1 r2) (Z5F r1 r2) ha hab hb hr]
      have hT:=X53 n1 n2 n3 hab
      unfold tE at hT
      simp only [List.getD_cons_zero,List.getD_cons_succ,List.mem_cons,List.not_mem_nil,or_false] at hT
      generalize r.getD (IntKind.wrap .i64 (IntKind.wrap .i64 (a * (m.Pq.length:Int)) + b)).toNat default=q
      generalize ((m.Tr.drop (i + 1)).any fun t=>tHas t a b)=q2
      have hB:tHas [x,y,z] a b=(decide ((⟨a,b⟩:Gedge)=mkE x y) || (decide ((⟨a,b⟩:Gedge)=mkE y z) || decide ((⟨a,b⟩:Gedge)=mkE z x))):=by
        rw [Bool.eq_iff_iff,← hT];simp only [Bool.or_eq_true,decide_eq_true_eq]
      rw [hB]
      cases decide ((⟨a,b⟩:Gedge)=mkE x y)<;>cases decide ((⟨a,b⟩:Gedge)=mkE y z)<;>cases decide ((⟨a,b⟩:Gedge)=mkE z x)<;>cases q<;>cases q2<;>rfl
    · rw [decide_eq_false hi,cond_false,List.drop_eq_nil_of_le (by omega)];simp
theorem Z9J (m:Gm) (ok:OkE m.Pq.length m.Tr) {a b:Int} (ha:0≤a) (hab:a < b) (hb:b < (m.Pq.length:Int)) :
    (Zy m).getD (IntKind.wrap .i64 (IntKind.wrap .i64 (a * (m.Pq.length:Int)) + b)).toNat default=m.Tr.any fun t=>tHas t a b:=by
  unfold Zy
  have:=Z9a m ok ha hab hb (((m.Tr.length:Int) - 0).toNat + 1) 0 (List.replicate (IntKind.wrap .i64 ((m.Pq.length:Int) * (m.Pq.length:Int))).toNat false) (Nat.zero_le _) (by omega) (by simp)
  rw [List.drop_zero] at this
  refine this.trans ?_
  rw [List.getD_eq_getElem?_getD,List.getElem?_replicate]
  split<;>simp
theorem Z71 (m:Gm) (ok:OkE m.Pq.length m.Tr):Zc m=(edgL m.Pq.length m.Tr).map e2:=by
  rw [X9H]
  unfold Zc Z2z
  refine X9d (n:=m.Pq.length) (p:=fun a b=>m.Tr.any fun t=>tHas t a b) (g:=fun a b=>e2 ⟨a,b⟩) (lo:=Z1p m) (li:=Z1w m) (fun k a r=>rfl) (fun a r ha => ?_) _ 0 (Nat.zero_le _) (by omega)
  unfold Z1w
  have hf:=X9b (n:=(m.Pq.length:Int)) (f:=fun b => !((Zy m).getD ((IntKind.wrap .i64 ((IntKind.wrap .i64 ((a:Int) * (m.Pq.length:Int))) + b)).toNat) default)) (g:=fun b => [(a:Int),b]) (lo:=ZL m a r) (fun k i r'=>by
    rw [ZL]
    cases ((Zy m).getD ((IntKind.wrap .i64 ((IntKind.wrap .i64 ((a:Int) * (m.Pq.length:Int))) + i)).toNat) default)<;>rfl) (((m.Pq.length:Int) - ((a:Int) + 1)).toNat + 1) ((a:Int) + 1) r (Nat.lt_succ_self _)
  rw [hf,show ((m.Pq.length:Int) - ((a:Int) + 1)).toNat=m.Pq.length - (a + 1) from by omega]
  congr 1
  have hfc:((List.range (m.Pq.length - (a + 1))).filter fun (j:Nat) => !(!((Zy m).getD ((IntKind.wrap .i64 ((IntKind.wrap .i64 ((a:Int) * (m.Pq.length:Int))) + ((a:Int) + 1 + (j:Int)))).toNat) default)))=(List.range (m.Pq.length - (a + 1))).filter fun (j:Nat)=>m.Tr.any fun t=>tHas t a ((a:Int) + 1 + j):=by
    refine List.filter_congr fun j hj => ?_
    rw [List.mem_range] at hj
    rw [Bool.not_not,Z9J m ok (by omega) (by omega) (by omega)]
  rw [hfc]
  rfl
theorem Z5G (m:Gm) (ok:OkE m.Pq.length m.Tr):(Zc m).length≤4096:=by
  rw [Z71 m ok,List.length_map];exact X3D ok
theorem Z3U (m:Gm) (ok:OkE m.Pq.length m.Tr) {i:Int} (h0:0≤i) (hi:i < ((Zc m).length:Int)) :
    ((Zc m).getD i.toNat default).length=2∧0≤((Zc m).getD i.toNat default).getD 0 default∧((Zc m).getD i.toNat default).getD 0 default < ((Zc m).getD i.toNat default).getD 1 default∧((Zc m).getD i.toNat default).getD 1 default < (m.Pq.length:Int)∧(m.Pq.length:Int)≤64∧((Zc m).length:Int)≤4096:=by
  have hl:=Z5G m ok
  have h64:=ok.1
  rw [Z71 m ok] at hi hl ⊢
  rw [List.length_map] at hi hl
  have hn:i.toNat < (edgL m.Pq.length m.Tr).length:=by omega
  have hg:((edgL m.Pq.length m.Tr).map e2).getD i.toNat default=e2 (edgL m.Pq.length m.Tr)[i.toNat]:=by rw [List.getD_eq_getElem?_getD,List.getElem?_map,List.getElem?_eq_getElem hn];rfl
  have hb:=X5r (List.getElem_mem hn)
  rw [hg,List.length_map]
  exact ⟨rfl,hb.1,hb.2.1,hb.2.2,by omega,by omega⟩
theorem Z7j (Y4:Gm) (hp0:Y4.Pq.length≤1073741824) (hp1:Y4.Tr.length≤1073741824) (hp2:∀ t∈Y4.Tr,t.length≤1073741824) (hp3:OkE Y4.Pq.length Y4.Tr)  : Fn prog 59 [.ref (Gm.c Y4) 0] (.own 0) [.nest 60 ((Zc Y4).map fun l=>l.map (cI .i64)) false]:=by
 have y0:(0:Int)≤(IntKind.wrap .i64 ((Y4.Pq.length:Int) * (Y4.Pq.length:Int))):=(by (have q2:=ixN hp3.1;omega))
 have y1:((IntKind.wrap .i64 ((Y4.Pq.length:Int) * (Y4.Pq.length:Int))):Int)≤2147483648:=(by (have q2:=ixN hp3.1;omega))
 refine fnS E0Ok Ze (c:=X0 f59) [] (.own 0) [.nest 60 ((Z2z Y4).map fun l=>l.map (cI .i64)) false] func59 (sZ Gv.c Y4.Pq<|sW .i64 ((Y4.Pq.length:Int) * (Y4.Pq.length:Int))<|sC (show (IntKind.wrap .i64 ((Y4.Pq.length:Int) * (Y4.Pq.length:Int)))=(IntKind.wrap .i64 ((Y4.Pq.length:Int) * (Y4.Pq.length:Int))) from rfl)<|sC y0<|sC y1<|sL (mR false [0,1,1,4,7,9,69]) 1 (X1e (st2:=⟨.ref (Gm.c Y4) 0 :: .any :: .nils :: .i .i64 (Y4.Pq.length:Int) :: .own 0 :: .i .i64 0 :: an 7 (.ref (Gm.c Y4) 0 :: .ref (Gm.c Y4) 0 :: .ref (Gm.c Y4) 0 :: .sl (Y4.Pq.map Gv.c) :: .i .i64 (Y4.Pq.length:Int) :: .i .i64 (Y4.Pq.length:Int) :: .i .i64 (Y4.Pq.length:Int) :: .i .i64 (IntKind.wrap .i64 ((Y4.Pq.length:Int) * (Y4.Pq.length:Int))) :: .own 0 :: an 69 []),[.vec 4 1 (List.replicate (Int.toNat (IntKind.wrap .i64 ((Y4.Pq.length:Int) * (Y4.Pq.length:Int)))) [.b false]) false]⟩) (X9 (Z3n Y4) (x:=(Zy Y4)) (Z6s Y4 hp0 hp1 hp2 hp3 (((Y4.Tr.length:Int) - 0).toNat + 1) 0 (List.replicate (IntKind.wrap .i64 ((Y4.Pq.length:Int) * (Y4.Pq.length:Int))).toNat false) (show 0≤0 from (by omega)) (show (List.replicate (IntKind.wrap .i64 ((Y4.Pq.length:Int) * (Y4.Pq.length:Int))).toNat false).length=(IntKind.wrap .i64 ((Y4.Pq.length:Int) * (Y4.Pq.length:Int))).toNat from (by simp)) (Nat.lt_succ_self _)) rfl) (by simp [Z5a,cB]))<|sL (mR false [0,1,1,3,5,2,1,9,69]) 2 (X1e (st2:=⟨.ref (Gm.c Y4) 0 :: .any :: .nils :: .i .i64 (Y4.Pq.length:Int) :: .own 0 :: an 5 (.own 1 :: .i .i64 0 :: .any :: .ref (Gm.c Y4) 0 :: .ref (Gm.c Y4) 0 :: .ref (Gm.c Y4) 0 :: .sl (Y4.Pq.map Gv.c) :: .i .i64 (Y4.Pq.length:Int) :: .i .i64 (Y4.Pq.length:Int) :: .i .i64 (Y4.Pq.length:Int) :: .i .i64 (IntKind.wrap .i64 ((Y4.Pq.length:Int) * (Y4.Pq.length:Int))) :: .own 0 :: an 69 []),[.vec 4 1 ((Zy Y4).map cB) false, .nest 60 [] false]⟩) (X9 (Z3p Y4) (x:=(Z2z Y4)) (Z6u Y4 hp0 hp1 hp2 hp3 (((Y4.Pq.length:Int) - 0).toNat + 1) 0 ([]:List (List Int)) (show 0≤0 from (by omega)) (show (([]:List (List Int)).length:Int)≤64 * 0 from (by simp)) (Nat.lt_succ_self _)) rfl) (by simp [Z5c,cL,cI]))<|sK [1] sN) rfl (by kernel_rfl) (by kernel_rfl) rfl ?_ ?_
 · rfl
 · simp [Zc]
theorem Z3q (Yl:Nat) (Ym:Nat) (Yn:Nat) (Yo:Nat) (Yp:Nat) (w3:(List Gv)) (w4:(List (List Int))) (w5:(List Gv)) (w6:(List (List Int))) (w7:(List Gs)) (w8:(List Nat)) (YW:Nat) (YX:Nat) (YY:Nat) (YZ:Nat) (Y10:Nat) (w10:(List (List Int))) (Yc:Gl00Src) (hp0:Yc.code.length≤1073741824) (hp1:0≤Yc.at_) (hp2:Yc.at_≤1152921504606846976)  : X7 prog 99 [.box 34 [.nils, .nils, .nils, .f .f32 Yl, .f .f32 Ym, .nils, .f .f32 Yn, .f .f32 Yo, .f .f32 Yp], .box 134 [.sl (Yc.code.map (cI .u8)), .i .i64 Yc.at_, .i .u64 Yc.seed], .box 27 [.own 3, .own 4], .vec 32 3 (w3.map Gv.c) false, .nest 60 (w4.map fun l=>l.map (cI .i64)) false, .vec 32 3 (w5.map Gv.c) false, .nest 60 (w6.map fun l=>l.map (cI .i64)) false, .vec 76 4 (w7.map Gs.c) false, .vec 29 1 (w8.map (cF .f32)) false, .box 34 [.own 5, .own 6, .own 7, .f .f32 YW, .f .f32 YX, .own 8, .f .f32 YY, .f .f32 YZ, .f .f32 Y10], .nest 60 (w10.map fun l=>l.map (cI .i64)) false] [.ptr 1 0 0] (.i .i64 ((Z2 Yc).1)) [.box 34 [.nils, .nils, .nils, .f .f32 Yl, .f .f32 Ym, .nils, .f .f32 Yn, .f .f32 Yo, .f .f32 Yp], .box 134 [.sl (Yc.code.map (cI .u8)), .i .i64 ((Z2 Yc).2.1), .i .u64 ((Z2 Yc).2.2)], .box 27 [.own 3, .own 4], .vec 32 3 (w3.map Gv.c) false, .nest 60 (w4.map fun l=>l.map (cI .i64)) false, .vec 32 3 (w5.map Gv.c) false, .nest 60 (w6.map fun l=>l.map (cI .i64)) false, .vec 76 4 (w7.map Gs.c) false, .vec 29 1 (w8.map (cF .f32)) false, .box 34 [.own 5, .own 6, .own 7, .f .f32 YW, .f .f32 YX, .own 8, .f .f32 YY, .f .f32 YZ, .f .f32 Y10], .nest 60 (w10.map fun l=>l.map (cI .i64)) false]:=by
 have p {a C} (s:Scr a C):=sK [9,9]<|sZ (cI .u8) Yc.code<|s
 cases h0:(decide (Yc.at_ < (Yc.code.length:Int))) with
 | true =>
  have gh0:=odt h0
  have y0:(0:Int)≤Yc.at_:=by clear p;exact (by assumption)
  have y1:Yc.at_ < (Yc.code.length:Int):=by clear p;exact (by assumption)
  have q {a C} (s:Scr a C):=p (sB h0<|sK [8,8]<|sG (cI .u8) Yc.code Yc.at_ y0 y1<|sW .i64 (Yc.code.getD Yc.at_.toNat default)<|sW .i64 (Yc.at_ + 1)<|sW .u64 (Yc.seed * 6364136223846793005)<|sW .u64 (IntKind.wrap .i64 (Yc.code.getD Yc.at_.toNat default))<|sW .u64 ((IntKind.wrap .u64 (Yc.seed * 6364136223846793005)) + (IntKind.wrap .u64 (IntKind.wrap .i64 (Yc.code.getD Yc.at_.toNat default))))<|sM (show IntKind.wrap .u64 ((IntKind.wrap .u64 ((IntKind.wrap .u64 (Yc.seed * 6364136223846793005)) + (IntKind.wrap .u64 (IntKind.wrap .i64 (Yc.code.getD Yc.at_.toNat default))))) + 1442695040888963407)=(Zf Yc) from rfl)<|sK [9,9]<|sZ (cI .u8) Yc.code<|s)
  clear p
  cases h1:(decide ((IntKind.wrap .i64 (Yc.at_ + 1))≤(Yc.code.length:Int))) with
  | true =>
   have gh1:=odt h1
   refine Xd (EpOk 11) Ze (c:=X0 f99) [.box 34 [.nils, .nils, .nils, .f .f32 Yl, .f .f32 Ym, .nils, .f .f32 Yn, .f .f32 Yo, .f .f32 Yp], .box 134 [.sl (Yc.code.map (cI .u8)), .i .i64 Yc.at_, .i .u64 Yc.seed], .box 27 [.own 3, .own 4], .vec 32 3 (w3.map Gv.c) false, .nest 60 (w4.map fun l=>l.map (cI .i64)) false, .vec 32 3 (w5.map Gv.c) false, .nest 60 (w6.map fun l=>l.map (cI .i64)) false, .vec 76 4 (w7.map Gs.c) false, .vec 29 1 (w8.map (cF .f32)) false, .box 34 [.own 5, .own 6, .own 7, .f .f32 YW, .f .f32 YX, .own 8, .f .f32 YY, .f .f32 YZ, .f .f32 Y10], .nest 60 (w10.map fun l=>l.map (cI .i64)) false] [] (.i .i64 (IntKind.wrap .i64 (Yc.code.getD Yc.at_.toNat default))) [.box 34 [.nils, .nils, .nils, .f .f32 Yl, .f .f32 Ym, .nils, .f .f32 Yn, .f .f32 Yo, .f .f32 Yp], .box 134 [.sl (Yc.code.map (cI .u8)), .i .i64 (IntKind.wrap .i64 (Yc.at_ + 1)), .i .u64 (Zf Yc)], .box 27 [.own 3, .own 4], .vec 32 3 (w3.map Gv.c) false, .nest 60 (w4.map fun l=>l.map (cI .i64)) false, .vec 32 3 (w5.map Gv.c) false, .nest 60 (w6.map fun l=>l.map (cI .i64)) false, .vec 76 4 (w7.map Gs.c) false, .vec 29 1 (w8.map (cF .f32)) false, .box 34 [.own 5, .own 6, .own 7, .f .f32 YW, .f .f32 YX, .own 8, .f .f32 YY, .f .f32 YZ, .f .f32 Y10], .nest 60 (w10.map fun l=>l.map (cI .i64)) false] func99 (q (sB h1<|sK [] sN)) rfl (by kernel_rfl) (by kernel_rfl) ?_ ?_
   · simp only [Z2,h0,h1,cond_true]
   · simp [Z2,h0,h1]
  | false =>
   have gh1:=odf h1
   refine Xd (EpOk 11) Ze (c:=X0 f99) [.box 34 [.nils, .nils, .nils, .f .f32 Yl, .f .f32 Ym, .nils, .f .f32 Yn, .f .f32 Yo, .f .f32 Yp], .box 134 [.sl (Yc.code.map (cI .u8)), .i .i64 Yc.at_, .i .u64 Yc.seed], .box 27 [.own 3, .own 4], .vec 32 3 (w3.map Gv.c) false, .nest 60 (w4.map fun l=>l.map (cI .i64)) false, .vec 32 3 (w5.map Gv.c) false, .nest 60 (w6.map fun l=>l.map (cI .i64)) false, .vec 76 4 (w7.map Gs.c) false, .vec 29 1 (w8.map (cF .f32)) false, .box 34 [.own 5, .own 6, .own 7, .f .f32 YW, .f .f32 YX, .own 8, .f .f32 YY, .f .f32 YZ, .f .f32 Y10], .nest 60 (w10.map fun l=>l.map (cI .i64)) false] [] (.i .i64 (IntKind.wrap .i64 (bitsOf .and .u64 (Int.fdiv (Zf Yc) (2 ^ (min (Int.toNat 40) (IntKind.bits .u64)))) 255))) [.box 34 [.nils, .nils, .nils, .f .f32 Yl, .f .f32 Ym, .nils, .f .f32 Yn, .f .f32 Yo, .f .f32 Yp], .box 134 [.sl (Yc.code.map (cI .u8)), .i .i64 (IntKind.wrap .i64 (Yc.at_ + 1)), .i .u64 (Zf Yc)], .box 27 [.own 3, .own 4], .vec 32 3 (w3.map Gv.c) false, .nest 60 (w4.map fun l=>l.map (cI .i64)) false, .vec 32 3 (w5.map Gv.c) false, .nest 60 (w6.map fun l=>l.map (cI .i64)) false, .vec 76 4 (w7.map Gs.c) false, .vec 29 1 (w8.map (cF .f32)) false, .box 34 [.own 5, .own 6, .own 7, .f .f32 YW, .f .f32 YX, .own 8, .f .f32 YY, .f .f32 YZ, .f .f32 Y10], .nest 60 (w10.map fun l=>l.map (cI .i64)) false] func99 (q (sB h1<|sC (show (0:Int)≤40 from (by decide))<|sQ (Int.fdiv (Zf Yc) (2 ^ (min (Int.toNat 40) (IntKind.bits .u64))))<|sQ (bitsOf .and .u64 (Int.fdiv (Zf Yc) (2 ^ (min (Int.toNat 40) (IntKind.bits .u64)))) 255)<|sW .i64 (bitsOf .and .u64 (Int.fdiv (Zf Yc) (2 ^ (min (Int.toNat 40) (IntKind.bits .u64)))) 255)<|sK [] sN)) rfl (by kernel_rfl) (by kernel_rfl) ?_ ?_
   · simp only [Z2,h0,h1,cond_true,cond_false]
   · simp [Z2,h0,h1]
 | false =>
  have gh0:=odf h0
  have q {a C} (s:Scr a C):=p (sB h0<|sW .i64 (Yc.at_ + 1)<|sW .u64 (Yc.seed * 6364136223846793005)<|sM (show IntKind.wrap .u64 0=0 from rfl)<|sW .u64 ((IntKind.wrap .u64 (Yc.seed * 6364136223846793005)) + 0)<|sW .u64 ((IntKind.wrap .u64 ((IntKind.wrap .u64 (Yc.seed * 6364136223846793005)) + 0)) + 1442695040888963407)<|sK [9,9]<|sZ (cI .u8) Yc.code<|s)
  clear p
  cases h1:(decide ((IntKind.wrap .i64 (Yc.at_ + 1))≤(Yc.code.length:Int))) with
  | true =>
   have gh1:=odt h1
   refine Xd (EpOk 11) Ze (c:=X0 f99) [.box 34 [.nils, .nils, .nils, .f .f32 Yl, .f .f32 Ym, .nils, .f .f32 Yn, .f .f32 Yo, .f .f32 Yp], .box 134 [.sl (Yc.code.map (cI .u8)), .i .i64 Yc.at_, .i .u64 Yc.seed], .box 27 [.own 3, .own 4], .vec 32 3 (w3.map Gv.c) false, .nest 60 (w4.map fun l=>l.map (cI .i64)) false, .vec 32 3 (w5.map Gv.c) false, .nest 60 (w6.map fun l=>l.map (cI .i64)) false, .vec 76 4 (w7.map Gs.c) false, .vec 29 1 (w8.map (cF .f32)) false, .box 34 [.own 5, .own 6, .own 7, .f .f32 YW, .f .f32 YX, .own 8, .f .f32 YY, .f .f32 YZ, .f .f32 Y10], .nest 60 (w10.map fun l=>l.map (cI .i64)) false] [] (.i .i64 0) [.box 34 [.nils, .nils, .nils, .f .f32 Yl, .f .f32 Ym, .nils, .f .f32 Yn, .f .f32 Yo, .f .f32 Yp], .box 134 [.sl (Yc.code.map (cI .u8)), .i .i64 (IntKind.wrap .i64 (Yc.at_ + 1)), .i .u64 (IntKind.wrap .u64 ((IntKind.wrap .u64 ((IntKind.wrap .u64 (Yc.seed * 6364136223846793005)) + 0)) + 1442695040888963407))], .box 27 [.own 3, .own 4], .vec 32 3 (w3.map Gv.c) false, .nest 60 (w4.map fun l=>l.map (cI .i64)) false, .vec 32 3 (w5.map Gv.c) false, .nest 60 (w6.map fun l=>l.map (cI .i64)) false, .vec 76 4 (w7.map Gs.c) false, .vec 29 1 (w8.map (cF .f32)) false, .box 34 [.own 5, .own 6, .own 7, .f .f32 YW, .f .f32 YX, .own 8, .f .f32 YY, .f .f32 YZ, .f .f32 Y10], .nest 60 (w10.map fun l=>l.map (cI .i64)) false] func99 (q (sB h1<|sK [] sN)) rfl (by kernel_rfl) (by kernel_rfl) ?_ ?_
   · simp only [Z2,h0,h1,cond_true,cond_false]
   · simp [Z2,h0,h1]
  | false =>
   have gh1:=odf h1
   refine Xd (EpOk 11) Ze (c:=X0 f99) [.box 34 [.nils, .nils, .nils, .f .f32 Yl, .f .f32 Ym, .nils, .f .f32 Yn, .f .f32 Yo, .f .f32 Yp], .box 134 [.sl (Yc.code.map (cI .u8)), .i .i64 Yc.at_, .i .u64 Yc.seed], .box 27 [.own 3, .own 4], .vec 32 3 (w3.map Gv.c) false, .nest 60 (w4.map fun l=>l.map (cI .i64)) false, .vec 32 3 (w5.map Gv.c) false, .nest 60 (w6.map fun l=>l.map (cI .i64)) false, .vec 76 4 (w7.map Gs.c) false, .vec 29 1 (w8.map (cF .f32)) false, .box 34 [.own 5, .own 6, .own 7, .f .f32 YW, .f .f32 YX, .own 8, .f .f32 YY, .f .f32 YZ, .f .f32 Y10], .nest 60 (w10.map fun l=>l.map (cI .i64)) false] [] (.i .i64 (IntKind.wrap .i64 (bitsOf .and .u64 (Int.fdiv (IntKind.wrap .u64 ((IntKind.wrap .u64 ((IntKind.wrap .u64 (Yc.seed * 6364136223846793005)) + 0)) + 1442695040888963407)) (2 ^ (min (Int.toNat 40) (IntKind.bits .u64)))) 255))) [.box 34 [.nils, .nils, .nils, .f .f32 Yl, .f .f32 Ym, .nils, .f .f32 Yn, .f .f32 Yo, .f .f32 Yp], .box 134 [.sl (Yc.code.map (cI .u8)), .i .i64 (IntKind.wrap .i64 (Yc.at_ + 1)), .i .u64 (IntKind.wrap .u64 ((IntKind.wrap .u64 ((IntKind.wrap .u64 (Yc.seed * 6364136223846793005)) + 0)) + 1442695040888963407))], .box 27 [.own 3, .own 4], .vec 32 3 (w3.map Gv.c) false, .nest 60 (w4.map fun l=>l.map (cI .i64)) false, .vec 32 3 (w5.map Gv.c) false, .nest 60 (w6.map fun l=>l.map (cI .i64)) false, .vec 76 4 (w7.map Gs.c) false, .vec 29 1 (w8.map (cF .f32)) false, .box 34 [.own 5, .own 6, .own 7, .f .f32 YW, .f .f32 YX, .own 8, .f .f32 YY, .f .f32 YZ, .f .f32 Y10], .nest 60 (w10.map fun l=>l.map (cI .i64)) false] func99 (q (sB h1<|sC (show (0:Int)≤40 from (by decide))<|sQ (Int.fdiv (IntKind.wrap .u64 ((IntKind.wrap .u64 ((IntKind.wrap .u64 (Yc.seed * 6364136223846793005)) + 0)) + 1442695040888963407)) (2 ^ (min (Int.toNat 40) (IntKind.bits .u64))))<|sQ (bitsOf .and .u64 (Int.fdiv (IntKind.wrap .u64 ((IntKind.wrap .u64 ((IntKind.wrap .u64 (Yc.seed * 6364136223846793005)) + 0)) + 1442695040888963407)) (2 ^ (min (Int.toNat 40) (IntKind.bits .u64)))) 255)<|sW .i64 (bitsOf .and .u64 (Int.fdiv (IntKind.wrap .u64 ((IntKind.wrap .u64 ((IntKind.wrap .u64 (Yc.seed * 6364136223846793005)) + 0)) + 1442695040888963407)) (2 ^ (min (Int.toNat 40) (IntKind.bits .u64)))) 255)<|sK [] sN)) rfl (by kernel_rfl) (by kernel_rfl) ?_ ?_
   · simp only [Z2,h0,h1,cond_false]
   · simp [Z2,h0,h1]
theorem Z3r (Yl:Nat) (Ym:Nat) (Yn:Nat) (Yo:Nat) (Yp:Nat) (w3:(List Gv)) (w4:(List (List Int))) (w5:(List Gv)) (w6:(List (List Int))) (w7:(List Gs)) (w8:(List Nat)) (YW:Nat) (YX:Nat) (YY:Nat) (YZ:Nat) (Y10:Nat) (w10:(List (List Int))) (Yc:Gl00Src) (YJ:Int) (hp0:Yc.code.length≤1073741824) (hp1:0≤Yc.at_) (hp2:Yc.at_≤1152921504606846970)  : X7 prog 55 [.box 34 [.nils, .nils, .nils, .f .f32 Yl, .f .f32 Ym, .nils, .f .f32 Yn, .f .f32 Yo, .f .f32 Yp], .box 134 [.sl (Yc.code.map (cI .u8)), .i .i64 Yc.at_, .i .u64 Yc.seed], .box 27 [.own 3, .own 4], .vec 32 3 (w3.map Gv.c) false, .nest 60 (w4.map fun l=>l.map (cI .i64)) false, .vec 32 3 (w5.map Gv.c) false, .nest 60 (w6.map fun l=>l.map (cI .i64)) false, .vec 76 4 (w7.map Gs.c) false, .vec 29 1 (w8.map (cF .f32)) false, .box 34 [.own 5, .own 6, .own 7, .f .f32 YW, .f .f32 YX, .own 8, .f .f32 YY, .f .f32 YZ, .f .f32 Y10], .nest 60 (w10.map fun l=>l.map (cI .i64)) false] [.ptr 1 0 0, .i .i64 YJ] (.i .i64 ((Z0 Yc YJ).1)) [.box 34 [.nils, .nils, .nils, .f .f32 Yl, .f .f32 Ym, .nils, .f .f32 Yn, .f .f32 Yo, .f .f32 Yp], .box 134 [.sl (Yc.code.map (cI .u8)), .i .i64 ((Z0 Yc YJ).2.1), .i .u64 ((Z0 Yc YJ).2.2)], .box 27 [.own 3, .own 4], .vec 32 3 (w3.map Gv.c) false, .nest 60 (w4.map fun l=>l.map (cI .i64)) false, .vec 32 3 (w5.map Gv.c) false, .nest 60 (w6.map fun l=>l.map (cI .i64)) false, .vec 76 4 (w7.map Gs.c) false, .vec 29 1 (w8.map (cF .f32)) false, .box 34 [.own 5, .own 6, .own 7, .f .f32 YW, .f .f32 YX, .own 8, .f .f32 YY, .f .f32 YZ, .f .f32 Y10], .nest 60 (w10.map fun l=>l.map (cI .i64)) false]:=by
 cases h0:(decide (YJ≤1)) with
 | true =>
  have gh0:=odt h0
  refine Xd (EpOk 11) Ze (c:=X0 f55) [.box 34 [.nils, .nils, .nils, .f .f32 Yl, .f .f32 Ym, .nils, .f .f32 Yn, .f .f32 Yo, .f .f32 Yp], .box 134 [.sl (Yc.code.map (cI .u8)), .i .i64 Yc.at_, .i .u64 Yc.seed], .box 27 [.own 3, .own 4], .vec 32 3 (w3.map Gv.c) false, .nest 60 (w4.map fun l=>l.map (cI .i64)) false, .vec 32 3 (w5.map Gv.c) false, .nest 60 (w6.map fun l=>l.map (cI .i64)) false, .vec 76 4 (w7.map Gs.c) false, .vec 29 1 (w8.map (cF .f32)) false, .box 34 [.own 5, .own 6, .own 7, .f .f32 YW, .f .f32 YX, .own 8, .f .f32 YY, .f .f32 YZ, .f .f32 Y10], .nest 60 (w10.map fun l=>l.map (cI .i64)) false] [] (.i .i64 0) [.box 34 [.nils, .nils, .nils, .f .f32 Yl, .f .f32 Ym, .nils, .f .f32 Yn, .f .f32 Yo, .f .f32 Yp], .box 134 [.sl (Yc.code.map (cI .u8)), .i .i64 Yc.at_, .i .u64 Yc.seed], .box 27 [.own 3, .own 4], .vec 32 3 (w3.map Gv.c) false, .nest 60 (w4.map fun l=>l.map (cI .i64)) false, .vec 32 3 (w5.map Gv.c) false, .nest 60 (w6.map fun l=>l.map (cI .i64)) false, .vec 76 4 (w7.map Gs.c) false, .vec 29 1 (w8.map (cF .f32)) false, .box 34 [.own 5, .own 6, .own 7, .f .f32 YW, .f .f32 YX, .own 8, .f .f32 YY, .f .f32 YZ, .f .f32 Y10], .nest 60 (w10.map fun l=>l.map (cI .i64)) false] func55 (sB h0<|sK [] sN) rfl (by kernel_rfl) (by kernel_rfl) ?_ ?_
  · simp only [Z0,h0,cond_true]
  · simp [Z0,h0]
 | false =>
  have gh0:=odf h0
  have y0:Yc.at_≤1152921504606846976:=(by omega)
  have l1:=(Z2O Yc)
  have p {a C} (s:Scr a C):=sB h0<|sS (Z3q Yl Ym Yn Yo Yp w3 w4 w5 w6 w7 w8 YW YX YY YZ Y10 w10 Yc hp0 hp1 y0)<|s
  cases h1:(decide (YJ > 200)) with
  | true =>
   have gh1:=odt h1
   have y1:(⟨Yc.code,(Z2 Yc).2.1,(Z2 Yc).2.2⟩:Gl00Src).code.length≤1073741824:=by clear p;exact (by assumption)
   have y2:0≤(⟨Yc.code,(Z2 Yc).2.1,(Z2 Yc).2.2⟩:Gl00Src).at_:=by clear p;exact (by simp_all<;>omega)
   have y3:(⟨Yc.code,(Z2 Yc).2.1,(Z2 Yc).2.2⟩:Gl00Src).at_≤1152921504606846976:=by clear p;exact (by simp_all<;>omega)
   have l2:=(Z2O (⟨Yc.code,(Z2 Yc).2.1,(Z2 Yc).2.2⟩:Gl00Src))
   have y4:YJ≠0:=by clear p;exact (by omega)
   refine Xd (EpOk 11) Ze (c:=X0 f55) [.box 34 [.nils, .nils, .nils, .f .f32 Yl, .f .f32 Ym, .nils, .f .f32 Yn, .f .f32 Yo, .f .f32 Yp], .box 134 [.sl (Yc.code.map (cI .u8)), .i .i64 Yc.at_, .i .u64 Yc.seed], .box 27 [.own 3, .own 4], .vec 32 3 (w3.map Gv.c) false, .nest 60 (w4.map fun l=>l.map (cI .i64)) false, .vec 32 3 (w5.map Gv.c) false, .nest 60 (w6.map fun l=>l.map (cI .i64)) false, .vec 76 4 (w7.map Gs.c) false, .vec 29 1 (w8.map (cF .f32)) false, .box 34 [.own 5, .own 6, .own 7, .f .f32 YW, .f .f32 YX, .own 8, .f .f32 YY, .f .f32 YZ, .f .f32 Y10], .nest 60 (w10.map fun l=>l.map (cI .i64)) false] [] (.i .i64 (Int.tmod (Zv Yc) YJ)) [.box 34 [.nils, .nils, .nils, .f .f32 Yl, .f .f32 Ym, .nils, .f .f32 Yn, .f .f32 Yo, .f .f32 Yp], .box 134 [.sl (Yc.code.map (cI .u8)), .i .i64 ((Z2 (⟨Yc.code,(Z2 Yc).2.1,(Z2 Yc).2.2⟩:Gl00Src)).2.1), .i .u64 ((Z2 (⟨Yc.code,(Z2 Yc).2.1,(Z2 Yc).2.2⟩:Gl00Src)).2.2)], .box 27 [.own 3, .own 4], .vec 32 3 (w3.map Gv.c) false, .nest 60 (w4.map fun l=>l.map (cI .i64)) false, .vec 32 3 (w5.map Gv.c) false, .nest 60 (w6.map fun l=>l.map (cI .i64)) false, .vec 76 4 (w7.map Gs.c) false, .vec 29 1 (w8.map (cF .f32)) false, .box 34 [.own 5, .own 6, .own 7, .f .f32 YW, .f .f32 YX, .own 8, .f .f32 YY, .f .f32 YZ, .f .f32 Y10], .nest 60 (w10.map fun l=>l.map (cI .i64)) false] func55 (p (sB h1<|sW .i64 ((Z2 Yc).1 * 256)<|sS (Z3q Yl Ym Yn Yo Yp w3 w4 w5 w6 w7 w8 YW YX YY YZ Y10 w10 (⟨Yc.code,(Z2 Yc).2.1,(Z2 Yc).2.2⟩:Gl00Src) y1 y2 y3)<|sM (show IntKind.wrap .i64 ((IntKind.wrap .i64 ((Z2 Yc).1 * 256)) + (Z2 (⟨Yc.code,(Z2 Yc).2.1,(Z2 Yc).2.2⟩:Gl00Src)).1)=(Zv Yc) from rfl)<|sC y4<|sQ (Int.tmod (Zv Yc) YJ)<|sK [] sN)) rfl (by kernel_rfl) (by kernel_rfl) ?_ ?_
   · simp only [Z0,h0,h1,cond_true,cond_false]
   · simp [Z0,h0,h1]
  | false =>
   have gh1:=odf h1
   have y1:YJ≠0:=by clear p;exact (by omega)
   refine Xd (EpOk 11) Ze (c:=X0 f55) [.box 34 [.nils, .nils, .nils, .f .f32 Yl, .f .f32 Ym, .nils, .f .f32 Yn, .f .f32 Yo, .f .f32 Yp], .box 134 [.sl (Yc.code.map (cI .u8)), .i .i64 Yc.at_, .i .u64 Yc.seed], .box 27 [.own 3, .own 4], .vec 32 3 (w3.map Gv.c) false, .nest 60 (w4.map fun l=>l.map (cI .i64)) false, .vec 32 3 (w5.map Gv.c) false, .nest 60 (w6.map fun l=>l.map (cI .i64)) false, .vec 76 4 (w7.map Gs.c) false, .vec 29 1 (w8.map (cF .f32)) false, .box 34 [.own 5, .own 6, .own 7, .f .f32 YW, .f .f32 YX, .own 8, .f .f32 YY, .f .f32 YZ, .f .f32 Y10], .nest 60 (w10.map fun l=>l.map (cI .i64)) false] [] (.i .i64 (Int.tmod ((Z2 Yc).1) YJ)) [.box 34 [.nils, .nils, .nils, .f .f32 Yl, .f .f32 Ym, .nils, .f .f32 Yn, .f .f32 Yo, .f .f32 Yp], .box 134 [.sl (Yc.code.map (cI .u8)), .i .i64 ((Z2 Yc).2.1), .i .u64 ((Z2 Yc).2.2)], .box 27 [.own 3, .own 4], .vec 32 3 (w3.map Gv.c) false, .nest 60 (w4.map fun l=>l.map (cI .i64)) false, .vec 32 3 (w5.map Gv.c) false, .nest 60 (w6.map fun l=>l.map (cI .i64)) false, .vec 76 4 (w7.map Gs.c) false, .vec 29 1 (w8.map (cF .f32)) false, .box 34 [.own 5, .own 6, .own 7, .f .f32 YW, .f .f32 YX, .own 8, .f .f32 YY, .f .f32 YZ, .f .f32 Y10], .nest 60 (w10.map fun l=>l.map (cI .i64)) false] func55 (p (sB h1<|sC y1<|sQ (Int.tmod ((Z2 Yc).1) YJ)<|sK [] sN)) rfl (by kernel_rfl) (by kernel_rfl) ?_ ?_
   · simp only [Z0,h0,h1,cond_false]
   · simp [Z0,h0,h1]
theorem Z3s (Yl:Nat) (Ym:Nat) (Yn:Nat) (Yo:Nat) (Yp:Nat) (Y11:Nat) (Y12:Nat) (Y13:Nat) (Y14:Nat) (Y15:Nat) (w4:(List (List Int))) (w5:(List Gv)) (w6:(List (List Int))) (w7:(List Gv)) (w8:(List (List Int))) (w9:(List Gs)) (w10:(List Nat)) (Yc:Gl00Src) (hp0:Yc.code.length≤1073741824) (hp1:0≤Yc.at_) (hp2:Yc.at_≤1152921504606846976)  : X7 prog 99 [.box 34 [.nils, .nils, .nils, .f .f32 Yl, .f .f32 Ym, .nils, .f .f32 Yn, .f .f32 Yo, .f .f32 Yp], .box 134 [.sl (Yc.code.map (cI .u8)), .i .i64 Yc.at_, .i .u64 Yc.seed], .box 27 [.own 5, .own 6], .box 34 [.own 7, .own 8, .own 9, .f .f32 Y11, .f .f32 Y12, .own 10, .f .f32 Y13, .f .f32 Y14, .f .f32 Y15], .nest 60 (w4.map fun l=>l.map (cI .i64)) false, .vec 32 3 (w5.map Gv.c) false, .nest 60 (w6.map fun l=>l.map (cI .i64)) false, .vec 32 3 (w7.map Gv.c) false, .nest 60 (w8.map fun l=>l.map (cI .i64)) false, .vec 76 4 (w9.map Gs.c) false, .vec 29 1 (w10.map (cF .f32)) false] [.ptr 1 0 0] (.i .i64 ((Z2 Yc).1)) [.box 34 [.nils, .nils, .nils, .f .f32 Yl, .f .f32 Ym, .nils, .f .f32 Yn, .f .f32 Yo, .f .f32 Yp], .box 134 [.sl (Yc.code.map (cI .u8)), .i .i64 ((Z2 Yc).2.1), .i .u64 ((Z2 Yc).2.2)], .box 27 [.own 5, .own 6], .box 34 [.own 7, .own 8, .own 9, .f .f32 Y11, .f .f32 Y12, .own 10, .f .f32 Y13, .f .f32 Y14, .f .f32 Y15], .nest 60 (w4.map fun l=>l.map (cI .i64)) false, .vec 32 3 (w5.map Gv.c) false, .nest 60 (w6.map fun l=>l.map (cI .i64)) false, .vec 32 3 (w7.map Gv.c) false, .nest 60 (w8.map fun l=>l.map (cI .i64)) false, .vec 76 4 (w9.map Gs.c) false, .vec 29 1 (w10.map (cF .f32)) false]:=by
 have p {a C} (s:Scr a C):=sK [9,9]<|sZ (cI .u8) Yc.code<|s
 cases h0:(decide (Yc.at_ < (Yc.code.length:Int))) with
 | true =>
  have gh0:=odt h0
  have y0:(0:Int)≤Yc.at_:=by clear p;exact (by assumption)
  have y1:Yc.at_ < (Yc.code.length:Int):=by clear p;exact (by assumption)
  have q {a C} (s:Scr a C):=p (sB h0<|sK [8,8]<|sG (cI .u8) Yc.code Yc.at_ y0 y1<|sW .i64 (Yc.code.getD Yc.at_.toNat default)<|sW .i64 (Yc.at_ + 1)<|sW .u64 (Yc.seed * 6364136223846793005)<|sW .u64 (IntKind.wrap .i64 (Yc.code.getD Yc.at_.toNat default))<|sW .u64 ((IntKind.wrap .u64 (Yc.seed * 6364136223846793005)) + (IntKind.wrap .u64 (IntKind.wrap .i64 (Yc.code.getD Yc.at_.toNat default))))<|sM (show IntKind.wrap .u64 ((IntKind.wrap .u64 ((IntKind.wrap .u64 (Yc.seed * 6364136223846793005)) + (IntKind.wrap .u64 (IntKind.wrap .i64 (Yc.code.getD Yc.at_.toNat default))))) + 1442695040888963407)=(Zf Yc) from rfl)<|sK [9,9]<|sZ (cI .u8) Yc.code<|s)
  clear p
  cases h1:(decide ((IntKind.wrap .i64 (Yc.at_ + 1))≤(Yc.code.length:Int))) with
  | true =>
   have gh1:=odt h1
   refine Xd (EpOk 11) Ze (c:=X0 f99) [.box 34 [.nils, .nils, .nils, .f .f32 Yl, .f .f32 Ym, .nils, .f .f32 Yn, .f .f32 Yo, .f .f32 Yp], .box 134 [.sl (Yc.code.map (cI .u8)), .i .i64 Yc.at_, .i .u64 Yc.seed], .box 27 [.own 5, .own 6], .box 34 [.own 7, .own 8, .own 9, .f .f32 Y11, .f .f32 Y12, .own 10, .f .f32 Y13, .f .f32 Y14, .f .f32 Y15], .nest 60 (w4.map fun l=>l.map (cI .i64)) false, .vec 32 3 (w5.map Gv.c) false, .nest 60 (w6.map fun l=>l.map (cI .i64)) false, .vec 32 3 (w7.map Gv.c) false, .nest 60 (w8.map fun l=>l.map (cI .i64)) false, .vec 76 4 (w9.map Gs.c) false, .vec 29 1 (w10.map (cF .f32)) false] [] (.i .i64 (IntKind.wrap .i64 (Yc.code.getD Yc.at_.toNat default))) [.box 34 [.nils, .nils, .nils, .f .f32 Yl, .f .f32 Ym, .nils, .f .f32 Yn, .f .f32 Yo, .f .f32 Yp], .box 134 [.sl (Yc.code.map (cI .u8)), .i .i64 (IntKind.wrap .i64 (Yc.at_ + 1)), .i .u64 (Zf Yc)], .box 27 [.own 5, .own 6], .box 34 [.own 7, .own 8, .own 9, .f .f32 Y11, .f .f32 Y12, .own 10, .f .f32 Y13, .f .f32 Y14, .f .f32 Y15], .nest 60 (w4.map fun l=>l.map (cI .i64)) false, .vec 32 3 (w5.map Gv.c) false, .nest 60 (w6.map fun l=>l.map (cI .i64)) false, .vec 32 3 (w7.map Gv.c) false, .nest 60 (w8.map fun l=>l.map (cI .i64)) false, .vec 76 4 (w9.map Gs.c) false, .vec 29 1 (w10.map (cF .f32)) false] func99 (q (sB h1<|sK [] sN)) rfl (by kernel_rfl) (by kernel_rfl) ?_ ?_
   · simp only [Z2,h0,h1,cond_true]
   · simp [Z2,h0,h1]
  | false =>
   have gh1:=odf h1
   refine Xd (EpOk 11) Ze (c:=X0 f99) [.box 34 [.nils, .nils, .nils, .f .f32 Yl, .f .f32 Ym, .nils, .f .f32 Yn, .f .f32 Yo, .f .f32 Yp], .box 134 [.sl (Yc.code.map (cI .u8)), .i .i64 Yc.at_, .i .u64 Yc.seed], .box 27 [.own 5, .own 6], .box 34 [.own 7, .own 8, .own 9, .f .f32 Y11, .f .f32 Y12, .own 10, .f .f32 Y13, .f .f32 Y14, .f .f32 Y15], .nest 60 (w4.map fun l=>l.map (cI .i64)) false, .vec 32 3 (w5.map Gv.c) false, .nest 60 (w6.map fun l=>l.map (cI .i64)) false, .vec 32 3 (w7.map Gv.c) false, .nest 60 (w8.map fun l=>l.map (cI .i64)) false, .vec 76 4 (w9.map Gs.c) false, .vec 29 1 (w10.map (cF .f32)) false] [] (.i .i64 (IntKind.wrap .i64 (bitsOf .and .u64 (Int.fdiv (Zf Yc) (2 ^ (min (Int.toNat 40) (IntKind.bits .u64)))) 255))) [.box 34 [.nils, .nils, .nils, .f .f32 Yl, .f .f32 Ym, .nils, .f .f32 Yn, .f .f32 Yo, .f .f32 Yp], .box 134 [.sl (Yc.code.map (cI .u8)), .i .i64 (IntKind.wrap .i64 (Yc.at_ + 1)), .i .u64 (Zf Yc)], .box 27 [.own 5, .own 6], .box 34 [.own 7, .own 8, .own 9, .f .f32 Y11, .f .f32 Y12, .own 10, .f .f32 Y13, .f .f32 Y14, .f .f32 Y15], .nest 60 (w4.map fun l=>l.map (cI .i64)) false, .vec 32 3 (w5.map Gv.c) false, .nest 60 (w6.map fun l=>l.map (cI .i64)) false, .vec 32 3 (w7.map Gv.c) false, .nest 60 (w8.map fun l=>l.map (cI .i64)) false, .vec 76 4 (w9.map Gs.c) false, .vec 29 1 (w10.map (cF .f32)) false] func99 (q (sB h1<|sC (show (0:Int)≤40 from (by decide))<|sQ (Int.fdiv (Zf Yc) (2 ^ (min (Int.toNat 40) (IntKind.bits .u64))))<|sQ (bitsOf .and .u64 (Int.fdiv (Zf Yc) (2 ^ (min (Int.toNat 40) (IntKind.bits .u64)))) 255)<|sW .i64 (bitsOf .and .u64 (Int.fdiv (Zf Yc) (2 ^ (min (Int.toNat 40) (IntKind.bits .u64)))) 255)<|sK [] sN)) rfl (by kernel_rfl) (by kernel_rfl) ?_ ?_
   · simp only [Z2,h0,h1,cond_true,cond_false]
   · simp [Z2,h0,h1]
 | false =>
  have gh0:=odf h0
  have q {a C} (s:Scr a C):=p (sB h0<|sW .i64 (Yc.at_ + 1)<|sW .u64 (Yc.seed * 6364136223846793005)<|sM (show IntKind.wrap .u64 0=0 from rfl)<|sW .u64 ((IntKind.wrap .u64 (Yc.seed * 6364136223846793005)) + 0)<|sW .u64 ((IntKind.wrap .u64 ((IntKind.wrap .u64 (Yc.seed * 6364136223846793005)) + 0)) + 1442695040888963407)<|sK [9,9]<|sZ (cI .u8) Yc.code<|s)
  clear p
  cases h1:(decide ((IntKind.wrap .i64 (Yc.at_ + 1))≤(Yc.code.length:Int))) with
  | true =>
   have gh1:=odt h1
   refine Xd (EpOk 11) Ze (c:=X0 f99) [.box 34 [.nils, .nils, .nils, .f .f32 Yl, .f .f32 Ym, .nils, .f .f32 Yn, .f .f32 Yo, .f .f32 Yp], .box 134 [.sl (Yc.code.map (cI .u8)), .i .i64 Yc.at_, .i .u64 Yc.seed], .box 27 [.own 5, .own 6], .box 34 [.own 7, .own 8, .own 9, .f .f32 Y11, .f .f32 Y12, .own 10, .f .f32 Y13, .f .f32 Y14, .f .f32 Y15], .nest 60 (w4.map fun l=>l.map (cI .i64)) false, .vec 32 3 (w5.map Gv.c) false, .nest 60 (w6.map fun l=>l.map (cI .i64)) false, .vec 32 3 (w7.map Gv.c) false, .nest 60 (w8.map fun l=>l.map (cI .i64)) false, .vec 76 4 (w9.map Gs.c) false, .vec 29 1 (w10.map (cF .f32)) false] [] (.i .i64 0) [.box 34 [.nils, .nils, .nils, .f .f32 Yl, .f .f32 Ym, .nils, .f .f32 Yn, .f .f32 Yo, .f .f32 Yp], .box 134 [.sl (Yc.code.map (cI .u8)), .i .i64 (IntKind.wrap .i64 (Yc.at_ + 1)), .i .u64 (IntKind.wrap .u64 ((IntKind.wrap .u64 ((IntKind.wrap .u64 (Yc.seed * 6364136223846793005)) + 0)) + 1442695040888963407))], .box 27 [.own 5, .own 6], .box 34 [.own 7, .own 8, .own 9, .f .f32 Y11, .f .f32 Y12, .own 10, .f .f32 Y13, .f .f32 Y14, .f .f32 Y15], .nest 60 (w4.map fun l=>l.map (cI .i64)) false, .vec 32 3 (w5.map Gv.c) false, .nest 60 (w6.map fun l=>l.map (cI .i64)) false, .vec 32 3 (w7.map Gv.c) false, .nest 60 (w8.map fun l=>l.map (cI .i64)) false, .vec 76 4 (w9.map Gs.c) false, .vec 29 1 (w10.map (cF .f32)) false] func99 (q (sB h1<|sK [] sN)) rfl (by kernel_rfl) (by kernel_rfl) ?_ ?_
   · simp only [Z2,h0,h1,cond_true,cond_false]
   · simp [Z2,h0,h1]
  | false =>
   have gh1:=odf h1
   refine Xd (EpOk 11) Ze (c:=X0 f99) [.box 34 [.nils, .nils, .nils, .f .f32 Yl, .f .f32 Ym, .nils, .f .f32 Yn, .f .f32 Yo, .f .f32 Yp], .box 134 [.sl (Yc.code.map (cI .u8)), .i .i64 Yc.at_, .i .u64 Yc.seed], .box 27 [.own 5, .own 6], .box 34 [.own 7, .own 8, .own 9, .f .f32 Y11, .f .f32 Y12, .own 10, .f .f32 Y13, .f .f32 Y14, .f .f32 Y15], .nest 60 (w4.map fun l=>l.map (cI .i64)) false, .vec 32 3 (w5.map Gv.c) false, .nest 60 (w6.map fun l=>l.map (cI .i64)) false, .vec 32 3 (w7.map Gv.c) false, .nest 60 (w8.map fun l=>l.map (cI .i64)) false, .vec 76 4 (w9.map Gs.c) false, .vec 29 1 (w10.map (cF .f32)) false] [] (.i .i64 (IntKind.wrap .i64 (bitsOf .and .u64 (Int.fdiv (IntKind.wrap .u64 ((IntKind.wrap .u64 ((IntKind.wrap .u64 (Yc.seed * 6364136223846793005)) + 0)) + 1442695040888963407)) (2 ^ (min (Int.toNat 40) (IntKind.bits .u64)))) 255))) [.box 34 [.nils, .nils, .nils, .f .f32 Yl, .f .f32 Ym, .nils, .f .f32 Yn, .f .f32 Yo, .f .f32 Yp], .box 134 [.sl (Yc.code.map (cI .u8)), .i .i64 (IntKind.wrap .i64 (Yc.at_ + 1)), .i .u64 (IntKind.wrap .u64 ((IntKind.wrap .u64 ((IntKind.wrap .u64 (Yc.seed * 6364136223846793005)) + 0)) + 1442695040888963407))], .box 27 [.own 5, .own 6], .box 34 [.own 7, .own 8, .own 9, .f .f32 Y11, .f .f32 Y12, .own 10, .f .f32 Y13, .f .f32 Y14, .f .f32 Y15], .nest 60 (w4.map fun l=>l.map (cI .i64)) false, .vec 32 3 (w5.map Gv.c) false, .nest 60 (w6.map fun l=>l.map (cI .i64)) false, .vec 32 3 (w7.map Gv.c) false, .nest 60 (w8.map fun l=>l.map (cI .i64)) false, .vec 76 4 (w9.map Gs.c) false, .vec 29 1 (w10.map (cF .f32)) false] func99 (q (sB h1<|sC (show (0:Int)≤40 from (by decide))<|sQ (Int.fdiv (IntKind.wrap .u64 ((IntKind.wrap .u64 ((IntKind.wrap .u64 (Yc.seed * 6364136223846793005)) + 0)) + 1442695040888963407)) (2 ^ (min (Int.toNat 40) (IntKind.bits .u64))))<|sQ (bitsOf .and .u64 (Int.fdiv (IntKind.wrap .u64 ((IntKind.wrap .u64 ((IntKind.wrap .u64 (Yc.seed * 6364136223846793005)) + 0)) + 1442695040888963407)) (2 ^ (min (Int.toNat 40) (IntKind.bits .u64)))) 255)<|sW .i64 (bitsOf .and .u64 (Int.fdiv (IntKind.wrap .u64 ((IntKind.wrap .u64 ((IntKind.wrap .u64 (Yc.seed * 6364136223846793005)) + 0)) + 1442695040888963407)) (2 ^ (min (Int.toNat 40) (IntKind.bits .u64)))) 255)<|sK [] sN)) rfl (by kernel_rfl) (by kernel_rfl) ?_ ?_
   · simp only [Z2,h0,h1,cond_false]
   · simp [Z2,h0,h1]
end Go.Ab
