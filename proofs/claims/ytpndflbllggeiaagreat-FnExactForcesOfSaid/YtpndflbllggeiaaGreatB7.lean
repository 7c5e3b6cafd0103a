/- The functions of this seat as plain Lean, and that the program's are these. Printed by a program of the prover's own. -/
import Derived.Test.YtpndflbllggeiaaGreatB6
set_option linter.unusedVariables false
set_option linter.unusedSimpArgs false
set_option maxRecDepth 100000
namespace Go.Ab
open Go.RowKit Go.Proofs.Tryz
theorem Z7Y (arr_0 : GBody) : ∀ (k : Nat) (x_l0 : Int) (r2_l1 : (List GVector)) (hk : ((arr_0.Weights.length : Int) - x_l0).toNat < k), (ZK arr_0 k x_l0 r2_l1).length = r2_l1.length := by
  intro k
  induction k with
  | zero => intro x_l0 r2_l1 hk; exact absurd hk (Nat.not_lt_zero _)
  | succ k ih =>
    intro x_l0 r2_l1 hk
    cases h_0 : (decide (x_l0 < (arr_0.Weights.length : Int))) with
    | true =>
      have e : ZK arr_0 (k + 1) x_l0 r2_l1 = (ZK arr_0 k (x_l0 + 1) (Zk x_l0 arr_0.Fall (arr_0.Weights.getD x_l0.toNat default) r2_l1)) := by simp only [ZK, h_0, cond_true]
      rw [e, ih (x_l0 + 1) (Zk x_l0 arr_0.Fall (arr_0.Weights.getD x_l0.toNat default) r2_l1) (by simp_all <;> omega)]; simp
    | false =>
      have e : ZK arr_0 (k + 1) x_l0 r2_l1 = r2_l1 := by simp only [ZK, h_0, cond_false]
      first | (rw [e]; done) | (rw [e]; rfl)
def Z3a (arr_0 : GBody) : (List GVector) := (ZK arr_0 (((arr_0.Weights.length : Int) - 0).toNat + 1) 0 (Z2n arr_0))
@[simp] theorem Zav (arr_0 : GBody) : (Z3a arr_0).length = ((Z2n arr_0) : (List GVector)).length := Z7Y arr_0 (((arr_0.Weights.length : Int) - 0).toNat + 1) 0 (Z2n arr_0) (by exact Nat.lt_succ_self _)
def Z2V (arr_0 : GBody) : (List GVector) := (Z3a arr_0)
@[simp] theorem Zb6 (arr_0 : GBody) : (Z2V arr_0).length = arr_0.Mesh.Places.length := by
  first | (simp [Z2V]; done)
theorem Zbb (b : GBody) : ZY b = ZU b := by kernel_rfl
theorem Zbc (b : GBody) (x : Int) (r : List GVector) (h : fcmp .gtr .f32 (Z1O (Z9 b.Mesh (b.Mesh.Triangles.getD x.toNat default))) 0 = true) : ∀ (k : Nat) (y : Int) (s : List GVector), ZR b x r k y s = Zx b x r k y s := by
  intro k
  induction k with
  | zero => intro y s; rfl
  | succ k ih =>
    intro y s
    rw [ZR, Zx, ih]
    unfold Z1s Z3N Z1r Z3e
    rw [h]
    kernel_rfl
theorem Zbd (b : GBody) (x : Int) (r : List GVector) (h : fcmp .gtr .f32 (Z1O (Z9 b.Mesh (b.Mesh.Triangles.getD x.toNat default))) 0 = false) : ∀ (k : Nat) (y : Int) (s : List GVector), ZS b x r k y s = Zx b x r k y s := by
  intro k
  induction k with
  | zero => intro y s; rfl
  | succ k ih =>
    intro y s
    rw [ZS, Zx, ih]
    unfold Z1s Z3N Z1r Z3e
    rw [h]
    kernel_rfl
theorem Zbe (b : GBody) : ∀ (k : Nat) (x : Int) (r : List GVector), Zm b k x r = ZE b k x r := by
  intro k
  induction k with
  | zero => intro x r; rfl
  | succ k ih =>
    intro x r
    rw [Zm, ZE]
    rw [show fcmp .gtr .f32 (Zj (Z7 b.Mesh (b.Mesh.Triangles.getD x.toNat default))) 0 = fcmp .gtr .f32 (Z1O (Z9 b.Mesh (b.Mesh.Triangles.getD x.toNat default))) 0 from by kernel_rfl]
    unfold Z1Y Z1Z Z1P
    cases h : fcmp .gtr .f32 (Z1O (Z9 b.Mesh (b.Mesh.Triangles.getD x.toNat default))) 0 with
    | true => rw [cond_true, ih, Zbc b x r h]
    | false => rw [cond_false, ih, Zbd b x r h]
theorem Zbf (b : GBody) (h : Z5 b.Mesh = Z0 b.Mesh) : ∀ (k : Nat) (x : Int) (r : List GVector), ZJ b k x r = ZF b k x r := by
  intro k
  induction k with
  | zero => intro x r; rfl
  | succ k ih =>
    intro x r
    rw [ZJ, ZF, ih]
    unfold Z2b Z2a Z29 Z2m
    rw [h]
    kernel_rfl
theorem Zbg (b : GBody) (h : b.Weights.length = b.Mesh.Places.length) : ∀ (k : Nat) (x : Int) (r : List GVector), ZK b k x r = ZG b k x r := by
  intro k
  induction k with
  | zero => intro x r; rfl
  | succ k ih =>
    intro x r
    rw [ZK, ZG, ih, h]
    kernel_rfl
theorem ZaR (b : GBody) (ok : OkBd b) : Z2V b = Z2K b := by
  have h : Z5 b.Mesh = Z0 b.Mesh := by rw [Z5f _ ok.e, Z73 _ ok.e]
  unfold Z2V Z2K Z3a Z2Z Z2n Z2e Z2l Z2d Z2k Z2c
  have e2 : Zm b = ZE b := by funext k x r; exact Zbe b k x r
  have e5 : ZJ b = ZF b := by funext k x r; exact Zbf b h k x r
  have e6 : ZK b = ZG b := by funext k x r; exact Zbg b ok.w k x r
  rw [Zbb, e2, e5, e6, h, ok.w]
theorem Z9S (arr_0 : GBody) (hp0 : arr_0.Mesh.Places.length ≤ 1073741824) (hp1 : arr_0.Mesh.Triangles.length ≤ 1073741824) (hp2 : ∀ t ∈ arr_0.Mesh.Triangles, t.length ≤ 1073741824) (hp3 : arr_0.Springs.length ≤ 1073741824) (hp4 : arr_0.Weights.length ≤ 1073741824) (hp5 : OkBd arr_0)  : Fn prog 57 [.agg [.sl (arr_0.Mesh.Places.map GVector.cells), .sl (arr_0.Mesh.Triangles.map (cL (cI .i64))), .sl (arr_0.Springs.map GSpring.cells), .f .f32 arr_0.Film, .f .f32 arr_0.Bend, .sl (arr_0.Weights.map (cF .f32)), .f .f32 arr_0.Fall.X, .f .f32 arr_0.Fall.Y, .f .f32 arr_0.Fall.Z]] (.own 0) [.vec 40 3 ((Z2V arr_0).map GVector.cells) false] := by
 have y0 : (0 : Int) ≤ (arr_0.Mesh.Places.length : Int) := (by omega)
 have y1 : ((arr_0.Mesh.Places.length : Int) : Int) ≤ 2147483648 := (by omega)
 have y2 : OkE arr_0.Mesh.Places.length arr_0.Mesh.Triangles := (by exact hp5.e)
 refine fnS E0Ok Z4 (c := bodyOf f57) [] (.own 0) [.vec 40 3 ((Z3a arr_0).map GVector.cells) false] func57 (sZ GVector.cells arr_0.Mesh.Places <| sC (show (arr_0.Mesh.Places.length : Int) = (arr_0.Mesh.Places.length : Int) from rfl) <| sC y0 <| sC y1 <| sZ GSpring.cells arr_0.Springs <| sL (mR false [0, 5, 18, 10, 146]) 3 (lp_cast (st2 := ⟨.agg [.sl (arr_0.Mesh.Places.map GVector.cells), .sl (arr_0.Mesh.Triangles.map (cL (cI .i64))), .sl (arr_0.Springs.map GSpring.cells), .f .f32 arr_0.Film, .f .f32 arr_0.Bend, .sl (arr_0.Weights.map (cF .f32)), .f .f32 arr_0.Fall.X, .f .f32 arr_0.Fall.Y, .f .f32 arr_0.Fall.Z] :: .ptr 0 0 0 :: .nils :: .ptr 2 0 0 :: .fn 106 [.ptr 2 0 0] :: an 18 (.ptr 0 0 0 :: .ptr 0 0 0 :: .sl (arr_0.Mesh.Places.map GVector.cells) :: .i .i64 (arr_0.Mesh.Places.length : Int) :: .own 1 :: .fn 106 [.ptr 2 0 0] :: .ptr 0 0 2 :: .sl (arr_0.Springs.map GSpring.cells) :: .i .i64 (arr_0.Springs.length : Int) :: .i .i64 0 :: an 146 []), [.box 42 [.sl (arr_0.Mesh.Places.map GVector.cells), .sl (arr_0.Mesh.Triangles.map (cL (cI .i64))), .sl (arr_0.Springs.map GSpring.cells), .f .f32 arr_0.Film, .f .f32 arr_0.Bend, .sl (arr_0.Weights.map (cF .f32)), .f .f32 arr_0.Fall.X, .f .f32 arr_0.Fall.Y, .f .f32 arr_0.Fall.Z], .vec 40 3 (List.replicate (Int.toNat (arr_0.Mesh.Places.length : Int)) [.f .f32 0, .f .f32 0, .f .f32 0]) false, .box 34 [.own 1]]⟩) (lp_val (Z4U arr_0) (x := (Z2k arr_0)) (Z8F arr_0 hp0 hp1 hp2 hp3 hp4 hp5 (((arr_0.Springs.length : Int) - 0).toNat + 1) 0 (List.replicate (arr_0.Mesh.Places.length : Int).toNat (⟨0, 0, 0⟩ : GVector)) (show 0 ≤ 0 from (by omega)) (show (List.replicate (arr_0.Mesh.Places.length : Int).toNat (⟨0, 0, 0⟩ : GVector)).length = arr_0.Mesh.Places.length from (by simp; done)) (Nat.lt_succ_self _)) rfl) (by simp [Z6x, GVector.cells])) <| sZ (cL (cI .i64)) arr_0.Mesh.Triangles <| sL Z4n 3 (lp_val (Z4X arr_0) (x := (Z2l arr_0)) (Z8L arr_0 hp0 hp1 hp2 hp3 hp4 hp5 (((arr_0.Mesh.Triangles.length : Int) - 0).toNat + 1) 0 (Z2k arr_0) (show 0 ≤ 0 from (by omega)) (show (Z2k arr_0).length = arr_0.Mesh.Places.length from (by simp; done)) (Nat.lt_succ_self _)) rfl) <| sF (Z9R arr_0.Mesh hp0 hp1 hp2 y2) <| sM (nlen_ok (l := (Z5 arr_0.Mesh)) (f := fun l => l.map (cI .i64))) <| sL Z60 4 (lp_val (Z4Y arr_0) (x := (Z2n arr_0)) (Z8N arr_0 hp0 hp1 hp2 hp3 hp4 hp5 ((((Z5 arr_0.Mesh).length : Int) - 0).toNat + 1) 0 (Z2l arr_0) (show 0 ≤ 0 from (by omega)) (show (Z2l arr_0).length = arr_0.Mesh.Places.length from (by simp; done)) (Nat.lt_succ_self _)) rfl) <| sZ (cF .f32) arr_0.Weights <| sL Z63 4 (lp_val (Z4Z arr_0) (x := (Z3a arr_0)) (Z8P arr_0 hp0 hp1 hp2 hp3 hp4 hp5 (((arr_0.Weights.length : Int) - 0).toNat + 1) 0 (Z2n arr_0) (show 0 ≤ 0 from (by omega)) (show (Z2n arr_0).length = arr_0.Mesh.Places.length from (by simp; done)) (Nat.lt_succ_self _)) rfl) <| sK [2] sN) rfl (by kernel_rfl) (by kernel_rfl) rfl ?_ ?_
 · rfl
 · simp [Z2V]
def Zh (b_0 : GBody) : (List GVector) × Bool := (cond (Z28 b_0)
  ((Z2V b_0), true)
  (([] : List GVector), false))
theorem Z7Z (b_0 : GBody) : (Zh b_0).1.length ≤ b_0.Mesh.Places.length := by
  cases h0 : (Z28 b_0) with
  | true =>
    first | (simp [Zh, h0]; done)
  | false =>
    first | (simp [Zh, h0]; done)
theorem Z98 (b : GBody) : Zh b = ZH b := by
  unfold Zh ZH
  rw [Z8A]
  cases h : Z1B b with
  | false => rfl
  | true => rw [cond_true, cond_true, ZaR b (Za1 b h)]
theorem Z9w (b : GBody) : (ZH b).1.length ≤ b.Mesh.Places.length := by
  unfold ZH
  cases Z1B b with
  | false => exact Nat.zero_le _
  | true => simp
theorem Z9x (b : GBody) : (Zh b).1.length ≤ b.Mesh.Places.length := by rw [Z98]; exact Z9w b
theorem Z7e (b_0 : GBody) (hp0 : b_0.Mesh.Places.length ≤ 1073741824) (hp1 : b_0.Mesh.Triangles.length ≤ 1073741824) (hp2 : ∀ t ∈ b_0.Mesh.Triangles, t.length ≤ 1073741824) (hp3 : b_0.Springs.length ≤ 1073741824) (hp4 : b_0.Weights.length ≤ 1073741824)  : Fn prog 14 [.agg [.sl (b_0.Mesh.Places.map GVector.cells), .sl (b_0.Mesh.Triangles.map (cL (cI .i64))), .sl (b_0.Springs.map GSpring.cells), .f .f32 b_0.Film, .f .f32 b_0.Bend, .sl (b_0.Weights.map (cF .f32)), .f .f32 b_0.Fall.X, .f .f32 b_0.Fall.Y, .f .f32 b_0.Fall.Z]] (.tup [.own 0, .b ((Zh b_0).2)]) [.vec 40 3 (((Zh b_0).1).map GVector.cells) false] := by
 have p {a C} (s : Scr a C) := sF (Z9v b_0 hp0 hp1 hp2 hp3 hp4) <| s
 cases h0 : (Z28 b_0) with
 | true =>
  have y0 : OkBd b_0 := by clear p; exact (by exact Za1 _ (by rw [← Z8A]; assumption))
  refine fnS E0Ok Z4 (c := bodyOf f14) [] (.tup [.own 0, .b true]) [.vec 40 3 ((Z2V b_0).map GVector.cells) false] func14 (p (sB' h0 <| sF (Z9S b_0 hp0 hp1 hp2 hp3 hp4 y0) <| sK [1] sN)) rfl (by kernel_rfl) (by kernel_rfl) rfl ?_ ?_
  · simp only [Zh, h0, cond_true]
  · simp [Zh, h0]
 | false =>
  refine fnS E0Ok Z4 (c := bodyOf f14) [(.tm 2, .vec 40 3 [] false)] (.tup [.own 0, .b false]) [.vec 40 3 [] false] func14 (p (sB' h0 <| sK [1] sN)) rfl (by kernel_rfl) (by kernel_rfl) rfl ?_ ?_
  · simp only [Zh, h0, cond_false]
  · simp [Zh, h0, GVector.cells]
def Zq (a_0 : Nat) (b_1 : Nat) : Bool := (cond (fcmp .neq .f64 a_0 a_0)
  (fcmp .neq .f64 b_1 b_1)
  (cond (fcmp .neq .f64 b_1 b_1)
    false
    (cond (fcmp .eql .f64 a_0 0)
      (cond (fcmp .eql .f64 b_1 0)
        ((fcmp .gtr .f64 (fop .quo .f64 4607182418800017408 a_0) 0) == (fcmp .gtr .f64 (fop .quo .f64 4607182418800017408 b_1) 0))
        (fcmp .eql .f64 a_0 b_1))
      (fcmp .eql .f64 a_0 b_1))))
theorem Z2L (a_0 : Nat) (b_1 : Nat)   : Fn prog 23 [.f .f64 a_0, .f .f64 b_1] (.b (Zq a_0 b_1)) [] := by
 cases h0 : (fcmp .neq .f64 a_0 a_0) with
 | true =>
  refine fnS E0Ok Z4 (c := bodyOf f23) [] (.b (fcmp .neq .f64 b_1 b_1)) [] func23 (sB h0 <| sB h0 <| sB h0 <| sB h0 <| sB (show true = true from rfl) <| sB h0 <| sB h0 <| sB h0 <| sB h0 <| sK [] sN) rfl (by kernel_rfl) (by kernel_rfl) rfl ?_ ?_
  · simp only [Zq, h0, cond_true]
  · rfl
 | false =>
  have p {a C} (s : Scr a C) := sB h0 <| sB h0 <| sB h0 <| sB h0 <| s
  cases h1 : (fcmp .neq .f64 b_1 b_1) with
  | true =>
   refine fnS E0Ok Z4 (c := bodyOf f23) [] (.b false) [] func23 (p (sB h1 <| sB h0 <| sB h0 <| sB h0 <| sB h0 <| sK [] sN)) rfl (by kernel_rfl) (by kernel_rfl) rfl ?_ ?_
   · simp only [Zq, h0, h1, cond_true, cond_false]
   · rfl
  | false =>
   have q {a C} (s : Scr a C) := p (sB h1 <| s)
   clear p
   cases h2 : (fcmp .eql .f64 a_0 0) with
   | true =>
    have p {a C} (s : Scr a C) := q (sB h2 <| sB h2 <| sB h2 <| s)
    clear q
    cases h3 : (fcmp .eql .f64 b_1 0) with
    | true =>
     refine fnS E0Ok Z4 (c := bodyOf f23) [] (.b ((fcmp .gtr .f64 (fop .quo .f64 4607182418800017408 a_0) 0) == (fcmp .gtr .f64 (fop .quo .f64 4607182418800017408 b_1) 0))) [] func23 (p (sB h3 <| sK [] sN)) rfl (by kernel_rfl) (by kernel_rfl) rfl ?_ ?_
     · simp only [Zq, h0, h1, h2, h3, cond_true, cond_false]
     · rfl
    | false =>
     refine fnS E0Ok Z4 (c := bodyOf f23) [] (.b (fcmp .eql .f64 a_0 b_1)) [] func23 (p (sB h3 <| sK [] sN)) rfl (by kernel_rfl) (by kernel_rfl) rfl ?_ ?_
     · simp only [Zq, h0, h1, h2, h3, cond_true, cond_false]
     · rfl
   | false =>
    refine fnS E0Ok Z4 (c := bodyOf f23) [] (.b (fcmp .eql .f64 a_0 b_1)) [] func23 (q (sB h2 <| sB h2 <| sB h2 <| sB (show false = false from rfl) <| sK [] sN)) rfl (by kernel_rfl) (by kernel_rfl) rfl ?_ ?_
    · simp only [Zq, h0, h1, h2, cond_false]
    · rfl
theorem Z7f (x : Nat) : Zq x x = true := by
  unfold Zq
  cases h : fcmp .neq .f64 x x
  · simp only [cond_false]
    have h2 : fcmp .eql .f64 x x = true := by
      unfold fcmp at h ⊢
      simpa using h
    cases fcmp .eql .f64 x 0 <;> simp [h2]
  · rfl
def Z26 (a_0 : GVector) (b_1 : GVector) : Bool := (cond (Zq (fcv .f32 .f64 a_0.X) (fcv .f32 .f64 b_1.X))
  (cond (Zq (fcv .f32 .f64 a_0.Y) (fcv .f32 .f64 b_1.Y))
    (cond (Zq (fcv .f32 .f64 a_0.Z) (fcv .f32 .f64 b_1.Z))
      true
      false)
    false)
  false)
theorem Z7g (a_0 : GVector) (b_1 : GVector)   : Fn prog 58 [.agg [.f .f32 a_0.X, .f .f32 a_0.Y, .f .f32 a_0.Z], .agg [.f .f32 b_1.X, .f .f32 b_1.Y, .f .f32 b_1.Z]] (.b (Z26 a_0 b_1)) [] := by
 have p {a C} (s : Scr a C) := sC (widenOk a_0.X) <| sC (widenOk b_1.X) <| sF (Z2L (fcv .f32 .f64 a_0.X) (fcv .f32 .f64 b_1.X)) <| s
 cases h0 : (Zq (fcv .f32 .f64 a_0.X) (fcv .f32 .f64 b_1.X)) with
 | true =>
  have q {a C} (s : Scr a C) := p (sB' h0 <| sC (widenOk a_0.Y) <| sC (widenOk b_1.Y) <| sF (Z2L (fcv .f32 .f64 a_0.Y) (fcv .f32 .f64 b_1.Y)) <| s)
  clear p
  cases h1 : (Zq (fcv .f32 .f64 a_0.Y) (fcv .f32 .f64 b_1.Y)) with
  | true =>
   have p {a C} (s : Scr a C) := q (sB' h1 <| sC (widenOk a_0.Z) <| sC (widenOk b_1.Z) <| sF (Z2L (fcv .f32 .f64 a_0.Z) (fcv .f32 .f64 b_1.Z)) <| s)
   clear q
   cases h2 : (Zq (fcv .f32 .f64 a_0.Z) (fcv .f32 .f64 b_1.Z)) with
   | true =>
    refine fnS E0Ok Z4 (c := bodyOf f58) [] (.b true) [] func58 (p (sB' h2 <| sK [] sN)) rfl (by kernel_rfl) (by kernel_rfl) rfl ?_ ?_
    · simp only [Z26, h0, h1, h2, cond_true]
    · rfl
   | false =>
    refine fnS E0Ok Z4 (c := bodyOf f58) [] (.b false) [] func58 (p (sB' h2 <| sK [] sN)) rfl (by kernel_rfl) (by kernel_rfl) rfl ?_ ?_
    · simp only [Z26, h0, h1, h2, cond_true, cond_false]
    · rfl
  | false =>
   refine fnS E0Ok Z4 (c := bodyOf f58) [] (.b false) [] func58 (q (sB' h1 <| sK [] sN)) rfl (by kernel_rfl) (by kernel_rfl) rfl ?_ ?_
   · simp only [Z26, h0, h1, cond_true, cond_false]
   · rfl
 | false =>
  refine fnS E0Ok Z4 (c := bodyOf f58) [] (.b false) [] func58 (p (sB' h0 <| sK [] sN)) rfl (by kernel_rfl) (by kernel_rfl) rfl ?_ ?_
  · simp only [Z26, h0, cond_false]
  · rfl
theorem Z83 (a : GVector) : Z26 a a = true := by
  simp [Z26, Z7f]
def Z1u (a_0 : (List GVector)) (b_1 : (List GVector)) : Nat → Int → (Unit) ⊕ (Unit)
  | 0, _ => .inl default
  | k + 1, i_l0 => (cond (decide (i_l0 < (a_0.length : Int)))
    (cond (Z26 (a_0.getD i_l0.toNat default) (b_1.getD i_l0.toNat default))
      (Z1u a_0 b_1 k (i_l0 + 1))
      (.inl ()))
    (.inr ()))
def Z3R (a_0 : (List GVector)) (b_1 : (List GVector)) : (Unit) ⊕ (Unit) → Ex × St
  | .inl r => (.ret, ⟨an 4 (.b false :: an 22 []), []⟩)
  | .inr r => ((.exit 0), ⟨.sl (a_0.map GVector.cells) :: .sl (b_1.map GVector.cells) :: an 4 (.sl (a_0.map GVector.cells) :: .i .i64 (a_0.length : Int) :: .sl (b_1.map GVector.cells) :: .i .i64 (b_1.length : Int) :: .b ((a_0.length : Int) != (b_1.length : Int)) :: an 16 []), []⟩)
def Z8m (a_0 : (List GVector)) (b_1 : (List GVector)) (i_l0 : Int) : St := ⟨.sl (a_0.map GVector.cells) :: .sl (b_1.map GVector.cells) :: .any :: .any :: .any :: .i .i64 i_l0 :: .sl (a_0.map GVector.cells) :: .i .i64 (a_0.length : Int) :: .sl (b_1.map GVector.cells) :: .i .i64 (b_1.length : Int) :: .b ((a_0.length : Int) != (b_1.length : Int)) :: an 16 [], []⟩
theorem Z6l (a_0 : (List GVector)) (b_1 : (List GVector)) (hp0 : a_0.length ≤ 1073741824) (hp1 : b_1.length ≤ 1073741824) (Zb7 : ((a_0.length : Int) != (b_1.length : Int)) = false) : ∀ (k : Nat) (i_l0 : Int) (Z5E : 0 ≤ i_l0) (hk : ((a_0.length : Int) - i_l0).toNat < k), Lp prog 0 (sub (bodyOf f15) [1, 1, 0, 1, 0, 0]) (Z8m a_0 b_1 i_l0) (Z3R a_0 b_1 (Z1u a_0 b_1 k i_l0)).1 (Z3R a_0 b_1 (Z1u a_0 b_1 k i_l0)).2 := by
 intro k
 induction k with
 | zero => intro i_l0 Z5E hk; exact absurd hk (Nat.not_lt_zero _)
 | succ k ih =>
  intro i_l0 Z5E hk
  have p {a C} (s : Scr a C) := sZ GVector.cells a_0 <| s
  cases h_0 : (decide (i_l0 < (a_0.length : Int))) with
  | true =>
   have gh_0 := of_decide_eq_true h_0
   have y_0 : (0 : Int) ≤ i_l0 := by clear p; exact (by assumption)
   have y_1 : i_l0 < (a_0.length : Int) := by clear p; exact (by assumption)
   have y_2 : i_l0 < (b_1.length : Int) := by clear p; exact (by simp_all <;> omega)
   have q {a C} (s : Scr a C) := p (sB h_0 <| sK [8, 8] <| sG GVector.cells a_0 i_l0 y_0 y_1 <| sG GVector.cells b_1 i_l0 y_0 y_2 <| sF (Z7g (a_0.getD i_l0.toNat default) (b_1.getD i_l0.toNat default)) <| s)
   clear p
   cases h_1 : (Z26 (a_0.getD i_l0.toNat default) (b_1.getD i_l0.toNat default)) with
   | true =>
    have y_3 : (-9223372036854775808 : Int) ≤ (i_l0 + 1) := by clear q; exact (by omega)
    have y_4 : (i_l0 + 1) ≤ (9223372036854775807 : Int) := by clear q; exact (by omega)
    have e : Z1u a_0 b_1 (k + 1) i_l0 = (Z1u a_0 b_1 k (i_l0 + 1)) := by simp only [Z1u, h_0, h_1, cond_true]
    rw [e]
    exact nextR E0Ok Z4 [] (mR false [0, 2, 3, 6, 16]) [] (ih (i_l0 + 1) (show 0 ≤ (i_l0 + 1) from (by omega)) (by omega)) (q (sB' h_1 <| sI (i_l0 + 1) y_3 y_4 <| sN)) (by kernel_rfl)
   | false =>
    have e : Z1u a_0 b_1 (k + 1) i_l0 = (.inl ()) := by simp only [Z1u, h_0, h_1, cond_true, cond_false]
    rw [e]
    exact outR (e := .ret) E0Ok Z4 [] (mR false [4, 1, 22]) [] (q (sB' h_1 <| sN)) (by kernel_rfl) (by intro h; cases h)
  | false =>
   have gh_0 := of_decide_eq_false h_0
   have e : Z1u a_0 b_1 (k + 1) i_l0 = (.inr ()) := by simp only [Z1u, h_0, cond_false]
   rw [e]
   exact outR (e := (.exit 0)) E0Ok Z4 [] (mR false [0, 2, 4, 5, 16]) [] (p (sB h_0 <| sN)) (by kernel_rfl) (by intro h; cases h)
def Z36 (a_0 : (List GVector)) (b_1 : (List GVector)) : (Unit) ⊕ (Unit) := (Z1u a_0 b_1 (((a_0.length : Int) - 0).toNat + 1) 0)
def Z2o (a_0 : (List GVector)) (b_1 : (List GVector)) : Bool := (cond ((a_0.length : Int) != (b_1.length : Int))
  false
  (match (Z36 a_0 b_1) with
    | .inl r2 => false
    | .inr r2 => true))
theorem Z4p (a_0 : (List GVector)) (b_1 : (List GVector)) (hp0 : a_0.length ≤ 1073741824) (hp1 : b_1.length ≤ 1073741824)  : Fn prog 15 [.sl (a_0.map GVector.cells), .sl (b_1.map GVector.cells)] (.b (Z2o a_0 b_1)) [] := by
 have p {a C} (s : Scr a C) := sZ GVector.cells a_0 <| sZ GVector.cells b_1 <| s
 cases h0 : ((a_0.length : Int) != (b_1.length : Int)) with
 | true =>
  have gh0 := bne_iff_ne.1 h0
  refine fnS E0Ok Z4 (c := bodyOf f15) [] (.b false) [] func15 (p (sB h0 <| sK [] sN)) rfl (by kernel_rfl) (by kernel_rfl) rfl ?_ ?_
  · simp only [Z2o, h0, cond_true]
  · rfl
 | false =>
  have gh0 := bne_eq_false_iff_eq.1 h0
  have q {a C} (s : Scr a C) := p (sB h0 <| s)
  clear p
  cases h1 : (Z36 a_0 b_1) with
  | inl r2 =>
   refine fnS E0Ok Z4 (c := bodyOf f15) [] (.b false) [] func15 (q (sL (mR false [0, 2, 3, 6, 16]) 0 (lp_val (Z3R a_0 b_1) (x := (Z36 a_0 b_1)) (Z6l a_0 b_1 hp0 hp1 h0 (((a_0.length : Int) - 0).toNat + 1) 0 (show 0 ≤ 0 from (by omega)) (Nat.lt_succ_self _)) h1) <| sK [] sN)) rfl (by kernel_rfl) (by kernel_rfl) rfl ?_ ?_
   · simp only [Z2o, h0, h1, cond_false]
   · rfl
  | inr r2 =>
   refine fnS E0Ok Z4 (c := bodyOf f15) [] (.b true) [] func15 (q (sL (mR false [0, 2, 3, 6, 16]) 0 (lp_val (Z3R a_0 b_1) (x := (Z36 a_0 b_1)) (Z6l a_0 b_1 hp0 hp1 h0 (((a_0.length : Int) - 0).toNat + 1) 0 (show 0 ≤ 0 from (by omega)) (Nat.lt_succ_self _)) h1) <| sK [] sN)) rfl (by kernel_rfl) (by kernel_rfl) rfl ?_ ?_
   · simp only [Z2o, h0, h1, cond_false]
   · rfl
theorem Z7E (a : List GVector) : Z2o a a = true := by
  unfold Z2o Z36
  rw [all_loop (a := a) (p := fun v => Z26 v v) (lo := Z1u a a) (x := ()) (y := ()) (fun k i => rfl) (fun v _ => Z83 v) _ _ (Int.le_refl 0) (Nat.lt_succ_self _)]
  simp
def Z1o (a_0 : (List Int)) (b_1 : (List Int)) : Nat → Int → (Unit) ⊕ (Unit)
  | 0, _ => .inl default
  | k + 1, i_l0 => (cond (decide (i_l0 < (a_0.length : Int)))
    (cond ((a_0.getD i_l0.toNat default) != (b_1.getD i_l0.toNat default))
      (.inl ())
      (Z1o a_0 b_1 k (i_l0 + 1)))
    (.inr ()))
def Z3X (a_0 : (List Int)) (b_1 : (List Int)) : (Unit) ⊕ (Unit) → Ex × St
  | .inl r => (.ret, ⟨an 4 (.b false :: an 21 []), []⟩)
  | .inr r => ((.exit 0), ⟨.sl (a_0.map (cI .i64)) :: .sl (b_1.map (cI .i64)) :: an 4 (.sl (a_0.map (cI .i64)) :: .i .i64 (a_0.length : Int) :: .sl (b_1.map (cI .i64)) :: .i .i64 (b_1.length : Int) :: .b ((a_0.length : Int) != (b_1.length : Int)) :: an 15 []), []⟩)
def Z8Q (a_0 : (List Int)) (b_1 : (List Int)) (i_l0 : Int) : St := ⟨.sl (a_0.map (cI .i64)) :: .sl (b_1.map (cI .i64)) :: .any :: .any :: .any :: .i .i64 i_l0 :: .sl (a_0.map (cI .i64)) :: .i .i64 (a_0.length : Int) :: .sl (b_1.map (cI .i64)) :: .i .i64 (b_1.length : Int) :: .b ((a_0.length : Int) != (b_1.length : Int)) :: an 15 [], []⟩
theorem Z6y (a_0 : (List Int)) (b_1 : (List Int)) (hp0 : a_0.length ≤ 1073741824) (hp1 : b_1.length ≤ 1073741824) (Zbh : ((a_0.length : Int) != (b_1.length : Int)) = false) : ∀ (k : Nat) (i_l0 : Int) (Z65 : 0 ≤ i_l0) (hk : ((a_0.length : Int) - i_l0).toNat < k), Lp prog 0 (sub (bodyOf f24) [1, 1, 0, 1, 0, 0]) (Z8Q a_0 b_1 i_l0) (Z3X a_0 b_1 (Z1o a_0 b_1 k i_l0)).1 (Z3X a_0 b_1 (Z1o a_0 b_1 k i_l0)).2 := by
 intro k
 induction k with
 | zero => intro i_l0 Z65 hk; exact absurd hk (Nat.not_lt_zero _)
 | succ k ih =>
  intro i_l0 Z65 hk
  have p {a C} (s : Scr a C) := sZ (cI .i64) a_0 <| s
  cases h_0 : (decide (i_l0 < (a_0.length : Int))) with
  | true =>
   have gh_0 := of_decide_eq_true h_0
   have y_0 : (0 : Int) ≤ i_l0 := by clear p; exact (by assumption)
   have y_1 : i_l0 < (a_0.length : Int) := by clear p; exact (by assumption)
   have y_2 : i_l0 < (b_1.length : Int) := by clear p; exact (by simp_all <;> omega)
   have q {a C} (s : Scr a C) := p (sB h_0 <| sK [8, 8] <| sG (cI .i64) a_0 i_l0 y_0 y_1 <| sG (cI .i64) b_1 i_l0 y_0 y_2 <| s)
   clear p
   cases h_1 : ((a_0.getD i_l0.toNat default) != (b_1.getD i_l0.toNat default)) with
   | true =>
    have gh_1 := bne_iff_ne.1 h_1
    have e : Z1o a_0 b_1 (k + 1) i_l0 = (.inl ()) := by simp only [Z1o, h_0, h_1, cond_true]
    rw [e]
    exact outR (e := .ret) E0Ok Z4 [] (mR false [4, 1, 21]) [] (q (sB h_1 <| sN)) (by kernel_rfl) (by intro h; cases h)
   | false =>
    have gh_1 := bne_eq_false_iff_eq.1 h_1
    have y_3 : (-9223372036854775808 : Int) ≤ (i_l0 + 1) := by clear q; exact (by omega)
    have y_4 : (i_l0 + 1) ≤ (9223372036854775807 : Int) := by clear q; exact (by omega)
    have e : Z1o a_0 b_1 (k + 1) i_l0 = (Z1o a_0 b_1 k (i_l0 + 1)) := by simp only [Z1o, h_0, h_1, cond_true, cond_false]
    rw [e]
    exact nextR E0Ok Z4 [] (mR false [0, 2, 3, 6, 15]) [] (ih (i_l0 + 1) (show 0 ≤ (i_l0 + 1) from (by omega)) (by omega)) (q (sB h_1 <| sI (i_l0 + 1) y_3 y_4 <| sN)) (by kernel_rfl)
  | false =>
   have gh_0 := of_decide_eq_false h_0
   have e : Z1o a_0 b_1 (k + 1) i_l0 = (.inr ()) := by simp only [Z1o, h_0, cond_false]
   rw [e]
   exact outR (e := (.exit 0)) E0Ok Z4 [] (mR false [0, 2, 4, 5, 15]) [] (p (sB h_0 <| sN)) (by kernel_rfl) (by intro h; cases h)
def Z3b (a_0 : (List Int)) (b_1 : (List Int)) : (Unit) ⊕ (Unit) := (Z1o a_0 b_1 (((a_0.length : Int) - 0).toNat + 1) 0)
def Z2v (a_0 : (List Int)) (b_1 : (List Int)) : Bool := (cond ((a_0.length : Int) != (b_1.length : Int))
  false
  (match (Z3b a_0 b_1) with
    | .inl r2 => false
    | .inr r2 => true))
theorem Z9T (a_0 : (List Int)) (b_1 : (List Int)) (hp0 : a_0.length ≤ 1073741824) (hp1 : b_1.length ≤ 1073741824)  : Fn prog 24 [.sl (a_0.map (cI .i64)), .sl (b_1.map (cI .i64))] (.b (Z2v a_0 b_1)) [] := by
 have p {a C} (s : Scr a C) := sZ (cI .i64) a_0 <| sZ (cI .i64) b_1 <| s
 cases h0 : ((a_0.length : Int) != (b_1.length : Int)) with
 | true =>
  have gh0 := bne_iff_ne.1 h0
  refine fnS E0Ok Z4 (c := bodyOf f24) [] (.b false) [] func24 (p (sB h0 <| sK [] sN)) rfl (by kernel_rfl) (by kernel_rfl) rfl ?_ ?_
  · simp only [Z2v, h0, cond_true]
  · rfl
 | false =>
  have gh0 := bne_eq_false_iff_eq.1 h0
  have q {a C} (s : Scr a C) := p (sB h0 <| s)
  clear p
  cases h1 : (Z3b a_0 b_1) with
  | inl r2 =>
   refine fnS E0Ok Z4 (c := bodyOf f24) [] (.b false) [] func24 (q (sL (mR false [0, 2, 3, 6, 15]) 0 (lp_val (Z3X a_0 b_1) (x := (Z3b a_0 b_1)) (Z6y a_0 b_1 hp0 hp1 h0 (((a_0.length : Int) - 0).toNat + 1) 0 (show 0 ≤ 0 from (by omega)) (Nat.lt_succ_self _)) h1) <| sK [] sN)) rfl (by kernel_rfl) (by kernel_rfl) rfl ?_ ?_
   · simp only [Z2v, h0, h1, cond_false]
   · rfl
  | inr r2 =>
   refine fnS E0Ok Z4 (c := bodyOf f24) [] (.b true) [] func24 (q (sL (mR false [0, 2, 3, 6, 15]) 0 (lp_val (Z3X a_0 b_1) (x := (Z3b a_0 b_1)) (Z6y a_0 b_1 hp0 hp1 h0 (((a_0.length : Int) - 0).toNat + 1) 0 (show 0 ≤ 0 from (by omega)) (Nat.lt_succ_self _)) h1) <| sK [] sN)) rfl (by kernel_rfl) (by kernel_rfl) rfl ?_ ?_
   · simp only [Z2v, h0, h1, cond_false]
   · rfl
theorem Zaw (a : List Int) : Z2v a a = true := by
  unfold Z2v Z3b
  rw [all_from (a := a) (p := fun v => !(v != v)) (lo := Z1o a a) (x := ()) (y := ()) (fun k i => by rw [Z1o]; cases (a.getD i.toNat default != a.getD i.toNat default) <;> rfl)]
  rw [show (a.all fun v => !(v != v)) = true from by rw [List.all_eq_true]; intro v _; simp]
  simp
def Z1v (a_0 : (List (List Int))) (b_1 : (List (List Int))) : Nat → Int → (Unit) ⊕ (Unit)
  | 0, _ => .inl default
  | k + 1, i_l0 => (cond (decide (i_l0 < (a_0.length : Int)))
    (cond (Z2v (a_0.getD i_l0.toNat default) (b_1.getD i_l0.toNat default))
      (Z1v a_0 b_1 k (i_l0 + 1))
      (.inl ()))
    (.inr ()))
def Z3S (a_0 : (List (List Int))) (b_1 : (List (List Int))) : (Unit) ⊕ (Unit) → Ex × St
  | .inl r => (.ret, ⟨an 4 (.b false :: an 22 []), []⟩)
  | .inr r => ((.exit 0), ⟨.sl (a_0.map (cL (cI .i64))) :: .sl (b_1.map (cL (cI .i64))) :: an 4 (.sl (a_0.map (cL (cI .i64))) :: .i .i64 (a_0.length : Int) :: .sl (b_1.map (cL (cI .i64))) :: .i .i64 (b_1.length : Int) :: .b ((a_0.length : Int) != (b_1.length : Int)) :: an 16 []), []⟩)
def Z8n (a_0 : (List (List Int))) (b_1 : (List (List Int))) (i_l0 : Int) : St := ⟨.sl (a_0.map (cL (cI .i64))) :: .sl (b_1.map (cL (cI .i64))) :: .any :: .any :: .any :: .i .i64 i_l0 :: .sl (a_0.map (cL (cI .i64))) :: .i .i64 (a_0.length : Int) :: .sl (b_1.map (cL (cI .i64))) :: .i .i64 (b_1.length : Int) :: .b ((a_0.length : Int) != (b_1.length : Int)) :: an 16 [], []⟩
theorem Z6m (a_0 : (List (List Int))) (b_1 : (List (List Int))) (hp0 : a_0.length ≤ 1073741824) (hp1 : ∀ t ∈ a_0, t.length ≤ 1073741824) (hp2 : b_1.length ≤ 1073741824) (hp3 : ∀ t ∈ b_1, t.length ≤ 1073741824) (Zb8 : ((a_0.length : Int) != (b_1.length : Int)) = false) : ∀ (k : Nat) (i_l0 : Int) (Z5F : 0 ≤ i_l0) (hk : ((a_0.length : Int) - i_l0).toNat < k), Lp prog 0 (sub (bodyOf f117) [1, 1, 0, 1, 0, 0]) (Z8n a_0 b_1 i_l0) (Z3S a_0 b_1 (Z1v a_0 b_1 k i_l0)).1 (Z3S a_0 b_1 (Z1v a_0 b_1 k i_l0)).2 := by
 intro k
 induction k with
 | zero => intro i_l0 Z5F hk; exact absurd hk (Nat.not_lt_zero _)
 | succ k ih =>
  intro i_l0 Z5F hk
  have p {a C} (s : Scr a C) := sZ (cL (cI .i64)) a_0 <| s
  cases h_0 : (decide (i_l0 < (a_0.length : Int))) with
  | true =>
   have gh_0 := of_decide_eq_true h_0
   have y_0 : (0 : Int) ≤ i_l0 := by clear p; exact (by assumption)
   have y_1 : i_l0 < (a_0.length : Int) := by clear p; exact (by assumption)
   have y_2 : i_l0 < (b_1.length : Int) := by clear p; exact (by simp_all <;> omega)
   have y_3 : (a_0.getD i_l0.toNat default).length ≤ 1073741824 := by clear p; exact (by simp_all <;> omega)
   have y_4 : (b_1.getD i_l0.toNat default).length ≤ 1073741824 := by clear p; exact (by simp_all <;> omega)
   have q {a C} (s : Scr a C) := p (sB h_0 <| sK [8, 8] <| sG (cL (cI .i64)) a_0 i_l0 y_0 y_1 <| sG (cL (cI .i64)) b_1 i_l0 y_0 y_2 <| sF (Z9T (a_0.getD i_l0.toNat default) (b_1.getD i_l0.toNat default) y_3 y_4) <| s)
   clear p
   cases h_1 : (Z2v (a_0.getD i_l0.toNat default) (b_1.getD i_l0.toNat default)) with
   | true =>
    have y_5 : (-9223372036854775808 : Int) ≤ (i_l0 + 1) := by clear q; exact (by omega)
    have y_6 : (i_l0 + 1) ≤ (9223372036854775807 : Int) := by clear q; exact (by omega)
    have e : Z1v a_0 b_1 (k + 1) i_l0 = (Z1v a_0 b_1 k (i_l0 + 1)) := by simp only [Z1v, h_0, h_1, cond_true]
    rw [e]
    exact nextR E0Ok Z4 [] (mR false [0, 2, 3, 6, 16]) [] (ih (i_l0 + 1) (show 0 ≤ (i_l0 + 1) from (by omega)) (by omega)) (q (sB' h_1 <| sI (i_l0 + 1) y_5 y_6 <| sN)) (by kernel_rfl)
   | false =>
    have e : Z1v a_0 b_1 (k + 1) i_l0 = (.inl ()) := by simp only [Z1v, h_0, h_1, cond_true, cond_false]
    rw [e]
    exact outR (e := .ret) E0Ok Z4 [] (mR false [4, 1, 22]) [] (q (sB' h_1 <| sN)) (by kernel_rfl) (by intro h; cases h)
  | false =>
   have gh_0 := of_decide_eq_false h_0
   have e : Z1v a_0 b_1 (k + 1) i_l0 = (.inr ()) := by simp only [Z1v, h_0, cond_false]
   rw [e]
   exact outR (e := (.exit 0)) E0Ok Z4 [] (mR false [0, 2, 4, 5, 16]) [] (p (sB h_0 <| sN)) (by kernel_rfl) (by intro h; cases h)
def Z37 (a_0 : (List (List Int))) (b_1 : (List (List Int))) : (Unit) ⊕ (Unit) := (Z1v a_0 b_1 (((a_0.length : Int) - 0).toNat + 1) 0)
def Z2M (a_0 : (List (List Int))) (b_1 : (List (List Int))) : Bool := (cond ((a_0.length : Int) != (b_1.length : Int))
  false
  (match (Z37 a_0 b_1) with
    | .inl r2 => false
    | .inr r2 => true))
theorem Z9y (a_0 : (List (List Int))) (b_1 : (List (List Int))) (hp0 : a_0.length ≤ 1073741824) (hp1 : ∀ t ∈ a_0, t.length ≤ 1073741824) (hp2 : b_1.length ≤ 1073741824) (hp3 : ∀ t ∈ b_1, t.length ≤ 1073741824)  : Fn prog 117 [.sl (a_0.map (cL (cI .i64))), .sl (b_1.map (cL (cI .i64)))] (.b (Z2M a_0 b_1)) [] := by
 have p {a C} (s : Scr a C) := sZ (cL (cI .i64)) a_0 <| sZ (cL (cI .i64)) b_1 <| s
 cases h0 : ((a_0.length : Int) != (b_1.length : Int)) with
 | true =>
  have gh0 := bne_iff_ne.1 h0
  refine fnS E0Ok Z4 (c := bodyOf f117) [] (.b false) [] func117 (p (sB h0 <| sK [] sN)) rfl (by kernel_rfl) (by kernel_rfl) rfl ?_ ?_
  · simp only [Z2M, h0, cond_true]
  · rfl
 | false =>
  have gh0 := bne_eq_false_iff_eq.1 h0
  have q {a C} (s : Scr a C) := p (sB h0 <| s)
  clear p
  cases h1 : (Z37 a_0 b_1) with
  | inl r2 =>
   refine fnS E0Ok Z4 (c := bodyOf f117) [] (.b false) [] func117 (q (sL (mR false [0, 2, 3, 6, 16]) 0 (lp_val (Z3S a_0 b_1) (x := (Z37 a_0 b_1)) (Z6m a_0 b_1 hp0 hp1 hp2 hp3 h0 (((a_0.length : Int) - 0).toNat + 1) 0 (show 0 ≤ 0 from (by omega)) (Nat.lt_succ_self _)) h1) <| sK [] sN)) rfl (by kernel_rfl) (by kernel_rfl) rfl ?_ ?_
   · simp only [Z2M, h0, h1, cond_false]
   · rfl
  | inr r2 =>
   refine fnS E0Ok Z4 (c := bodyOf f117) [] (.b true) [] func117 (q (sL (mR false [0, 2, 3, 6, 16]) 0 (lp_val (Z3S a_0 b_1) (x := (Z37 a_0 b_1)) (Z6m a_0 b_1 hp0 hp1 hp2 hp3 h0 (((a_0.length : Int) - 0).toNat + 1) 0 (show 0 ≤ 0 from (by omega)) (Nat.lt_succ_self _)) h1) <| sK [] sN)) rfl (by kernel_rfl) (by kernel_rfl) rfl ?_ ?_
   · simp only [Z2M, h0, h1, cond_false]
   · rfl
theorem Za6 (a : List (List Int)) : Z2M a a = true := by
  unfold Z2M Z37
  rw [all_from (a := a) (p := fun v => Z2v v v) (lo := Z1v a a) (x := ()) (y := ()) (fun k i => rfl)]
  rw [show (a.all fun v => Z2v v v) = true from by rw [List.all_eq_true]; intro v _; exact Zaw v]
  simp
def Z3d (a_0 : GMesh) (b_1 : GMesh) : Bool := (cond (Z2o a_0.Places b_1.Places)
  (cond (Z2M a_0.Triangles b_1.Triangles)
    true
    false)
  false)
theorem Zax (a_0 : GMesh) (b_1 : GMesh) (hp0 : a_0.Places.length ≤ 1073741824) (hp1 : a_0.Triangles.length ≤ 1073741824) (hp2 : ∀ t ∈ a_0.Triangles, t.length ≤ 1073741824) (hp3 : b_1.Places.length ≤ 1073741824) (hp4 : b_1.Triangles.length ≤ 1073741824) (hp5 : ∀ t ∈ b_1.Triangles, t.length ≤ 1073741824)  : Fn prog 59 [.agg [.sl (a_0.Places.map GVector.cells), .sl (a_0.Triangles.map (cL (cI .i64)))], .agg [.sl (b_1.Places.map GVector.cells), .sl (b_1.Triangles.map (cL (cI .i64)))]] (.b (Z3d a_0 b_1)) [] := by
 have p {a C} (s : Scr a C) := sF (Z4p a_0.Places b_1.Places hp0 hp3) <| s
 cases h0 : (Z2o a_0.Places b_1.Places) with
 | true =>
  have q {a C} (s : Scr a C) := p (sB' h0 <| sF (Z9y a_0.Triangles b_1.Triangles hp1 hp2 hp4 hp5) <| s)
  clear p
  cases h1 : (Z2M a_0.Triangles b_1.Triangles) with
  | true =>
   refine fnS E0Ok Z4 (c := bodyOf f59) [] (.b true) [] func59 (q (sB' h1 <| sK [] sN)) rfl (by kernel_rfl) (by kernel_rfl) rfl ?_ ?_
   · simp only [Z3d, h0, h1, cond_true]
   · rfl
  | false =>
   refine fnS E0Ok Z4 (c := bodyOf f59) [] (.b false) [] func59 (q (sB' h1 <| sK [] sN)) rfl (by kernel_rfl) (by kernel_rfl) rfl ?_ ?_
   · simp only [Z3d, h0, h1, cond_true, cond_false]
   · rfl
 | false =>
  refine fnS E0Ok Z4 (c := bodyOf f59) [] (.b false) [] func59 (p (sB' h0 <| sK [] sN)) rfl (by kernel_rfl) (by kernel_rfl) rfl ?_ ?_
  · simp only [Z3d, h0, cond_false]
  · rfl
theorem ZaS (a : GMesh) : Z3d a a = true := by
  simp [Z3d, Z7E, Za6]
def Z27 (a_0 : GSpring) (b_1 : GSpring) : Bool := (cond (a_0.A != b_1.A)
  false
  (cond (a_0.B != b_1.B)
    false
    (cond (Zq (fcv .f32 .f64 a_0.Long) (fcv .f32 .f64 b_1.Long))
      (cond (Zq (fcv .f32 .f64 a_0.Stiff) (fcv .f32 .f64 b_1.Stiff))
        true
        false)
      false)))
theorem Z9U (a_0 : GSpring) (b_1 : GSpring)   : Fn prog 118 [.agg [.i .i64 a_0.A, .i .i64 a_0.B, .f .f32 a_0.Long, .f .f32 a_0.Stiff], .agg [.i .i64 b_1.A, .i .i64 b_1.B, .f .f32 b_1.Long, .f .f32 b_1.Stiff]] (.b (Z27 a_0 b_1)) [] := by
 cases h0 : (a_0.A != b_1.A) with
 | true =>
  have gh0 := bne_iff_ne.1 h0
  refine fnS E0Ok Z4 (c := bodyOf f118) [] (.b false) [] func118 (sB h0 <| sK [] sN) rfl (by kernel_rfl) (by kernel_rfl) rfl ?_ ?_
  · simp only [Z27, h0, cond_true]
  · rfl
 | false =>
  have gh0 := bne_eq_false_iff_eq.1 h0
  have p {a C} (s : Scr a C) := sB h0 <| s
  cases h1 : (a_0.B != b_1.B) with
  | true =>
   have gh1 := bne_iff_ne.1 h1
   refine fnS E0Ok Z4 (c := bodyOf f118) [] (.b false) [] func118 (p (sB h1 <| sK [] sN)) rfl (by kernel_rfl) (by kernel_rfl) rfl ?_ ?_
   · simp only [Z27, h0, h1, cond_true, cond_false]
   · rfl
  | false =>
   have gh1 := bne_eq_false_iff_eq.1 h1
   have q {a C} (s : Scr a C) := p (sB h1 <| sC (widenOk a_0.Long) <| sC (widenOk b_1.Long) <| sF (Z2L (fcv .f32 .f64 a_0.Long) (fcv .f32 .f64 b_1.Long)) <| s)
   clear p
   cases h2 : (Zq (fcv .f32 .f64 a_0.Long) (fcv .f32 .f64 b_1.Long)) with
   | true =>
    have p {a C} (s : Scr a C) := q (sB' h2 <| sC (widenOk a_0.Stiff) <| sC (widenOk b_1.Stiff) <| sF (Z2L (fcv .f32 .f64 a_0.Stiff) (fcv .f32 .f64 b_1.Stiff)) <| s)
    clear q
    cases h3 : (Zq (fcv .f32 .f64 a_0.Stiff) (fcv .f32 .f64 b_1.Stiff)) with
    | true =>
     refine fnS E0Ok Z4 (c := bodyOf f118) [] (.b true) [] func118 (p (sB' h3 <| sK [] sN)) rfl (by kernel_rfl) (by kernel_rfl) rfl ?_ ?_
     · simp only [Z27, h0, h1, h2, h3, cond_true, cond_false]
     · rfl
    | false =>
     refine fnS E0Ok Z4 (c := bodyOf f118) [] (.b false) [] func118 (p (sB' h3 <| sK [] sN)) rfl (by kernel_rfl) (by kernel_rfl) rfl ?_ ?_
     · simp only [Z27, h0, h1, h2, h3, cond_true, cond_false]
     · rfl
   | false =>
    refine fnS E0Ok Z4 (c := bodyOf f118) [] (.b false) [] func118 (q (sB' h2 <| sK [] sN)) rfl (by kernel_rfl) (by kernel_rfl) rfl ?_ ?_
    · simp only [Z27, h0, h1, h2, cond_false]
    · rfl
theorem Zay (a : GSpring) : Z27 a a = true := by
  simp [Z27, Z7f]
def Z1w (a_0 : (List GSpring)) (b_1 : (List GSpring)) : Nat → Int → (Unit) ⊕ (Unit)
  | 0, _ => .inl default
  | k + 1, i_l0 => (cond (decide (i_l0 < (a_0.length : Int)))
    (cond (Z27 (a_0.getD i_l0.toNat default) (b_1.getD i_l0.toNat default))
      (Z1w a_0 b_1 k (i_l0 + 1))
      (.inl ()))
    (.inr ()))
def Z3T (a_0 : (List GSpring)) (b_1 : (List GSpring)) : (Unit) ⊕ (Unit) → Ex × St
  | .inl r => (.ret, ⟨an 4 (.b false :: an 22 []), []⟩)
  | .inr r => ((.exit 0), ⟨.sl (a_0.map GSpring.cells) :: .sl (b_1.map GSpring.cells) :: an 4 (.sl (a_0.map GSpring.cells) :: .i .i64 (a_0.length : Int) :: .sl (b_1.map GSpring.cells) :: .i .i64 (b_1.length : Int) :: .b ((a_0.length : Int) != (b_1.length : Int)) :: an 16 []), []⟩)
def Z8o (a_0 : (List GSpring)) (b_1 : (List GSpring)) (i_l0 : Int) : St := ⟨.sl (a_0.map GSpring.cells) :: .sl (b_1.map GSpring.cells) :: .any :: .any :: .any :: .i .i64 i_l0 :: .sl (a_0.map GSpring.cells) :: .i .i64 (a_0.length : Int) :: .sl (b_1.map GSpring.cells) :: .i .i64 (b_1.length : Int) :: .b ((a_0.length : Int) != (b_1.length : Int)) :: an 16 [], []⟩
theorem Z6n (a_0 : (List GSpring)) (b_1 : (List GSpring)) (hp0 : a_0.length ≤ 1073741824) (hp1 : b_1.length ≤ 1073741824) (Zb9 : ((a_0.length : Int) != (b_1.length : Int)) = false) : ∀ (k : Nat) (i_l0 : Int) (Z5G : 0 ≤ i_l0) (hk : ((a_0.length : Int) - i_l0).toNat < k), Lp prog 0 (sub (bodyOf f60) [1, 1, 0, 1, 0, 0]) (Z8o a_0 b_1 i_l0) (Z3T a_0 b_1 (Z1w a_0 b_1 k i_l0)).1 (Z3T a_0 b_1 (Z1w a_0 b_1 k i_l0)).2 := by
 intro k
 induction k with
 | zero => intro i_l0 Z5G hk; exact absurd hk (Nat.not_lt_zero _)
 | succ k ih =>
  intro i_l0 Z5G hk
  have p {a C} (s : Scr a C) := sZ GSpring.cells a_0 <| s
  cases h_0 : (decide (i_l0 < (a_0.length : Int))) with
  | true =>
   have gh_0 := of_decide_eq_true h_0
   have y_0 : (0 : Int) ≤ i_l0 := by clear p; exact (by assumption)
   have y_1 : i_l0 < (a_0.length : Int) := by clear p; exact (by assumption)
   have y_2 : i_l0 < (b_1.length : Int) := by clear p; exact (by simp_all <;> omega)
   have q {a C} (s : Scr a C) := p (sB h_0 <| sK [8, 8] <| sG GSpring.cells a_0 i_l0 y_0 y_1 <| sG GSpring.cells b_1 i_l0 y_0 y_2 <| sF (Z9U (a_0.getD i_l0.toNat default) (b_1.getD i_l0.toNat default)) <| s)
   clear p
   cases h_1 : (Z27 (a_0.getD i_l0.toNat default) (b_1.getD i_l0.toNat default)) with
   | true =>
    have y_3 : (-9223372036854775808 : Int) ≤ (i_l0 + 1) := by clear q; exact (by omega)
    have y_4 : (i_l0 + 1) ≤ (9223372036854775807 : Int) := by clear q; exact (by omega)
    have e : Z1w a_0 b_1 (k + 1) i_l0 = (Z1w a_0 b_1 k (i_l0 + 1)) := by simp only [Z1w, h_0, h_1, cond_true]
    rw [e]
    exact nextR E0Ok Z4 [] (mR false [0, 2, 3, 6, 16]) [] (ih (i_l0 + 1) (show 0 ≤ (i_l0 + 1) from (by omega)) (by omega)) (q (sB' h_1 <| sI (i_l0 + 1) y_3 y_4 <| sN)) (by kernel_rfl)
   | false =>
    have e : Z1w a_0 b_1 (k + 1) i_l0 = (.inl ()) := by simp only [Z1w, h_0, h_1, cond_true, cond_false]
    rw [e]
    exact outR (e := .ret) E0Ok Z4 [] (mR false [4, 1, 22]) [] (q (sB' h_1 <| sN)) (by kernel_rfl) (by intro h; cases h)
  | false =>
   have gh_0 := of_decide_eq_false h_0
   have e : Z1w a_0 b_1 (k + 1) i_l0 = (.inr ()) := by simp only [Z1w, h_0, cond_false]
   rw [e]
   exact outR (e := (.exit 0)) E0Ok Z4 [] (mR false [0, 2, 4, 5, 16]) [] (p (sB h_0 <| sN)) (by kernel_rfl) (by intro h; cases h)
def Z38 (a_0 : (List GSpring)) (b_1 : (List GSpring)) : (Unit) ⊕ (Unit) := (Z1w a_0 b_1 (((a_0.length : Int) - 0).toNat + 1) 0)
def Z2N (a_0 : (List GSpring)) (b_1 : (List GSpring)) : Bool := (cond ((a_0.length : Int) != (b_1.length : Int))
  false
  (match (Z38 a_0 b_1) with
    | .inl r2 => false
    | .inr r2 => true))
theorem Z9z (a_0 : (List GSpring)) (b_1 : (List GSpring)) (hp0 : a_0.length ≤ 1073741824) (hp1 : b_1.length ≤ 1073741824)  : Fn prog 60 [.sl (a_0.map GSpring.cells), .sl (b_1.map GSpring.cells)] (.b (Z2N a_0 b_1)) [] := by
 have p {a C} (s : Scr a C) := sZ GSpring.cells a_0 <| sZ GSpring.cells b_1 <| s
 cases h0 : ((a_0.length : Int) != (b_1.length : Int)) with
 | true =>
  have gh0 := bne_iff_ne.1 h0
  refine fnS E0Ok Z4 (c := bodyOf f60) [] (.b false) [] func60 (p (sB h0 <| sK [] sN)) rfl (by kernel_rfl) (by kernel_rfl) rfl ?_ ?_
  · simp only [Z2N, h0, cond_true]
  · rfl
 | false =>
  have gh0 := bne_eq_false_iff_eq.1 h0
  have q {a C} (s : Scr a C) := p (sB h0 <| s)
  clear p
  cases h1 : (Z38 a_0 b_1) with
  | inl r2 =>
   refine fnS E0Ok Z4 (c := bodyOf f60) [] (.b false) [] func60 (q (sL (mR false [0, 2, 3, 6, 16]) 0 (lp_val (Z3T a_0 b_1) (x := (Z38 a_0 b_1)) (Z6n a_0 b_1 hp0 hp1 h0 (((a_0.length : Int) - 0).toNat + 1) 0 (show 0 ≤ 0 from (by omega)) (Nat.lt_succ_self _)) h1) <| sK [] sN)) rfl (by kernel_rfl) (by kernel_rfl) rfl ?_ ?_
   · simp only [Z2N, h0, h1, cond_false]
   · rfl
  | inr r2 =>
   refine fnS E0Ok Z4 (c := bodyOf f60) [] (.b true) [] func60 (q (sL (mR false [0, 2, 3, 6, 16]) 0 (lp_val (Z3T a_0 b_1) (x := (Z38 a_0 b_1)) (Z6n a_0 b_1 hp0 hp1 h0 (((a_0.length : Int) - 0).toNat + 1) 0 (show 0 ≤ 0 from (by omega)) (Nat.lt_succ_self _)) h1) <| sK [] sN)) rfl (by kernel_rfl) (by kernel_rfl) rfl ?_ ?_
   · simp only [Z2N, h0, h1, cond_false]
   · rfl
theorem Za7 (a : List GSpring) : Z2N a a = true := by
  unfold Z2N Z38
  rw [all_from (a := a) (p := fun v => Z27 v v) (lo := Z1w a a) (x := ()) (y := ()) (fun k i => rfl)]
  rw [show (a.all fun v => Z27 v v) = true from by rw [List.all_eq_true]; intro v _; exact Zay v]
  simp
def Z1k (a_0 : (List Nat)) (b_1 : (List Nat)) : Nat → Int → (Unit) ⊕ (Unit)
  | 0, _ => .inl default
  | k + 1, i_l0 => (cond (decide (i_l0 < (a_0.length : Int)))
    (cond (Zq (fcv .f32 .f64 (a_0.getD i_l0.toNat default)) (fcv .f32 .f64 (b_1.getD i_l0.toNat default)))
      (Z1k a_0 b_1 k (i_l0 + 1))
      (.inl ()))
    (.inr ()))
def Z3E (a_0 : (List Nat)) (b_1 : (List Nat)) : (Unit) ⊕ (Unit) → Ex × St
  | .inl r => (.ret, ⟨an 4 (.b false :: an 24 []), []⟩)
  | .inr r => ((.exit 0), ⟨.sl (a_0.map (cF .f32)) :: .sl (b_1.map (cF .f32)) :: an 4 (.sl (a_0.map (cF .f32)) :: .i .i64 (a_0.length : Int) :: .sl (b_1.map (cF .f32)) :: .i .i64 (b_1.length : Int) :: .b ((a_0.length : Int) != (b_1.length : Int)) :: an 18 []), []⟩)
def Z80 (a_0 : (List Nat)) (b_1 : (List Nat)) (i_l0 : Int) : St := ⟨.sl (a_0.map (cF .f32)) :: .sl (b_1.map (cF .f32)) :: .any :: .any :: .any :: .i .i64 i_l0 :: .sl (a_0.map (cF .f32)) :: .i .i64 (a_0.length : Int) :: .sl (b_1.map (cF .f32)) :: .i .i64 (b_1.length : Int) :: .b ((a_0.length : Int) != (b_1.length : Int)) :: an 18 [], []⟩
theorem Z66 (a_0 : (List Nat)) (b_1 : (List Nat)) (hp0 : a_0.length ≤ 1073741824) (hp1 : b_1.length ≤ 1073741824) (ZaT : ((a_0.length : Int) != (b_1.length : Int)) = false) : ∀ (k : Nat) (i_l0 : Int) (Z5a : 0 ≤ i_l0) (hk : ((a_0.length : Int) - i_l0).toNat < k), Lp prog 0 (sub (bodyOf f40) [1, 1, 0, 1, 0, 0]) (Z80 a_0 b_1 i_l0) (Z3E a_0 b_1 (Z1k a_0 b_1 k i_l0)).1 (Z3E a_0 b_1 (Z1k a_0 b_1 k i_l0)).2 := by
 intro k
 induction k with
 | zero => intro i_l0 Z5a hk; exact absurd hk (Nat.not_lt_zero _)
 | succ k ih =>
  intro i_l0 Z5a hk
  have p {a C} (s : Scr a C) := sZ (cF .f32) a_0 <| s
  cases h_0 : (decide (i_l0 < (a_0.length : Int))) with
  | true =>
   have gh_0 := of_decide_eq_true h_0
   have y_0 : (0 : Int) ≤ i_l0 := by clear p; exact (by assumption)
   have y_1 : i_l0 < (a_0.length : Int) := by clear p; exact (by assumption)
   have y_2 : i_l0 < (b_1.length : Int) := by clear p; exact (by simp_all <;> omega)
   have q {a C} (s : Scr a C) := p (sB h_0 <| sK [10, 10] <| sG (cF .f32) a_0 i_l0 y_0 y_1 <| sC (widenOk (a_0.getD i_l0.toNat default)) <| sG (cF .f32) b_1 i_l0 y_0 y_2 <| sC (widenOk (b_1.getD i_l0.toNat default)) <| sF (Z2L (fcv .f32 .f64 (a_0.getD i_l0.toNat default)) (fcv .f32 .f64 (b_1.getD i_l0.toNat default))) <| s)
   clear p
   cases h_1 : (Zq (fcv .f32 .f64 (a_0.getD i_l0.toNat default)) (fcv .f32 .f64 (b_1.getD i_l0.toNat default))) with
   | true =>
    have y_3 : (-9223372036854775808 : Int) ≤ (i_l0 + 1) := by clear q; exact (by omega)
    have y_4 : (i_l0 + 1) ≤ (9223372036854775807 : Int) := by clear q; exact (by omega)
    have e : Z1k a_0 b_1 (k + 1) i_l0 = (Z1k a_0 b_1 k (i_l0 + 1)) := by simp only [Z1k, h_0, h_1, cond_true]
    rw [e]
    exact nextR E0Ok Z4 [] (mR false [0, 2, 3, 6, 18]) [] (ih (i_l0 + 1) (show 0 ≤ (i_l0 + 1) from (by omega)) (by omega)) (q (sB' h_1 <| sI (i_l0 + 1) y_3 y_4 <| sN)) (by kernel_rfl)
   | false =>
    have e : Z1k a_0 b_1 (k + 1) i_l0 = (.inl ()) := by simp only [Z1k, h_0, h_1, cond_true, cond_false]
    rw [e]
    exact outR (e := .ret) E0Ok Z4 [] (mR false [4, 1, 24]) [] (q (sB' h_1 <| sN)) (by kernel_rfl) (by intro h; cases h)
  | false =>
   have gh_0 := of_decide_eq_false h_0
   have e : Z1k a_0 b_1 (k + 1) i_l0 = (.inr ()) := by simp only [Z1k, h_0, cond_false]
   rw [e]
   exact outR (e := (.exit 0)) E0Ok Z4 [] (mR false [0, 2, 4, 5, 18]) [] (p (sB h_0 <| sN)) (by kernel_rfl) (by intro h; cases h)
def Z2W (a_0 : (List Nat)) (b_1 : (List Nat)) : (Unit) ⊕ (Unit) := (Z1k a_0 b_1 (((a_0.length : Int) - 0).toNat + 1) 0)
def Z2I (a_0 : (List Nat)) (b_1 : (List Nat)) : Bool := (cond ((a_0.length : Int) != (b_1.length : Int))
  false
  (match (Z2W a_0 b_1) with
    | .inl r2 => false
    | .inr r2 => true))
theorem Z95 (a_0 : (List Nat)) (b_1 : (List Nat)) (hp0 : a_0.length ≤ 1073741824) (hp1 : b_1.length ≤ 1073741824)  : Fn prog 40 [.sl (a_0.map (cF .f32)), .sl (b_1.map (cF .f32))] (.b (Z2I a_0 b_1)) [] := by
 have p {a C} (s : Scr a C) := sZ (cF .f32) a_0 <| sZ (cF .f32) b_1 <| s
 cases h0 : ((a_0.length : Int) != (b_1.length : Int)) with
 | true =>
  have gh0 := bne_iff_ne.1 h0
  refine fnS E0Ok Z4 (c := bodyOf f40) [] (.b false) [] func40 (p (sB h0 <| sK [] sN)) rfl (by kernel_rfl) (by kernel_rfl) rfl ?_ ?_
  · simp only [Z2I, h0, cond_true]
  · rfl
 | false =>
  have gh0 := bne_eq_false_iff_eq.1 h0
  have q {a C} (s : Scr a C) := p (sB h0 <| s)
  clear p
  cases h1 : (Z2W a_0 b_1) with
  | inl r2 =>
   refine fnS E0Ok Z4 (c := bodyOf f40) [] (.b false) [] func40 (q (sL (mR false [0, 2, 3, 6, 18]) 0 (lp_val (Z3E a_0 b_1) (x := (Z2W a_0 b_1)) (Z66 a_0 b_1 hp0 hp1 h0 (((a_0.length : Int) - 0).toNat + 1) 0 (show 0 ≤ 0 from (by omega)) (Nat.lt_succ_self _)) h1) <| sK [] sN)) rfl (by kernel_rfl) (by kernel_rfl) rfl ?_ ?_
   · simp only [Z2I, h0, h1, cond_false]
   · rfl
  | inr r2 =>
   refine fnS E0Ok Z4 (c := bodyOf f40) [] (.b true) [] func40 (q (sL (mR false [0, 2, 3, 6, 18]) 0 (lp_val (Z3E a_0 b_1) (x := (Z2W a_0 b_1)) (Z66 a_0 b_1 hp0 hp1 h0 (((a_0.length : Int) - 0).toNat + 1) 0 (show 0 ≤ 0 from (by omega)) (Nat.lt_succ_self _)) h1) <| sK [] sN)) rfl (by kernel_rfl) (by kernel_rfl) rfl ?_ ?_
   · simp only [Z2I, h0, h1, cond_false]
   · rfl
theorem Z9V (a : List Nat) : Z2I a a = true := by
  unfold Z2I Z2W
  rw [all_from (a := a) (p := fun v => Zq (fcv .f32 .f64 v) (fcv .f32 .f64 v)) (lo := Z1k a a) (x := ()) (y := ()) (fun k i => rfl)]
  rw [show (a.all fun v => Zq (fcv .f32 .f64 v) (fcv .f32 .f64 v)) = true from by rw [List.all_eq_true]; intro v _; exact Z7f _]
  simp
def Z2t (a_0 : GBody) (b_1 : GBody) : Bool := (cond (Z3d a_0.Mesh b_1.Mesh)
  (cond (Z2N a_0.Springs b_1.Springs)
    (cond (Zq (fcv .f32 .f64 a_0.Film) (fcv .f32 .f64 b_1.Film))
      (cond (Zq (fcv .f32 .f64 a_0.Bend) (fcv .f32 .f64 b_1.Bend))
        (cond (Z2I a_0.Weights b_1.Weights)
          (cond (Z26 a_0.Fall b_1.Fall)
            true
            false)
          false)
        false)
      false)
    false)
  false)
theorem Zaz (a_0 : GBody) (b_1 : GBody) (hp0 : a_0.Mesh.Places.length ≤ 1073741824) (hp1 : a_0.Mesh.Triangles.length ≤ 1073741824) (hp2 : ∀ t ∈ a_0.Mesh.Triangles, t.length ≤ 1073741824) (hp3 : a_0.Springs.length ≤ 1073741824) (hp4 : a_0.Weights.length ≤ 1073741824) (hp5 : b_1.Mesh.Places.length ≤ 1073741824) (hp6 : b_1.Mesh.Triangles.length ≤ 1073741824) (hp7 : ∀ t ∈ b_1.Mesh.Triangles, t.length ≤ 1073741824) (hp8 : b_1.Springs.length ≤ 1073741824) (hp9 : b_1.Weights.length ≤ 1073741824)  : Fn prog 16 [.agg [.sl (a_0.Mesh.Places.map GVector.cells), .sl (a_0.Mesh.Triangles.map (cL (cI .i64))), .sl (a_0.Springs.map GSpring.cells), .f .f32 a_0.Film, .f .f32 a_0.Bend, .sl (a_0.Weights.map (cF .f32)), .f .f32 a_0.Fall.X, .f .f32 a_0.Fall.Y, .f .f32 a_0.Fall.Z], .agg [.sl (b_1.Mesh.Places.map GVector.cells), .sl (b_1.Mesh.Triangles.map (cL (cI .i64))), .sl (b_1.Springs.map GSpring.cells), .f .f32 b_1.Film, .f .f32 b_1.Bend, .sl (b_1.Weights.map (cF .f32)), .f .f32 b_1.Fall.X, .f .f32 b_1.Fall.Y, .f .f32 b_1.Fall.Z]] (.b (Z2t a_0 b_1)) [] := by
 have p {a C} (s : Scr a C) := sF (Zax a_0.Mesh b_1.Mesh hp0 hp1 hp2 hp5 hp6 hp7) <| s
 cases h0 : (Z3d a_0.Mesh b_1.Mesh) with
 | true =>
  have q {a C} (s : Scr a C) := p (sB' h0 <| sF (Z9z a_0.Springs b_1.Springs hp3 hp8) <| s)
  clear p
  cases h1 : (Z2N a_0.Springs b_1.Springs) with
  | true =>
   have p {a C} (s : Scr a C) := q (sB' h1 <| sC (widenOk a_0.Film) <| sC (widenOk b_1.Film) <| sF (Z2L (fcv .f32 .f64 a_0.Film) (fcv .f32 .f64 b_1.Film)) <| s)
   clear q
   cases h2 : (Zq (fcv .f32 .f64 a_0.Film) (fcv .f32 .f64 b_1.Film)) with
   | true =>
    have q {a C} (s : Scr a C) := p (sB' h2 <| sC (widenOk a_0.Bend) <| sC (widenOk b_1.Bend) <| sF (Z2L (fcv .f32 .f64 a_0.Bend) (fcv .f32 .f64 b_1.Bend)) <| s)
    clear p
    cases h3 : (Zq (fcv .f32 .f64 a_0.Bend) (fcv .f32 .f64 b_1.Bend)) with
    | true =>
     have p {a C} (s : Scr a C) := q (sB' h3 <| sF (Z95 a_0.Weights b_1.Weights hp4 hp9) <| s)
     clear q
     cases h4 : (Z2I a_0.Weights b_1.Weights) with
     | true =>
      have q {a C} (s : Scr a C) := p (sB' h4 <| sF (Z7g a_0.Fall b_1.Fall) <| s)
      clear p
      cases h5 : (Z26 a_0.Fall b_1.Fall) with
      | true =>
       refine fnS E0Ok Z4 (c := bodyOf f16) [] (.b true) [] func16 (q (sB' h5 <| sK [] sN)) rfl (by kernel_rfl) (by kernel_rfl) rfl ?_ ?_
       · simp only [Z2t, h0, h1, h2, h3, h4, h5, cond_true]
       · rfl
      | false =>
       refine fnS E0Ok Z4 (c := bodyOf f16) [] (.b false) [] func16 (q (sB' h5 <| sK [] sN)) rfl (by kernel_rfl) (by kernel_rfl) rfl ?_ ?_
       · simp only [Z2t, h0, h1, h2, h3, h4, h5, cond_true, cond_false]
       · rfl
     | false =>
      refine fnS E0Ok Z4 (c := bodyOf f16) [] (.b false) [] func16 (p (sB' h4 <| sK [] sN)) rfl (by kernel_rfl) (by kernel_rfl) rfl ?_ ?_
      · simp only [Z2t, h0, h1, h2, h3, h4, cond_true, cond_false]
      · rfl
    | false =>
     refine fnS E0Ok Z4 (c := bodyOf f16) [] (.b false) [] func16 (q (sB' h3 <| sK [] sN)) rfl (by kernel_rfl) (by kernel_rfl) rfl ?_ ?_
     · simp only [Z2t, h0, h1, h2, h3, cond_true, cond_false]
     · rfl
   | false =>
    refine fnS E0Ok Z4 (c := bodyOf f16) [] (.b false) [] func16 (p (sB' h2 <| sK [] sN)) rfl (by kernel_rfl) (by kernel_rfl) rfl ?_ ?_
    · simp only [Z2t, h0, h1, h2, cond_true, cond_false]
    · rfl
  | false =>
   refine fnS E0Ok Z4 (c := bodyOf f16) [] (.b false) [] func16 (q (sB' h1 <| sK [] sN)) rfl (by kernel_rfl) (by kernel_rfl) rfl ?_ ?_
   · simp only [Z2t, h0, h1, cond_true, cond_false]
   · rfl
 | false =>
  refine fnS E0Ok Z4 (c := bodyOf f16) [] (.b false) [] func16 (p (sB' h0 <| sK [] sN)) rfl (by kernel_rfl) (by kernel_rfl) rfl ?_ ?_
  · simp only [Z2t, h0, cond_false]
  · rfl
theorem ZaU (a : GBody) : Z2t a a = true := by
  simp [Z2t, Z7f, Z83, ZaS, Za7, Z9V]
def Zr (a_0 : (List GVector)) (k_1 : Int) : Nat → Int → Int → (List GVector) → Int × (List GVector)
  | 0, _, _, _ => default
  | k + 1, k_l0, i_l1, r0_l2 => (cond (decide (i_l1 < (r0_l2.length : Int)))
    (Zr a_0 k_1 k (IntKind.wrap .i64 ((IntKind.wrap .i64 ((IntKind.wrap .i64 (k_l0 + 1)) + 1)) + 1)) (i_l1 + 1) (r0_l2.set i_l1.toNat (⟨(ofInt .f32 k_l0), (ofInt .f32 (IntKind.wrap .i64 (k_l0 + 1))), (ofInt .f32 (IntKind.wrap .i64 ((IntKind.wrap .i64 (k_l0 + 1)) + 1)))⟩ : GVector)))
    (k_l0, r0_l2))
def Z3F (a_0 : (List GVector)) (k_1 : Int) (r : Int × (List GVector)) : Ex × St := ((.exit 0), ⟨.any :: .i .i64 r.1 :: .any :: .any :: .i .i64 0 :: an 32 [], [.vec 40 3 (r.2.map GVector.cells) false]⟩)
def Z6P (a_0 : (List GVector)) (k_1 : Int) (k_l0 : Int) (i_l1 : Int) (r0_l2 : (List GVector)) : St := ⟨.own 0 :: .i .i64 k_l0 :: .any :: .any :: .i .i64 0 :: .i .i64 i_l1 :: an 31 [], [.vec 40 3 (r0_l2.map GVector.cells) false]⟩
theorem Z6Q (a_0 : (List GVector)) (k_1 : Int) (hp0 : a_0.length ≤ 1073741824) : ∀ (k : Nat) (k_l0 : Int) (i_l1 : Int) (r0_l2 : (List GVector)) (Z4a : 0 ≤ i_l1) (Z4b : r0_l2.length = a_0.length) (hk : ((a_0.length : Int) - i_l1).toNat < k), Lp prog 1 (sub (bodyOf f18) [1, 0, 1, 0, 0]) (Z6P a_0 k_1 k_l0 i_l1 r0_l2) (Z3F a_0 k_1 (Zr a_0 k_1 k k_l0 i_l1 r0_l2)).1 (Z3F a_0 k_1 (Zr a_0 k_1 k k_l0 i_l1 r0_l2)).2 := by
 intro k
 induction k with
 | zero => intro k_l0 i_l1 r0_l2 Z4a Z4b hk; exact absurd hk (Nat.not_lt_zero _)
 | succ k ih =>
  intro k_l0 i_l1 r0_l2 Z4a Z4b hk
  have p {a C} (s : Scr a C) := sZ GVector.cells r0_l2 <| s
  cases h_0 : (decide (i_l1 < (r0_l2.length : Int))) with
  | true =>
   have gh_0 := of_decide_eq_true h_0
   have y_0 : (0 : Int) ≤ i_l1 := by clear p; exact (by assumption)
   have y_1 : i_l1 < (r0_l2.length : Int) := by clear p; exact (by assumption)
   have y_2 : i_l1.toNat < r0_l2.length := by clear p; exact (by omega)
   have y_3 : i_l1 < ((r0_l2.set i_l1.toNat (⟨(ofInt .f32 k_l0), (r0_l2.getD i_l1.toNat default).Y, (r0_l2.getD i_l1.toNat default).Z⟩ : GVector)).length : Int) := by clear p; exact (by simp_all <;> omega)
   have y_4 : i_l1 < ((r0_l2.set i_l1.toNat (⟨(ofInt .f32 k_l0), (ofInt .f32 (IntKind.wrap .i64 (k_l0 + 1))), (r0_l2.getD i_l1.toNat default).Z⟩ : GVector)).length : Int) := by clear p; exact (by simp_all <;> omega)
   have y_5 : (-9223372036854775808 : Int) ≤ (i_l1 + 1) := by clear p; exact (by omega)
   have y_6 : (i_l1 + 1) ≤ (9223372036854775807 : Int) := by clear p; exact (by omega)
   have e : Zr a_0 k_1 (k + 1) k_l0 i_l1 r0_l2 = (Zr a_0 k_1 k (IntKind.wrap .i64 ((IntKind.wrap .i64 ((IntKind.wrap .i64 (k_l0 + 1)) + 1)) + 1)) (i_l1 + 1) (r0_l2.set i_l1.toNat (⟨(ofInt .f32 k_l0), (ofInt .f32 (IntKind.wrap .i64 (k_l0 + 1))), (ofInt .f32 (IntKind.wrap .i64 ((IntKind.wrap .i64 (k_l0 + 1)) + 1)))⟩ : GVector))) := by simp only [Zr, h_0, cond_true]
   rw [e]
   exact nextS (EpOk 1) Z4 [] (mR false [0, 2, 2, 2, 31]) [] (⟨.own 0 :: .i .i64 (IntKind.wrap .i64 ((IntKind.wrap .i64 ((IntKind.wrap .i64 (k_l0 + 1)) + 1)) + 1)) :: .any :: .any :: .i .i64 0 :: .i .i64 (i_l1 + 1) :: an 31 [], [.vec 40 3 ((((r0_l2.map GVector.cells).set i_l1.toNat [.f .f32 (ofInt .f32 k_l0), .f .f32 ((r0_l2.getD i_l1.toNat default).Y), .f .f32 ((r0_l2.getD i_l1.toNat default).Z)]).set i_l1.toNat [.f .f32 (ofInt .f32 k_l0), .f .f32 (ofInt .f32 (IntKind.wrap .i64 (k_l0 + 1))), .f .f32 ((r0_l2.getD i_l1.toNat default).Z)]).set i_l1.toNat [.f .f32 (ofInt .f32 k_l0), .f .f32 (ofInt .f32 (IntKind.wrap .i64 (k_l0 + 1))), .f .f32 (ofInt .f32 (IntKind.wrap .i64 ((IntKind.wrap .i64 (k_l0 + 1)) + 1)))]) false]⟩) (p (sB h_0 <| sX GVector.cells r0_l2 i_l1 y_0 y_1 <| sV GVector.cells r0_l2 i_l1.toNat y_2 <| sW .i64 (k_l0 + 1) <| sC (show 0 ≤ i_l1 ∧ Int.toNat i_l1 < ((r0_l2.map GVector.cells).set i_l1.toNat [.f .f32 (ofInt .f32 k_l0), .f .f32 ((r0_l2.getD i_l1.toNat default).Y), .f .f32 ((r0_l2.getD i_l1.toNat default).Z)]).length from (by simpa using idx_ok (c := GVector.cells) (l := (r0_l2.set i_l1.toNat (⟨(ofInt .f32 k_l0), (r0_l2.getD i_l1.toNat default).Y, (r0_l2.getD i_l1.toNat default).Z⟩ : GVector))) (i := i_l1) y_0 y_3)) <| sE (show ((r0_l2.map GVector.cells).set i_l1.toNat [.f .f32 (ofInt .f32 k_l0), .f .f32 ((r0_l2.getD i_l1.toNat default).Y), .f .f32 ((r0_l2.getD i_l1.toNat default).Z)])[i_l1.toNat]? = some [.f .f32 (ofInt .f32 k_l0), .f .f32 ((r0_l2.getD i_l1.toNat default).Y), .f .f32 ((r0_l2.getD i_l1.toNat default).Z)] from List.getElem?_set_self (by simpa using y_2)) <| sW .i64 ((IntKind.wrap .i64 (k_l0 + 1)) + 1) <| sC (show 0 ≤ i_l1 ∧ Int.toNat i_l1 < (((r0_l2.map GVector.cells).set i_l1.toNat [.f .f32 (ofInt .f32 k_l0), .f .f32 ((r0_l2.getD i_l1.toNat default).Y), .f .f32 ((r0_l2.getD i_l1.toNat default).Z)]).set i_l1.toNat [.f .f32 (ofInt .f32 k_l0), .f .f32 (ofInt .f32 (IntKind.wrap .i64 (k_l0 + 1))), .f .f32 ((r0_l2.getD i_l1.toNat default).Z)]).length from (by simpa using idx_ok (c := GVector.cells) (l := (r0_l2.set i_l1.toNat (⟨(ofInt .f32 k_l0), (ofInt .f32 (IntKind.wrap .i64 (k_l0 + 1))), (r0_l2.getD i_l1.toNat default).Z⟩ : GVector))) (i := i_l1) y_0 y_4)) <| sE (show (((r0_l2.map GVector.cells).set i_l1.toNat [.f .f32 (ofInt .f32 k_l0), .f .f32 ((r0_l2.getD i_l1.toNat default).Y), .f .f32 ((r0_l2.getD i_l1.toNat default).Z)]).set i_l1.toNat [.f .f32 (ofInt .f32 k_l0), .f .f32 (ofInt .f32 (IntKind.wrap .i64 (k_l0 + 1))), .f .f32 ((r0_l2.getD i_l1.toNat default).Z)])[i_l1.toNat]? = some [.f .f32 (ofInt .f32 k_l0), .f .f32 (ofInt .f32 (IntKind.wrap .i64 (k_l0 + 1))), .f .f32 ((r0_l2.getD i_l1.toNat default).Z)] from List.getElem?_set_self (by simpa using y_2)) <| sW .i64 ((IntKind.wrap .i64 ((IntKind.wrap .i64 (k_l0 + 1)) + 1)) + 1) <| sI (i_l1 + 1) y_5 y_6 <| sN)) (by kernel_rfl) (show _ = ⟨.own 0 :: .i .i64 (IntKind.wrap .i64 ((IntKind.wrap .i64 ((IntKind.wrap .i64 (k_l0 + 1)) + 1)) + 1)) :: .any :: .any :: .i .i64 0 :: .i .i64 (i_l1 + 1) :: an 31 [], [.vec 40 3 ((r0_l2.set i_l1.toNat (⟨(ofInt .f32 k_l0), (ofInt .f32 (IntKind.wrap .i64 (k_l0 + 1))), (ofInt .f32 (IntKind.wrap .i64 ((IntKind.wrap .i64 (k_l0 + 1)) + 1)))⟩ : GVector)).map GVector.cells) false]⟩ from (by simp [List.map_set, GVector.cells])) (ih (IntKind.wrap .i64 ((IntKind.wrap .i64 ((IntKind.wrap .i64 (k_l0 + 1)) + 1)) + 1)) (i_l1 + 1) (r0_l2.set i_l1.toNat (⟨(ofInt .f32 k_l0), (ofInt .f32 (IntKind.wrap .i64 (k_l0 + 1))), (ofInt .f32 (IntKind.wrap .i64 ((IntKind.wrap .i64 (k_l0 + 1)) + 1)))⟩ : GVector)) (show 0 ≤ (i_l1 + 1) from (by omega)) (show (r0_l2.set i_l1.toNat (⟨(ofInt .f32 k_l0), (ofInt .f32 (IntKind.wrap .i64 (k_l0 + 1))), (ofInt .f32 (IntKind.wrap .i64 ((IntKind.wrap .i64 (k_l0 + 1)) + 1)))⟩ : GVector)).length = a_0.length from (by simp_all <;> omega)) (by omega))
  | false =>
   have gh_0 := of_decide_eq_false h_0
   have e : Zr a_0 k_1 (k + 1) k_l0 i_l1 r0_l2 = (k_l0, r0_l2) := by simp only [Zr, h_0, cond_false]
   rw [e]
   exact outR (e := (.exit 0)) (EpOk 1) Z4 [] (mR false [1, 1, 2, 1, 32]) [] (p (sB h_0 <| sN)) (by kernel_rfl) (by intro h; cases h)
theorem Z6z (a_0 : (List GVector)) (k_1 : Int) : ∀ (k : Nat) (k_l0 : Int) (i_l1 : Int) (r0_l2 : (List GVector)) (hk : ((r0_l2.length : Int) - i_l1).toNat < k), (Zr a_0 k_1 k k_l0 i_l1 r0_l2).2.length = r0_l2.length := by
  intro k
  induction k with
  | zero => intro k_l0 i_l1 r0_l2 hk; exact absurd hk (Nat.not_lt_zero _)
  | succ k ih =>
    intro k_l0 i_l1 r0_l2 hk
    cases h_0 : (decide (i_l1 < (r0_l2.length : Int))) with
    | true =>
      have e : Zr a_0 k_1 (k + 1) k_l0 i_l1 r0_l2 = (Zr a_0 k_1 k (IntKind.wrap .i64 ((IntKind.wrap .i64 ((IntKind.wrap .i64 (k_l0 + 1)) + 1)) + 1)) (i_l1 + 1) (r0_l2.set i_l1.toNat (⟨(ofInt .f32 k_l0), (ofInt .f32 (IntKind.wrap .i64 (k_l0 + 1))), (ofInt .f32 (IntKind.wrap .i64 ((IntKind.wrap .i64 (k_l0 + 1)) + 1)))⟩ : GVector))) := by simp only [Zr, h_0, cond_true]
      rw [e, ih (IntKind.wrap .i64 ((IntKind.wrap .i64 ((IntKind.wrap .i64 (k_l0 + 1)) + 1)) + 1)) (i_l1 + 1) (r0_l2.set i_l1.toNat (⟨(ofInt .f32 k_l0), (ofInt .f32 (IntKind.wrap .i64 (k_l0 + 1))), (ofInt .f32 (IntKind.wrap .i64 ((IntKind.wrap .i64 (k_l0 + 1)) + 1)))⟩ : GVector)) (by simp_all <;> omega)]; simp
    | false =>
      have e : Zr a_0 k_1 (k + 1) k_l0 i_l1 r0_l2 = (k_l0, r0_l2) := by simp only [Zr, h_0, cond_false]
      first | (rw [e]; done) | (rw [e]; rfl)
def Z1L (a_0 : (List GVector)) (k_1 : Int) : Int × (List GVector) := (Zr a_0 k_1 (((a_0.length : Int) - 0).toNat + 1) k_1 0 a_0)
@[simp] theorem Z99 (a_0 : (List GVector)) (k_1 : Int) : (Z1L a_0 k_1).2.length = (a_0 : (List GVector)).length := Z6z a_0 k_1 (((a_0.length : Int) - 0).toNat + 1) k_1 0 a_0 (by exact Nat.lt_succ_self _)
def Zb (a_0 : (List GVector)) (k_1 : Int) : Int × (List GVector) := ((Z1L a_0 k_1).1, (Z1L a_0 k_1).2)
@[simp] theorem Za8 (a_0 : (List GVector)) (k_1 : Int) : (Zb a_0 k_1).2.length = a_0.length := by
  first | (simp [Zb]; done)
theorem Z5b (a_0 : (List GVector)) (k_1 : Int) (hp0 : a_0.length ≤ 1073741824)  : CallSt prog 18 [.vec 40 3 (a_0.map GVector.cells) false] [.own 0, .i .i64 k_1] (.i .i64 ((Zb a_0 k_1).1)) [.vec 40 3 (((Zb a_0 k_1).2).map GVector.cells) false] := by
 refine callS (EpOk 1) Z4 (c := bodyOf f18) [.vec 40 3 (a_0.map GVector.cells) false] [] (.i .i64 ((Z1L a_0 k_1).1)) [.vec 40 3 (((Z1L a_0 k_1).2).map GVector.cells) false] func18 (sL (mR false [0, 2, 2, 2, 31]) 1 (lp_val (Z3F a_0 k_1) (x := (Z1L a_0 k_1)) (Z6Q a_0 k_1 hp0 (((a_0.length : Int) - 0).toNat + 1) k_1 0 a_0 (show 0 ≤ 0 from (by omega)) (show a_0.length = a_0.length from (by simp)) (Nat.lt_succ_self _)) rfl) <| sK [] sN) rfl (by kernel_rfl) (by kernel_rfl) ?_ ?_
 · rfl
 · simp [Zb]
def Z4s (_ : GVector) (c : Int) : Int × GVector := ((IntKind.wrap .i64 ((IntKind.wrap .i64 ((IntKind.wrap .i64 (c + 1)) + 1)) + 1)), ⟨ofInt .f32 c, ofInt .f32 (IntKind.wrap .i64 (c + 1)), ofInt .f32 (IntKind.wrap .i64 ((IntKind.wrap .i64 (c + 1)) + 1))⟩)
theorem Z7h (a : List GVector) (c : Int) : Zb a c = mkL Z4s a c := by
  unfold Zb Z1L
  rw [mark_loop (f := Z4s) (lo := Zr a c) (fun k c i r => rfl) _ _ _ _ (Int.le_refl 0) (Nat.lt_succ_self _)]
  simp
theorem Z6L (a : List GVector) (c : Int) (g0 : a.length ≤ 1073741824) (h0 : 0 ≤ c) (h1 : c ≤ 4611686018427387904) : c ≤ (Zb a c).1 ∧ (Zb a c).1 ≤ c + 3221225472 := by
  rw [Z7h]
  have q := mkL_ge (f := Z4s) (W := 3) a c (fun x _ c k0 k1 => by simp only [Z4s]; rw [wrap_id (n := c + 1) (by omega) (by omega), show c + 1 + 1 = c + 2 from by omega, wrap_id (n := c + 2) (by omega) (by omega), show c + 2 + 1 = c + 3 from by omega, wrap_id (n := c + 3) (by omega) (by omega)]; omega) h0 (by omega)
  omega
def Zt (a_0 : (List Int)) (k_1 : Int) : Nat → Int → Int → (List Int) → Int × (List Int)
  | 0, _, _, _ => default
  | k + 1, k_l0, i_l1, r0_l2 => (cond (decide (i_l1 < (r0_l2.length : Int)))
    (Zt a_0 k_1 k (IntKind.wrap .i64 (k_l0 + 1)) (i_l1 + 1) (r0_l2.set i_l1.toNat k_l0))
    (k_l0, r0_l2))
def Z3K (ty : Nat) (a_0 : (List Int)) (k_1 : Int) (r : Int × (List Int)) : Ex × St := ((.exit 0), ⟨.any :: .i .i64 r.1 :: .any :: .any :: .i .i64 0 :: an 14 [], [.vec ty 1 (r.2.map (cI .i64)) false]⟩)
def Z76 (ty : Nat) (a_0 : (List Int)) (k_1 : Int) (k_l0 : Int) (i_l1 : Int) (r0_l2 : (List Int)) : St := ⟨.own 0 :: .i .i64 k_l0 :: .any :: .any :: .i .i64 0 :: .i .i64 i_l1 :: an 13 [], [.vec ty 1 (r0_l2.map (cI .i64)) false]⟩
theorem Z77 (ty : Nat) (a_0 : (List Int)) (k_1 : Int) (hp0 : a_0.length ≤ 1073741824) : ∀ (k : Nat) (k_l0 : Int) (i_l1 : Int) (r0_l2 : (List Int)) (Z4t : 0 ≤ i_l1) (Z4u : r0_l2.length = a_0.length) (hk : ((a_0.length : Int) - i_l1).toNat < k), Lp prog 1 (sub (bodyOf f27) [1, 0, 1, 0, 0]) (Z76 ty a_0 k_1 k_l0 i_l1 r0_l2) (Z3K ty a_0 k_1 (Zt a_0 k_1 k k_l0 i_l1 r0_l2)).1 (Z3K ty a_0 k_1 (Zt a_0 k_1 k k_l0 i_l1 r0_l2)).2 := by
 intro k
 induction k with
 | zero => intro k_l0 i_l1 r0_l2 Z4t Z4u hk; exact absurd hk (Nat.not_lt_zero _)
 | succ k ih =>
  intro k_l0 i_l1 r0_l2 Z4t Z4u hk
  have p {a C} (s : Scr a C) := sZ (cI .i64) r0_l2 <| s
  cases h_0 : (decide (i_l1 < (r0_l2.length : Int))) with
  | true =>
   have gh_0 := of_decide_eq_true h_0
   have y_0 : (0 : Int) ≤ i_l1 := by clear p; exact (by assumption)
   have y_1 : i_l1 < (r0_l2.length : Int) := by clear p; exact (by assumption)
   have y_2 : i_l1.toNat < r0_l2.length := by clear p; exact (by omega)
   have y_3 : (-9223372036854775808 : Int) ≤ (i_l1 + 1) := by clear p; exact (by omega)
   have y_4 : (i_l1 + 1) ≤ (9223372036854775807 : Int) := by clear p; exact (by omega)
   have e : Zt a_0 k_1 (k + 1) k_l0 i_l1 r0_l2 = (Zt a_0 k_1 k (IntKind.wrap .i64 (k_l0 + 1)) (i_l1 + 1) (r0_l2.set i_l1.toNat k_l0)) := by simp only [Zt, h_0, cond_true]
   rw [e]
   exact nextS (EpOk 1) Z4 [] (mR false [0, 2, 2, 2, 13]) [] (⟨.own 0 :: .i .i64 (IntKind.wrap .i64 (k_l0 + 1)) :: .any :: .any :: .i .i64 0 :: .i .i64 (i_l1 + 1) :: an 13 [], [.vec ty 1 ((r0_l2.map (cI .i64)).set i_l1.toNat [.i .i64 k_l0]) false]⟩) (p (sB h_0 <| sX (cI .i64) r0_l2 i_l1 y_0 y_1 <| sC (maplt (c := (cI .i64)) (l := r0_l2) y_2) <| sW .i64 (k_l0 + 1) <| sI (i_l1 + 1) y_3 y_4 <| sN)) (by kernel_rfl) (show _ = ⟨.own 0 :: .i .i64 (IntKind.wrap .i64 (k_l0 + 1)) :: .any :: .any :: .i .i64 0 :: .i .i64 (i_l1 + 1) :: an 13 [], [.vec ty 1 ((r0_l2.set i_l1.toNat k_l0).map (cI .i64)) false]⟩ from (by simp [List.map_set, cI])) (ih (IntKind.wrap .i64 (k_l0 + 1)) (i_l1 + 1) (r0_l2.set i_l1.toNat k_l0) (show 0 ≤ (i_l1 + 1) from (by omega)) (show (r0_l2.set i_l1.toNat k_l0).length = a_0.length from (by simp_all <;> omega)) (by omega))
  | false =>
   have gh_0 := of_decide_eq_false h_0
   have e : Zt a_0 k_1 (k + 1) k_l0 i_l1 r0_l2 = (k_l0, r0_l2) := by simp only [Zt, h_0, cond_false]
   rw [e]
   exact outR (e := (.exit 0)) (EpOk 1) Z4 [] (mR false [1, 1, 2, 1, 14]) [] (p (sB h_0 <| sN)) (by kernel_rfl) (by intro h; cases h)
theorem Z6G (a_0 : (List Int)) (k_1 : Int) : ∀ (k : Nat) (k_l0 : Int) (i_l1 : Int) (r0_l2 : (List Int)) (hk : ((r0_l2.length : Int) - i_l1).toNat < k), (Zt a_0 k_1 k k_l0 i_l1 r0_l2).2.length = r0_l2.length := by
  intro k
  induction k with
  | zero => intro k_l0 i_l1 r0_l2 hk; exact absurd hk (Nat.not_lt_zero _)
  | succ k ih =>
    intro k_l0 i_l1 r0_l2 hk
    cases h_0 : (decide (i_l1 < (r0_l2.length : Int))) with
    | true =>
      have e : Zt a_0 k_1 (k + 1) k_l0 i_l1 r0_l2 = (Zt a_0 k_1 k (IntKind.wrap .i64 (k_l0 + 1)) (i_l1 + 1) (r0_l2.set i_l1.toNat k_l0)) := by simp only [Zt, h_0, cond_true]
      rw [e, ih (IntKind.wrap .i64 (k_l0 + 1)) (i_l1 + 1) (r0_l2.set i_l1.toNat k_l0) (by simp_all <;> omega)]; simp
    | false =>
      have e : Zt a_0 k_1 (k + 1) k_l0 i_l1 r0_l2 = (k_l0, r0_l2) := by simp only [Zt, h_0, cond_false]
      first | (rw [e]; done) | (rw [e]; rfl)
def Z1V (a_0 : (List Int)) (k_1 : Int) : Int × (List Int) := (Zt a_0 k_1 (((a_0.length : Int) - 0).toNat + 1) k_1 0 a_0)
@[simp] theorem Z9A (a_0 : (List Int)) (k_1 : Int) : (Z1V a_0 k_1).2.length = (a_0 : (List Int)).length := Z6G a_0 k_1 (((a_0.length : Int) - 0).toNat + 1) k_1 0 a_0 (by exact Nat.lt_succ_self _)
def Zg (a_0 : (List Int)) (k_1 : Int) : Int × (List Int) := ((Z1V a_0 k_1).1, (Z1V a_0 k_1).2)
@[simp] theorem Z6A (a_0 : (List Int)) (k_1 : Int) : (Zg a_0 k_1).2.length = a_0.length := by
  first | (simp [Zg]; done)
theorem Z7F (ty : Nat) (a_0 : (List Int)) (k_1 : Int) (hp0 : a_0.length ≤ 1073741824)  : CallSt prog 27 [.vec ty 1 (a_0.map (cI .i64)) false] [.own 0, .i .i64 k_1] (.i .i64 ((Zg a_0 k_1).1)) [.vec ty 1 (((Zg a_0 k_1).2).map (cI .i64)) false] := by
 refine callS (EpOk 1) Z4 (c := bodyOf f27) [.vec ty 1 (a_0.map (cI .i64)) false] [] (.i .i64 ((Z1V a_0 k_1).1)) [.vec ty 1 (((Z1V a_0 k_1).2).map (cI .i64)) false] func27 (sL (mR false [0, 2, 2, 2, 13]) 1 (lp_val (Z3K ty a_0 k_1) (x := (Z1V a_0 k_1)) (Z77 ty a_0 k_1 hp0 (((a_0.length : Int) - 0).toNat + 1) k_1 0 a_0 (show 0 ≤ 0 from (by omega)) (show a_0.length = a_0.length from (by simp)) (Nat.lt_succ_self _)) rfl) <| sK [] sN) rfl (by kernel_rfl) (by kernel_rfl) ?_ ?_
 · rfl
 · simp [Zg]
def Z67 (_ : Int) (c : Int) : Int × Int := ((IntKind.wrap .i64 (c + 1)), c)
theorem Za9 (a : List Int) (c : Int) : Zg a c = mkL Z67 a c := by
  unfold Zg Z1V
  rw [mark_loop (f := Z67) (lo := Zt a c) (fun k c i r => rfl) _ _ _ _ (Int.le_refl 0) (Nat.lt_succ_self _)]
  simp
theorem Z9B (a : List Int) (c : Int) (g0 : a.length ≤ 1073741824) (h0 : 0 ≤ c) (h1 : c ≤ 4611686018427387904) : c ≤ (Zg a c).1 ∧ (Zg a c).1 ≤ c + 1073741824 := by
  rw [Za9]
  have q := mkL_ge (f := Z67) (W := 1) a c (fun x _ c k0 k1 => by simp only [Z67]; rw [wrap_id (n := c + 1) (by omega) (by omega)]; omega) h0 (by omega)
  omega
def Z1b (a_0 : (List (List Int))) (k_1 : Int) : Nat → Int → Int → (List (List Int)) → Int × (List (List Int))
  | 0, _, _, _ => default
  | k + 1, k_l0, i_l1, r0_l2 => (cond (decide (i_l1 < (r0_l2.length : Int)))
    (Z1b a_0 k_1 k ((Zg (r0_l2.getD i_l1.toNat default) k_l0).1) (i_l1 + 1) (r0_l2.set i_l1.toNat ((Zg (r0_l2.getD i_l1.toNat default) k_l0).2)))
    (k_l0, r0_l2))
def Z3G (a_0 : (List (List Int))) (k_1 : Int) (r : Int × (List (List Int))) : Ex × St := ((.exit 0), ⟨.any :: .i .i64 r.1 :: .any :: .any :: .i .i64 0 :: an 14 [], [.nest 49 (r.2.map fun l => l.map (cI .i64)) false]⟩)
def Z6R (a_0 : (List (List Int))) (k_1 : Int) (k_l0 : Int) (i_l1 : Int) (r0_l2 : (List (List Int))) : St := ⟨.own 0 :: .i .i64 k_l0 :: .any :: .any :: .i .i64 0 :: .i .i64 i_l1 :: an 13 [], [.nest 49 (r0_l2.map fun l => l.map (cI .i64)) false]⟩
theorem Z6S (a_0 : (List (List Int))) (k_1 : Int) (hp0 : a_0.length ≤ 1073741824) (hp1 : ∀ t ∈ a_0, t.length ≤ 1073741824) : ∀ (k : Nat) (k_l0 : Int) (i_l1 : Int) (r0_l2 : (List (List Int))) (Z4c : 0 ≤ i_l1) (Z4d : r0_l2.length = a_0.length) (Z2D : ∀ t ∈ r0_l2, t.length ≤ 1073741824) (hk : ((a_0.length : Int) - i_l1).toNat < k), Lp prog 1 (sub (bodyOf f119) [1, 0, 1, 0, 0]) (Z6R a_0 k_1 k_l0 i_l1 r0_l2) (Z3G a_0 k_1 (Z1b a_0 k_1 k k_l0 i_l1 r0_l2)).1 (Z3G a_0 k_1 (Z1b a_0 k_1 k k_l0 i_l1 r0_l2)).2 := by
 intro k
 induction k with
 | zero => intro k_l0 i_l1 r0_l2 Z4c Z4d Z2D hk; exact absurd hk (Nat.not_lt_zero _)
 | succ k ih =>
  intro k_l0 i_l1 r0_l2 Z4c Z4d Z2D hk
  have p {a C} (s : Scr a C) := sM (nlen_ok (l := r0_l2) (f := fun l => l.map (cI .i64))) <| s
  cases h_0 : (decide (i_l1 < (r0_l2.length : Int))) with
  | true =>
   have gh_0 := of_decide_eq_true h_0
   have y_0 : (0 : Int) ≤ i_l1 := by clear p; exact (by assumption)
   have y_1 : Int.toNat i_l1 < r0_l2.length := by clear p; exact (by omega)
   have y_2 : i_l1.toNat < r0_l2.length := by clear p; exact (by assumption)
   have y_3 : (r0_l2.getD i_l1.toNat default).length ≤ 1073741824 := by clear p; exact (by exact mem_le Z2D)
   have y_4 : (-9223372036854775808 : Int) ≤ (i_l1 + 1) := by clear p; exact (by omega)
   have y_5 : (i_l1 + 1) ≤ (9223372036854775807 : Int) := by clear p; exact (by omega)
   have e : Z1b a_0 k_1 (k + 1) k_l0 i_l1 r0_l2 = (Z1b a_0 k_1 k ((Zg (r0_l2.getD i_l1.toNat default) k_l0).1) (i_l1 + 1) (r0_l2.set i_l1.toNat ((Zg (r0_l2.getD i_l1.toNat default) k_l0).2))) := by simp only [Z1b, h_0, cond_true]
   rw [e]
   exact nextS (EpOk 1) Z4 [] (mR false [0, 2, 2, 2, 13]) [] (⟨.own 0 :: .i .i64 ((Zg (r0_l2.getD i_l1.toNat default) k_l0).1) :: .any :: .any :: .i .i64 0 :: .i .i64 (i_l1 + 1) :: an 13 [], [.nest 49 ((r0_l2.map fun l => l.map (cI .i64)).set i_l1.toNat (((Zg (r0_l2.getD i_l1.toNat default) k_l0).2).map (cI .i64))) false]⟩) (p (sB h_0 <| sC (nestix (c := (cI .i64)) (l := r0_l2) (i := i_l1) y_0 y_1) <| sC (nestlt (c := (cI .i64)) (l := r0_l2) y_2) <| sS (CallSt.frameInn (R := [.nest 49 (r0_l2.map fun l => l.map (cI .i64)) false]) (q := 0) (j := i_l1.toNat) (args := [.i .i64 k_l0]) (fun ty => Z7F ty (r0_l2.getD i_l1.toNat default) k_l0 y_3) rfl rfl (by simp) rfl (nestget_ok y_2)) <| sI (i_l1 + 1) y_4 y_5 <| sN)) (by kernel_rfl) (show _ = ⟨.own 0 :: .i .i64 ((Zg (r0_l2.getD i_l1.toNat default) k_l0).1) :: .any :: .any :: .i .i64 0 :: .i .i64 (i_l1 + 1) :: an 13 [], [.nest 49 ((r0_l2.set i_l1.toNat ((Zg (r0_l2.getD i_l1.toNat default) k_l0).2)).map fun l => l.map (cI .i64)) false]⟩ from (by simp [List.map_set, cL, cI])) (ih ((Zg (r0_l2.getD i_l1.toNat default) k_l0).1) (i_l1 + 1) (r0_l2.set i_l1.toNat ((Zg (r0_l2.getD i_l1.toNat default) k_l0).2)) (show 0 ≤ (i_l1 + 1) from (by omega)) (show (r0_l2.set i_l1.toNat ((Zg (r0_l2.getD i_l1.toNat default) k_l0).2)).length = a_0.length from (by simp; assumption)) (show ∀ t ∈ (r0_l2.set i_l1.toNat ((Zg (r0_l2.getD i_l1.toNat default) k_l0).2)), t.length ≤ 1073741824 from (by intro t ht; rcases List.mem_or_eq_of_mem_set ht with h | h; (exact Z2D t h); (rw [h]; simp only [Z6A]; exact mem_le Z2D))) (by omega))
  | false =>
   have gh_0 := of_decide_eq_false h_0
   have e : Z1b a_0 k_1 (k + 1) k_l0 i_l1 r0_l2 = (k_l0, r0_l2) := by simp only [Z1b, h_0, cond_false]
   rw [e]
   exact outR (e := (.exit 0)) (EpOk 1) Z4 [] (mR false [1, 1, 2, 1, 14]) [] (p (sB h_0 <| sN)) (by kernel_rfl) (by intro h; cases h)
def Z2f (a_0 : (List (List Int))) (k_1 : Int) : Int × (List (List Int)) := (Z1b a_0 k_1 (((a_0.length : Int) - 0).toNat + 1) k_1 0 a_0)
def Z1h (a_0 : (List (List Int))) (k_1 : Int) : Int × (List (List Int)) := ((Z2f a_0 k_1).1, (Z2f a_0 k_1).2)
theorem Z7l (a_0 : (List (List Int))) (k_1 : Int) (hp0 : a_0.length ≤ 1073741824) (hp1 : ∀ t ∈ a_0, t.length ≤ 1073741824)  : CallSt prog 119 [.nest 49 (a_0.map fun l => l.map (cI .i64)) false] [.own 0, .i .i64 k_1] (.i .i64 ((Z1h a_0 k_1).1)) [.nest 49 (((Z1h a_0 k_1).2).map fun l => l.map (cI .i64)) false] := by
 refine callS (EpOk 1) Z4 (c := bodyOf f119) [.nest 49 (a_0.map fun l => l.map (cI .i64)) false] [] (.i .i64 ((Z2f a_0 k_1).1)) [.nest 49 (((Z2f a_0 k_1).2).map fun l => l.map (cI .i64)) false] func119 (sL (mR false [0, 2, 2, 2, 13]) 1 (lp_val (Z3G a_0 k_1) (x := (Z2f a_0 k_1)) (Z6S a_0 k_1 hp0 hp1 (((a_0.length : Int) - 0).toNat + 1) k_1 0 a_0 (show 0 ≤ 0 from (by simp)) (show a_0.length = a_0.length from (by simp)) (show ∀ t ∈ a_0, t.length ≤ 1073741824 from (by assumption)) (Nat.lt_succ_self _)) rfl) <| sK [] sN) rfl (by kernel_rfl) (by kernel_rfl) ?_ ?_
 · rfl
 · simp [Z1h]
theorem ZaJ (a : List (List Int)) (c : Int) : Z1h a c = mkL Zg a c := by
  unfold Z1h Z2f
  rw [mark_loop (f := Zg) (lo := Z1b a c) (fun k c i r => rfl) _ _ _ _ (Int.le_refl 0) (Nat.lt_succ_self _)]
  simp
theorem Z8R (a : List (List Int)) (c : Int) (g0 : a.length ≤ 1073741824) (g1 : ∀ t ∈ a, t.length ≤ 1073741824) (h0 : 0 ≤ c) (h1 : c ≤ 3458764513820540928) : c ≤ (Z1h a c).1 ∧ (Z1h a c).1 ≤ c + 1152921504606846976 := by
  rw [ZaJ]
  have hm : (a.length : Int) * 1073741824 ≤ 1152921504606846976 := by omega
  have q := mkL_ge_b (f := Zg) (W := 1073741824) (M := 4611686018427387904) a c (fun x hx c k0 k1 => by have q := Z9B x c (g1 x hx) k0 (by omega); omega) h0 (by omega)
  omega
def Zd (a_0 : GMesh) (k_1 : Int) : Int × (List GVector) × (List (List Int)) := ((Z1h a_0.Triangles ((Zb a_0.Places k_1).1)).1, (Zb a_0.Places k_1).2, (Z1h a_0.Triangles ((Zb a_0.Places k_1).1)).2)
theorem Z7m (a_0 : GMesh) (k_1 : Int) (hp0 : a_0.Places.length ≤ 1073741824) (hp1 : a_0.Triangles.length ≤ 1073741824) (hp2 : ∀ t ∈ a_0.Triangles, t.length ≤ 1073741824)  : CallSt prog 61 [.vec 40 3 (a_0.Places.map GVector.cells) false, .nest 49 (a_0.Triangles.map fun l => l.map (cI .i64)) false] [.agg [.own 0, .own 1], .i .i64 k_1] (.i .i64 ((Zd a_0 k_1).1)) [.vec 40 3 (((Zd a_0 k_1).2.1).map GVector.cells) false, .nest 49 (((Zd a_0 k_1).2.2).map fun l => l.map (cI .i64)) false] := by
 refine callS (EpOk 2) Z4 (c := bodyOf f61) [.vec 40 3 (a_0.Places.map GVector.cells) false, .nest 49 (a_0.Triangles.map fun l => l.map (cI .i64)) false] [] (.i .i64 ((Z1h a_0.Triangles ((Zb a_0.Places k_1).1)).1)) [.vec 40 3 (((Zb a_0.Places k_1).2).map GVector.cells) false, .nest 49 (((Z1h a_0.Triangles ((Zb a_0.Places k_1).1)).2).map fun l => l.map (cI .i64)) false] func61 (sS (CallSt.frame (Z5b a_0.Places k_1 hp0) [0] (R := [.vec 40 3 (a_0.Places.map GVector.cells) false, .nest 49 (a_0.Triangles.map fun l => l.map (cI .i64)) false, .box 38 [.own 0, .own 1]]) (args' := [.own 0, .i .i64 k_1]) rfl rfl rfl rfl rfl rfl) <| sS (CallSt.frame (Z7l a_0.Triangles ((Zb a_0.Places k_1).1) hp1 hp2) [1] (R := [.vec 40 3 (((Zb a_0.Places k_1).2).map GVector.cells) false, .nest 49 (a_0.Triangles.map fun l => l.map (cI .i64)) false, .box 38 [.own 0, .own 1]]) (args' := [.own 1, .i .i64 ((Zb a_0.Places k_1).1)]) rfl rfl rfl rfl rfl rfl) <| sK [] sN) rfl (by kernel_rfl) (by kernel_rfl) ?_ ?_
 · rfl
 · simp [Zd]
theorem Z8S (a : GMesh) (c : Int) (g0 : a.Places.length ≤ 1073741824) (g1 : a.Triangles.length ≤ 1073741824) (g2 : ∀ t ∈ a.Triangles, t.length ≤ 1073741824) (h0 : 0 ≤ c) (h1 : c ≤ 2305843009213693952) : c ≤ (Zd a c).1 ∧ (Zd a c).1 ≤ c + 1152921507828072448 := by
  unfold Zd
  have p0 := Z6L a.Places c g0 (by omega) (by omega)
  have p1 := Z8R a.Triangles ((Zb a.Places c).1) g1 g2 (by omega) (by omega)
  simp only
  omega
def Z1c (a_0 : (List GSpring)) (k_1 : Int) : Nat → Int → Int → (List GSpring) → Int × (List GSpring)
  | 0, _, _, _ => default
  | k + 1, k_l0, i_l1, r0_l2 => (cond (decide (i_l1 < (r0_l2.length : Int)))
    (Z1c a_0 k_1 k (IntKind.wrap .i64 ((IntKind.wrap .i64 ((IntKind.wrap .i64 ((IntKind.wrap .i64 (k_l0 + 1)) + 1)) + 1)) + 1)) (i_l1 + 1) (r0_l2.set i_l1.toNat (⟨k_l0, (IntKind.wrap .i64 (k_l0 + 1)), (ofInt .f32 (IntKind.wrap .i64 ((IntKind.wrap .i64 (k_l0 + 1)) + 1))), (ofInt .f32 (IntKind.wrap .i64 ((IntKind.wrap .i64 ((IntKind.wrap .i64 (k_l0 + 1)) + 1)) + 1)))⟩ : GSpring)))
    (k_l0, r0_l2))
def Z3H (a_0 : (List GSpring)) (k_1 : Int) (r : Int × (List GSpring)) : Ex × St := ((.exit 0), ⟨.any :: .i .i64 r.1 :: .any :: .any :: .i .i64 0 :: an 38 [], [.vec 133 4 (r.2.map GSpring.cells) false]⟩)
def Z6T (a_0 : (List GSpring)) (k_1 : Int) (k_l0 : Int) (i_l1 : Int) (r0_l2 : (List GSpring)) : St := ⟨.own 0 :: .i .i64 k_l0 :: .any :: .any :: .i .i64 0 :: .i .i64 i_l1 :: an 37 [], [.vec 133 4 (r0_l2.map GSpring.cells) false]⟩
theorem Z6U (a_0 : (List GSpring)) (k_1 : Int) (hp0 : a_0.length ≤ 1073741824) : ∀ (k : Nat) (k_l0 : Int) (i_l1 : Int) (r0_l2 : (List GSpring)) (Z4e : 0 ≤ i_l1) (Z4f : r0_l2.length = a_0.length) (hk : ((a_0.length : Int) - i_l1).toNat < k), Lp prog 1 (sub (bodyOf f62) [1, 0, 1, 0, 0]) (Z6T a_0 k_1 k_l0 i_l1 r0_l2) (Z3H a_0 k_1 (Z1c a_0 k_1 k k_l0 i_l1 r0_l2)).1 (Z3H a_0 k_1 (Z1c a_0 k_1 k k_l0 i_l1 r0_l2)).2 := by
 intro k
 induction k with
 | zero => intro k_l0 i_l1 r0_l2 Z4e Z4f hk; exact absurd hk (Nat.not_lt_zero _)
 | succ k ih =>
  intro k_l0 i_l1 r0_l2 Z4e Z4f hk
  have p {a C} (s : Scr a C) := sZ GSpring.cells r0_l2 <| s
  cases h_0 : (decide (i_l1 < (r0_l2.length : Int))) with
  | true =>
   have gh_0 := of_decide_eq_true h_0
   have y_0 : (0 : Int) ≤ i_l1 := by clear p; exact (by assumption)
   have y_1 : i_l1 < (r0_l2.length : Int) := by clear p; exact (by assumption)
   have y_2 : i_l1.toNat < r0_l2.length := by clear p; exact (by omega)
   have y_3 : i_l1 < ((r0_l2.set i_l1.toNat (⟨k_l0, (r0_l2.getD i_l1.toNat default).B, (r0_l2.getD i_l1.toNat default).Long, (r0_l2.getD i_l1.toNat default).Stiff⟩ : GSpring)).length : Int) := by clear p; exact (by simp_all <;> omega)
   have y_4 : i_l1 < ((r0_l2.set i_l1.toNat (⟨k_l0, (IntKind.wrap .i64 (k_l0 + 1)), (r0_l2.getD i_l1.toNat default).Long, (r0_l2.getD i_l1.toNat default).Stiff⟩ : GSpring)).length : Int) := by clear p; exact (by simp_all <;> omega)
   have y_5 : i_l1 < ((r0_l2.set i_l1.toNat (⟨k_l0, (IntKind.wrap .i64 (k_l0 + 1)), (ofInt .f32 (IntKind.wrap .i64 ((IntKind.wrap .i64 (k_l0 + 1)) + 1))), (r0_l2.getD i_l1.toNat default).Stiff⟩ : GSpring)).length : Int) := by clear p; exact (by simp_all <;> omega)
   have y_6 : (-9223372036854775808 : Int) ≤ (i_l1 + 1) := by clear p; exact (by omega)
   have y_7 : (i_l1 + 1) ≤ (9223372036854775807 : Int) := by clear p; exact (by omega)
   have e : Z1c a_0 k_1 (k + 1) k_l0 i_l1 r0_l2 = (Z1c a_0 k_1 k (IntKind.wrap .i64 ((IntKind.wrap .i64 ((IntKind.wrap .i64 ((IntKind.wrap .i64 (k_l0 + 1)) + 1)) + 1)) + 1)) (i_l1 + 1) (r0_l2.set i_l1.toNat (⟨k_l0, (IntKind.wrap .i64 (k_l0 + 1)), (ofInt .f32 (IntKind.wrap .i64 ((IntKind.wrap .i64 (k_l0 + 1)) + 1))), (ofInt .f32 (IntKind.wrap .i64 ((IntKind.wrap .i64 ((IntKind.wrap .i64 (k_l0 + 1)) + 1)) + 1)))⟩ : GSpring))) := by simp only [Z1c, h_0, cond_true]
   rw [e]
   exact nextS (EpOk 1) Z4 [] (mR false [0, 2, 2, 2, 37]) [] (⟨.own 0 :: .i .i64 (IntKind.wrap .i64 ((IntKind.wrap .i64 ((IntKind.wrap .i64 ((IntKind.wrap .i64 (k_l0 + 1)) + 1)) + 1)) + 1)) :: .any :: .any :: .i .i64 0 :: .i .i64 (i_l1 + 1) :: an 37 [], [.vec 133 4 (((((r0_l2.map GSpring.cells).set i_l1.toNat [.i .i64 k_l0, .i .i64 ((r0_l2.getD i_l1.toNat default).B), .f .f32 ((r0_l2.getD i_l1.toNat default).Long), .f .f32 ((r0_l2.getD i_l1.toNat default).Stiff)]).set i_l1.toNat [.i .i64 k_l0, .i .i64 (IntKind.wrap .i64 (k_l0 + 1)), .f .f32 ((r0_l2.getD i_l1.toNat default).Long), .f .f32 ((r0_l2.getD i_l1.toNat default).Stiff)]).set i_l1.toNat [.i .i64 k_l0, .i .i64 (IntKind.wrap .i64 (k_l0 + 1)), .f .f32 (ofInt .f32 (IntKind.wrap .i64 ((IntKind.wrap .i64 (k_l0 + 1)) + 1))), .f .f32 ((r0_l2.getD i_l1.toNat default).Stiff)]).set i_l1.toNat [.i .i64 k_l0, .i .i64 (IntKind.wrap .i64 (k_l0 + 1)), .f .f32 (ofInt .f32 (IntKind.wrap .i64 ((IntKind.wrap .i64 (k_l0 + 1)) + 1))), .f .f32 (ofInt .f32 (IntKind.wrap .i64 ((IntKind.wrap .i64 ((IntKind.wrap .i64 (k_l0 + 1)) + 1)) + 1)))]) false]⟩) (p (sB h_0 <| sX GSpring.cells r0_l2 i_l1 y_0 y_1 <| sV GSpring.cells r0_l2 i_l1.toNat y_2 <| sW .i64 (k_l0 + 1) <| sC (show 0 ≤ i_l1 ∧ Int.toNat i_l1 < ((r0_l2.map GSpring.cells).set i_l1.toNat [.i .i64 k_l0, .i .i64 ((r0_l2.getD i_l1.toNat default).B), .f .f32 ((r0_l2.getD i_l1.toNat default).Long), .f .f32 ((r0_l2.getD i_l1.toNat default).Stiff)]).length from (by simpa using idx_ok (c := GSpring.cells) (l := (r0_l2.set i_l1.toNat (⟨k_l0, (r0_l2.getD i_l1.toNat default).B, (r0_l2.getD i_l1.toNat default).Long, (r0_l2.getD i_l1.toNat default).Stiff⟩ : GSpring))) (i := i_l1) y_0 y_3)) <| sE (show ((r0_l2.map GSpring.cells).set i_l1.toNat [.i .i64 k_l0, .i .i64 ((r0_l2.getD i_l1.toNat default).B), .f .f32 ((r0_l2.getD i_l1.toNat default).Long), .f .f32 ((r0_l2.getD i_l1.toNat default).Stiff)])[i_l1.toNat]? = some [.i .i64 k_l0, .i .i64 ((r0_l2.getD i_l1.toNat default).B), .f .f32 ((r0_l2.getD i_l1.toNat default).Long), .f .f32 ((r0_l2.getD i_l1.toNat default).Stiff)] from List.getElem?_set_self (by simpa using y_2)) <| sW .i64 ((IntKind.wrap .i64 (k_l0 + 1)) + 1) <| sC (show 0 ≤ i_l1 ∧ Int.toNat i_l1 < (((r0_l2.map GSpring.cells).set i_l1.toNat [.i .i64 k_l0, .i .i64 ((r0_l2.getD i_l1.toNat default).B), .f .f32 ((r0_l2.getD i_l1.toNat default).Long), .f .f32 ((r0_l2.getD i_l1.toNat default).Stiff)]).set i_l1.toNat [.i .i64 k_l0, .i .i64 (IntKind.wrap .i64 (k_l0 + 1)), .f .f32 ((r0_l2.getD i_l1.toNat default).Long), .f .f32 ((r0_l2.getD i_l1.toNat default).Stiff)]).length from (by simpa using idx_ok (c := GSpring.cells) (l := (r0_l2.set i_l1.toNat (⟨k_l0, (IntKind.wrap .i64 (k_l0 + 1)), (r0_l2.getD i_l1.toNat default).Long, (r0_l2.getD i_l1.toNat default).Stiff⟩ : GSpring))) (i := i_l1) y_0 y_4)) <| sE (show (((r0_l2.map GSpring.cells).set i_l1.toNat [.i .i64 k_l0, .i .i64 ((r0_l2.getD i_l1.toNat default).B), .f .f32 ((r0_l2.getD i_l1.toNat default).Long), .f .f32 ((r0_l2.getD i_l1.toNat default).Stiff)]).set i_l1.toNat [.i .i64 k_l0, .i .i64 (IntKind.wrap .i64 (k_l0 + 1)), .f .f32 ((r0_l2.getD i_l1.toNat default).Long), .f .f32 ((r0_l2.getD i_l1.toNat default).Stiff)])[i_l1.toNat]? = some [.i .i64 k_l0, .i .i64 (IntKind.wrap .i64 (k_l0 + 1)), .f .f32 ((r0_l2.getD i_l1.toNat default).Long), .f .f32 ((r0_l2.getD i_l1.toNat default).Stiff)] from List.getElem?_set_self (by simpa using y_2)) <| sW .i64 ((IntKind.wrap .i64 ((IntKind.wrap .i64 (k_l0 + 1)) + 1)) + 1) <| sC (show 0 ≤ i_l1 ∧ Int.toNat i_l1 < ((((r0_l2.map GSpring.cells).set i_l1.toNat [.i .i64 k_l0, .i .i64 ((r0_l2.getD i_l1.toNat default).B), .f .f32 ((r0_l2.getD i_l1.toNat default).Long), .f .f32 ((r0_l2.getD i_l1.toNat default).Stiff)]).set i_l1.toNat [.i .i64 k_l0, .i .i64 (IntKind.wrap .i64 (k_l0 + 1)), .f .f32 ((r0_l2.getD i_l1.toNat default).Long), .f .f32 ((r0_l2.getD i_l1.toNat default).Stiff)]).set i_l1.toNat [.i .i64 k_l0, .i .i64 (IntKind.wrap .i64 (k_l0 + 1)), .f .f32 (ofInt .f32 (IntKind.wrap .i64 ((IntKind.wrap .i64 (k_l0 + 1)) + 1))), .f .f32 ((r0_l2.getD i_l1.toNat default).Stiff)]).length from (by simpa using idx_ok (c := GSpring.cells) (l := (r0_l2.set i_l1.toNat (⟨k_l0, (IntKind.wrap .i64 (k_l0 + 1)), (ofInt .f32 (IntKind.wrap .i64 ((IntKind.wrap .i64 (k_l0 + 1)) + 1))), (r0_l2.getD i_l1.toNat default).Stiff⟩ : GSpring))) (i := i_l1) y_0 y_5)) <| sE (show ((((r0_l2.map GSpring.cells).set i_l1.toNat [.i .i64 k_l0, .i .i64 ((r0_l2.getD i_l1.toNat default).B), .f .f32 ((r0_l2.getD i_l1.toNat default).Long), .f .f32 ((r0_l2.getD i_l1.toNat default).Stiff)]).set i_l1.toNat [.i .i64 k_l0, .i .i64 (IntKind.wrap .i64 (k_l0 + 1)), .f .f32 ((r0_l2.getD i_l1.toNat default).Long), .f .f32 ((r0_l2.getD i_l1.toNat default).Stiff)]).set i_l1.toNat [.i .i64 k_l0, .i .i64 (IntKind.wrap .i64 (k_l0 + 1)), .f .f32 (ofInt .f32 (IntKind.wrap .i64 ((IntKind.wrap .i64 (k_l0 + 1)) + 1))), .f .f32 ((r0_l2.getD i_l1.toNat default).Stiff)])[i_l1.toNat]? = some [.i .i64 k_l0, .i .i64 (IntKind.wrap .i64 (k_l0 + 1)), .f .f32 (ofInt .f32 (IntKind.wrap .i64 ((IntKind.wrap .i64 (k_l0 + 1)) + 1))), .f .f32 ((r0_l2.getD i_l1.toNat default).Stiff)] from List.getElem?_set_self (by simpa using y_2)) <| sW .i64 ((IntKind.wrap .i64 ((IntKind.wrap .i64 ((IntKind.wrap .i64 (k_l0 + 1)) + 1)) + 1)) + 1) <| sI (i_l1 + 1) y_6 y_7 <| sN)) (by kernel_rfl) (show _ = ⟨.own 0 :: .i .i64 (IntKind.wrap .i64 ((IntKind.wrap .i64 ((IntKind.wrap .i64 ((IntKind.wrap .i64 (k_l0 + 1)) + 1)) + 1)) + 1)) :: .any :: .any :: .i .i64 0 :: .i .i64 (i_l1 + 1) :: an 37 [], [.vec 133 4 ((r0_l2.set i_l1.toNat (⟨k_l0, (IntKind.wrap .i64 (k_l0 + 1)), (ofInt .f32 (IntKind.wrap .i64 ((IntKind.wrap .i64 (k_l0 + 1)) + 1))), (ofInt .f32 (IntKind.wrap .i64 ((IntKind.wrap .i64 ((IntKind.wrap .i64 (k_l0 + 1)) + 1)) + 1)))⟩ : GSpring)).map GSpring.cells) false]⟩ from (by simp [List.map_set, GSpring.cells])) (ih (IntKind.wrap .i64 ((IntKind.wrap .i64 ((IntKind.wrap .i64 ((IntKind.wrap .i64 (k_l0 + 1)) + 1)) + 1)) + 1)) (i_l1 + 1) (r0_l2.set i_l1.toNat (⟨k_l0, (IntKind.wrap .i64 (k_l0 + 1)), (ofInt .f32 (IntKind.wrap .i64 ((IntKind.wrap .i64 (k_l0 + 1)) + 1))), (ofInt .f32 (IntKind.wrap .i64 ((IntKind.wrap .i64 ((IntKind.wrap .i64 (k_l0 + 1)) + 1)) + 1)))⟩ : GSpring)) (show 0 ≤ (i_l1 + 1) from (by omega)) (show (r0_l2.set i_l1.toNat (⟨k_l0, (IntKind.wrap .i64 (k_l0 + 1)), (ofInt .f32 (IntKind.wrap .i64 ((IntKind.wrap .i64 (k_l0 + 1)) + 1))), (ofInt .f32 (IntKind.wrap .i64 ((IntKind.wrap .i64 ((IntKind.wrap .i64 (k_l0 + 1)) + 1)) + 1)))⟩ : GSpring)).length = a_0.length from (by simp_all <;> omega)) (by omega))
  | false =>
   have gh_0 := of_decide_eq_false h_0
   have e : Z1c a_0 k_1 (k + 1) k_l0 i_l1 r0_l2 = (k_l0, r0_l2) := by simp only [Z1c, h_0, cond_false]
   rw [e]
   exact outR (e := (.exit 0)) (EpOk 1) Z4 [] (mR false [1, 1, 2, 1, 38]) [] (p (sB h_0 <| sN)) (by kernel_rfl) (by intro h; cases h)
def Z2g (a_0 : (List GSpring)) (k_1 : Int) : Int × (List GSpring) := (Z1c a_0 k_1 (((a_0.length : Int) - 0).toNat + 1) k_1 0 a_0)
def Zw (a_0 : (List GSpring)) (k_1 : Int) : Int × (List GSpring) := ((Z2g a_0 k_1).1, (Z2g a_0 k_1).2)
theorem Z7n (a_0 : (List GSpring)) (k_1 : Int) (hp0 : a_0.length ≤ 1073741824)  : CallSt prog 62 [.vec 133 4 (a_0.map GSpring.cells) false] [.own 0, .i .i64 k_1] (.i .i64 ((Zw a_0 k_1).1)) [.vec 133 4 (((Zw a_0 k_1).2).map GSpring.cells) false] := by
 refine callS (EpOk 1) Z4 (c := bodyOf f62) [.vec 133 4 (a_0.map GSpring.cells) false] [] (.i .i64 ((Z2g a_0 k_1).1)) [.vec 133 4 (((Z2g a_0 k_1).2).map GSpring.cells) false] func62 (sL (mR false [0, 2, 2, 2, 37]) 1 (lp_val (Z3H a_0 k_1) (x := (Z2g a_0 k_1)) (Z6U a_0 k_1 hp0 (((a_0.length : Int) - 0).toNat + 1) k_1 0 a_0 (show 0 ≤ 0 from (by omega)) (show a_0.length = a_0.length from (by simp)) (Nat.lt_succ_self _)) rfl) <| sK [] sN) rfl (by kernel_rfl) (by kernel_rfl) ?_ ?_
 · rfl
 · simp [Zw]
end Go.Ab
