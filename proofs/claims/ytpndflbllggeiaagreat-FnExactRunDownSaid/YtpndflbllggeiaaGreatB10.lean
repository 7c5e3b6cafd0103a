/- The functions of this seat as plain Lean, and that the program's are these. Printed by a program of the prover's own. -/
import Derived.Test.YtpndflbllggeiaaGreatB9
set_option linter.unusedVariables false
set_option linter.unusedSimpArgs false
set_option maxRecDepth 100000
namespace Go.Ab
open Go.RowKit Go.Proofs.Tryz
def ZF (Y2 : Gb) (Y4 : (List Int)) (Y9 : Nat) (Yc : Int) : Nat × Nat × Nat × Nat × Nat × (List Nat) × (List Gv) × (List (List Int)) × (List Gs) × (List Nat) := (Z2l Y2 Y4 Y9 Yc ((Yc - 0).toNat + 1) 0 Y2.Me.Pq Y2.Me.Tr Y2.Sp Y2.We ([(Zx Y2)]) Y2.Film Y2.Bend Y2.Fall.X Y2.Fall.Y Y2.Fall.Z)
def Z2 (Y2 : Gb) (Y4 : (List Int)) (Y9 : Nat) (Yc : Int) : Gb × (List Nat) × Bool := (cond (Z13 Y2 Y4)
  (cond (ZS Y9)
    (cond (Zo Yc 0 40)
      ((⟨(⟨(ZF Y2 Y4 Y9 Yc).2.2.2.2.2.2.1, (ZF Y2 Y4 Y9 Yc).2.2.2.2.2.2.2.1⟩ : Gm), (ZF Y2 Y4 Y9 Yc).2.2.2.2.2.2.2.2.1, (ZF Y2 Y4 Y9 Yc).1, (ZF Y2 Y4 Y9 Yc).2.1, (ZF Y2 Y4 Y9 Yc).2.2.2.2.2.2.2.2.2, (⟨(ZF Y2 Y4 Y9 Yc).2.2.1, (ZF Y2 Y4 Y9 Yc).2.2.2.1, (ZF Y2 Y4 Y9 Yc).2.2.2.2.1⟩ : Gv)⟩ : Gb), (ZF Y2 Y4 Y9 Yc).2.2.2.2.2.1, true)
      ((⟨(⟨([] : List Gv), ([] : List (List Int))⟩ : Gm), ([] : List Gs), 0, 0, ([] : List Nat), (⟨0, 0, 0⟩ : Gv)⟩ : Gb), ([] : List Nat), false))
    ((⟨(⟨([] : List Gv), ([] : List (List Int))⟩ : Gm), ([] : List Gs), 0, 0, ([] : List Nat), (⟨0, 0, 0⟩ : Gv)⟩ : Gb), ([] : List Nat), false))
  ((⟨(⟨([] : List Gv), ([] : List (List Int))⟩ : Gm), ([] : List Gs), 0, 0, ([] : List Nat), (⟨0, 0, 0⟩ : Gv)⟩ : Gb), ([] : List Nat), false))
theorem Zib (b : Gb) (l : List Int) (s : Nat) (n : Int) (ok : OkBd b) : ∀ (k : Nat) (x : Int) P T S W E f d x1 x2 x3, Like b ⟨⟨P, T⟩, S, f, d, W, ⟨x1, x2, x3⟩⟩ →
    Z2l b l s n k x P T S W E f d x1 x2 x3 = Z1Z b l s n k (n - x) P T S W f d x1 x2 x3 E := by
  intro k
  induction k with
  | zero => intros; rfl
  | succ k ih =>
    intro x P T S W E f d x1 x2 x3 hL
    have okB := Z8q ok hL
    rw [Z2l, Z1Z, show decide (n - x > 0) = decide (x < n) from decide_eq_decide.2 (by omega)]
    cases decide (x < n) with
    | false => rfl
    | true =>
      rw [cond_true, cond_true, Zgu _ _ okB, ZgK _ _ _ okB]
      cases h2 : (Zd (⟨(⟨P, T⟩ : Gm), S, f, d, W, (⟨x1, x2, x3⟩ : Gv)⟩ : Gb) (Ze (⟨(⟨P, T⟩ : Gm), S, f, d, W, (⟨x1, x2, x3⟩ : Gv)⟩ : Gb) l) s).2.2 with
      | false => rfl
      | true =>
        rw [cond_true, cond_true, ih _ _ _ _ _ _ _ _ _ _ _ (Ze2 (Z9U hL _ _)), Z9Z _ (Z8q ok (Z9U hL _ _)), show n - (x + 1) = n - x - 1 from by omega]
theorem Z6g (b : Gb) (l : List Int) (s : Nat) (n : Int) : Z2 b l s n = Z7 b l s n := by
  unfold Z2 Z7
  rw [Zg3, show ZS s = Z3P s from rfl, show Zo n 0 40 = Zz n 0 40 from rfl]
  cases h : Z1K b with
  | false => rfl
  | true =>
    rw [cond_true, cond_true]
    unfold ZF ZC ZP
    rw [Zib b l s n (Z9S b h) _ _ _ _ _ _ _ _ _ _ _ _ ⟨rfl, rfl, rfl, rfl⟩, Int.sub_zero, Z9Z b (Z9S b h)]
theorem Zbj (b : Gb) (l : List Int) (s : Nat) (n : Int) : (Z2 b l s n).1.Me.Pq.length ≤ b.Me.Pq.length := by rw [Z6g]; exact Zba b l s n
theorem Zbk (b : Gb) (l : List Int) (s : Nat) (n : Int) : (Z2 b l s n).1.Me.Tr.length ≤ b.Me.Tr.length := by rw [Z6g]; exact Zbb b l s n
theorem Zbl (b : Gb) (l : List Int) (s : Nat) (n : Int) : (Z2 b l s n).1.We.length ≤ b.We.length := by rw [Z6g]; exact Zbc b l s n
theorem Zbm (b : Gb) (l : List Int) (s : Nat) (n : Int) : (Z2 b l s n).1.Sp.length ≤ b.Sp.length := by rw [Z6g]; exact Zbd b l s n
theorem Zbn (b : Gb) (l : List Int) (s : Nat) (n : Int) : (Z2 b l s n).2.1.length ≤ 41 := by rw [Z6g]; exact Zbf b l s n
theorem Z84 (b : Gb) (l : List Int) (s : Nat) (n : Int) : ∀ t ∈ (Z2 b l s n).1.Me.Tr, t ∈ b.Me.Tr := by rw [Z6g]; exact Zbe b l s n
set_option maxHeartbeats 1000000 in
theorem Zch (Y2 : Gb) (Y4 : (List Int)) (Y9 : Nat) (Yc : Int) (hp0 : Y2.Me.Pq.length ≤ 1073741824) (hp1 : Y2.Me.Tr.length ≤ 1073741824) (hp2 : ∀ t ∈ Y2.Me.Tr, t.length ≤ 1073741824) (hp3 : Y2.Sp.length ≤ 1073741824) (hp4 : Y2.We.length ≤ 1073741824) (hp5 : Y4.length ≤ 1073741824)  : Fn prog 39 [.agg [.sl (Y2.Me.Pq.map Gv.c), .sl (Y2.Me.Tr.map (cL (cI .i64))), .sl (Y2.Sp.map Gs.c), .f .f32 Y2.Film, .f .f32 Y2.Bend, .sl (Y2.We.map (cF .f32)), .f .f32 Y2.Fall.X, .f .f32 Y2.Fall.Y, .f .f32 Y2.Fall.Z], .sl (Y4.map (cI .i64)), .f .f32 Y9, .i .i64 Yc] (.tup [.agg [.own 0, .own 1, .own 2, .f .f32 ((Z2 Y2 Y4 Y9 Yc).1.Film), .f .f32 ((Z2 Y2 Y4 Y9 Yc).1.Bend), .own 3, .f .f32 ((Z2 Y2 Y4 Y9 Yc).1.Fall.X), .f .f32 ((Z2 Y2 Y4 Y9 Yc).1.Fall.Y), .f .f32 ((Z2 Y2 Y4 Y9 Yc).1.Fall.Z)], .own 4, .b ((Z2 Y2 Y4 Y9 Yc).2.2)]) [.vec 40 3 (((Z2 Y2 Y4 Y9 Yc).1.Me.Pq).map Gv.c) false, .nest 49 (((Z2 Y2 Y4 Y9 Yc).1.Me.Tr).map fun l => l.map (cI .i64)) false, .vec 133 4 (((Z2 Y2 Y4 Y9 Yc).1.Sp).map Gs.c) false, .vec 27 1 (((Z2 Y2 Y4 Y9 Yc).1.We).map (cF .f32)) false, .vec 27 1 (((Z2 Y2 Y4 Y9 Yc).2.1).map (cF .f32)) false] := by
 have p {a C} (s : Scr a C) := sF (Zgk Y2 Y4 hp0 hp1 hp2 hp3 hp4 hp5) <| s
 cases h0 : (Z13 Y2 Y4) with
 | true =>
  have q {a C} (s : Scr a C) := p (sB' h0 <| sB' h0 <| sF (Zgl Y9) <| sB' h0 <| sB' h0 <| s)
  clear p
  cases h1 : (ZS Y9) with
  | true =>
   have p {a C} (s : Scr a C) := q (sB' h1 <| sB' h1 <| sF (Z6j Yc 0 40) <| sB' h1 <| sB' h1 <| s)
   clear q
   cases h2 : (Zo Yc 0 40) with
   | true =>
    have y0 : OkTris Y2.Me.Pq.length Y2.Me.Tr := by clear p; exact (by exact (Z9S _ (Zal _ _ (by assumption)).1).e.tris)
    have y1 : OkBd Y2 := by clear p; exact (by exact Z9S _ (Zal _ _ (by assumption)).1)
    refine fnS E0Ok Z5 (c := bodyOf f39) [] (.tup [.agg [.own 0, .own 1, .own 2, .f .f32 ((ZF Y2 Y4 Y9 Yc).1), .f .f32 ((ZF Y2 Y4 Y9 Yc).2.1), .own 3, .f .f32 ((ZF Y2 Y4 Y9 Yc).2.2.1), .f .f32 ((ZF Y2 Y4 Y9 Yc).2.2.2.1), .f .f32 ((ZF Y2 Y4 Y9 Yc).2.2.2.2.1)], .own 4, .b true]) [.vec 40 3 (((ZF Y2 Y4 Y9 Yc).2.2.2.2.2.2.1).map Gv.c) false, .nest 49 (((ZF Y2 Y4 Y9 Yc).2.2.2.2.2.2.2.1).map fun l => l.map (cI .i64)) false, .vec 133 4 (((ZF Y2 Y4 Y9 Yc).2.2.2.2.2.2.2.2.1).map Gs.c) false, .vec 27 1 (((ZF Y2 Y4 Y9 Yc).2.2.2.2.2.2.2.2.2).map (cF .f32)) false, .vec 27 1 (((ZF Y2 Y4 Y9 Yc).2.2.2.2.2.1).map (cF .f32)) false] func39 (p (sB' h2 <| sR (regionG E0Ok Z5 (id := 3) (ops := opsOf (sub (bodyOf f39) [1, 1, 0])) (⟨.agg [.sl (Y2.Me.Pq.map Gv.c), .sl (Y2.Me.Tr.map (cL (cI .i64))), .sl (Y2.Sp.map Gs.c), .f .f32 Y2.Film, .f .f32 Y2.Bend, .sl (Y2.We.map (cF .f32)), .f .f32 Y2.Fall.X, .f .f32 Y2.Fall.Y, .f .f32 Y2.Fall.Z] :: .sl (Y4.map (cI .i64)) :: .f .f32 Y9 :: .i .i64 Yc :: .ptr 0 0 0 :: .any :: .any :: .any :: .ptr 1 0 0 :: .nils :: .b false :: an 5 (.agg [.sl (Y2.Me.Pq.map Gv.c), .sl (Y2.Me.Tr.map (cL (cI .i64))), .sl (Y2.Sp.map Gs.c), .f .f32 Y2.Film, .f .f32 Y2.Bend, .sl (Y2.We.map (cF .f32)), .f .f32 Y2.Fall.X, .f .f32 Y2.Fall.Y, .f .f32 Y2.Fall.Z] :: .sl (Y4.map (cI .i64)) :: .b (Z13 Y2 Y4) :: .b (!(Z13 Y2 Y4)) :: .b (!(Z13 Y2 Y4)) :: .f .f32 Y9 :: .b (ZS Y9) :: .b (!(ZS Y9)) :: .b (!(ZS Y9)) :: .b (!(ZS Y9)) :: .i .i64 Yc :: .b (Zo Yc 0 40) :: .b (!(Zo Yc 0 40)) :: .b (!(Zo Yc 0 40)) :: an 30 []), [.box 42 [.sl (Y2.Me.Pq.map Gv.c), .sl (Y2.Me.Tr.map (cL (cI .i64))), .sl (Y2.Sp.map Gs.c), .f .f32 Y2.Film, .f .f32 Y2.Bend, .sl (Y2.We.map (cF .f32)), .f .f32 Y2.Fall.X, .f .f32 Y2.Fall.Y, .f .f32 Y2.Fall.Z], .box 42 [.nils, .nils, .nils, .f .f32 0, .f .f32 0, .nils, .f .f32 0, .f .f32 0, .f .f32 0]]⟩) (⟨.agg [.sl (Y2.Me.Pq.map Gv.c), .sl (Y2.Me.Tr.map (cL (cI .i64))), .sl (Y2.Sp.map Gs.c), .f .f32 Y2.Film, .f .f32 Y2.Bend, .sl (Y2.We.map (cF .f32)), .f .f32 Y2.Fall.X, .f .f32 Y2.Fall.Y, .f .f32 Y2.Fall.Z] :: .sl (Y4.map (cI .i64)) :: .f .f32 Y9 :: .i .i64 Yc :: .ptr 0 0 0 :: .any :: .any :: .any :: .ptr 1 0 0 :: .nils :: .b false :: .ptr 7 0 0 :: .own 6 :: .any :: .any :: .any :: .agg [.sl (Y2.Me.Pq.map Gv.c), .sl (Y2.Me.Tr.map (cL (cI .i64))), .sl (Y2.Sp.map Gs.c), .f .f32 Y2.Film, .f .f32 Y2.Bend, .sl (Y2.We.map (cF .f32)), .f .f32 Y2.Fall.X, .f .f32 Y2.Fall.Y, .f .f32 Y2.Fall.Z] :: .sl (Y4.map (cI .i64)) :: .b (Z13 Y2 Y4) :: .b (!(Z13 Y2 Y4)) :: .b (!(Z13 Y2 Y4)) :: .f .f32 Y9 :: .b (ZS Y9) :: .b (!(ZS Y9)) :: .b (!(ZS Y9)) :: .b (!(ZS Y9)) :: .i .i64 Yc :: .b (Zo Yc 0 40) :: .b (!(Zo Yc 0 40)) :: .b (!(Zo Yc 0 40)) :: .any :: .agg [.sl (Y2.Me.Pq.map Gv.c), .sl (Y2.Me.Tr.map (cL (cI .i64))), .sl (Y2.Sp.map Gs.c), .f .f32 Y2.Film, .f .f32 Y2.Bend, .sl (Y2.We.map (cF .f32)), .f .f32 Y2.Fall.X, .f .f32 Y2.Fall.Y, .f .f32 Y2.Fall.Z] :: .agg [.own 2, .own 3, .own 4, .f .f32 Y2.Film, .f .f32 Y2.Bend, .own 5, .f .f32 Y2.Fall.X, .f .f32 Y2.Fall.Y, .f .f32 Y2.Fall.Z] :: .agg [.sl (Y2.Me.Pq.map Gv.c), .sl (Y2.Me.Tr.map (cL (cI .i64))), .sl (Y2.Sp.map Gs.c), .f .f32 Y2.Film, .f .f32 Y2.Bend, .sl (Y2.We.map (cF .f32)), .f .f32 Y2.Fall.X, .f .f32 Y2.Fall.Y, .f .f32 Y2.Fall.Z] :: .f .f32 (Zx Y2) :: .own 6 :: an 24 [], [.box 42 [.sl (Y2.Me.Pq.map Gv.c), .sl (Y2.Me.Tr.map (cL (cI .i64))), .sl (Y2.Sp.map Gs.c), .f .f32 Y2.Film, .f .f32 Y2.Bend, .sl (Y2.We.map (cF .f32)), .f .f32 Y2.Fall.X, .f .f32 Y2.Fall.Y, .f .f32 Y2.Fall.Z], .box 42 [.nils, .nils, .nils, .f .f32 0, .f .f32 0, .nils, .f .f32 0, .f .f32 0, .f .f32 0], .vec 40 3 (Y2.Me.Pq.map Gv.c) false, .nest 49 (Y2.Me.Tr.map fun l => l.map (cI .i64)) false, .vec 133 4 (Y2.Sp.map Gs.c) false, .vec 27 1 (Y2.We.map (cF .f32)) false, .vec 27 1 ([[.f .f32 (Zx Y2)]] : List (List AV)) true, .box 42 [.own 2, .own 3, .own 4, .f .f32 Y2.Film, .f .f32 Y2.Bend, .own 5, .f .f32 Y2.Fall.X, .f .f32 Y2.Fall.Y, .f .f32 Y2.Fall.Z]]⟩) 6 [(some 31, .agg [.sl (Y2.Me.Pq.map Gv.c), .sl (Y2.Me.Tr.map (cL (cI .i64))), .sl (Y2.Sp.map Gs.c), .f .f32 Y2.Film, .f .f32 Y2.Bend, .sl (Y2.We.map (cF .f32)), .f .f32 Y2.Fall.X, .f .f32 Y2.Fall.Y, .f .f32 Y2.Fall.Z]), (some 32, .agg [.own 2, .own 3, .own 4, .f .f32 Y2.Film, .f .f32 Y2.Bend, .own 5, .f .f32 Y2.Fall.X, .f .f32 Y2.Fall.Y, .f .f32 Y2.Fall.Z]), (some 33, .agg [.sl (Y2.Me.Pq.map Gv.c), .sl (Y2.Me.Tr.map (cL (cI .i64))), .sl (Y2.Sp.map Gs.c), .f .f32 Y2.Film, .f .f32 Y2.Bend, .sl (Y2.We.map (cF .f32)), .f .f32 Y2.Fall.X, .f .f32 Y2.Fall.Y, .f .f32 Y2.Fall.Z]), (some 34, .f .f32 (Zx Y2)), (some 35, .own 6), (some 11, .ptr 7 0 0), (none, .any), (some 12, .own 6)] [(1, 2, .vec 40 3 (Y2.Me.Pq.map Gv.c) false), (1, 3, .nest 49 (Y2.Me.Tr.map fun l => l.map (cI .i64)) false), (1, 4, .vec 133 4 (Y2.Sp.map Gs.c) false), (1, 5, .vec 27 1 (Y2.We.map (cF .f32)) false), (4, 6, .vec 27 1 ([[.f .f32 (Zx Y2)]] : List (List AV)) true), (5, 7, .box 42 [.nils, .nils, .nils, .f .f32 0, .f .f32 0, .nils, .f .f32 0, .f .f32 0, .f .f32 0]), (6, 7, .box 42 [.own 2, .own 3, .own 4, .f .f32 Y2.Film, .f .f32 Y2.Bend, .own 5, .f .f32 Y2.Fall.X, .f .f32 Y2.Fall.Y, .f .f32 Y2.Fall.Z])] [2, 2, 6, 6, 6, 7, 8, 8] [⟨_, _, sN⟩, ⟨_, _, sF (Z92 Y2 hp0 hp1 hp2 hp3 hp4 y0) <| sN⟩, ⟨_, _, sN⟩, ⟨_, _, sF (Z6U Y2 hp0 hp1 hp2 hp3 hp4 y1) <| sN⟩, ⟨_, _, sN⟩, ⟨_, _, sN⟩, ⟨_, _, sN⟩, ⟨_, _, sN⟩] [0, 1, 4, 32, 3, 5, 33, 36, 7, 35, 37, 15, 39, 31, 47, 63, 111, 127, 255] (by kernel_rfl) (by kernel_rfl) (by kernel_rfl) (by kernel_rfl)) <| sL Z9K 8 (lp_cast (st2 := ⟨.agg [.sl (Y2.Me.Pq.map Gv.c), .sl (Y2.Me.Tr.map (cL (cI .i64))), .sl (Y2.Sp.map Gs.c), .f .f32 Y2.Film, .f .f32 Y2.Bend, .sl (Y2.We.map (cF .f32)), .f .f32 Y2.Fall.X, .f .f32 Y2.Fall.Y, .f .f32 Y2.Fall.Z] :: .sl (Y4.map (cI .i64)) :: .f .f32 Y9 :: .i .i64 Yc :: .ptr 0 0 0 :: .any :: .any :: .any :: .ptr 1 0 0 :: .nils :: .b false :: .ptr 7 0 0 :: .own 6 :: .any :: .any :: .any :: .agg [.sl (Y2.Me.Pq.map Gv.c), .sl (Y2.Me.Tr.map (cL (cI .i64))), .sl (Y2.Sp.map Gs.c), .f .f32 Y2.Film, .f .f32 Y2.Bend, .sl (Y2.We.map (cF .f32)), .f .f32 Y2.Fall.X, .f .f32 Y2.Fall.Y, .f .f32 Y2.Fall.Z] :: .sl (Y4.map (cI .i64)) :: .b (Z13 Y2 Y4) :: .b (!(Z13 Y2 Y4)) :: .b (!(Z13 Y2 Y4)) :: .f .f32 Y9 :: .b (ZS Y9) :: .b (!(ZS Y9)) :: .b (!(ZS Y9)) :: .b (!(ZS Y9)) :: .i .i64 Yc :: .b (Zo Yc 0 40) :: .b (!(Zo Yc 0 40)) :: .b (!(Zo Yc 0 40)) :: .any :: .agg [.sl (Y2.Me.Pq.map Gv.c), .sl (Y2.Me.Tr.map (cL (cI .i64))), .sl (Y2.Sp.map Gs.c), .f .f32 Y2.Film, .f .f32 Y2.Bend, .sl (Y2.We.map (cF .f32)), .f .f32 Y2.Fall.X, .f .f32 Y2.Fall.Y, .f .f32 Y2.Fall.Z] :: .any :: .agg [.sl (Y2.Me.Pq.map Gv.c), .sl (Y2.Me.Tr.map (cL (cI .i64))), .sl (Y2.Sp.map Gs.c), .f .f32 Y2.Film, .f .f32 Y2.Bend, .sl (Y2.We.map (cF .f32)), .f .f32 Y2.Fall.X, .f .f32 Y2.Fall.Y, .f .f32 Y2.Fall.Z] :: .f .f32 (Zx Y2) :: .any :: .i .i64 Yc :: .i .i64 0 :: an 22 [], [.box 42 [.sl (Y2.Me.Pq.map Gv.c), .sl (Y2.Me.Tr.map (cL (cI .i64))), .sl (Y2.Sp.map Gs.c), .f .f32 Y2.Film, .f .f32 Y2.Bend, .sl (Y2.We.map (cF .f32)), .f .f32 Y2.Fall.X, .f .f32 Y2.Fall.Y, .f .f32 Y2.Fall.Z], .box 42 [.nils, .nils, .nils, .f .f32 0, .f .f32 0, .nils, .f .f32 0, .f .f32 0, .f .f32 0], .vec 40 3 (Y2.Me.Pq.map Gv.c) false, .nest 49 (Y2.Me.Tr.map fun l => l.map (cI .i64)) false, .vec 133 4 (Y2.Sp.map Gs.c) false, .vec 27 1 (Y2.We.map (cF .f32)) false, .vec 27 1 ([[.f .f32 (Zx Y2)]] : List (List AV)) false, .box 42 [.own 2, .own 3, .own 4, .f .f32 Y2.Film, .f .f32 Y2.Bend, .own 5, .f .f32 Y2.Fall.X, .f .f32 Y2.Fall.Y, .f .f32 Y2.Fall.Z]]⟩) (lp_val (Z7K Y2 Y4 Y9 Yc) (x := (ZF Y2 Y4 Y9 Yc)) (Zeo Y2 Y4 Y9 Yc hp0 hp1 hp2 hp3 hp4 hp5 h0 h2 ((Yc - 0).toNat + 1) 0 Y2.Me.Pq Y2.Me.Tr Y2.Sp Y2.We ([(Zx Y2)]) Y2.Film Y2.Bend Y2.Fall.X Y2.Fall.Y Y2.Fall.Z (show 0 ≤ 0 from (by omega)) (show Like Y2 (⟨(⟨Y2.Me.Pq, Y2.Me.Tr⟩ : Gm), Y2.Sp, Y2.Film, Y2.Bend, Y2.We, (⟨Y2.Fall.X, Y2.Fall.Y, Y2.Fall.Z⟩ : Gv)⟩ : Gb) from (by exact ⟨rfl, rfl, rfl, rfl⟩)) (show (([(Zx Y2)]).length : Int) ≤ 0 + 1 from (by simp; done)) (Nat.lt_succ_self _)) rfl) (by simp [Z7L, cF])) <| sK [4, 5, 6, 7, 3] sN)) rfl (by kernel_rfl) (by kernel_rfl) rfl ?_ ?_
    · simp only [Z2, h0, h1, h2, cond_true]
    · simp [Z2, h0, h1, h2]
   | false =>
    refine fnS E0Ok Z5 (c := bodyOf f39) [(.row 1 0, .vec 40 3 [] false), (.row 1 1, .nest 49 [] false), (.row 1 2, .vec 133 4 [] false), (.row 1 5, .vec 27 1 [] false), (.tm 9, .vec 27 1 [] false)] (.tup [.agg [.own 0, .own 1, .own 2, .f .f32 0, .f .f32 0, .own 3, .f .f32 0, .f .f32 0, .f .f32 0], .own 4, .b false]) [.vec 40 3 [] false, .nest 49 [] false, .vec 133 4 [] false, .vec 27 1 [] false, .vec 27 1 [] false] func39 (p (sB' h2 <| sK [2, 3, 4, 5, 6] sN)) rfl (by kernel_rfl) (by kernel_rfl) rfl ?_ ?_
    · simp only [Z2, h0, h1, h2, cond_true, cond_false]
    · simp [Z2, h0, h1, h2, Gv.c, cL, cI, Gs.c, cF]
  | false =>
   refine fnS E0Ok Z5 (c := bodyOf f39) [(.row 1 0, .vec 40 3 [] false), (.row 1 1, .nest 49 [] false), (.row 1 2, .vec 133 4 [] false), (.row 1 5, .vec 27 1 [] false), (.tm 9, .vec 27 1 [] false)] (.tup [.agg [.own 0, .own 1, .own 2, .f .f32 0, .f .f32 0, .own 3, .f .f32 0, .f .f32 0, .f .f32 0], .own 4, .b false]) [.vec 40 3 [] false, .nest 49 [] false, .vec 133 4 [] false, .vec 27 1 [] false, .vec 27 1 [] false] func39 (q (sB' h1 <| sB' h1 <| sB' h1 <| sB' h1 <| sB (show true = true from rfl) <| sK [2, 3, 4, 5, 6] sN)) rfl (by kernel_rfl) (by kernel_rfl) rfl ?_ ?_
   · simp only [Z2, h0, h1, cond_true, cond_false]
   · simp [Z2, h0, h1, Gv.c, cL, cI, Gs.c, cF]
 | false =>
  refine fnS E0Ok Z5 (c := bodyOf f39) [(.row 1 0, .vec 40 3 [] false), (.row 1 1, .nest 49 [] false), (.row 1 2, .vec 133 4 [] false), (.row 1 5, .vec 27 1 [] false), (.tm 9, .vec 27 1 [] false)] (.tup [.agg [.own 0, .own 1, .own 2, .f .f32 0, .f .f32 0, .own 3, .f .f32 0, .f .f32 0, .f .f32 0], .own 4, .b false]) [.vec 40 3 [] false, .nest 49 [] false, .vec 133 4 [] false, .vec 27 1 [] false, .vec 27 1 [] false] func39 (p (sB' h0 <| sB' h0 <| sB' h0 <| sB' h0 <| sB (show true = true from rfl) <| sB (show true = true from rfl) <| sB (show true = true from rfl) <| sB (show true = true from rfl) <| sB (show true = true from rfl) <| sK [2, 3, 4, 5, 6] sN)) rfl (by kernel_rfl) (by kernel_rfl) rfl ?_ ?_
  · simp only [Z2, h0, cond_false]
  · simp [Z2, h0, Gv.c, cL, cI, Gs.c, cF]
def ZH (Y5 : Nat) (YA : Nat) : Bool := (cond (fcmp .neq .f64 Y5 Y5)
  (fcmp .neq .f64 YA YA)
  (cond (fcmp .neq .f64 YA YA)
    false
    (cond (fcmp .eql .f64 Y5 0)
      (cond (fcmp .eql .f64 YA 0)
        ((fcmp .gtr .f64 (fop .quo .f64 4607182418800017408 Y5) 0) == (fcmp .gtr .f64 (fop .quo .f64 4607182418800017408 YA) 0))
        (fcmp .eql .f64 Y5 YA))
      (fcmp .eql .f64 Y5 YA))))
theorem Z3T (Y5 : Nat) (YA : Nat)   : Fn prog 23 [.f .f64 Y5, .f .f64 YA] (.b (ZH Y5 YA)) [] := by
 cases h0 : (fcmp .neq .f64 Y5 Y5) with
 | true =>
  refine fnS E0Ok Z5 (c := bodyOf f23) [] (.b (fcmp .neq .f64 YA YA)) [] func23 (sB h0 <| sB h0 <| sB h0 <| sB h0 <| sB (show true = true from rfl) <| sB h0 <| sB h0 <| sB h0 <| sB h0 <| sK [] sN) rfl (by kernel_rfl) (by kernel_rfl) rfl ?_ ?_
  · simp only [ZH, h0, cond_true]
  · rfl
 | false =>
  have p {a C} (s : Scr a C) := sB h0 <| sB h0 <| sB h0 <| sB h0 <| s
  cases h1 : (fcmp .neq .f64 YA YA) with
  | true =>
   refine fnS E0Ok Z5 (c := bodyOf f23) [] (.b false) [] func23 (p (sB h1 <| sB h0 <| sB h0 <| sB h0 <| sB h0 <| sK [] sN)) rfl (by kernel_rfl) (by kernel_rfl) rfl ?_ ?_
   · simp only [ZH, h0, h1, cond_true, cond_false]
   · rfl
  | false =>
   have q {a C} (s : Scr a C) := p (sB h1 <| s)
   clear p
   cases h2 : (fcmp .eql .f64 Y5 0) with
   | true =>
    have p {a C} (s : Scr a C) := q (sB h2 <| sB h2 <| sB h2 <| s)
    clear q
    cases h3 : (fcmp .eql .f64 YA 0) with
    | true =>
     refine fnS E0Ok Z5 (c := bodyOf f23) [] (.b ((fcmp .gtr .f64 (fop .quo .f64 4607182418800017408 Y5) 0) == (fcmp .gtr .f64 (fop .quo .f64 4607182418800017408 YA) 0))) [] func23 (p (sB h3 <| sK [] sN)) rfl (by kernel_rfl) (by kernel_rfl) rfl ?_ ?_
     · simp only [ZH, h0, h1, h2, h3, cond_true, cond_false]
     · rfl
    | false =>
     refine fnS E0Ok Z5 (c := bodyOf f23) [] (.b (fcmp .eql .f64 Y5 YA)) [] func23 (p (sB h3 <| sK [] sN)) rfl (by kernel_rfl) (by kernel_rfl) rfl ?_ ?_
     · simp only [ZH, h0, h1, h2, h3, cond_true, cond_false]
     · rfl
   | false =>
    refine fnS E0Ok Z5 (c := bodyOf f23) [] (.b (fcmp .eql .f64 Y5 YA)) [] func23 (q (sB h2 <| sB h2 <| sB h2 <| sB (show false = false from rfl) <| sK [] sN)) rfl (by kernel_rfl) (by kernel_rfl) rfl ?_ ?_
    · simp only [ZH, h0, h1, h2, cond_false]
    · rfl
theorem Zan (x : Nat) : ZH x x = true := by
  unfold ZH
  cases h : fcmp .neq .f64 x x
  · simp only [cond_false]
    have h2 : fcmp .eql .f64 x x = true := by
      unfold fcmp at h ⊢
      simpa using h
    cases fcmp .eql .f64 x 0 <;> simp [h2]
  · rfl
def Z2Z (Y5 : Gv) (YA : Gv) : Bool := (cond (ZH (fcv .f32 .f64 Y5.X) (fcv .f32 .f64 YA.X))
  (cond (ZH (fcv .f32 .f64 Y5.Y) (fcv .f32 .f64 YA.Y))
    (cond (ZH (fcv .f32 .f64 Y5.Z) (fcv .f32 .f64 YA.Z))
      true
      false)
    false)
  false)
theorem ZbL (Y5 : Gv) (YA : Gv)   : Fn prog 58 [.agg [.f .f32 Y5.X, .f .f32 Y5.Y, .f .f32 Y5.Z], .agg [.f .f32 YA.X, .f .f32 YA.Y, .f .f32 YA.Z]] (.b (Z2Z Y5 YA)) [] := by
 have p {a C} (s : Scr a C) := sC (widenOk Y5.X) <| sC (widenOk YA.X) <| sF (Z3T (fcv .f32 .f64 Y5.X) (fcv .f32 .f64 YA.X)) <| s
 cases h0 : (ZH (fcv .f32 .f64 Y5.X) (fcv .f32 .f64 YA.X)) with
 | true =>
  have q {a C} (s : Scr a C) := p (sB' h0 <| sC (widenOk Y5.Y) <| sC (widenOk YA.Y) <| sF (Z3T (fcv .f32 .f64 Y5.Y) (fcv .f32 .f64 YA.Y)) <| s)
  clear p
  cases h1 : (ZH (fcv .f32 .f64 Y5.Y) (fcv .f32 .f64 YA.Y)) with
  | true =>
   have p {a C} (s : Scr a C) := q (sB' h1 <| sC (widenOk Y5.Z) <| sC (widenOk YA.Z) <| sF (Z3T (fcv .f32 .f64 Y5.Z) (fcv .f32 .f64 YA.Z)) <| s)
   clear q
   cases h2 : (ZH (fcv .f32 .f64 Y5.Z) (fcv .f32 .f64 YA.Z)) with
   | true =>
    refine fnS E0Ok Z5 (c := bodyOf f58) [] (.b true) [] func58 (p (sB' h2 <| sK [] sN)) rfl (by kernel_rfl) (by kernel_rfl) rfl ?_ ?_
    · simp only [Z2Z, h0, h1, h2, cond_true]
    · rfl
   | false =>
    refine fnS E0Ok Z5 (c := bodyOf f58) [] (.b false) [] func58 (p (sB' h2 <| sK [] sN)) rfl (by kernel_rfl) (by kernel_rfl) rfl ?_ ?_
    · simp only [Z2Z, h0, h1, h2, cond_true, cond_false]
    · rfl
  | false =>
   refine fnS E0Ok Z5 (c := bodyOf f58) [] (.b false) [] func58 (q (sB' h1 <| sK [] sN)) rfl (by kernel_rfl) (by kernel_rfl) rfl ?_ ?_
   · simp only [Z2Z, h0, h1, cond_true, cond_false]
   · rfl
 | false =>
  refine fnS E0Ok Z5 (c := bodyOf f58) [] (.b false) [] func58 (p (sB' h0 <| sK [] sN)) rfl (by kernel_rfl) (by kernel_rfl) rfl ?_ ?_
  · simp only [Z2Z, h0, cond_false]
  · rfl
theorem ZcW (a : Gv) : Z2Z a a = true := by
  simp [Z2Z, Zan]
def Z2b (Y5 : (List Gv)) (YA : (List Gv)) : Nat → Int → (Unit) ⊕ (Unit)
  | 0, _ => .inl default
  | k + 1, Yb => (cond (decide (Yb < (Y5.length : Int)))
    (cond (Z2Z (Y5.getD Yb.toNat default) (YA.getD Yb.toNat default))
      (Z2b Y5 YA k (Yb + 1))
      (.inl ()))
    (.inr ()))
def Z5s (Y5 : (List Gv)) (YA : (List Gv)) : (Unit) ⊕ (Unit) → Ex × St
  | .inl r => (.ret, ⟨an 4 (.b false :: an 22 []), []⟩)
  | .inr r => ((.exit 0), ⟨.sl (Y5.map Gv.c) :: .sl (YA.map Gv.c) :: an 4 (.sl (Y5.map Gv.c) :: .i .i64 (Y5.length : Int) :: .sl (YA.map Gv.c) :: .i .i64 (YA.length : Int) :: .b ((Y5.length : Int) != (YA.length : Int)) :: an 16 []), []⟩)
def Zdl (Y5 : (List Gv)) (YA : (List Gv)) (Yb : Int) : St := ⟨.sl (Y5.map Gv.c) :: .sl (YA.map Gv.c) :: .any :: .any :: .any :: .i .i64 Yb :: .sl (Y5.map Gv.c) :: .i .i64 (Y5.length : Int) :: .sl (YA.map Gv.c) :: .i .i64 (YA.length : Int) :: .b ((Y5.length : Int) != (YA.length : Int)) :: an 16 [], []⟩
theorem Z9O (Y5 : (List Gv)) (YA : (List Gv)) (hp0 : Y5.length ≤ 1073741824) (hp1 : YA.length ≤ 1073741824) (Zhf : ((Y5.length : Int) != (YA.length : Int)) = false) : ∀ (k : Nat) (Yb : Int) (Z8v : 0 ≤ Yb) (hk : ((Y5.length : Int) - Yb).toNat < k), Lp prog 0 (sub (bodyOf f15) [1, 1, 0, 1, 0, 0]) (Zdl Y5 YA Yb) (Z5s Y5 YA (Z2b Y5 YA k Yb)).1 (Z5s Y5 YA (Z2b Y5 YA k Yb)).2 := by
 intro k
 induction k with
 | zero => intro Yb Z8v hk; exact absurd hk (Nat.not_lt_zero _)
 | succ k ih =>
  intro Yb Z8v hk
  have p {a C} (s : Scr a C) := sZ Gv.c Y5 <| s
  cases Yj : (decide (Yb < (Y5.length : Int))) with
  | true =>
   have YM := odt Yj
   have YS : (0 : Int) ≤ Yb := by clear p; exact (by assumption)
   have YT : Yb < (Y5.length : Int) := by clear p; exact (by assumption)
   have YY : Yb < (YA.length : Int) := by clear p; exact (by simp_all <;> omega)
   have q {a C} (s : Scr a C) := p (sB Yj <| sK [8, 8] <| sG Gv.c Y5 Yb YS YT <| sG Gv.c YA Yb YS YY <| sF (ZbL (Y5.getD Yb.toNat default) (YA.getD Yb.toNat default)) <| s)
   clear p
   cases YJ : (Z2Z (Y5.getD Yb.toNat default) (YA.getD Yb.toNat default)) with
   | true =>
    have YZ : (-9223372036854775808 : Int) ≤ (Yb + 1) := by clear q; exact (by omega)
    have y_4 : (Yb + 1) ≤ (9223372036854775807 : Int) := by clear q; exact (by omega)
    have e : Z2b Y5 YA (k + 1) Yb = (Z2b Y5 YA k (Yb + 1)) := by simp only [Z2b, Yj, YJ, cond_true]
    rw [e]
    exact nextR E0Ok Z5 [] (mR false [0, 2, 3, 6, 16]) [] (ih (Yb + 1) (show 0 ≤ (Yb + 1) from (by omega)) (by omega)) (q (sB' YJ <| sI (Yb + 1) YZ y_4 <| sN)) (by kernel_rfl)
   | false =>
    have e : Z2b Y5 YA (k + 1) Yb = (.inl ()) := by simp only [Z2b, Yj, YJ, cond_true, cond_false]
    rw [e]
    exact outR (e := .ret) E0Ok Z5 [] (mR false [4, 1, 22]) [] (q (sB' YJ <| sN)) (by kernel_rfl) (by intro h; cases h)
  | false =>
   have YM := odf Yj
   have e : Z2b Y5 YA (k + 1) Yb = (.inr ()) := by simp only [Z2b, Yj, cond_false]
   rw [e]
   exact outR (e := (.exit 0)) E0Ok Z5 [] (mR false [0, 2, 4, 5, 16]) [] (p (sB Yj <| sN)) (by kernel_rfl) (by intro h; cases h)
def Z4r (Y5 : (List Gv)) (YA : (List Gv)) : (Unit) ⊕ (Unit) := (Z2b Y5 YA (((Y5.length : Int) - 0).toNat + 1) 0)
def Z3U (Y5 : (List Gv)) (YA : (List Gv)) : Bool := (cond ((Y5.length : Int) != (YA.length : Int))
  false
  (match (Z4r Y5 YA) with
    | .inl r2 => false
    | .inr r2 => true))
theorem ZeW (Y5 : (List Gv)) (YA : (List Gv)) (hp0 : Y5.length ≤ 1073741824) (hp1 : YA.length ≤ 1073741824)  : Fn prog 15 [.sl (Y5.map Gv.c), .sl (YA.map Gv.c)] (.b (Z3U Y5 YA)) [] := by
 have p {a C} (s : Scr a C) := sZ Gv.c Y5 <| sZ Gv.c YA <| s
 cases h0 : ((Y5.length : Int) != (YA.length : Int)) with
 | true =>
  have gh0 := bne_iff_ne.1 h0
  refine fnS E0Ok Z5 (c := bodyOf f15) [] (.b false) [] func15 (p (sB h0 <| sK [] sN)) rfl (by kernel_rfl) (by kernel_rfl) rfl ?_ ?_
  · simp only [Z3U, h0, cond_true]
  · rfl
 | false =>
  have gh0 := bne_eq_false_iff_eq.1 h0
  have q {a C} (s : Scr a C) := p (sB h0 <| s)
  clear p
  cases h1 : (Z4r Y5 YA) with
  | inl r2 =>
   refine fnS E0Ok Z5 (c := bodyOf f15) [] (.b false) [] func15 (q (sL (mR false [0, 2, 3, 6, 16]) 0 (lp_val (Z5s Y5 YA) (x := (Z4r Y5 YA)) (Z9O Y5 YA hp0 hp1 h0 (((Y5.length : Int) - 0).toNat + 1) 0 (show 0 ≤ 0 from (by omega)) (Nat.lt_succ_self _)) h1) <| sK [] sN)) rfl (by kernel_rfl) (by kernel_rfl) rfl ?_ ?_
   · simp only [Z3U, h0, h1, cond_false]
   · rfl
  | inr r2 =>
   refine fnS E0Ok Z5 (c := bodyOf f15) [] (.b true) [] func15 (q (sL (mR false [0, 2, 3, 6, 16]) 0 (lp_val (Z5s Y5 YA) (x := (Z4r Y5 YA)) (Z9O Y5 YA hp0 hp1 h0 (((Y5.length : Int) - 0).toNat + 1) 0 (show 0 ≤ 0 from (by omega)) (Nat.lt_succ_self _)) h1) <| sK [] sN)) rfl (by kernel_rfl) (by kernel_rfl) rfl ?_ ?_
   · simp only [Z3U, h0, h1, cond_false]
   · rfl
theorem ZfN (a : List Gv) : Z3U a a = true := by
  unfold Z3U Z4r
  rw [all_loop (a := a) (p := fun v => Z2Z v v) (lo := Z2b a a) (x := ()) (y := ()) (fun k i => rfl) (fun v _ => ZcW v) _ _ (Int.le_refl 0) (Nat.lt_succ_self _)]
  simp
def Z24 (Y5 : (List Int)) (YA : (List Int)) : Nat → Int → (Unit) ⊕ (Unit)
  | 0, _ => .inl default
  | k + 1, Yb => (cond (decide (Yb < (Y5.length : Int)))
    (cond ((Y5.getD Yb.toNat default) != (YA.getD Yb.toNat default))
      (.inl ())
      (Z24 Y5 YA k (Yb + 1)))
    (.inr ()))
def Z5C (Y5 : (List Int)) (YA : (List Int)) : (Unit) ⊕ (Unit) → Ex × St
  | .inl r => (.ret, ⟨an 4 (.b false :: an 21 []), []⟩)
  | .inr r => ((.exit 0), ⟨.sl (Y5.map (cI .i64)) :: .sl (YA.map (cI .i64)) :: an 4 (.sl (Y5.map (cI .i64)) :: .i .i64 (Y5.length : Int) :: .sl (YA.map (cI .i64)) :: .i .i64 (YA.length : Int) :: .b ((Y5.length : Int) != (YA.length : Int)) :: an 15 []), []⟩)
def ZdY (Y5 : (List Int)) (YA : (List Int)) (Yb : Int) : St := ⟨.sl (Y5.map (cI .i64)) :: .sl (YA.map (cI .i64)) :: .any :: .any :: .any :: .i .i64 Yb :: .sl (Y5.map (cI .i64)) :: .i .i64 (Y5.length : Int) :: .sl (YA.map (cI .i64)) :: .i .i64 (YA.length : Int) :: .b ((Y5.length : Int) != (YA.length : Int)) :: an 15 [], []⟩
theorem Zao (Y5 : (List Int)) (YA : (List Int)) (hp0 : Y5.length ≤ 1073741824) (hp1 : YA.length ≤ 1073741824) (Zhr : ((Y5.length : Int) != (YA.length : Int)) = false) : ∀ (k : Nat) (Yb : Int) (Z9j : 0 ≤ Yb) (hk : ((Y5.length : Int) - Yb).toNat < k), Lp prog 0 (sub (bodyOf f24) [1, 1, 0, 1, 0, 0]) (ZdY Y5 YA Yb) (Z5C Y5 YA (Z24 Y5 YA k Yb)).1 (Z5C Y5 YA (Z24 Y5 YA k Yb)).2 := by
 intro k
 induction k with
 | zero => intro Yb Z9j hk; exact absurd hk (Nat.not_lt_zero _)
 | succ k ih =>
  intro Yb Z9j hk
  have p {a C} (s : Scr a C) := sZ (cI .i64) Y5 <| s
  cases Yj : (decide (Yb < (Y5.length : Int))) with
  | true =>
   have YM := odt Yj
   have YS : (0 : Int) ≤ Yb := by clear p; exact (by assumption)
   have YT : Yb < (Y5.length : Int) := by clear p; exact (by assumption)
   have YY : Yb < (YA.length : Int) := by clear p; exact (by simp_all <;> omega)
   have q {a C} (s : Scr a C) := p (sB Yj <| sK [8, 8] <| sG (cI .i64) Y5 Yb YS YT <| sG (cI .i64) YA Yb YS YY <| s)
   clear p
   cases YJ : ((Y5.getD Yb.toNat default) != (YA.getD Yb.toNat default)) with
   | true =>
    have Y1d := bne_iff_ne.1 YJ
    have e : Z24 Y5 YA (k + 1) Yb = (.inl ()) := by simp only [Z24, Yj, YJ, cond_true]
    rw [e]
    exact outR (e := .ret) E0Ok Z5 [] (mR false [4, 1, 21]) [] (q (sB YJ <| sN)) (by kernel_rfl) (by intro h; cases h)
   | false =>
    have Y1d := bne_eq_false_iff_eq.1 YJ
    have YZ : (-9223372036854775808 : Int) ≤ (Yb + 1) := by clear q; exact (by omega)
    have y_4 : (Yb + 1) ≤ (9223372036854775807 : Int) := by clear q; exact (by omega)
    have e : Z24 Y5 YA (k + 1) Yb = (Z24 Y5 YA k (Yb + 1)) := by simp only [Z24, Yj, YJ, cond_true, cond_false]
    rw [e]
    exact nextR E0Ok Z5 [] (mR false [0, 2, 3, 6, 15]) [] (ih (Yb + 1) (show 0 ≤ (Yb + 1) from (by omega)) (by omega)) (q (sB YJ <| sI (Yb + 1) YZ y_4 <| sN)) (by kernel_rfl)
  | false =>
   have YM := odf Yj
   have e : Z24 Y5 YA (k + 1) Yb = (.inr ()) := by simp only [Z24, Yj, cond_false]
   rw [e]
   exact outR (e := (.exit 0)) E0Ok Z5 [] (mR false [0, 2, 4, 5, 15]) [] (p (sB Yj <| sN)) (by kernel_rfl) (by intro h; cases h)
def Z4y (Y5 : (List Int)) (YA : (List Int)) : (Unit) ⊕ (Unit) := (Z24 Y5 YA (((Y5.length : Int) - 0).toNat + 1) 0)
def Z30 (Y5 : (List Int)) (YA : (List Int)) : Bool := (cond ((Y5.length : Int) != (YA.length : Int))
  false
  (match (Z4y Y5 YA) with
    | .inl r2 => false
    | .inr r2 => true))
theorem ZbM (Y5 : (List Int)) (YA : (List Int)) (hp0 : Y5.length ≤ 1073741824) (hp1 : YA.length ≤ 1073741824)  : Fn prog 24 [.sl (Y5.map (cI .i64)), .sl (YA.map (cI .i64))] (.b (Z30 Y5 YA)) [] := by
 have p {a C} (s : Scr a C) := sZ (cI .i64) Y5 <| sZ (cI .i64) YA <| s
 cases h0 : ((Y5.length : Int) != (YA.length : Int)) with
 | true =>
  have gh0 := bne_iff_ne.1 h0
  refine fnS E0Ok Z5 (c := bodyOf f24) [] (.b false) [] func24 (p (sB h0 <| sK [] sN)) rfl (by kernel_rfl) (by kernel_rfl) rfl ?_ ?_
  · simp only [Z30, h0, cond_true]
  · rfl
 | false =>
  have gh0 := bne_eq_false_iff_eq.1 h0
  have q {a C} (s : Scr a C) := p (sB h0 <| s)
  clear p
  cases h1 : (Z4y Y5 YA) with
  | inl r2 =>
   refine fnS E0Ok Z5 (c := bodyOf f24) [] (.b false) [] func24 (q (sL (mR false [0, 2, 3, 6, 15]) 0 (lp_val (Z5C Y5 YA) (x := (Z4y Y5 YA)) (Zao Y5 YA hp0 hp1 h0 (((Y5.length : Int) - 0).toNat + 1) 0 (show 0 ≤ 0 from (by omega)) (Nat.lt_succ_self _)) h1) <| sK [] sN)) rfl (by kernel_rfl) (by kernel_rfl) rfl ?_ ?_
   · simp only [Z30, h0, h1, cond_false]
   · rfl
  | inr r2 =>
   refine fnS E0Ok Z5 (c := bodyOf f24) [] (.b true) [] func24 (q (sL (mR false [0, 2, 3, 6, 15]) 0 (lp_val (Z5C Y5 YA) (x := (Z4y Y5 YA)) (Zao Y5 YA hp0 hp1 h0 (((Y5.length : Int) - 0).toNat + 1) 0 (show 0 ≤ 0 from (by omega)) (Nat.lt_succ_self _)) h1) <| sK [] sN)) rfl (by kernel_rfl) (by kernel_rfl) rfl ?_ ?_
   · simp only [Z30, h0, h1, cond_false]
   · rfl
theorem ZcX (a : List Int) : Z30 a a = true := by
  unfold Z30 Z4y
  rw [all_from (a := a) (p := fun v => !(v != v)) (lo := Z24 a a) (x := ()) (y := ()) (fun k i => by rw [Z24]; cases (a.getD i.toNat default != a.getD i.toNat default) <;> rfl)]
  rw [show (a.all fun v => !(v != v)) = true from by rw [List.all_eq_true]; intro v _; simp]
  simp
def Z2c (Y5 : (List (List Int))) (YA : (List (List Int))) : Nat → Int → (Unit) ⊕ (Unit)
  | 0, _ => .inl default
  | k + 1, Yb => (cond (decide (Yb < (Y5.length : Int)))
    (cond (Z30 (Y5.getD Yb.toNat default) (YA.getD Yb.toNat default))
      (Z2c Y5 YA k (Yb + 1))
      (.inl ()))
    (.inr ()))
def Z5t (Y5 : (List (List Int))) (YA : (List (List Int))) : (Unit) ⊕ (Unit) → Ex × St
  | .inl r => (.ret, ⟨an 4 (.b false :: an 22 []), []⟩)
  | .inr r => ((.exit 0), ⟨.sl (Y5.map (cL (cI .i64))) :: .sl (YA.map (cL (cI .i64))) :: an 4 (.sl (Y5.map (cL (cI .i64))) :: .i .i64 (Y5.length : Int) :: .sl (YA.map (cL (cI .i64))) :: .i .i64 (YA.length : Int) :: .b ((Y5.length : Int) != (YA.length : Int)) :: an 16 []), []⟩)
def Zdm (Y5 : (List (List Int))) (YA : (List (List Int))) (Yb : Int) : St := ⟨.sl (Y5.map (cL (cI .i64))) :: .sl (YA.map (cL (cI .i64))) :: .any :: .any :: .any :: .i .i64 Yb :: .sl (Y5.map (cL (cI .i64))) :: .i .i64 (Y5.length : Int) :: .sl (YA.map (cL (cI .i64))) :: .i .i64 (YA.length : Int) :: .b ((Y5.length : Int) != (YA.length : Int)) :: an 16 [], []⟩
theorem Z9P (Y5 : (List (List Int))) (YA : (List (List Int))) (hp0 : Y5.length ≤ 1073741824) (hp1 : ∀ t ∈ Y5, t.length ≤ 1073741824) (hp2 : YA.length ≤ 1073741824) (hp3 : ∀ t ∈ YA, t.length ≤ 1073741824) (Zhg : ((Y5.length : Int) != (YA.length : Int)) = false) : ∀ (k : Nat) (Yb : Int) (Z8w : 0 ≤ Yb) (hk : ((Y5.length : Int) - Yb).toNat < k), Lp prog 0 (sub (bodyOf f117) [1, 1, 0, 1, 0, 0]) (Zdm Y5 YA Yb) (Z5t Y5 YA (Z2c Y5 YA k Yb)).1 (Z5t Y5 YA (Z2c Y5 YA k Yb)).2 := by
 intro k
 induction k with
 | zero => intro Yb Z8w hk; exact absurd hk (Nat.not_lt_zero _)
 | succ k ih =>
  intro Yb Z8w hk
  have p {a C} (s : Scr a C) := sZ (cL (cI .i64)) Y5 <| s
  cases Yj : (decide (Yb < (Y5.length : Int))) with
  | true =>
   have YM := odt Yj
   have YS : (0 : Int) ≤ Yb := by clear p; exact (by assumption)
   have YT : Yb < (Y5.length : Int) := by clear p; exact (by assumption)
   have YY : Yb < (YA.length : Int) := by clear p; exact (by simp_all <;> omega)
   have YZ : (Y5.getD Yb.toNat default).length ≤ 1073741824 := by clear p; exact (by simp_all <;> omega)
   have y_4 : (YA.getD Yb.toNat default).length ≤ 1073741824 := by clear p; exact (by simp_all <;> omega)
   have q {a C} (s : Scr a C) := p (sB Yj <| sK [8, 8] <| sG (cL (cI .i64)) Y5 Yb YS YT <| sG (cL (cI .i64)) YA Yb YS YY <| sF (ZbM (Y5.getD Yb.toNat default) (YA.getD Yb.toNat default) YZ y_4) <| s)
   clear p
   cases YJ : (Z30 (Y5.getD Yb.toNat default) (YA.getD Yb.toNat default)) with
   | true =>
    have y_5 : (-9223372036854775808 : Int) ≤ (Yb + 1) := by clear q; exact (by omega)
    have y_6 : (Yb + 1) ≤ (9223372036854775807 : Int) := by clear q; exact (by omega)
    have e : Z2c Y5 YA (k + 1) Yb = (Z2c Y5 YA k (Yb + 1)) := by simp only [Z2c, Yj, YJ, cond_true]
    rw [e]
    exact nextR E0Ok Z5 [] (mR false [0, 2, 3, 6, 16]) [] (ih (Yb + 1) (show 0 ≤ (Yb + 1) from (by omega)) (by omega)) (q (sB' YJ <| sI (Yb + 1) y_5 y_6 <| sN)) (by kernel_rfl)
   | false =>
    have e : Z2c Y5 YA (k + 1) Yb = (.inl ()) := by simp only [Z2c, Yj, YJ, cond_true, cond_false]
    rw [e]
    exact outR (e := .ret) E0Ok Z5 [] (mR false [4, 1, 22]) [] (q (sB' YJ <| sN)) (by kernel_rfl) (by intro h; cases h)
  | false =>
   have YM := odf Yj
   have e : Z2c Y5 YA (k + 1) Yb = (.inr ()) := by simp only [Z2c, Yj, cond_false]
   rw [e]
   exact outR (e := (.exit 0)) E0Ok Z5 [] (mR false [0, 2, 4, 5, 16]) [] (p (sB Yj <| sN)) (by kernel_rfl) (by intro h; cases h)
def Z4s (Y5 : (List (List Int))) (YA : (List (List Int))) : (Unit) ⊕ (Unit) := (Z2c Y5 YA (((Y5.length : Int) - 0).toNat + 1) 0)
def Z3V (Y5 : (List (List Int))) (YA : (List (List Int))) : Bool := (cond ((Y5.length : Int) != (YA.length : Int))
  false
  (match (Z4s Y5 YA) with
    | .inl r2 => false
    | .inr r2 => true))
theorem ZeX (Y5 : (List (List Int))) (YA : (List (List Int))) (hp0 : Y5.length ≤ 1073741824) (hp1 : ∀ t ∈ Y5, t.length ≤ 1073741824) (hp2 : YA.length ≤ 1073741824) (hp3 : ∀ t ∈ YA, t.length ≤ 1073741824)  : Fn prog 117 [.sl (Y5.map (cL (cI .i64))), .sl (YA.map (cL (cI .i64)))] (.b (Z3V Y5 YA)) [] := by
 have p {a C} (s : Scr a C) := sZ (cL (cI .i64)) Y5 <| sZ (cL (cI .i64)) YA <| s
 cases h0 : ((Y5.length : Int) != (YA.length : Int)) with
 | true =>
  have gh0 := bne_iff_ne.1 h0
  refine fnS E0Ok Z5 (c := bodyOf f117) [] (.b false) [] func117 (p (sB h0 <| sK [] sN)) rfl (by kernel_rfl) (by kernel_rfl) rfl ?_ ?_
  · simp only [Z3V, h0, cond_true]
  · rfl
 | false =>
  have gh0 := bne_eq_false_iff_eq.1 h0
  have q {a C} (s : Scr a C) := p (sB h0 <| s)
  clear p
  cases h1 : (Z4s Y5 YA) with
  | inl r2 =>
   refine fnS E0Ok Z5 (c := bodyOf f117) [] (.b false) [] func117 (q (sL (mR false [0, 2, 3, 6, 16]) 0 (lp_val (Z5t Y5 YA) (x := (Z4s Y5 YA)) (Z9P Y5 YA hp0 hp1 hp2 hp3 h0 (((Y5.length : Int) - 0).toNat + 1) 0 (show 0 ≤ 0 from (by omega)) (Nat.lt_succ_self _)) h1) <| sK [] sN)) rfl (by kernel_rfl) (by kernel_rfl) rfl ?_ ?_
   · simp only [Z3V, h0, h1, cond_false]
   · rfl
  | inr r2 =>
   refine fnS E0Ok Z5 (c := bodyOf f117) [] (.b true) [] func117 (q (sL (mR false [0, 2, 3, 6, 16]) 0 (lp_val (Z5t Y5 YA) (x := (Z4s Y5 YA)) (Z9P Y5 YA hp0 hp1 hp2 hp3 h0 (((Y5.length : Int) - 0).toNat + 1) 0 (show 0 ≤ 0 from (by omega)) (Nat.lt_succ_self _)) h1) <| sK [] sN)) rfl (by kernel_rfl) (by kernel_rfl) rfl ?_ ?_
   · simp only [Z3V, h0, h1, cond_false]
   · rfl
theorem ZfO (a : List (List Int)) : Z3V a a = true := by
  unfold Z3V Z4s
  rw [all_from (a := a) (p := fun v => Z30 v v) (lo := Z2c a a) (x := ()) (y := ()) (fun k i => rfl)]
  rw [show (a.all fun v => Z30 v v) = true from by rw [List.all_eq_true]; intro v _; exact ZcX v]
  simp
def Z4A (Y5 : Gm) (YA : Gm) : Bool := (cond (Z3U Y5.Pq YA.Pq)
  (cond (Z3V Y5.Tr YA.Tr)
    true
    false)
  false)
theorem Zgv (Y5 : Gm) (YA : Gm) (hp0 : Y5.Pq.length ≤ 1073741824) (hp1 : Y5.Tr.length ≤ 1073741824) (hp2 : ∀ t ∈ Y5.Tr, t.length ≤ 1073741824) (hp3 : YA.Pq.length ≤ 1073741824) (hp4 : YA.Tr.length ≤ 1073741824) (hp5 : ∀ t ∈ YA.Tr, t.length ≤ 1073741824)  : Fn prog 59 [.agg [.sl (Y5.Pq.map Gv.c), .sl (Y5.Tr.map (cL (cI .i64)))], .agg [.sl (YA.Pq.map Gv.c), .sl (YA.Tr.map (cL (cI .i64)))]] (.b (Z4A Y5 YA)) [] := by
 have p {a C} (s : Scr a C) := sF (ZeW Y5.Pq YA.Pq hp0 hp3) <| s
 cases h0 : (Z3U Y5.Pq YA.Pq) with
 | true =>
  have q {a C} (s : Scr a C) := p (sB' h0 <| sF (ZeX Y5.Tr YA.Tr hp1 hp2 hp4 hp5) <| s)
  clear p
  cases h1 : (Z3V Y5.Tr YA.Tr) with
  | true =>
   refine fnS E0Ok Z5 (c := bodyOf f59) [] (.b true) [] func59 (q (sB' h1 <| sK [] sN)) rfl (by kernel_rfl) (by kernel_rfl) rfl ?_ ?_
   · simp only [Z4A, h0, h1, cond_true]
   · rfl
  | false =>
   refine fnS E0Ok Z5 (c := bodyOf f59) [] (.b false) [] func59 (q (sB' h1 <| sK [] sN)) rfl (by kernel_rfl) (by kernel_rfl) rfl ?_ ?_
   · simp only [Z4A, h0, h1, cond_true, cond_false]
   · rfl
 | false =>
  refine fnS E0Ok Z5 (c := bodyOf f59) [] (.b false) [] func59 (p (sB' h0 <| sK [] sN)) rfl (by kernel_rfl) (by kernel_rfl) rfl ?_ ?_
  · simp only [Z4A, h0, cond_false]
  · rfl
theorem ZgY (a : Gm) : Z4A a a = true := by
  simp [Z4A, ZfN, ZfO]
def Z31 (Y5 : Gs) (YA : Gs) : Bool := (cond (Y5.A != YA.A)
  false
  (cond (Y5.B != YA.B)
    false
    (cond (ZH (fcv .f32 .f64 Y5.Long) (fcv .f32 .f64 YA.Long))
      (cond (ZH (fcv .f32 .f64 Y5.Stiff) (fcv .f32 .f64 YA.Stiff))
        true
        false)
      false)))
theorem Zfu (Y5 : Gs) (YA : Gs)   : Fn prog 118 [.agg [.i .i64 Y5.A, .i .i64 Y5.B, .f .f32 Y5.Long, .f .f32 Y5.Stiff], .agg [.i .i64 YA.A, .i .i64 YA.B, .f .f32 YA.Long, .f .f32 YA.Stiff]] (.b (Z31 Y5 YA)) [] := by
 cases h0 : (Y5.A != YA.A) with
 | true =>
  have gh0 := bne_iff_ne.1 h0
  refine fnS E0Ok Z5 (c := bodyOf f118) [] (.b false) [] func118 (sB h0 <| sK [] sN) rfl (by kernel_rfl) (by kernel_rfl) rfl ?_ ?_
  · simp only [Z31, h0, cond_true]
  · rfl
 | false =>
  have gh0 := bne_eq_false_iff_eq.1 h0
  have p {a C} (s : Scr a C) := sB h0 <| s
  cases h1 : (Y5.B != YA.B) with
  | true =>
   have gh1 := bne_iff_ne.1 h1
   refine fnS E0Ok Z5 (c := bodyOf f118) [] (.b false) [] func118 (p (sB h1 <| sK [] sN)) rfl (by kernel_rfl) (by kernel_rfl) rfl ?_ ?_
   · simp only [Z31, h0, h1, cond_true, cond_false]
   · rfl
  | false =>
   have gh1 := bne_eq_false_iff_eq.1 h1
   have q {a C} (s : Scr a C) := p (sB h1 <| sC (widenOk Y5.Long) <| sC (widenOk YA.Long) <| sF (Z3T (fcv .f32 .f64 Y5.Long) (fcv .f32 .f64 YA.Long)) <| s)
   clear p
   cases h2 : (ZH (fcv .f32 .f64 Y5.Long) (fcv .f32 .f64 YA.Long)) with
   | true =>
    have p {a C} (s : Scr a C) := q (sB' h2 <| sC (widenOk Y5.Stiff) <| sC (widenOk YA.Stiff) <| sF (Z3T (fcv .f32 .f64 Y5.Stiff) (fcv .f32 .f64 YA.Stiff)) <| s)
    clear q
    cases h3 : (ZH (fcv .f32 .f64 Y5.Stiff) (fcv .f32 .f64 YA.Stiff)) with
    | true =>
     refine fnS E0Ok Z5 (c := bodyOf f118) [] (.b true) [] func118 (p (sB' h3 <| sK [] sN)) rfl (by kernel_rfl) (by kernel_rfl) rfl ?_ ?_
     · simp only [Z31, h0, h1, h2, h3, cond_true, cond_false]
     · rfl
    | false =>
     refine fnS E0Ok Z5 (c := bodyOf f118) [] (.b false) [] func118 (p (sB' h3 <| sK [] sN)) rfl (by kernel_rfl) (by kernel_rfl) rfl ?_ ?_
     · simp only [Z31, h0, h1, h2, h3, cond_true, cond_false]
     · rfl
   | false =>
    refine fnS E0Ok Z5 (c := bodyOf f118) [] (.b false) [] func118 (q (sB' h2 <| sK [] sN)) rfl (by kernel_rfl) (by kernel_rfl) rfl ?_ ?_
    · simp only [Z31, h0, h1, h2, cond_false]
    · rfl
theorem Zgw (a : Gs) : Z31 a a = true := by
  simp [Z31, Zan]
def Z2d (Y5 : (List Gs)) (YA : (List Gs)) : Nat → Int → (Unit) ⊕ (Unit)
  | 0, _ => .inl default
  | k + 1, Yb => (cond (decide (Yb < (Y5.length : Int)))
    (cond (Z31 (Y5.getD Yb.toNat default) (YA.getD Yb.toNat default))
      (Z2d Y5 YA k (Yb + 1))
      (.inl ()))
    (.inr ()))
def Z5u (Y5 : (List Gs)) (YA : (List Gs)) : (Unit) ⊕ (Unit) → Ex × St
  | .inl r => (.ret, ⟨an 4 (.b false :: an 22 []), []⟩)
  | .inr r => ((.exit 0), ⟨.sl (Y5.map Gs.c) :: .sl (YA.map Gs.c) :: an 4 (.sl (Y5.map Gs.c) :: .i .i64 (Y5.length : Int) :: .sl (YA.map Gs.c) :: .i .i64 (YA.length : Int) :: .b ((Y5.length : Int) != (YA.length : Int)) :: an 16 []), []⟩)
def Zdn (Y5 : (List Gs)) (YA : (List Gs)) (Yb : Int) : St := ⟨.sl (Y5.map Gs.c) :: .sl (YA.map Gs.c) :: .any :: .any :: .any :: .i .i64 Yb :: .sl (Y5.map Gs.c) :: .i .i64 (Y5.length : Int) :: .sl (YA.map Gs.c) :: .i .i64 (YA.length : Int) :: .b ((Y5.length : Int) != (YA.length : Int)) :: an 16 [], []⟩
theorem Z9Q (Y5 : (List Gs)) (YA : (List Gs)) (hp0 : Y5.length ≤ 1073741824) (hp1 : YA.length ≤ 1073741824) (Zhh : ((Y5.length : Int) != (YA.length : Int)) = false) : ∀ (k : Nat) (Yb : Int) (Z8x : 0 ≤ Yb) (hk : ((Y5.length : Int) - Yb).toNat < k), Lp prog 0 (sub (bodyOf f60) [1, 1, 0, 1, 0, 0]) (Zdn Y5 YA Yb) (Z5u Y5 YA (Z2d Y5 YA k Yb)).1 (Z5u Y5 YA (Z2d Y5 YA k Yb)).2 := by
 intro k
 induction k with
 | zero => intro Yb Z8x hk; exact absurd hk (Nat.not_lt_zero _)
 | succ k ih =>
  intro Yb Z8x hk
  have p {a C} (s : Scr a C) := sZ Gs.c Y5 <| s
  cases Yj : (decide (Yb < (Y5.length : Int))) with
  | true =>
   have YM := odt Yj
   have YS : (0 : Int) ≤ Yb := by clear p; exact (by assumption)
   have YT : Yb < (Y5.length : Int) := by clear p; exact (by assumption)
   have YY : Yb < (YA.length : Int) := by clear p; exact (by simp_all <;> omega)
   have q {a C} (s : Scr a C) := p (sB Yj <| sK [8, 8] <| sG Gs.c Y5 Yb YS YT <| sG Gs.c YA Yb YS YY <| sF (Zfu (Y5.getD Yb.toNat default) (YA.getD Yb.toNat default)) <| s)
   clear p
   cases YJ : (Z31 (Y5.getD Yb.toNat default) (YA.getD Yb.toNat default)) with
   | true =>
    have YZ : (-9223372036854775808 : Int) ≤ (Yb + 1) := by clear q; exact (by omega)
    have y_4 : (Yb + 1) ≤ (9223372036854775807 : Int) := by clear q; exact (by omega)
    have e : Z2d Y5 YA (k + 1) Yb = (Z2d Y5 YA k (Yb + 1)) := by simp only [Z2d, Yj, YJ, cond_true]
    rw [e]
    exact nextR E0Ok Z5 [] (mR false [0, 2, 3, 6, 16]) [] (ih (Yb + 1) (show 0 ≤ (Yb + 1) from (by omega)) (by omega)) (q (sB' YJ <| sI (Yb + 1) YZ y_4 <| sN)) (by kernel_rfl)
   | false =>
    have e : Z2d Y5 YA (k + 1) Yb = (.inl ()) := by simp only [Z2d, Yj, YJ, cond_true, cond_false]
    rw [e]
    exact outR (e := .ret) E0Ok Z5 [] (mR false [4, 1, 22]) [] (q (sB' YJ <| sN)) (by kernel_rfl) (by intro h; cases h)
  | false =>
   have YM := odf Yj
   have e : Z2d Y5 YA (k + 1) Yb = (.inr ()) := by simp only [Z2d, Yj, cond_false]
   rw [e]
   exact outR (e := (.exit 0)) E0Ok Z5 [] (mR false [0, 2, 4, 5, 16]) [] (p (sB Yj <| sN)) (by kernel_rfl) (by intro h; cases h)
def Z4t (Y5 : (List Gs)) (YA : (List Gs)) : (Unit) ⊕ (Unit) := (Z2d Y5 YA (((Y5.length : Int) - 0).toNat + 1) 0)
def Z3W (Y5 : (List Gs)) (YA : (List Gs)) : Bool := (cond ((Y5.length : Int) != (YA.length : Int))
  false
  (match (Z4t Y5 YA) with
    | .inl r2 => false
    | .inr r2 => true))
theorem ZeY (Y5 : (List Gs)) (YA : (List Gs)) (hp0 : Y5.length ≤ 1073741824) (hp1 : YA.length ≤ 1073741824)  : Fn prog 60 [.sl (Y5.map Gs.c), .sl (YA.map Gs.c)] (.b (Z3W Y5 YA)) [] := by
 have p {a C} (s : Scr a C) := sZ Gs.c Y5 <| sZ Gs.c YA <| s
 cases h0 : ((Y5.length : Int) != (YA.length : Int)) with
 | true =>
  have gh0 := bne_iff_ne.1 h0
  refine fnS E0Ok Z5 (c := bodyOf f60) [] (.b false) [] func60 (p (sB h0 <| sK [] sN)) rfl (by kernel_rfl) (by kernel_rfl) rfl ?_ ?_
  · simp only [Z3W, h0, cond_true]
  · rfl
 | false =>
  have gh0 := bne_eq_false_iff_eq.1 h0
  have q {a C} (s : Scr a C) := p (sB h0 <| s)
  clear p
  cases h1 : (Z4t Y5 YA) with
  | inl r2 =>
   refine fnS E0Ok Z5 (c := bodyOf f60) [] (.b false) [] func60 (q (sL (mR false [0, 2, 3, 6, 16]) 0 (lp_val (Z5u Y5 YA) (x := (Z4t Y5 YA)) (Z9Q Y5 YA hp0 hp1 h0 (((Y5.length : Int) - 0).toNat + 1) 0 (show 0 ≤ 0 from (by omega)) (Nat.lt_succ_self _)) h1) <| sK [] sN)) rfl (by kernel_rfl) (by kernel_rfl) rfl ?_ ?_
   · simp only [Z3W, h0, h1, cond_false]
   · rfl
  | inr r2 =>
   refine fnS E0Ok Z5 (c := bodyOf f60) [] (.b true) [] func60 (q (sL (mR false [0, 2, 3, 6, 16]) 0 (lp_val (Z5u Y5 YA) (x := (Z4t Y5 YA)) (Z9Q Y5 YA hp0 hp1 h0 (((Y5.length : Int) - 0).toNat + 1) 0 (show 0 ≤ 0 from (by omega)) (Nat.lt_succ_self _)) h1) <| sK [] sN)) rfl (by kernel_rfl) (by kernel_rfl) rfl ?_ ?_
   · simp only [Z3W, h0, h1, cond_false]
   · rfl
theorem ZfP (a : List Gs) : Z3W a a = true := by
  unfold Z3W Z4t
  rw [all_from (a := a) (p := fun v => Z31 v v) (lo := Z2d a a) (x := ()) (y := ()) (fun k i => rfl)]
  rw [show (a.all fun v => Z31 v v) = true from by rw [List.all_eq_true]; intro v _; exact Zgw v]
  simp
def Z1Y (Y5 : (List Nat)) (YA : (List Nat)) : Nat → Int → (Unit) ⊕ (Unit)
  | 0, _ => .inl default
  | k + 1, Yb => (cond (decide (Yb < (Y5.length : Int)))
    (cond (ZH (fcv .f32 .f64 (Y5.getD Yb.toNat default)) (fcv .f32 .f64 (YA.getD Yb.toNat default)))
      (Z1Y Y5 YA k (Yb + 1))
      (.inl ()))
    (.inr ()))
def Z59 (Y5 : (List Nat)) (YA : (List Nat)) : (Unit) ⊕ (Unit) → Ex × St
  | .inl r => (.ret, ⟨an 4 (.b false :: an 24 []), []⟩)
  | .inr r => ((.exit 0), ⟨.sl (Y5.map (cF .f32)) :: .sl (YA.map (cF .f32)) :: an 4 (.sl (Y5.map (cF .f32)) :: .i .i64 (Y5.length : Int) :: .sl (YA.map (cF .f32)) :: .i .i64 (YA.length : Int) :: .b ((Y5.length : Int) != (YA.length : Int)) :: an 18 []), []⟩)
def ZcR (Y5 : (List Nat)) (YA : (List Nat)) (Yb : Int) : St := ⟨.sl (Y5.map (cF .f32)) :: .sl (YA.map (cF .f32)) :: .any :: .any :: .any :: .i .i64 Yb :: .sl (Y5.map (cF .f32)) :: .i .i64 (Y5.length : Int) :: .sl (YA.map (cF .f32)) :: .i .i64 (YA.length : Int) :: .b ((Y5.length : Int) != (YA.length : Int)) :: an 18 [], []⟩
theorem Z9k (Y5 : (List Nat)) (YA : (List Nat)) (hp0 : Y5.length ≤ 1073741824) (hp1 : YA.length ≤ 1073741824) (ZgZ : ((Y5.length : Int) != (YA.length : Int)) = false) : ∀ (k : Nat) (Yb : Int) (Z7R : 0 ≤ Yb) (hk : ((Y5.length : Int) - Yb).toNat < k), Lp prog 0 (sub (bodyOf f40) [1, 1, 0, 1, 0, 0]) (ZcR Y5 YA Yb) (Z59 Y5 YA (Z1Y Y5 YA k Yb)).1 (Z59 Y5 YA (Z1Y Y5 YA k Yb)).2 := by
 intro k
 induction k with
 | zero => intro Yb Z7R hk; exact absurd hk (Nat.not_lt_zero _)
 | succ k ih =>
  intro Yb Z7R hk
  have p {a C} (s : Scr a C) := sZ (cF .f32) Y5 <| s
  cases Yj : (decide (Yb < (Y5.length : Int))) with
  | true =>
   have YM := odt Yj
   have YS : (0 : Int) ≤ Yb := by clear p; exact (by assumption)
   have YT : Yb < (Y5.length : Int) := by clear p; exact (by assumption)
   have YY : Yb < (YA.length : Int) := by clear p; exact (by simp_all <;> omega)
   have q {a C} (s : Scr a C) := p (sB Yj <| sK [10, 10] <| sG (cF .f32) Y5 Yb YS YT <| sC (widenOk (Y5.getD Yb.toNat default)) <| sG (cF .f32) YA Yb YS YY <| sC (widenOk (YA.getD Yb.toNat default)) <| sF (Z3T (fcv .f32 .f64 (Y5.getD Yb.toNat default)) (fcv .f32 .f64 (YA.getD Yb.toNat default))) <| s)
   clear p
   cases YJ : (ZH (fcv .f32 .f64 (Y5.getD Yb.toNat default)) (fcv .f32 .f64 (YA.getD Yb.toNat default))) with
   | true =>
    have YZ : (-9223372036854775808 : Int) ≤ (Yb + 1) := by clear q; exact (by omega)
    have y_4 : (Yb + 1) ≤ (9223372036854775807 : Int) := by clear q; exact (by omega)
    have e : Z1Y Y5 YA (k + 1) Yb = (Z1Y Y5 YA k (Yb + 1)) := by simp only [Z1Y, Yj, YJ, cond_true]
    rw [e]
    exact nextR E0Ok Z5 [] (mR false [0, 2, 3, 6, 18]) [] (ih (Yb + 1) (show 0 ≤ (Yb + 1) from (by omega)) (by omega)) (q (sB' YJ <| sI (Yb + 1) YZ y_4 <| sN)) (by kernel_rfl)
   | false =>
    have e : Z1Y Y5 YA (k + 1) Yb = (.inl ()) := by simp only [Z1Y, Yj, YJ, cond_true, cond_false]
    rw [e]
    exact outR (e := .ret) E0Ok Z5 [] (mR false [4, 1, 24]) [] (q (sB' YJ <| sN)) (by kernel_rfl) (by intro h; cases h)
  | false =>
   have YM := odf Yj
   have e : Z1Y Y5 YA (k + 1) Yb = (.inr ()) := by simp only [Z1Y, Yj, cond_false]
   rw [e]
   exact outR (e := (.exit 0)) E0Ok Z5 [] (mR false [0, 2, 4, 5, 18]) [] (p (sB Yj <| sN)) (by kernel_rfl) (by intro h; cases h)
def Z4f (Y5 : (List Nat)) (YA : (List Nat)) : (Unit) ⊕ (Unit) := (Z1Y Y5 YA (((Y5.length : Int) - 0).toNat + 1) 0)
def Z3b (Y5 : (List Nat)) (YA : (List Nat)) : Bool := (cond ((Y5.length : Int) != (YA.length : Int))
  false
  (match (Z4f Y5 YA) with
    | .inl r2 => false
    | .inr r2 => true))
theorem Z5J (Y5 : (List Nat)) (YA : (List Nat)) (hp0 : Y5.length ≤ 1073741824) (hp1 : YA.length ≤ 1073741824)  : Fn prog 40 [.sl (Y5.map (cF .f32)), .sl (YA.map (cF .f32))] (.b (Z3b Y5 YA)) [] := by
 have p {a C} (s : Scr a C) := sZ (cF .f32) Y5 <| sZ (cF .f32) YA <| s
 cases h0 : ((Y5.length : Int) != (YA.length : Int)) with
 | true =>
  have gh0 := bne_iff_ne.1 h0
  refine fnS E0Ok Z5 (c := bodyOf f40) [] (.b false) [] func40 (p (sB h0 <| sK [] sN)) rfl (by kernel_rfl) (by kernel_rfl) rfl ?_ ?_
  · simp only [Z3b, h0, cond_true]
  · rfl
 | false =>
  have gh0 := bne_eq_false_iff_eq.1 h0
  have q {a C} (s : Scr a C) := p (sB h0 <| s)
  clear p
  cases h1 : (Z4f Y5 YA) with
  | inl r2 =>
   refine fnS E0Ok Z5 (c := bodyOf f40) [] (.b false) [] func40 (q (sL (mR false [0, 2, 3, 6, 18]) 0 (lp_val (Z59 Y5 YA) (x := (Z4f Y5 YA)) (Z9k Y5 YA hp0 hp1 h0 (((Y5.length : Int) - 0).toNat + 1) 0 (show 0 ≤ 0 from (by omega)) (Nat.lt_succ_self _)) h1) <| sK [] sN)) rfl (by kernel_rfl) (by kernel_rfl) rfl ?_ ?_
   · simp only [Z3b, h0, h1, cond_false]
   · rfl
  | inr r2 =>
   refine fnS E0Ok Z5 (c := bodyOf f40) [] (.b true) [] func40 (q (sL (mR false [0, 2, 3, 6, 18]) 0 (lp_val (Z59 Y5 YA) (x := (Z4f Y5 YA)) (Z9k Y5 YA hp0 hp1 h0 (((Y5.length : Int) - 0).toNat + 1) 0 (show 0 ≤ 0 from (by omega)) (Nat.lt_succ_self _)) h1) <| sK [] sN)) rfl (by kernel_rfl) (by kernel_rfl) rfl ?_ ?_
   · simp only [Z3b, h0, h1, cond_false]
   · rfl
theorem ZbN (a : List Nat) : Z3b a a = true := by
  unfold Z3b Z4f
  rw [all_from (a := a) (p := fun v => ZH (fcv .f32 .f64 v) (fcv .f32 .f64 v)) (lo := Z1Y a a) (x := ()) (y := ()) (fun k i => rfl)]
  rw [show (a.all fun v => ZH (fcv .f32 .f64 v) (fcv .f32 .f64 v)) = true from by rw [List.all_eq_true]; intro v _; exact Zan _]
  simp
def Z32 (Y5 : Gb) (YA : Gb) : Bool := (cond (Z4A Y5.Me YA.Me)
  (cond (Z3W Y5.Sp YA.Sp)
    (cond (ZH (fcv .f32 .f64 Y5.Film) (fcv .f32 .f64 YA.Film))
      (cond (ZH (fcv .f32 .f64 Y5.Bend) (fcv .f32 .f64 YA.Bend))
        (cond (Z3b Y5.We YA.We)
          (cond (Z2Z Y5.Fall YA.Fall)
            true
            false)
          false)
        false)
      false)
    false)
  false)
theorem Z7X (Y5 : Gb) (YA : Gb) (hp0 : Y5.Me.Pq.length ≤ 1073741824) (hp1 : Y5.Me.Tr.length ≤ 1073741824) (hp2 : ∀ t ∈ Y5.Me.Tr, t.length ≤ 1073741824) (hp3 : Y5.Sp.length ≤ 1073741824) (hp4 : Y5.We.length ≤ 1073741824) (hp5 : YA.Me.Pq.length ≤ 1073741824) (hp6 : YA.Me.Tr.length ≤ 1073741824) (hp7 : ∀ t ∈ YA.Me.Tr, t.length ≤ 1073741824) (hp8 : YA.Sp.length ≤ 1073741824) (hp9 : YA.We.length ≤ 1073741824)  : Fn prog 16 [.agg [.sl (Y5.Me.Pq.map Gv.c), .sl (Y5.Me.Tr.map (cL (cI .i64))), .sl (Y5.Sp.map Gs.c), .f .f32 Y5.Film, .f .f32 Y5.Bend, .sl (Y5.We.map (cF .f32)), .f .f32 Y5.Fall.X, .f .f32 Y5.Fall.Y, .f .f32 Y5.Fall.Z], .agg [.sl (YA.Me.Pq.map Gv.c), .sl (YA.Me.Tr.map (cL (cI .i64))), .sl (YA.Sp.map Gs.c), .f .f32 YA.Film, .f .f32 YA.Bend, .sl (YA.We.map (cF .f32)), .f .f32 YA.Fall.X, .f .f32 YA.Fall.Y, .f .f32 YA.Fall.Z]] (.b (Z32 Y5 YA)) [] := by
 have p {a C} (s : Scr a C) := sF (Zgv Y5.Me YA.Me hp0 hp1 hp2 hp5 hp6 hp7) <| s
 cases h0 : (Z4A Y5.Me YA.Me) with
 | true =>
  have q {a C} (s : Scr a C) := p (sB' h0 <| sF (ZeY Y5.Sp YA.Sp hp3 hp8) <| s)
  clear p
  cases h1 : (Z3W Y5.Sp YA.Sp) with
  | true =>
   have p {a C} (s : Scr a C) := q (sB' h1 <| sC (widenOk Y5.Film) <| sC (widenOk YA.Film) <| sF (Z3T (fcv .f32 .f64 Y5.Film) (fcv .f32 .f64 YA.Film)) <| s)
   clear q
   cases h2 : (ZH (fcv .f32 .f64 Y5.Film) (fcv .f32 .f64 YA.Film)) with
   | true =>
    have q {a C} (s : Scr a C) := p (sB' h2 <| sC (widenOk Y5.Bend) <| sC (widenOk YA.Bend) <| sF (Z3T (fcv .f32 .f64 Y5.Bend) (fcv .f32 .f64 YA.Bend)) <| s)
    clear p
    cases h3 : (ZH (fcv .f32 .f64 Y5.Bend) (fcv .f32 .f64 YA.Bend)) with
    | true =>
     have p {a C} (s : Scr a C) := q (sB' h3 <| sF (Z5J Y5.We YA.We hp4 hp9) <| s)
     clear q
     cases h4 : (Z3b Y5.We YA.We) with
     | true =>
      have q {a C} (s : Scr a C) := p (sB' h4 <| sF (ZbL Y5.Fall YA.Fall) <| s)
      clear p
      cases h5 : (Z2Z Y5.Fall YA.Fall) with
      | true =>
       refine fnS E0Ok Z5 (c := bodyOf f16) [] (.b true) [] func16 (q (sB' h5 <| sK [] sN)) rfl (by kernel_rfl) (by kernel_rfl) rfl ?_ ?_
       · simp only [Z32, h0, h1, h2, h3, h4, h5, cond_true]
       · rfl
      | false =>
       refine fnS E0Ok Z5 (c := bodyOf f16) [] (.b false) [] func16 (q (sB' h5 <| sK [] sN)) rfl (by kernel_rfl) (by kernel_rfl) rfl ?_ ?_
       · simp only [Z32, h0, h1, h2, h3, h4, h5, cond_true, cond_false]
       · rfl
     | false =>
      refine fnS E0Ok Z5 (c := bodyOf f16) [] (.b false) [] func16 (p (sB' h4 <| sK [] sN)) rfl (by kernel_rfl) (by kernel_rfl) rfl ?_ ?_
      · simp only [Z32, h0, h1, h2, h3, h4, cond_true, cond_false]
      · rfl
    | false =>
     refine fnS E0Ok Z5 (c := bodyOf f16) [] (.b false) [] func16 (q (sB' h3 <| sK [] sN)) rfl (by kernel_rfl) (by kernel_rfl) rfl ?_ ?_
     · simp only [Z32, h0, h1, h2, h3, cond_true, cond_false]
     · rfl
   | false =>
    refine fnS E0Ok Z5 (c := bodyOf f16) [] (.b false) [] func16 (p (sB' h2 <| sK [] sN)) rfl (by kernel_rfl) (by kernel_rfl) rfl ?_ ?_
    · simp only [Z32, h0, h1, h2, cond_true, cond_false]
    · rfl
  | false =>
   refine fnS E0Ok Z5 (c := bodyOf f16) [] (.b false) [] func16 (q (sB' h1 <| sK [] sN)) rfl (by kernel_rfl) (by kernel_rfl) rfl ?_ ?_
   · simp only [Z32, h0, h1, cond_true, cond_false]
   · rfl
 | false =>
  refine fnS E0Ok Z5 (c := bodyOf f16) [] (.b false) [] func16 (p (sB' h0 <| sK [] sN)) rfl (by kernel_rfl) (by kernel_rfl) rfl ?_ ?_
  · simp only [Z32, h0, cond_false]
  · rfl
theorem Zh0 (a : Gb) : Z32 a a = true := by
  simp [Z32, Zan, ZcW, ZgY, ZfP, ZbN]
def ZJ (Y5 : (List Gv)) (YC : Int) : Nat → Int → Int → (List Gv) → Int × (List Gv)
  | 0, _, _, _ => default
  | k + 1, Ye, Yd, Yf => (cond (decide (Yd < (Yf.length : Int)))
    (ZJ Y5 YC k (IntKind.wrap .i64 ((IntKind.wrap .i64 ((IntKind.wrap .i64 (Ye + 1)) + 1)) + 1)) (Yd + 1) (Yf.set Yd.toNat (⟨(ofInt .f32 Ye), (ofInt .f32 (IntKind.wrap .i64 (Ye + 1))), (ofInt .f32 (IntKind.wrap .i64 ((IntKind.wrap .i64 (Ye + 1)) + 1)))⟩ : Gv)))
    (Ye, Yf))
def Z5a (Y5 : (List Gv)) (YC : Int) (r : Int × (List Gv)) : Ex × St := ((.exit 0), ⟨.any :: .i .i64 r.1 :: .any :: .any :: .i .i64 0 :: an 32 [], [.vec 40 3 (r.2.map Gv.c) false]⟩)
def Z6V (Y5 : (List Gv)) (YC : Int) (Ye : Int) (Yd : Int) (Yf : (List Gv)) : St := ⟨.own 0 :: .i .i64 Ye :: .any :: .any :: .i .i64 0 :: .i .i64 Yd :: an 31 [], [.vec 40 3 (Yf.map Gv.c) false]⟩
theorem ZaX (Y5 : (List Gv)) (YC : Int) (hp0 : Y5.length ≤ 1073741824) : ∀ (k : Nat) (Ye : Int) (Yd : Int) (Yf : (List Gv)) (Z5T : 0 ≤ Yd) (Z5U : Yf.length = Y5.length) (hk : ((Y5.length : Int) - Yd).toNat < k), Lp prog 1 (sub (bodyOf f18) [1, 0, 1, 0, 0]) (Z6V Y5 YC Ye Yd Yf) (Z5a Y5 YC (ZJ Y5 YC k Ye Yd Yf)).1 (Z5a Y5 YC (ZJ Y5 YC k Ye Yd Yf)).2 := by
 intro k
 induction k with
 | zero => intro Ye Yd Yf Z5T Z5U hk; exact absurd hk (Nat.not_lt_zero _)
 | succ k ih =>
  intro Ye Yd Yf Z5T Z5U hk
  have p {a C} (s : Scr a C) := sZ Gv.c Yf <| s
  cases Yj : (decide (Yd < (Yf.length : Int))) with
  | true =>
   have YM := odt Yj
   have YS : (0 : Int) ≤ Yd := by clear p; exact (by assumption)
   have YT : Yd < (Yf.length : Int) := by clear p; exact (by assumption)
   have YY : Yd.toNat < Yf.length := by clear p; exact (by omega)
   have YZ : Yd < ((Yf.set Yd.toNat (⟨(ofInt .f32 Ye), (Yf.getD Yd.toNat default).Y, (Yf.getD Yd.toNat default).Z⟩ : Gv)).length : Int) := by clear p; exact (by simp_all <;> omega)
   have y_4 : Yd < ((Yf.set Yd.toNat (⟨(ofInt .f32 Ye), (ofInt .f32 (IntKind.wrap .i64 (Ye + 1))), (Yf.getD Yd.toNat default).Z⟩ : Gv)).length : Int) := by clear p; exact (by simp_all <;> omega)
   have y_5 : (-9223372036854775808 : Int) ≤ (Yd + 1) := by clear p; exact (by omega)
   have y_6 : (Yd + 1) ≤ (9223372036854775807 : Int) := by clear p; exact (by omega)
   have e : ZJ Y5 YC (k + 1) Ye Yd Yf = (ZJ Y5 YC k (IntKind.wrap .i64 ((IntKind.wrap .i64 ((IntKind.wrap .i64 (Ye + 1)) + 1)) + 1)) (Yd + 1) (Yf.set Yd.toNat (⟨(ofInt .f32 Ye), (ofInt .f32 (IntKind.wrap .i64 (Ye + 1))), (ofInt .f32 (IntKind.wrap .i64 ((IntKind.wrap .i64 (Ye + 1)) + 1)))⟩ : Gv))) := by simp only [ZJ, Yj, cond_true]
   rw [e]
   exact nextS (EpOk 1) Z5 [] (mR false [0, 2, 2, 2, 31]) [] (⟨.own 0 :: .i .i64 (IntKind.wrap .i64 ((IntKind.wrap .i64 ((IntKind.wrap .i64 (Ye + 1)) + 1)) + 1)) :: .any :: .any :: .i .i64 0 :: .i .i64 (Yd + 1) :: an 31 [], [.vec 40 3 ((((Yf.map Gv.c).set Yd.toNat [.f .f32 (ofInt .f32 Ye), .f .f32 ((Yf.getD Yd.toNat default).Y), .f .f32 ((Yf.getD Yd.toNat default).Z)]).set Yd.toNat [.f .f32 (ofInt .f32 Ye), .f .f32 (ofInt .f32 (IntKind.wrap .i64 (Ye + 1))), .f .f32 ((Yf.getD Yd.toNat default).Z)]).set Yd.toNat [.f .f32 (ofInt .f32 Ye), .f .f32 (ofInt .f32 (IntKind.wrap .i64 (Ye + 1))), .f .f32 (ofInt .f32 (IntKind.wrap .i64 ((IntKind.wrap .i64 (Ye + 1)) + 1)))]) false]⟩) (p (sB Yj <| sX Gv.c Yf Yd YS YT <| sV Gv.c Yf Yd.toNat YY <| sW .i64 (Ye + 1) <| sC (show 0 ≤ Yd ∧ Int.toNat Yd < ((Yf.map Gv.c).set Yd.toNat [.f .f32 (ofInt .f32 Ye), .f .f32 ((Yf.getD Yd.toNat default).Y), .f .f32 ((Yf.getD Yd.toNat default).Z)]).length from (by simpa using idx_ok (c := Gv.c) (l := (Yf.set Yd.toNat (⟨(ofInt .f32 Ye), (Yf.getD Yd.toNat default).Y, (Yf.getD Yd.toNat default).Z⟩ : Gv))) (i := Yd) YS YZ)) <| sE (show ((Yf.map Gv.c).set Yd.toNat [.f .f32 (ofInt .f32 Ye), .f .f32 ((Yf.getD Yd.toNat default).Y), .f .f32 ((Yf.getD Yd.toNat default).Z)])[Yd.toNat]? = some [.f .f32 (ofInt .f32 Ye), .f .f32 ((Yf.getD Yd.toNat default).Y), .f .f32 ((Yf.getD Yd.toNat default).Z)] from List.getElem?_set_self (by simpa using YY)) <| sW .i64 ((IntKind.wrap .i64 (Ye + 1)) + 1) <| sC (show 0 ≤ Yd ∧ Int.toNat Yd < (((Yf.map Gv.c).set Yd.toNat [.f .f32 (ofInt .f32 Ye), .f .f32 ((Yf.getD Yd.toNat default).Y), .f .f32 ((Yf.getD Yd.toNat default).Z)]).set Yd.toNat [.f .f32 (ofInt .f32 Ye), .f .f32 (ofInt .f32 (IntKind.wrap .i64 (Ye + 1))), .f .f32 ((Yf.getD Yd.toNat default).Z)]).length from (by simpa using idx_ok (c := Gv.c) (l := (Yf.set Yd.toNat (⟨(ofInt .f32 Ye), (ofInt .f32 (IntKind.wrap .i64 (Ye + 1))), (Yf.getD Yd.toNat default).Z⟩ : Gv))) (i := Yd) YS y_4)) <| sE (show (((Yf.map Gv.c).set Yd.toNat [.f .f32 (ofInt .f32 Ye), .f .f32 ((Yf.getD Yd.toNat default).Y), .f .f32 ((Yf.getD Yd.toNat default).Z)]).set Yd.toNat [.f .f32 (ofInt .f32 Ye), .f .f32 (ofInt .f32 (IntKind.wrap .i64 (Ye + 1))), .f .f32 ((Yf.getD Yd.toNat default).Z)])[Yd.toNat]? = some [.f .f32 (ofInt .f32 Ye), .f .f32 (ofInt .f32 (IntKind.wrap .i64 (Ye + 1))), .f .f32 ((Yf.getD Yd.toNat default).Z)] from List.getElem?_set_self (by simpa using YY)) <| sW .i64 ((IntKind.wrap .i64 ((IntKind.wrap .i64 (Ye + 1)) + 1)) + 1) <| sI (Yd + 1) y_5 y_6 <| sN)) (by kernel_rfl) (by simp [Z6V, List.map_set, Gv.c]) (ih (IntKind.wrap .i64 ((IntKind.wrap .i64 ((IntKind.wrap .i64 (Ye + 1)) + 1)) + 1)) (Yd + 1) (Yf.set Yd.toNat (⟨(ofInt .f32 Ye), (ofInt .f32 (IntKind.wrap .i64 (Ye + 1))), (ofInt .f32 (IntKind.wrap .i64 ((IntKind.wrap .i64 (Ye + 1)) + 1)))⟩ : Gv)) (show 0 ≤ (Yd + 1) from (by omega)) (show (Yf.set Yd.toNat (⟨(ofInt .f32 Ye), (ofInt .f32 (IntKind.wrap .i64 (Ye + 1))), (ofInt .f32 (IntKind.wrap .i64 ((IntKind.wrap .i64 (Ye + 1)) + 1)))⟩ : Gv)).length = Y5.length from (by simp_all <;> omega)) (by omega))
  | false =>
   have YM := odf Yj
   have e : ZJ Y5 YC (k + 1) Ye Yd Yf = (Ye, Yf) := by simp only [ZJ, Yj, cond_false]
   rw [e]
   exact outR (e := (.exit 0)) (EpOk 1) Z5 [] (mR false [1, 1, 2, 1, 32]) [] (p (sB Yj <| sN)) (by kernel_rfl) (by intro h; cases h)
theorem Zap (Y5 : (List Gv)) (YC : Int) : ∀ (k : Nat) (Ye : Int) (Yd : Int) (Yf : (List Gv)) (hk : ((Yf.length : Int) - Yd).toNat < k), (ZJ Y5 YC k Ye Yd Yf).2.length = Yf.length := by
  intro k
  induction k with
  | zero => intro Ye Yd Yf hk; exact absurd hk (Nat.not_lt_zero _)
  | succ k ih =>
    intro Ye Yd Yf hk
    cases Yj : (decide (Yd < (Yf.length : Int))) with
    | true =>
      have e : ZJ Y5 YC (k + 1) Ye Yd Yf = (ZJ Y5 YC k (IntKind.wrap .i64 ((IntKind.wrap .i64 ((IntKind.wrap .i64 (Ye + 1)) + 1)) + 1)) (Yd + 1) (Yf.set Yd.toNat (⟨(ofInt .f32 Ye), (ofInt .f32 (IntKind.wrap .i64 (Ye + 1))), (ofInt .f32 (IntKind.wrap .i64 ((IntKind.wrap .i64 (Ye + 1)) + 1)))⟩ : Gv))) := by simp only [ZJ, Yj, cond_true]
      rw [e, ih (IntKind.wrap .i64 ((IntKind.wrap .i64 ((IntKind.wrap .i64 (Ye + 1)) + 1)) + 1)) (Yd + 1) (Yf.set Yd.toNat (⟨(ofInt .f32 Ye), (ofInt .f32 (IntKind.wrap .i64 (Ye + 1))), (ofInt .f32 (IntKind.wrap .i64 ((IntKind.wrap .i64 (Ye + 1)) + 1)))⟩ : Gv)) (by simp_all <;> omega)]; simp
    | false =>
      have e : ZJ Y5 YC (k + 1) Ye Yd Yf = (Ye, Yf) := by simp only [ZJ, Yj, cond_false]
      first | (rw [e]; done) | (rw [e]; rfl)
def Z2C (Y5 : (List Gv)) (YC : Int) : Int × (List Gv) := (ZJ Y5 YC (((Y5.length : Int) - 0).toNat + 1) YC 0 Y5)
@[simp] theorem Zes (Y5 : (List Gv)) (YC : Int) : (Z2C Y5 YC).2.length = (Y5 : (List Gv)).length := Zap Y5 YC (((Y5.length : Int) - 0).toNat + 1) YC 0 Y5 (by exact Nat.lt_succ_self _)
def Zt (Y5 : (List Gv)) (YC : Int) : Int × (List Gv) := ((Z2C Y5 YC).1, (Z2C Y5 YC).2)
@[simp] theorem ZfQ (Y5 : (List Gv)) (YC : Int) : (Zt Y5 YC).2.length = Y5.length := by
  first | (simp [Zt]; done)
theorem ZbW (Y5 : (List Gv)) (YC : Int) (hp0 : Y5.length ≤ 1073741824)  : CallSt prog 18 [.vec 40 3 (Y5.map Gv.c) false] [.own 0, .i .i64 YC] (.i .i64 ((Zt Y5 YC).1)) [.vec 40 3 (((Zt Y5 YC).2).map Gv.c) false] := by
 refine callS (EpOk 1) Z5 (c := bodyOf f18) [.vec 40 3 (Y5.map Gv.c) false] [] (.i .i64 ((Z2C Y5 YC).1)) [.vec 40 3 (((Z2C Y5 YC).2).map Gv.c) false] func18 (sL (mR false [0, 2, 2, 2, 31]) 1 (lp_val (Z5a Y5 YC) (x := (Z2C Y5 YC)) (ZaX Y5 YC hp0 (((Y5.length : Int) - 0).toNat + 1) YC 0 Y5 (show 0 ≤ 0 from (by omega)) (show Y5.length = Y5.length from (by simp)) (Nat.lt_succ_self _)) rfl) <| sK [] sN) rfl (by kernel_rfl) (by kernel_rfl) ?_ ?_
 · rfl
 · simp [Zt]
def Z6l (_ : Gv) (c : Int) : Int × Gv := ((IntKind.wrap .i64 ((IntKind.wrap .i64 ((IntKind.wrap .i64 (c + 1)) + 1)) + 1)), ⟨ofInt .f32 c, ofInt .f32 (IntKind.wrap .i64 (c + 1)), ofInt .f32 (IntKind.wrap .i64 ((IntKind.wrap .i64 (c + 1)) + 1))⟩)
theorem ZbO (a : List Gv) (c : Int) : Zt a c = mkL Z6l a c := by
  unfold Zt Z2C
  rw [mark_loop (f := Z6l) (lo := ZJ a c) (fun k c i r => rfl) _ _ _ _ (Int.le_refl 0) (Nat.lt_succ_self _)]
  simp
theorem ZaO (a : List Gv) (c : Int) (g0 : a.length ≤ 1073741824) (h0 : 0 ≤ c) (h1 : c ≤ 4611686018427387904) : c ≤ (Zt a c).1 ∧ (Zt a c).1 ≤ c + 3221225472 := by
  rw [ZbO]
  have q := mkL_ge (f := Z6l) (W := 3) a c (fun x _ c k0 k1 => by simp only [Z6l]; rw [wrap_id (n := c + 1) (by omega) (by omega), show c + 1 + 1 = c + 2 from by omega, wrap_id (n := c + 2) (by omega) (by omega), show c + 2 + 1 = c + 3 from by omega, wrap_id (n := c + 3) (by omega) (by omega)]; omega) h0 (by omega)
  omega
def ZQ (Y5 : (List Int)) (YC : Int) : Nat → Int → Int → (List Int) → Int × (List Int)
  | 0, _, _, _ => default
  | k + 1, Ye, Yd, Yf => (cond (decide (Yd < (Yf.length : Int)))
    (ZQ Y5 YC k (IntKind.wrap .i64 (Ye + 1)) (Yd + 1) (Yf.set Yd.toNat Ye))
    (Ye, Yf))
def Z5j (ty : Nat) (Y5 : (List Int)) (YC : Int) (r : Int × (List Int)) : Ex × St := ((.exit 0), ⟨.any :: .i .i64 r.1 :: .any :: .any :: .i .i64 0 :: an 14 [], [.vec ty 1 (r.2.map (cI .i64)) false]⟩)
def Z7o (ty : Nat) (Y5 : (List Int)) (YC : Int) (Ye : Int) (Yd : Int) (Yf : (List Int)) : St := ⟨.own 0 :: .i .i64 Ye :: .any :: .any :: .i .i64 0 :: .i .i64 Yd :: an 13 [], [.vec ty 1 (Yf.map (cI .i64)) false]⟩
theorem Zbo (ty : Nat) (Y5 : (List Int)) (YC : Int) (hp0 : Y5.length ≤ 1073741824) : ∀ (k : Nat) (Ye : Int) (Yd : Int) (Yf : (List Int)) (Z6m : 0 ≤ Yd) (Z6n : Yf.length = Y5.length) (hk : ((Y5.length : Int) - Yd).toNat < k), Lp prog 1 (sub (bodyOf f27) [1, 0, 1, 0, 0]) (Z7o ty Y5 YC Ye Yd Yf) (Z5j ty Y5 YC (ZQ Y5 YC k Ye Yd Yf)).1 (Z5j ty Y5 YC (ZQ Y5 YC k Ye Yd Yf)).2 := by
 intro k
 induction k with
 | zero => intro Ye Yd Yf Z6m Z6n hk; exact absurd hk (Nat.not_lt_zero _)
 | succ k ih =>
  intro Ye Yd Yf Z6m Z6n hk
  have p {a C} (s : Scr a C) := sZ (cI .i64) Yf <| s
  cases Yj : (decide (Yd < (Yf.length : Int))) with
  | true =>
   have YM := odt Yj
   have YS : (0 : Int) ≤ Yd := by clear p; exact (by assumption)
   have YT : Yd < (Yf.length : Int) := by clear p; exact (by assumption)
   have YY : Yd.toNat < Yf.length := by clear p; exact (by omega)
   have YZ : (-9223372036854775808 : Int) ≤ (Yd + 1) := by clear p; exact (by omega)
   have y_4 : (Yd + 1) ≤ (9223372036854775807 : Int) := by clear p; exact (by omega)
   have e : ZQ Y5 YC (k + 1) Ye Yd Yf = (ZQ Y5 YC k (IntKind.wrap .i64 (Ye + 1)) (Yd + 1) (Yf.set Yd.toNat Ye)) := by simp only [ZQ, Yj, cond_true]
   rw [e]
   exact nextS (EpOk 1) Z5 [] (mR false [0, 2, 2, 2, 13]) [] (⟨.own 0 :: .i .i64 (IntKind.wrap .i64 (Ye + 1)) :: .any :: .any :: .i .i64 0 :: .i .i64 (Yd + 1) :: an 13 [], [.vec ty 1 ((Yf.map (cI .i64)).set Yd.toNat [.i .i64 Ye]) false]⟩) (p (sB Yj <| sX (cI .i64) Yf Yd YS YT <| sC (maplt (c := (cI .i64)) (l := Yf) YY) <| sW .i64 (Ye + 1) <| sI (Yd + 1) YZ y_4 <| sN)) (by kernel_rfl) (by simp [Z7o, List.map_set, cI]) (ih (IntKind.wrap .i64 (Ye + 1)) (Yd + 1) (Yf.set Yd.toNat Ye) (show 0 ≤ (Yd + 1) from (by omega)) (show (Yf.set Yd.toNat Ye).length = Y5.length from (by simp_all <;> omega)) (by omega))
  | false =>
   have YM := odf Yj
   have e : ZQ Y5 YC (k + 1) Ye Yd Yf = (Ye, Yf) := by simp only [ZQ, Yj, cond_false]
   rw [e]
   exact outR (e := (.exit 0)) (EpOk 1) Z5 [] (mR false [1, 1, 2, 1, 14]) [] (p (sB Yj <| sN)) (by kernel_rfl) (by intro h; cases h)
theorem ZaD (Y5 : (List Int)) (YC : Int) : ∀ (k : Nat) (Ye : Int) (Yd : Int) (Yf : (List Int)) (hk : ((Yf.length : Int) - Yd).toNat < k), (ZQ Y5 YC k Ye Yd Yf).2.length = Yf.length := by
  intro k
  induction k with
  | zero => intro Ye Yd Yf hk; exact absurd hk (Nat.not_lt_zero _)
  | succ k ih =>
    intro Ye Yd Yf hk
    cases Yj : (decide (Yd < (Yf.length : Int))) with
    | true =>
      have e : ZQ Y5 YC (k + 1) Ye Yd Yf = (ZQ Y5 YC k (IntKind.wrap .i64 (Ye + 1)) (Yd + 1) (Yf.set Yd.toNat Ye)) := by simp only [ZQ, Yj, cond_true]
      rw [e, ih (IntKind.wrap .i64 (Ye + 1)) (Yd + 1) (Yf.set Yd.toNat Ye) (by simp_all <;> omega)]; simp
    | false =>
      have e : ZQ Y5 YC (k + 1) Ye Yd Yf = (Ye, Yf) := by simp only [ZQ, Yj, cond_false]
      first | (rw [e]; done) | (rw [e]; rfl)
def Z2N (Y5 : (List Int)) (YC : Int) : Int × (List Int) := (ZQ Y5 YC (((Y5.length : Int) - 0).toNat + 1) YC 0 Y5)
@[simp] theorem ZeZ (Y5 : (List Int)) (YC : Int) : (Z2N Y5 YC).2.length = (Y5 : (List Int)).length := ZaD Y5 YC (((Y5.length : Int) - 0).toNat + 1) YC 0 Y5 (by exact Nat.lt_succ_self _)
def Zm (Y5 : (List Int)) (YC : Int) : Int × (List Int) := ((Z2N Y5 YC).1, (Z2N Y5 YC).2)
@[simp] theorem Z5V (Y5 : (List Int)) (YC : Int) : (Zm Y5 YC).2.length = Y5.length := by
  first | (simp [Zm]; done)
theorem Zci (ty : Nat) (Y5 : (List Int)) (YC : Int) (hp0 : Y5.length ≤ 1073741824)  : CallSt prog 27 [.vec ty 1 (Y5.map (cI .i64)) false] [.own 0, .i .i64 YC] (.i .i64 ((Zm Y5 YC).1)) [.vec ty 1 (((Zm Y5 YC).2).map (cI .i64)) false] := by
 refine callS (EpOk 1) Z5 (c := bodyOf f27) [.vec ty 1 (Y5.map (cI .i64)) false] [] (.i .i64 ((Z2N Y5 YC).1)) [.vec ty 1 (((Z2N Y5 YC).2).map (cI .i64)) false] func27 (sL (mR false [0, 2, 2, 2, 13]) 1 (lp_val (Z5j ty Y5 YC) (x := (Z2N Y5 YC)) (Zbo ty Y5 YC hp0 (((Y5.length : Int) - 0).toNat + 1) YC 0 Y5 (show 0 ≤ 0 from (by omega)) (show Y5.length = Y5.length from (by simp)) (Nat.lt_succ_self _)) rfl) <| sK [] sN) rfl (by kernel_rfl) (by kernel_rfl) ?_ ?_
 · rfl
 · simp [Zm]
def Z7p (_ : Int) (c : Int) : Int × Int := ((IntKind.wrap .i64 (c + 1)), c)
theorem Zcj (a : List Int) (c : Int) : Zm a c = mkL Z7p a c := by
  unfold Zm Z2N
  rw [mark_loop (f := Z7p) (lo := ZQ a c) (fun k c i r => rfl) _ _ _ _ (Int.le_refl 0) (Nat.lt_succ_self _)]
  simp
theorem Zbp (a : List Int) (c : Int) (g0 : a.length ≤ 1073741824) (h0 : 0 ≤ c) (h1 : c ≤ 4611686018427387904) : c ≤ (Zm a c).1 ∧ (Zm a c).1 ≤ c + 1073741824 := by
  rw [Zcj]
  have q := mkL_ge (f := Z7p) (W := 1) a c (fun x _ c k0 k1 => by simp only [Z7p]; rw [wrap_id (n := c + 1) (by omega) (by omega)]; omega) h0 (by omega)
  omega
def ZK (Y5 : (List (List Int))) (YC : Int) : Nat → Int → Int → (List (List Int)) → Int × (List (List Int))
  | 0, _, _, _ => default
  | k + 1, Ye, Yd, Yf => (cond (decide (Yd < (Yf.length : Int)))
    (ZK Y5 YC k ((Zm (Yf.getD Yd.toNat default) Ye).1) (Yd + 1) (Yf.set Yd.toNat ((Zm (Yf.getD Yd.toNat default) Ye).2)))
    (Ye, Yf))
def Z5b (Y5 : (List (List Int))) (YC : Int) (r : Int × (List (List Int))) : Ex × St := ((.exit 0), ⟨.any :: .i .i64 r.1 :: .any :: .any :: .i .i64 0 :: an 14 [], [.nest 49 (r.2.map fun l => l.map (cI .i64)) false]⟩)
def Z6W (Y5 : (List (List Int))) (YC : Int) (Ye : Int) (Yd : Int) (Yf : (List (List Int))) : St := ⟨.own 0 :: .i .i64 Ye :: .any :: .any :: .i .i64 0 :: .i .i64 Yd :: an 13 [], [.nest 49 (Yf.map fun l => l.map (cI .i64)) false]⟩
theorem ZaY (Y5 : (List (List Int))) (YC : Int) (hp0 : Y5.length ≤ 1073741824) (hp1 : ∀ t ∈ Y5, t.length ≤ 1073741824) : ∀ (k : Nat) (Ye : Int) (Yd : Int) (Yf : (List (List Int))) (Z5W : 0 ≤ Yd) (Z5X : Yf.length = Y5.length) (Z3D : ∀ t ∈ Yf, t.length ≤ 1073741824) (hk : ((Y5.length : Int) - Yd).toNat < k), Lp prog 1 (sub (bodyOf f119) [1, 0, 1, 0, 0]) (Z6W Y5 YC Ye Yd Yf) (Z5b Y5 YC (ZK Y5 YC k Ye Yd Yf)).1 (Z5b Y5 YC (ZK Y5 YC k Ye Yd Yf)).2 := by
 intro k
 induction k with
 | zero => intro Ye Yd Yf Z5W Z5X Z3D hk; exact absurd hk (Nat.not_lt_zero _)
 | succ k ih =>
  intro Ye Yd Yf Z5W Z5X Z3D hk
  have p {a C} (s : Scr a C) := sM (nlen_ok (l := Yf) (f := fun l => l.map (cI .i64))) <| s
  cases Yj : (decide (Yd < (Yf.length : Int))) with
  | true =>
   have YM := odt Yj
   have YS : (0 : Int) ≤ Yd := by clear p; exact (by assumption)
   have YT : Int.toNat Yd < Yf.length := by clear p; exact (by omega)
   have YY : Yd.toNat < Yf.length := by clear p; exact (by assumption)
   have YZ : (Yf.getD Yd.toNat default).length ≤ 1073741824 := by clear p; exact (by exact mem_le Z3D)
   have y_4 : (-9223372036854775808 : Int) ≤ (Yd + 1) := by clear p; exact (by omega)
   have y_5 : (Yd + 1) ≤ (9223372036854775807 : Int) := by clear p; exact (by omega)
   have e : ZK Y5 YC (k + 1) Ye Yd Yf = (ZK Y5 YC k ((Zm (Yf.getD Yd.toNat default) Ye).1) (Yd + 1) (Yf.set Yd.toNat ((Zm (Yf.getD Yd.toNat default) Ye).2))) := by simp only [ZK, Yj, cond_true]
   rw [e]
   exact nextS (EpOk 1) Z5 [] (mR false [0, 2, 2, 2, 13]) [] (⟨.own 0 :: .i .i64 ((Zm (Yf.getD Yd.toNat default) Ye).1) :: .any :: .any :: .i .i64 0 :: .i .i64 (Yd + 1) :: an 13 [], [.nest 49 ((Yf.map fun l => l.map (cI .i64)).set Yd.toNat (((Zm (Yf.getD Yd.toNat default) Ye).2).map (cI .i64))) false]⟩) (p (sB Yj <| sC (nestix (c := (cI .i64)) (l := Yf) (i := Yd) YS YT) <| sC (nestlt (c := (cI .i64)) (l := Yf) YY) <| sS (CallSt.frameInn (R := [.nest 49 (Yf.map fun l => l.map (cI .i64)) false]) (q := 0) (j := Yd.toNat) (args := [.i .i64 Ye]) (fun ty => Zci ty (Yf.getD Yd.toNat default) Ye YZ) rfl rfl (by simp) rfl (nestget_ok YY)) <| sI (Yd + 1) y_4 y_5 <| sN)) (by kernel_rfl) (by simp [Z6W, List.map_set, cL, cI]) (ih ((Zm (Yf.getD Yd.toNat default) Ye).1) (Yd + 1) (Yf.set Yd.toNat ((Zm (Yf.getD Yd.toNat default) Ye).2)) (show 0 ≤ (Yd + 1) from (by omega)) (show (Yf.set Yd.toNat ((Zm (Yf.getD Yd.toNat default) Ye).2)).length = Y5.length from (by simp; assumption)) (show ∀ t ∈ (Yf.set Yd.toNat ((Zm (Yf.getD Yd.toNat default) Ye).2)), t.length ≤ 1073741824 from (by intro t ht; rcases List.mem_or_eq_of_mem_set ht with h | h; (exact Z3D t h); (rw [h]; simp only [Z5V]; exact mem_le Z3D))) (by omega))
  | false =>
   have YM := odf Yj
   have e : ZK Y5 YC (k + 1) Ye Yd Yf = (Ye, Yf) := by simp only [ZK, Yj, cond_false]
   rw [e]
   exact outR (e := (.exit 0)) (EpOk 1) Z5 [] (mR false [1, 1, 2, 1, 14]) [] (p (sB Yj <| sN)) (by kernel_rfl) (by intro h; cases h)
theorem Zaq (Y5 : (List (List Int))) (YC : Int) : ∀ (k : Nat) (Ye : Int) (Yd : Int) (Yf : (List (List Int))) (hk : ((Yf.length : Int) - Yd).toNat < k), (ZK Y5 YC k Ye Yd Yf).2.length = Yf.length := by
  intro k
  induction k with
  | zero => intro Ye Yd Yf hk; exact absurd hk (Nat.not_lt_zero _)
  | succ k ih =>
    intro Ye Yd Yf hk
    cases Yj : (decide (Yd < (Yf.length : Int))) with
    | true =>
      have e : ZK Y5 YC (k + 1) Ye Yd Yf = (ZK Y5 YC k ((Zm (Yf.getD Yd.toNat default) Ye).1) (Yd + 1) (Yf.set Yd.toNat ((Zm (Yf.getD Yd.toNat default) Ye).2))) := by simp only [ZK, Yj, cond_true]
      rw [e, ih ((Zm (Yf.getD Yd.toNat default) Ye).1) (Yd + 1) (Yf.set Yd.toNat ((Zm (Yf.getD Yd.toNat default) Ye).2)) (by simp_all <;> omega)]; simp
    | false =>
      have e : ZK Y5 YC (k + 1) Ye Yd Yf = (Ye, Yf) := by simp only [ZK, Yj, cond_false]
      first | (rw [e]; done) | (rw [e]; rfl)
def Z2D (Y5 : (List (List Int))) (YC : Int) : Int × (List (List Int)) := (ZK Y5 YC (((Y5.length : Int) - 0).toNat + 1) YC 0 Y5)
@[simp] theorem Zet (Y5 : (List (List Int))) (YC : Int) : (Z2D Y5 YC).2.length = (Y5 : (List (List Int))).length := Zaq Y5 YC (((Y5.length : Int) - 0).toNat + 1) YC 0 Y5 (by exact Nat.lt_succ_self _)
def Z14 (Y5 : (List (List Int))) (YC : Int) : Int × (List (List Int)) := ((Z2D Y5 YC).1, (Z2D Y5 YC).2)
@[simp] theorem ZfR (Y5 : (List (List Int))) (YC : Int) : (Z14 Y5 YC).2.length = Y5.length := by
  first | (simp [Z14]; done)
theorem ZbX (Y5 : (List (List Int))) (YC : Int) (hp0 : Y5.length ≤ 1073741824) (hp1 : ∀ t ∈ Y5, t.length ≤ 1073741824)  : CallSt prog 119 [.nest 49 (Y5.map fun l => l.map (cI .i64)) false] [.own 0, .i .i64 YC] (.i .i64 ((Z14 Y5 YC).1)) [.nest 49 (((Z14 Y5 YC).2).map fun l => l.map (cI .i64)) false] := by
 refine callS (EpOk 1) Z5 (c := bodyOf f119) [.nest 49 (Y5.map fun l => l.map (cI .i64)) false] [] (.i .i64 ((Z2D Y5 YC).1)) [.nest 49 (((Z2D Y5 YC).2).map fun l => l.map (cI .i64)) false] func119 (sL (mR false [0, 2, 2, 2, 13]) 1 (lp_val (Z5b Y5 YC) (x := (Z2D Y5 YC)) (ZaY Y5 YC hp0 hp1 (((Y5.length : Int) - 0).toNat + 1) YC 0 Y5 (show 0 ≤ 0 from (by simp)) (show Y5.length = Y5.length from (by simp)) (show ∀ t ∈ Y5, t.length ≤ 1073741824 from (by assumption)) (Nat.lt_succ_self _)) rfl) <| sK [] sN) rfl (by kernel_rfl) (by kernel_rfl) ?_ ?_
 · rfl
 · simp [Z14]
theorem Zbq (a : List (List Int)) (c : Int) : Z14 a c = mkL Zm a c := by
  unfold Z14 Z2D
  rw [mark_loop (f := Zm) (lo := ZK a c) (fun k c i r => rfl) _ _ _ _ (Int.le_refl 0) (Nat.lt_succ_self _)]
  simp
theorem Zf0 (a : List (List Int)) (c : Int) (N : Nat) (h : ∀ t ∈ a, t.length ≤ N) : ∀ t ∈ (Z14 a c).2, t.length ≤ N := by
  rw [Zbq]
  exact mkL_mem (p := fun t : List Int => t.length ≤ N) (fun x c hx => by rw [Z5V]; exact hx) a c h
theorem Zar (a : List (List Int)) (c : Int) (g0 : a.length ≤ 1073741824) (g1 : ∀ t ∈ a, t.length ≤ 1073741824) (h0 : 0 ≤ c) (h1 : c ≤ 3458764513820540928) : c ≤ (Z14 a c).1 ∧ (Z14 a c).1 ≤ c + 1152921504606846976 := by
  rw [Zbq]
  have hm : (a.length : Int) * 1073741824 ≤ 1152921504606846976 := by omega
  have q := mkL_ge_b (f := Zm) (W := 1073741824) (M := 4611686018427387904) a c (fun x hx c k0 k1 => by have q := Zbp x c (g1 x hx) k0 (by omega); omega) h0 (by omega)
  omega
def Zh (Y5 : Gm) (YC : Int) : Int × (List Gv) × (List (List Int)) := ((Z14 Y5.Tr ((Zt Y5.Pq YC).1)).1, (Zt Y5.Pq YC).2, (Z14 Y5.Tr ((Zt Y5.Pq YC).1)).2)
@[simp] theorem ZfS (Y5 : Gm) (YC : Int) : (Zh Y5 YC).2.1.length = Y5.Pq.length := by
  first | (simp [Zh]; done)
@[simp] theorem ZfT (Y5 : Gm) (YC : Int) : (Zh Y5 YC).2.2.length = Y5.Tr.length := by
  first | (simp [Zh]; done)
theorem ZbY (Y5 : Gm) (YC : Int) (hp0 : Y5.Pq.length ≤ 1073741824) (hp1 : Y5.Tr.length ≤ 1073741824) (hp2 : ∀ t ∈ Y5.Tr, t.length ≤ 1073741824)  : CallSt prog 61 [.vec 40 3 (Y5.Pq.map Gv.c) false, .nest 49 (Y5.Tr.map fun l => l.map (cI .i64)) false] [.agg [.own 0, .own 1], .i .i64 YC] (.i .i64 ((Zh Y5 YC).1)) [.vec 40 3 (((Zh Y5 YC).2.1).map Gv.c) false, .nest 49 (((Zh Y5 YC).2.2).map fun l => l.map (cI .i64)) false] := by
 refine callS (EpOk 2) Z5 (c := bodyOf f61) [.vec 40 3 (Y5.Pq.map Gv.c) false, .nest 49 (Y5.Tr.map fun l => l.map (cI .i64)) false] [] (.i .i64 ((Z14 Y5.Tr ((Zt Y5.Pq YC).1)).1)) [.vec 40 3 (((Zt Y5.Pq YC).2).map Gv.c) false, .nest 49 (((Z14 Y5.Tr ((Zt Y5.Pq YC).1)).2).map fun l => l.map (cI .i64)) false] func61 (sS (CallSt.frame (ZbW Y5.Pq YC hp0) [0] (R := [.vec 40 3 (Y5.Pq.map Gv.c) false, .nest 49 (Y5.Tr.map fun l => l.map (cI .i64)) false, .box 38 [.own 0, .own 1]]) (args' := [.own 0, .i .i64 YC]) rfl rfl rfl rfl rfl rfl) <| sS (CallSt.frame (ZbX Y5.Tr ((Zt Y5.Pq YC).1) hp1 hp2) [1] (R := [.vec 40 3 (((Zt Y5.Pq YC).2).map Gv.c) false, .nest 49 (Y5.Tr.map fun l => l.map (cI .i64)) false, .box 38 [.own 0, .own 1]]) (args' := [.own 1, .i .i64 ((Zt Y5.Pq YC).1)]) rfl rfl rfl rfl rfl rfl) <| sK [] sN) rfl (by kernel_rfl) (by kernel_rfl) ?_ ?_
 · rfl
 · simp [Zh]
theorem Zas (a : Gm) (c : Int) (g0 : a.Pq.length ≤ 1073741824) (g1 : a.Tr.length ≤ 1073741824) (g2 : ∀ t ∈ a.Tr, t.length ≤ 1073741824) (h0 : 0 ≤ c) (h1 : c ≤ 2305843009213693952) : c ≤ (Zh a c).1 ∧ (Zh a c).1 ≤ c + 1152921507828072448 := by
  unfold Zh
  have p0 := ZaO a.Pq c g0 (by omega) (by omega)
  have p1 := Zar a.Tr ((Zt a.Pq c).1) g1 g2 (by omega) (by omega)
  simp only
  omega
theorem Zf1 (a : Gm) (c : Int) (N : Nat) (h : ∀ t ∈ a.Tr, t.length ≤ N) : ∀ t ∈ (Zh a c).2.2, t.length ≤ N := by
  unfold Zh
  exact Zf0 _ _ N h
def ZL (Y5 : (List Gs)) (YC : Int) : Nat → Int → Int → (List Gs) → Int × (List Gs)
  | 0, _, _, _ => default
  | k + 1, Ye, Yd, Yf => (cond (decide (Yd < (Yf.length : Int)))
    (ZL Y5 YC k (IntKind.wrap .i64 ((IntKind.wrap .i64 ((IntKind.wrap .i64 ((IntKind.wrap .i64 (Ye + 1)) + 1)) + 1)) + 1)) (Yd + 1) (Yf.set Yd.toNat (⟨Ye, (IntKind.wrap .i64 (Ye + 1)), (ofInt .f32 (IntKind.wrap .i64 ((IntKind.wrap .i64 (Ye + 1)) + 1))), (ofInt .f32 (IntKind.wrap .i64 ((IntKind.wrap .i64 ((IntKind.wrap .i64 (Ye + 1)) + 1)) + 1)))⟩ : Gs)))
    (Ye, Yf))
def Z5c (Y5 : (List Gs)) (YC : Int) (r : Int × (List Gs)) : Ex × St := ((.exit 0), ⟨.any :: .i .i64 r.1 :: .any :: .any :: .i .i64 0 :: an 38 [], [.vec 133 4 (r.2.map Gs.c) false]⟩)
def Z6X (Y5 : (List Gs)) (YC : Int) (Ye : Int) (Yd : Int) (Yf : (List Gs)) : St := ⟨.own 0 :: .i .i64 Ye :: .any :: .any :: .i .i64 0 :: .i .i64 Yd :: an 37 [], [.vec 133 4 (Yf.map Gs.c) false]⟩
theorem ZaZ (Y5 : (List Gs)) (YC : Int) (hp0 : Y5.length ≤ 1073741824) : ∀ (k : Nat) (Ye : Int) (Yd : Int) (Yf : (List Gs)) (Z5Y : 0 ≤ Yd) (Z5Z : Yf.length = Y5.length) (hk : ((Y5.length : Int) - Yd).toNat < k), Lp prog 1 (sub (bodyOf f62) [1, 0, 1, 0, 0]) (Z6X Y5 YC Ye Yd Yf) (Z5c Y5 YC (ZL Y5 YC k Ye Yd Yf)).1 (Z5c Y5 YC (ZL Y5 YC k Ye Yd Yf)).2 := by
 intro k
 induction k with
 | zero => intro Ye Yd Yf Z5Y Z5Z hk; exact absurd hk (Nat.not_lt_zero _)
 | succ k ih =>
  intro Ye Yd Yf Z5Y Z5Z hk
  have p {a C} (s : Scr a C) := sZ Gs.c Yf <| s
  cases Yj : (decide (Yd < (Yf.length : Int))) with
  | true =>
   have YM := odt Yj
   have YS : (0 : Int) ≤ Yd := by clear p; exact (by assumption)
   have YT : Yd < (Yf.length : Int) := by clear p; exact (by assumption)
   have YY : Yd.toNat < Yf.length := by clear p; exact (by omega)
   have YZ : Yd < ((Yf.set Yd.toNat (⟨Ye, (Yf.getD Yd.toNat default).B, (Yf.getD Yd.toNat default).Long, (Yf.getD Yd.toNat default).Stiff⟩ : Gs)).length : Int) := by clear p; exact (by simp_all <;> omega)
   have y_4 : Yd < ((Yf.set Yd.toNat (⟨Ye, (IntKind.wrap .i64 (Ye + 1)), (Yf.getD Yd.toNat default).Long, (Yf.getD Yd.toNat default).Stiff⟩ : Gs)).length : Int) := by clear p; exact (by simp_all <;> omega)
   have y_5 : Yd < ((Yf.set Yd.toNat (⟨Ye, (IntKind.wrap .i64 (Ye + 1)), (ofInt .f32 (IntKind.wrap .i64 ((IntKind.wrap .i64 (Ye + 1)) + 1))), (Yf.getD Yd.toNat default).Stiff⟩ : Gs)).length : Int) := by clear p; exact (by simp_all <;> omega)
   have y_6 : (-9223372036854775808 : Int) ≤ (Yd + 1) := by clear p; exact (by omega)
   have y_7 : (Yd + 1) ≤ (9223372036854775807 : Int) := by clear p; exact (by omega)
   have e : ZL Y5 YC (k + 1) Ye Yd Yf = (ZL Y5 YC k (IntKind.wrap .i64 ((IntKind.wrap .i64 ((IntKind.wrap .i64 ((IntKind.wrap .i64 (Ye + 1)) + 1)) + 1)) + 1)) (Yd + 1) (Yf.set Yd.toNat (⟨Ye, (IntKind.wrap .i64 (Ye + 1)), (ofInt .f32 (IntKind.wrap .i64 ((IntKind.wrap .i64 (Ye + 1)) + 1))), (ofInt .f32 (IntKind.wrap .i64 ((IntKind.wrap .i64 ((IntKind.wrap .i64 (Ye + 1)) + 1)) + 1)))⟩ : Gs))) := by simp only [ZL, Yj, cond_true]
   rw [e]
   exact nextS (EpOk 1) Z5 [] (mR false [0, 2, 2, 2, 37]) [] (⟨.own 0 :: .i .i64 (IntKind.wrap .i64 ((IntKind.wrap .i64 ((IntKind.wrap .i64 ((IntKind.wrap .i64 (Ye + 1)) + 1)) + 1)) + 1)) :: .any :: .any :: .i .i64 0 :: .i .i64 (Yd + 1) :: an 37 [], [.vec 133 4 (((((Yf.map Gs.c).set Yd.toNat [.i .i64 Ye, .i .i64 ((Yf.getD Yd.toNat default).B), .f .f32 ((Yf.getD Yd.toNat default).Long), .f .f32 ((Yf.getD Yd.toNat default).Stiff)]).set Yd.toNat [.i .i64 Ye, .i .i64 (IntKind.wrap .i64 (Ye + 1)), .f .f32 ((Yf.getD Yd.toNat default).Long), .f .f32 ((Yf.getD Yd.toNat default).Stiff)]).set Yd.toNat [.i .i64 Ye, .i .i64 (IntKind.wrap .i64 (Ye + 1)), .f .f32 (ofInt .f32 (IntKind.wrap .i64 ((IntKind.wrap .i64 (Ye + 1)) + 1))), .f .f32 ((Yf.getD Yd.toNat default).Stiff)]).set Yd.toNat [.i .i64 Ye, .i .i64 (IntKind.wrap .i64 (Ye + 1)), .f .f32 (ofInt .f32 (IntKind.wrap .i64 ((IntKind.wrap .i64 (Ye + 1)) + 1))), .f .f32 (ofInt .f32 (IntKind.wrap .i64 ((IntKind.wrap .i64 ((IntKind.wrap .i64 (Ye + 1)) + 1)) + 1)))]) false]⟩) (p (sB Yj <| sX Gs.c Yf Yd YS YT <| sV Gs.c Yf Yd.toNat YY <| sW .i64 (Ye + 1) <| sC (show 0 ≤ Yd ∧ Int.toNat Yd < ((Yf.map Gs.c).set Yd.toNat [.i .i64 Ye, .i .i64 ((Yf.getD Yd.toNat default).B), .f .f32 ((Yf.getD Yd.toNat default).Long), .f .f32 ((Yf.getD Yd.toNat default).Stiff)]).length from (by simpa using idx_ok (c := Gs.c) (l := (Yf.set Yd.toNat (⟨Ye, (Yf.getD Yd.toNat default).B, (Yf.getD Yd.toNat default).Long, (Yf.getD Yd.toNat default).Stiff⟩ : Gs))) (i := Yd) YS YZ)) <| sE (show ((Yf.map Gs.c).set Yd.toNat [.i .i64 Ye, .i .i64 ((Yf.getD Yd.toNat default).B), .f .f32 ((Yf.getD Yd.toNat default).Long), .f .f32 ((Yf.getD Yd.toNat default).Stiff)])[Yd.toNat]? = some [.i .i64 Ye, .i .i64 ((Yf.getD Yd.toNat default).B), .f .f32 ((Yf.getD Yd.toNat default).Long), .f .f32 ((Yf.getD Yd.toNat default).Stiff)] from List.getElem?_set_self (by simpa using YY)) <| sW .i64 ((IntKind.wrap .i64 (Ye + 1)) + 1) <| sC (show 0 ≤ Yd ∧ Int.toNat Yd < (((Yf.map Gs.c).set Yd.toNat [.i .i64 Ye, .i .i64 ((Yf.getD Yd.toNat default).B), .f .f32 ((Yf.getD Yd.toNat default).Long), .f .f32 ((Yf.getD Yd.toNat default).Stiff)]).set Yd.toNat [.i .i64 Ye, .i .i64 (IntKind.wrap .i64 (Ye + 1)), .f .f32 ((Yf.getD Yd.toNat default).Long), .f .f32 ((Yf.getD Yd.toNat default).Stiff)]).length from (by simpa using idx_ok (c := Gs.c) (l := (Yf.set Yd.toNat (⟨Ye, (IntKind.wrap .i64 (Ye + 1)), (Yf.getD Yd.toNat default).Long, (Yf.getD Yd.toNat default).Stiff⟩ : Gs))) (i := Yd) YS y_4)) <| sE (show (((Yf.map Gs.c).set Yd.toNat [.i .i64 Ye, .i .i64 ((Yf.getD Yd.toNat default).B), .f .f32 ((Yf.getD Yd.toNat default).Long), .f .f32 ((Yf.getD Yd.toNat default).Stiff)]).set Yd.toNat [.i .i64 Ye, .i .i64 (IntKind.wrap .i64 (Ye + 1)), .f .f32 ((Yf.getD Yd.toNat default).Long), .f .f32 ((Yf.getD Yd.toNat default).Stiff)])[Yd.toNat]? = some [.i .i64 Ye, .i .i64 (IntKind.wrap .i64 (Ye + 1)), .f .f32 ((Yf.getD Yd.toNat default).Long), .f .f32 ((Yf.getD Yd.toNat default).Stiff)] from List.getElem?_set_self (by simpa using YY)) <| sW .i64 ((IntKind.wrap .i64 ((IntKind.wrap .i64 (Ye + 1)) + 1)) + 1) <| sC (show 0 ≤ Yd ∧ Int.toNat Yd < ((((Yf.map Gs.c).set Yd.toNat [.i .i64 Ye, .i .i64 ((Yf.getD Yd.toNat default).B), .f .f32 ((Yf.getD Yd.toNat default).Long), .f .f32 ((Yf.getD Yd.toNat default).Stiff)]).set Yd.toNat [.i .i64 Ye, .i .i64 (IntKind.wrap .i64 (Ye + 1)), .f .f32 ((Yf.getD Yd.toNat default).Long), .f .f32 ((Yf.getD Yd.toNat default).Stiff)]).set Yd.toNat [.i .i64 Ye, .i .i64 (IntKind.wrap .i64 (Ye + 1)), .f .f32 (ofInt .f32 (IntKind.wrap .i64 ((IntKind.wrap .i64 (Ye + 1)) + 1))), .f .f32 ((Yf.getD Yd.toNat default).Stiff)]).length from (by simpa using idx_ok (c := Gs.c) (l := (Yf.set Yd.toNat (⟨Ye, (IntKind.wrap .i64 (Ye + 1)), (ofInt .f32 (IntKind.wrap .i64 ((IntKind.wrap .i64 (Ye + 1)) + 1))), (Yf.getD Yd.toNat default).Stiff⟩ : Gs))) (i := Yd) YS y_5)) <| sE (show ((((Yf.map Gs.c).set Yd.toNat [.i .i64 Ye, .i .i64 ((Yf.getD Yd.toNat default).B), .f .f32 ((Yf.getD Yd.toNat default).Long), .f .f32 ((Yf.getD Yd.toNat default).Stiff)]).set Yd.toNat [.i .i64 Ye, .i .i64 (IntKind.wrap .i64 (Ye + 1)), .f .f32 ((Yf.getD Yd.toNat default).Long), .f .f32 ((Yf.getD Yd.toNat default).Stiff)]).set Yd.toNat [.i .i64 Ye, .i .i64 (IntKind.wrap .i64 (Ye + 1)), .f .f32 (ofInt .f32 (IntKind.wrap .i64 ((IntKind.wrap .i64 (Ye + 1)) + 1))), .f .f32 ((Yf.getD Yd.toNat default).Stiff)])[Yd.toNat]? = some [.i .i64 Ye, .i .i64 (IntKind.wrap .i64 (Ye + 1)), .f .f32 (ofInt .f32 (IntKind.wrap .i64 ((IntKind.wrap .i64 (Ye + 1)) + 1))), .f .f32 ((Yf.getD Yd.toNat default).Stiff)] from List.getElem?_set_self (by simpa using YY)) <| sW .i64 ((IntKind.wrap .i64 ((IntKind.wrap .i64 ((IntKind.wrap .i64 (Ye + 1)) + 1)) + 1)) + 1) <| sI (Yd + 1) y_6 y_7 <| sN)) (by kernel_rfl) (by simp [Z6X, List.map_set, Gs.c]) (ih (IntKind.wrap .i64 ((IntKind.wrap .i64 ((IntKind.wrap .i64 ((IntKind.wrap .i64 (Ye + 1)) + 1)) + 1)) + 1)) (Yd + 1) (Yf.set Yd.toNat (⟨Ye, (IntKind.wrap .i64 (Ye + 1)), (ofInt .f32 (IntKind.wrap .i64 ((IntKind.wrap .i64 (Ye + 1)) + 1))), (ofInt .f32 (IntKind.wrap .i64 ((IntKind.wrap .i64 ((IntKind.wrap .i64 (Ye + 1)) + 1)) + 1)))⟩ : Gs)) (show 0 ≤ (Yd + 1) from (by omega)) (show (Yf.set Yd.toNat (⟨Ye, (IntKind.wrap .i64 (Ye + 1)), (ofInt .f32 (IntKind.wrap .i64 ((IntKind.wrap .i64 (Ye + 1)) + 1))), (ofInt .f32 (IntKind.wrap .i64 ((IntKind.wrap .i64 ((IntKind.wrap .i64 (Ye + 1)) + 1)) + 1)))⟩ : Gs)).length = Y5.length from (by simp_all <;> omega)) (by omega))
  | false =>
   have YM := odf Yj
   have e : ZL Y5 YC (k + 1) Ye Yd Yf = (Ye, Yf) := by simp only [ZL, Yj, cond_false]
   rw [e]
   exact outR (e := (.exit 0)) (EpOk 1) Z5 [] (mR false [1, 1, 2, 1, 38]) [] (p (sB Yj <| sN)) (by kernel_rfl) (by intro h; cases h)
end Go.Ab
