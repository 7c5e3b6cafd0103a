/- The functions of this seat as plain Lean, and that the program's are these. Printed by a program of the prover's own. -/
import Derived.Test.YtpndflbllggeiaaGreatB4
set_option linter.unusedVariables false
set_option linter.unusedSimpArgs false
set_option maxRecDepth 100000
namespace Go.Ab
open Go.RowKit Go.Proofs.Tryz
def Z34 (b_0 : GBody) : (Unit) ⊕ (Unit) := (Zs b_0 (((b_0.Springs.length : Int) - 0).toNat + 1) 0)
def Z28 (b_0 : GBody) : Bool := (cond (Z1e b_0.Mesh)
  (cond (decide ((b_0.Springs.length : Int) > 200))
    false
    (cond ((b_0.Weights.length : Int) != (b_0.Mesh.Places.length : Int))
      false
      (match (Z34 b_0) with
        | .inl r4 => false
        | .inr r4 => true)))
  false)
theorem Z9v (b_0 : GBody) (hp0 : b_0.Mesh.Places.length ≤ 1073741824) (hp1 : b_0.Mesh.Triangles.length ≤ 1073741824) (hp2 : ∀ t ∈ b_0.Mesh.Triangles, t.length ≤ 1073741824) (hp3 : b_0.Springs.length ≤ 1073741824) (hp4 : b_0.Weights.length ≤ 1073741824)  : Fn prog 56 [.agg [.sl (b_0.Mesh.Places.map GVector.cells), .sl (b_0.Mesh.Triangles.map (cL (cI .i64))), .sl (b_0.Springs.map GSpring.cells), .f .f32 b_0.Film, .f .f32 b_0.Bend, .sl (b_0.Weights.map (cF .f32)), .f .f32 b_0.Fall.X, .f .f32 b_0.Fall.Y, .f .f32 b_0.Fall.Z]] (.b (Z28 b_0)) [] := by
 have p {a C} (s : Scr a C) := sZ GVector.cells b_0.Mesh.Places <| sF (Z9u b_0.Mesh hp0 hp1 hp2) <| s
 cases h0 : (Z1e b_0.Mesh) with
 | true =>
  have q {a C} (s : Scr a C) := p (sB' h0 <| sB' h0 <| sB' h0 <| sZ GSpring.cells b_0.Springs <| sB' h0 <| sB' h0 <| s)
  clear p
  cases h1 : (decide ((b_0.Springs.length : Int) > 200)) with
  | true =>
   have gh1 := of_decide_eq_true h1
   refine fnS E0Ok Z4 (c := bodyOf f56) [] (.b false) [] func56 (q (sB h1 <| sB h1 <| sB h1 <| sB h1 <| sB h1 <| sB h1 <| sB (show true = true from rfl) <| sK [] sN)) rfl (by kernel_rfl) (by kernel_rfl) rfl ?_ ?_
   · simp only [Z28, h0, h1, cond_true]
   · rfl
  | false =>
   have gh1 := of_decide_eq_false h1
   have p {a C} (s : Scr a C) := q (sB h1 <| sB h1 <| sB h1 <| sZ (cF .f32) b_0.Weights <| sB h1 <| sB h1 <| sB h1 <| s)
   clear q
   cases h2 : ((b_0.Weights.length : Int) != (b_0.Mesh.Places.length : Int)) with
   | true =>
    have gh2 := bne_iff_ne.1 h2
    refine fnS E0Ok Z4 (c := bodyOf f56) [] (.b false) [] func56 (p (sB h2 <| sK [] sN)) rfl (by kernel_rfl) (by kernel_rfl) rfl ?_ ?_
    · simp only [Z28, h0, h1, h2, cond_true, cond_false]
    · rfl
   | false =>
    have gh2 := bne_eq_false_iff_eq.1 h2
    have q {a C} (s : Scr a C) := p (sB h2 <| sZ GSpring.cells b_0.Springs <| s)
    clear p
    cases h3 : (Z34 b_0) with
    | inl r4 =>
     refine fnS E0Ok Z4 (c := bodyOf f56) [] (.b false) [] func56 (q (sL (mR false [0, 2, 1, 1, 2, 25, 31]) 1 (lp_val (Z3Q b_0) (x := (Z34 b_0)) (Z6j b_0 hp0 hp1 hp2 hp3 hp4 h2 h1 h0 (((b_0.Springs.length : Int) - 0).toNat + 1) 0 (show 0 ≤ 0 from (by omega)) (Nat.lt_succ_self _)) h3) <| sK [] sN)) rfl (by kernel_rfl) (by kernel_rfl) rfl ?_ ?_
     · simp only [Z28, h0, h1, h2, h3, cond_true, cond_false]
     · rfl
    | inr r4 =>
     refine fnS E0Ok Z4 (c := bodyOf f56) [] (.b true) [] func56 (q (sL (mR false [0, 2, 1, 1, 2, 25, 31]) 1 (lp_val (Z3Q b_0) (x := (Z34 b_0)) (Z6j b_0 hp0 hp1 hp2 hp3 hp4 h2 h1 h0 (((b_0.Springs.length : Int) - 0).toNat + 1) 0 (show 0 ≤ 0 from (by omega)) (Nat.lt_succ_self _)) h3) <| sK [] sN)) rfl (by kernel_rfl) (by kernel_rfl) rfl ?_ ?_
     · simp only [Z28, h0, h1, h2, h3, cond_true, cond_false]
     · rfl
 | false =>
  refine fnS E0Ok Z4 (c := bodyOf f56) [] (.b false) [] func56 (p (sB' h0 <| sB' h0 <| sB' h0 <| sB' h0 <| sB' h0 <| sB (show true = true from rfl) <| sB (show true = true from rfl) <| sB (show true = true from rfl) <| sB (show true = true from rfl) <| sB (show true = true from rfl) <| sB (show true = true from rfl) <| sB (show true = true from rfl) <| sK [] sN)) rfl (by kernel_rfl) (by kernel_rfl) rfl ?_ ?_
  · simp only [Z28, h0, cond_false]
  · rfl
theorem Zbz (s : GSpring) (n : Int) : cond (Z1j s.A 0 (IntKind.wrap .i64 (n - 1))) (cond (Z1j s.B 0 (IntKind.wrap .i64 (n - 1))) (cond (s.A == s.B) false (fcmp .geq .f32 s.Long 0)) false) false = Z13 s n := by
  unfold Z13
  rw [show Z1j = Z12 from rfl, show (s.A != s.B) = !(s.A == s.B) from rfl]
  cases (s.A == s.B) <;> rfl
theorem ZaH (b : GBody) (k : Nat) (i : Int) : Zs b (k + 1) i = cond (decide (i < (b.Springs.length : Int))) (cond (Z13 (b.Springs.getD i.toNat default) (b.Mesh.Places.length : Int)) (Zs b k (i + 1)) (.inl ())) (.inr ()) := by
  rw [Zs, ← Zbz]
  generalize b.Springs.getD i.toNat default = s
  cases Z1j s.A 0 (IntKind.wrap .i64 ((b.Mesh.Places.length : Int) - 1)) <;> cases Z1j s.B 0 (IntKind.wrap .i64 ((b.Mesh.Places.length : Int) - 1)) <;> cases (s.A == s.B) <;> cases fcmp .geq .f32 s.Long 0 <;> rfl
theorem Z8A (b : GBody) : Z28 b = Z1B b := by
  unfold Z28 Z1B Z34 Z3c
  rw [ZaG, all_from (a := b.Springs) (p := fun s => Z13 s (b.Mesh.Places.length : Int)) (lo := Zs b) (x := ()) (y := ()) (ZaH b),
    all_from (a := b.Springs) (p := fun s => Z13 s (b.Mesh.Places.length : Int)) (lo := Z1M b) (x := ()) (y := ()) (fun k i => rfl)]
  rfl
def Z1n (a_0 : GVector) (b_1 : GVector) : GVector := (⟨(fop .sub .f32 a_0.X b_1.X), (fop .sub .f32 a_0.Y b_1.Y), (fop .sub .f32 a_0.Z b_1.Z)⟩ : GVector)
theorem Z35 (a_0 : GVector) (b_1 : GVector)   : Fn prog 114 [.agg [.f .f32 a_0.X, .f .f32 a_0.Y, .f .f32 a_0.Z], .agg [.f .f32 b_1.X, .f .f32 b_1.Y, .f .f32 b_1.Z]] (.agg [.f .f32 ((Z1n a_0 b_1).X), .f .f32 ((Z1n a_0 b_1).Y), .f .f32 ((Z1n a_0 b_1).Z)]) [] := by
 refine fnS E0Ok Z4 (c := bodyOf f114) [] (.agg [.f .f32 (fop .sub .f32 a_0.X b_1.X), .f .f32 (fop .sub .f32 a_0.Y b_1.Y), .f .f32 (fop .sub .f32 a_0.Z b_1.Z)]) [] func114 (sK [] sN) rfl (by kernel_rfl) (by kernel_rfl) rfl ?_ ?_
 · rfl
 · rfl
def Zi (b_0 : GBody) (s_1 : GSpring) : GVector := (Z1n (b_0.Mesh.Places.getD s_1.B.toNat default) (b_0.Mesh.Places.getD s_1.A.toNat default))
theorem Z8B (b_0 : GBody) (s_1 : GSpring) (hp0 : b_0.Mesh.Places.length ≤ 1073741824) (hp1 : b_0.Mesh.Triangles.length ≤ 1073741824) (hp2 : ∀ t ∈ b_0.Mesh.Triangles, t.length ≤ 1073741824) (hp3 : b_0.Springs.length ≤ 1073741824) (hp4 : b_0.Weights.length ≤ 1073741824) (hp5 : 0 ≤ s_1.A) (hp6 : s_1.A < (b_0.Mesh.Places.length : Int)) (hp7 : 0 ≤ s_1.B) (hp8 : s_1.B < (b_0.Mesh.Places.length : Int))  : Fn prog 109 [.agg [.sl (b_0.Mesh.Places.map GVector.cells), .sl (b_0.Mesh.Triangles.map (cL (cI .i64))), .sl (b_0.Springs.map GSpring.cells), .f .f32 b_0.Film, .f .f32 b_0.Bend, .sl (b_0.Weights.map (cF .f32)), .f .f32 b_0.Fall.X, .f .f32 b_0.Fall.Y, .f .f32 b_0.Fall.Z], .agg [.i .i64 s_1.A, .i .i64 s_1.B, .f .f32 s_1.Long, .f .f32 s_1.Stiff]] (.agg [.f .f32 ((Zi b_0 s_1).X), .f .f32 ((Zi b_0 s_1).Y), .f .f32 ((Zi b_0 s_1).Z)]) [] := by
 have y0 : (0 : Int) ≤ s_1.B := (by assumption)
 have y1 : (0 : Int) ≤ s_1.A := (by assumption)
 refine fnS E0Ok Z4 (c := bodyOf f109) [] (.agg [.f .f32 ((Z1n (b_0.Mesh.Places.getD s_1.B.toNat default) (b_0.Mesh.Places.getD s_1.A.toNat default)).X), .f .f32 ((Z1n (b_0.Mesh.Places.getD s_1.B.toNat default) (b_0.Mesh.Places.getD s_1.A.toNat default)).Y), .f .f32 ((Z1n (b_0.Mesh.Places.getD s_1.B.toNat default) (b_0.Mesh.Places.getD s_1.A.toNat default)).Z)]) [] func109 (sK [14, 14] <| sG GVector.cells b_0.Mesh.Places s_1.B y0 hp8 <| sG GVector.cells b_0.Mesh.Places s_1.A y1 hp6 <| sF (Z35 (b_0.Mesh.Places.getD s_1.B.toNat default) (b_0.Mesh.Places.getD s_1.A.toNat default)) <| sK [] sN) rfl (by kernel_rfl) (by kernel_rfl) rfl ?_ ?_
 · rfl
 · rfl
def Z50 (a_0 : GVector) (b_1 : GVector) : Nat := (fop .add .f32 (fop .add .f32 (fop .mul .f32 a_0.X b_1.X) (fop .mul .f32 a_0.Y b_1.Y)) (fop .mul .f32 a_0.Z b_1.Z))
theorem Za4 (a_0 : GVector) (b_1 : GVector)   : Fn prog 140 [.agg [.f .f32 a_0.X, .f .f32 a_0.Y, .f .f32 a_0.Z], .agg [.f .f32 b_1.X, .f .f32 b_1.Y, .f .f32 b_1.Z]] (.f .f32 (Z50 a_0 b_1)) [] := by
 refine fnS E0Ok Z4 (c := bodyOf f140) [] (.f .f32 (fop .add .f32 (fop .add .f32 (fop .mul .f32 a_0.X b_1.X) (fop .mul .f32 a_0.Y b_1.Y)) (fop .mul .f32 a_0.Z b_1.Z))) [] func140 (sK [] sN) rfl (by kernel_rfl) (by kernel_rfl) rfl ?_ ?_
 · rfl
 · rfl
def Z54 (x_0 : Nat) : Nat := (fcv .f64 .f32 (Z3I (fcv .f32 .f64 x_0)))
theorem Z93 (x_0 : Nat)   : Fn prog 139 [.f .f32 x_0] (.f .f32 (Z54 x_0)) [] := by
 have y0 : fcvOk .f64 .f32 (Z3I (fcv .f32 .f64 x_0)) = true := (narrow_sqrt _)
 refine fnS E0Ok Z4 (c := bodyOf f139) [] (.f .f32 (fcv .f64 .f32 (Z3I (fcv .f32 .f64 x_0)))) [] func139 (sC (widenOk x_0) <| sF (Z97 (fcv .f32 .f64 x_0)) <| sC y0 <| sK [] sN) rfl (by kernel_rfl) (by kernel_rfl) rfl ?_ ?_
 · rfl
 · rfl
def Zj (v_0 : GVector) : Nat := (Z54 (Z50 v_0 v_0))
theorem Z82 (v_0 : GVector)   : Fn prog 112 [.agg [.f .f32 v_0.X, .f .f32 v_0.Y, .f .f32 v_0.Z]] (.f .f32 (Zj v_0)) [] := by
 refine fnS E0Ok Z4 (c := bodyOf f112) [] (.f .f32 (Z54 (Z50 v_0 v_0))) [] func112 (sF (Za4 v_0 v_0) <| sF (Z93 (Z50 v_0 v_0)) <| sK [] sN) rfl (by kernel_rfl) (by kernel_rfl) rfl ?_ ?_
 · rfl
 · rfl
def Z2X (d_0 : GVector) (s_1 : GSpring) : Nat := (cond (fcmp .gtr .f32 (Zj d_0) 0)
  (fop .quo .f32 (fop .mul .f32 s_1.Stiff (fop .sub .f32 (Zj d_0) s_1.Long)) (Zj d_0))
  0)
theorem Zan (d_0 : GVector) (s_1 : GSpring)   : Fn prog 110 [.agg [.f .f32 d_0.X, .f .f32 d_0.Y, .f .f32 d_0.Z], .agg [.i .i64 s_1.A, .i .i64 s_1.B, .f .f32 s_1.Long, .f .f32 s_1.Stiff]] (.f .f32 (Z2X d_0 s_1)) [] := by
 have p {a C} (s : Scr a C) := sF (Z82 d_0) <| s
 cases h0 : (fcmp .gtr .f32 (Zj d_0) 0) with
 | true =>
  refine fnS E0Ok Z4 (c := bodyOf f110) [] (.f .f32 (fop .quo .f32 (fop .mul .f32 s_1.Stiff (fop .sub .f32 (Zj d_0) s_1.Long)) (Zj d_0))) [] func110 (p (sB' h0 <| sK [] sN)) rfl (by kernel_rfl) (by kernel_rfl) rfl ?_ ?_
  · simp only [Z2X, h0, cond_true]
  · rfl
 | false =>
  refine fnS E0Ok Z4 (c := bodyOf f110) [] (.f .f32 0) [] func110 (p (sB' h0 <| sK [] sN)) rfl (by kernel_rfl) (by kernel_rfl) rfl ?_ ?_
  · simp only [Z2X, h0, cond_false]
  · rfl
def Z2w (v_0 : GVector) (by_1 : Nat) : GVector := (⟨(fop .mul .f32 v_0.X by_1), (fop .mul .f32 v_0.Y by_1), (fop .mul .f32 v_0.Z by_1)⟩ : GVector)
theorem Z8C (v_0 : GVector) (by_1 : Nat)   : Fn prog 108 [.agg [.f .f32 v_0.X, .f .f32 v_0.Y, .f .f32 v_0.Z], .f .f32 by_1] (.agg [.f .f32 ((Z2w v_0 by_1).X), .f .f32 ((Z2w v_0 by_1).Y), .f .f32 ((Z2w v_0 by_1).Z)]) [] := by
 refine fnS E0Ok Z4 (c := bodyOf f108) [] (.agg [.f .f32 (fop .mul .f32 v_0.X by_1), .f .f32 (fop .mul .f32 v_0.Y by_1), .f .f32 (fop .mul .f32 v_0.Z by_1)]) [] func108 (sK [] sN) rfl (by kernel_rfl) (by kernel_rfl) rfl ?_ ?_
 · rfl
 · rfl
def Z1W (a_0 : GVector) (b_1 : GVector) : GVector := (⟨(fop .add .f32 a_0.X b_1.X), (fop .add .f32 a_0.Y b_1.Y), (fop .add .f32 a_0.Z b_1.Z)⟩ : GVector)
theorem Z55 (a_0 : GVector) (b_1 : GVector)   : Fn prog 107 [.agg [.f .f32 a_0.X, .f .f32 a_0.Y, .f .f32 a_0.Z], .agg [.f .f32 b_1.X, .f .f32 b_1.Y, .f .f32 b_1.Z]] (.agg [.f .f32 ((Z1W a_0 b_1).X), .f .f32 ((Z1W a_0 b_1).Y), .f .f32 ((Z1W a_0 b_1).Z)]) [] := by
 refine fnS E0Ok Z4 (c := bodyOf f107) [] (.agg [.f .f32 (fop .add .f32 a_0.X b_1.X), .f .f32 (fop .add .f32 a_0.Y b_1.Y), .f .f32 (fop .add .f32 a_0.Z b_1.Z)]) [] func107 (sK [] sN) rfl (by kernel_rfl) (by kernel_rfl) rfl ?_ ?_
 · rfl
 · rfl
def Zk (at_0 : Int) (v_1 : GVector) (by_2 : Nat) (p_3 : (List GVector)) : (List GVector) := (p_3.set at_0.toNat (Z1W (p_3.getD at_0.toNat default) (Z2w v_1 by_2)))
@[simp] theorem Z9D (at_0 : Int) (v_1 : GVector) (by_2 : Nat) (p_3 : (List GVector)) : (Zk at_0 v_1 by_2 p_3).length = p_3.length := by
  first | (simp [Zk]; done)
theorem Z1p (at_0 : Int) (v_1 : GVector) (by_2 : Nat) (p_3 : (List GVector)) (hp0 : p_3.length ≤ 1073741824) (hp1 : 0 ≤ at_0) (hp2 : at_0 < (p_3.length : Int))  : CallSt prog 106 [.box 34 [.own 1], .vec 40 3 (p_3.map GVector.cells) false] [.i .i64 at_0, .agg [.f .f32 v_1.X, .f .f32 v_1.Y, .f .f32 v_1.Z], .f .f32 by_2, .ptr 0 0 0] (.tup []) [.box 34 [.own 1], .vec 40 3 ((Zk at_0 v_1 by_2 p_3).map GVector.cells) false] := by
 have y0 : (0 : Int) ≤ at_0 := (by assumption)
 have y1 : at_0.toNat < p_3.length := (by omega)
 refine callS (EpOk 2) Z4 (c := bodyOf f106) [.box 34 [.own 1], .vec 40 3 (p_3.map GVector.cells) false] [] (.tup []) [.box 34 [.own 1], .vec 40 3 ((p_3.map GVector.cells).set at_0.toNat [.f .f32 ((Z1W (p_3.getD at_0.toNat default) (Z2w v_1 by_2)).X), .f .f32 ((Z1W (p_3.getD at_0.toNat default) (Z2w v_1 by_2)).Y), .f .f32 ((Z1W (p_3.getD at_0.toNat default) (Z2w v_1 by_2)).Z)]) false] func106 (sK [10, 10] <| sX GVector.cells p_3 at_0 y0 hp2 <| sV GVector.cells p_3 at_0.toNat y1 <| sF (Z8C v_1 by_2) <| sF (Z55 (p_3.getD at_0.toNat default) (Z2w v_1 by_2)) <| sX GVector.cells p_3 at_0 y0 hp2 <| sC (maplt (c := GVector.cells) (l := p_3) y1) <| sK [] sN) rfl (by kernel_rfl) (by kernel_rfl) ?_ ?_
 · rfl
 · simp [Zk, GVector.cells]
def Z1Q (a_0 : GVector) (b_1 : GVector) : GVector := (⟨(fop .sub .f32 (fop .mul .f32 a_0.Y b_1.Z) (fop .mul .f32 a_0.Z b_1.Y)), (fop .sub .f32 (fop .mul .f32 a_0.Z b_1.X) (fop .mul .f32 a_0.X b_1.Z)), (fop .sub .f32 (fop .mul .f32 a_0.X b_1.Y) (fop .mul .f32 a_0.Y b_1.X))⟩ : GVector)
theorem Z6p (a_0 : GVector) (b_1 : GVector)   : Fn prog 113 [.agg [.f .f32 a_0.X, .f .f32 a_0.Y, .f .f32 a_0.Z], .agg [.f .f32 b_1.X, .f .f32 b_1.Y, .f .f32 b_1.Z]] (.agg [.f .f32 ((Z1Q a_0 b_1).X), .f .f32 ((Z1Q a_0 b_1).Y), .f .f32 ((Z1Q a_0 b_1).Z)]) [] := by
 refine fnS E0Ok Z4 (c := bodyOf f113) [] (.agg [.f .f32 (fop .sub .f32 (fop .mul .f32 a_0.Y b_1.Z) (fop .mul .f32 a_0.Z b_1.Y)), .f .f32 (fop .sub .f32 (fop .mul .f32 a_0.Z b_1.X) (fop .mul .f32 a_0.X b_1.Z)), .f .f32 (fop .sub .f32 (fop .mul .f32 a_0.X b_1.Y) (fop .mul .f32 a_0.Y b_1.X))]) [] func113 (sK [] sN) rfl (by kernel_rfl) (by kernel_rfl) rfl ?_ ?_
 · rfl
 · rfl
def Z3W (m_0 : GMesh) (t_1 : (List Int)) : GVector := (Z1Q (Z1n (m_0.Places.getD (t_1.getD 1 default).toNat default) (m_0.Places.getD (t_1.getD 0 default).toNat default)) (Z1n (m_0.Places.getD (t_1.getD 2 default).toNat default) (m_0.Places.getD (t_1.getD 0 default).toNat default)))
def Z7 (m_0 : GMesh) (t_1 : (List Int)) : GVector := (Z3W m_0 t_1)
theorem Z9Q (m_0 : GMesh) (t_1 : (List Int)) (hp0 : m_0.Places.length ≤ 1073741824) (hp1 : m_0.Triangles.length ≤ 1073741824) (hp2 : ∀ t ∈ m_0.Triangles, t.length ≤ 1073741824) (hp3 : t_1.length ≤ 1073741824) (hp4 : t_1.length = 3 ∧ ∀ x ∈ t_1, 0 ≤ x ∧ x < (m_0.Places.length : Int))  : Fn prog 111 [.agg [.sl (m_0.Places.map GVector.cells), .sl (m_0.Triangles.map (cL (cI .i64)))], .sl (t_1.map (cI .i64))] (.agg [.f .f32 ((Z7 m_0 t_1).X), .f .f32 ((Z7 m_0 t_1).Y), .f .f32 ((Z7 m_0 t_1).Z)]) [] := by
 have y0 : (0 : Int) ≤ 0 := (by omega)
 have y1 : 0 < (t_1.length : Int) := (by omega)
 have y2 : (0 : Int) ≤ (t_1.getD 0 default) := (by have q := Okt.at hp4; omega)
 have y3 : (t_1.getD 0 default) < (m_0.Places.length : Int) := (by have q := Okt.at hp4; omega)
 have y4 : (0 : Int) ≤ 1 := (by omega)
 have y5 : 1 < (t_1.length : Int) := (by omega)
 have y6 : (0 : Int) ≤ (t_1.getD 1 default) := (by have q := Okt.at hp4; omega)
 have y7 : (t_1.getD 1 default) < (m_0.Places.length : Int) := (by have q := Okt.at hp4; omega)
 have y8 : (0 : Int) ≤ 2 := (by omega)
 have y9 : 2 < (t_1.length : Int) := (by omega)
 have y10 : (0 : Int) ≤ (t_1.getD 2 default) := (by have q := Okt.at hp4; omega)
 have y11 : (t_1.getD 2 default) < (m_0.Places.length : Int) := (by have q := Okt.at hp4; omega)
 refine fnS E0Ok Z4 (c := bodyOf f111) [] (.agg [.f .f32 ((Z3W m_0 t_1).X), .f .f32 ((Z3W m_0 t_1).Y), .f .f32 ((Z3W m_0 t_1).Z)]) [] func111 (sK [8, 8] <| sG (cI .i64) t_1 0 y0 y1 <| sG GVector.cells m_0.Places (t_1.getD 0 default) y2 y3 <| sK [17, 17] <| sG (cI .i64) t_1 1 y4 y5 <| sG GVector.cells m_0.Places (t_1.getD 1 default) y6 y7 <| sF (Z35 (m_0.Places.getD (t_1.getD 1 default).toNat default) (m_0.Places.getD (t_1.getD 0 default).toNat default)) <| sG (cI .i64) t_1 2 y8 y9 <| sG GVector.cells m_0.Places (t_1.getD 2 default) y10 y11 <| sF (Z35 (m_0.Places.getD (t_1.getD 2 default).toNat default) (m_0.Places.getD (t_1.getD 0 default).toNat default)) <| sF (Z6p (Z1n (m_0.Places.getD (t_1.getD 1 default).toNat default) (m_0.Places.getD (t_1.getD 0 default).toNat default)) (Z1n (m_0.Places.getD (t_1.getD 2 default).toNat default) (m_0.Places.getD (t_1.getD 0 default).toNat default))) <| sK [] sN) rfl (by kernel_rfl) (by kernel_rfl) rfl ?_ ?_
 · rfl
 · rfl
def Z4r (a_0 : Int) (b_1 : Int) : Gedge := (⟨(if b_1 < a_0 then b_1 else a_0), (if b_1 > a_0 then b_1 else a_0)⟩ : Gedge)
theorem Zao (a_0 : Int) (b_1 : Int)   : Fn prog 149 [.i .i64 a_0, .i .i64 b_1] (.agg [.i .i64 ((Z4r a_0 b_1).e0), .i .i64 ((Z4r a_0 b_1).e1)]) [] := by
 refine fnS E0Ok Z4 (c := bodyOf f149) [] (.agg [.i .i64 (if b_1 < a_0 then b_1 else a_0), .i .i64 (if b_1 > a_0 then b_1 else a_0)]) [] func149 (sC (show (if false = true then (if b_1 > a_0 then b_1 else a_0) else (if b_1 < a_0 then b_1 else a_0)) = (if b_1 < a_0 then b_1 else a_0) from (by simp)) <| sA (.num (if b_1 < a_0 then b_1 else a_0)) <| sC (show (if true = true then (if b_1 > a_0 then b_1 else a_0) else (if b_1 < a_0 then b_1 else a_0)) = (if b_1 > a_0 then b_1 else a_0) from (by simp)) <| sA (.num (if b_1 > a_0 then b_1 else a_0)) <| sK [] sN) rfl (by kernel_rfl) (by kernel_rfl) rfl ?_ ?_
 · rfl
 · rfl
theorem Zbl (a b : Int) : Z4r a b = mkE a b := by
  unfold Z4r mkE
  by_cases h : a ≤ b
  · rw [if_pos h, if_neg (by omega)]
    by_cases h2 : b > a
    · rw [if_pos h2]
    · rw [if_neg h2, show a = b from by omega]
  · rw [if_neg h, if_pos (by omega), if_neg (by omega)]
def Z2x (x_0 : Int) : Bool := (x_0 != x_0)
theorem Z6v (x_0 : Int)   : Fn prog 172 [.i .i64 x_0] (.b (Z2x x_0)) [] := by
 refine fnS E0Ok Z4 (c := bodyOf f172) [] (.b (x_0 != x_0)) [] func172 (sK [] sN) rfl (by kernel_rfl) (by kernel_rfl) rfl ?_ ?_
 · rfl
 · rfl
def Z18 (x_0 : Int) (y_1 : Int) : Int := (cond (Z2x x_0)
  (cond (Z2x y_1)
    0
    (-1))
  (cond (Z2x y_1)
    1
    (cond (decide (x_0 < y_1))
      (-1)
      (cond (decide (x_0 > y_1))
        1
        0))))
theorem Z7O (x_0 : Int) (y_1 : Int)   : Fn prog 166 [.i .i64 x_0, .i .i64 y_1] (.i .i64 (Z18 x_0 y_1)) [] := by
 have p {a C} (s : Scr a C) := sF (Z6v x_0) <| sF (Z6v y_1) <| s
 cases h0 : (Z2x x_0) with
 | true =>
  have q {a C} (s : Scr a C) := p (sB h0 <| s)
  clear p
  cases h1 : (Z2x y_1) with
  | true =>
   refine fnS E0Ok Z4 (c := bodyOf f166) [] (.i .i64 0) [] func166 (q (sB h1 <| sK [] sN)) rfl (by kernel_rfl) (by kernel_rfl) rfl ?_ ?_
   · simp only [Z18, h0, h1, cond_true]
   · rfl
  | false =>
   refine fnS E0Ok Z4 (c := bodyOf f166) [] (.i .i64 (-1)) [] func166 (q (sB h1 <| sK [] sN)) rfl (by kernel_rfl) (by kernel_rfl) rfl ?_ ?_
   · simp only [Z18, h0, h1, cond_true, cond_false]
   · rfl
 | false =>
  have q {a C} (s : Scr a C) := p (sB h0 <| s)
  clear p
  cases h1 : (Z2x y_1) with
  | true =>
   refine fnS E0Ok Z4 (c := bodyOf f166) [] (.i .i64 1) [] func166 (q (sB h1 <| sK [] sN)) rfl (by kernel_rfl) (by kernel_rfl) rfl ?_ ?_
   · simp only [Z18, h0, h1, cond_true, cond_false]
   · rfl
  | false =>
   have p {a C} (s : Scr a C) := q (sB h1 <| s)
   clear q
   cases h2 : (decide (x_0 < y_1)) with
   | true =>
    have gh2 := of_decide_eq_true h2
    refine fnS E0Ok Z4 (c := bodyOf f166) [] (.i .i64 (-1)) [] func166 (p (sB h2 <| sK [] sN)) rfl (by kernel_rfl) (by kernel_rfl) rfl ?_ ?_
    · simp only [Z18, h0, h1, h2, cond_true, cond_false]
    · rfl
   | false =>
    have gh2 := of_decide_eq_false h2
    have q {a C} (s : Scr a C) := p (sB h2 <| s)
    clear p
    cases h3 : (decide (x_0 > y_1)) with
    | true =>
     have gh3 := of_decide_eq_true h3
     refine fnS E0Ok Z4 (c := bodyOf f166) [] (.i .i64 1) [] func166 (q (sB h3 <| sK [] sN)) rfl (by kernel_rfl) (by kernel_rfl) rfl ?_ ?_
     · simp only [Z18, h0, h1, h2, h3, cond_true, cond_false]
     · rfl
    | false =>
     have gh3 := of_decide_eq_false h3
     refine fnS E0Ok Z4 (c := bodyOf f166) [] (.i .i64 0) [] func166 (q (sB h3 <| sK [] sN)) rfl (by kernel_rfl) (by kernel_rfl) rfl ?_ ?_
     · simp only [Z18, h0, h1, h2, h3, cond_false]
     · rfl
def Zf (s1_0 : (List Int)) (s2_1 : (List Int)) : Nat → Int → (Int) ⊕ (Unit)
  | 0, _ => .inl default
  | k + 1, x_l0 => (cond (decide (x_l0 < (s1_0.length : Int)))
    (cond (decide (x_l0 ≥ (s2_1.length : Int)))
      (.inl 1)
      (cond ((Z18 (s1_0.getD x_l0.toNat default) (s2_1.getD x_l0.toNat default)) != 0)
        (.inl (Z18 (s1_0.getD x_l0.toNat default) (s2_1.getD x_l0.toNat default)))
        (Zf s1_0 s2_1 k (x_l0 + 1))))
    (.inr ()))
def Z2p (s1_0 : (List Int)) (s2_1 : (List Int)) : (Int) ⊕ (Unit) → Ex × St
  | .inl r => (.ret, ⟨an 4 (.i .i64 r :: an 31 []), []⟩)
  | .inr r => ((.exit 0), ⟨.sl (s1_0.map (cI .i64)) :: .sl (s2_1.map (cI .i64)) :: an 7 (.sl (s1_0.map (cI .i64)) :: an 26 []), []⟩)
def Z56 (s1_0 : (List Int)) (s2_1 : (List Int)) (x_l0 : Int) : St := ⟨.sl (s1_0.map (cI .i64)) :: .sl (s2_1.map (cI .i64)) :: an 7 (.sl (s1_0.map (cI .i64)) :: .i .i64 (s1_0.length : Int) :: .i .i64 x_l0 :: an 24 []), []⟩
theorem Z3u (s1_0 : (List Int)) (s2_1 : (List Int)) (hp0 : s1_0.length ≤ 1073741824) (hp1 : s2_1.length ≤ 1073741824) : ∀ (k : Nat) (x_l0 : Int) (Z3h : 0 ≤ x_l0) (hk : ((s1_0.length : Int) - x_l0).toNat < k), Lp prog 0 (sub (bodyOf f155) [1, 0, 1, 0, 0]) (Z56 s1_0 s2_1 x_l0) (Z2p s1_0 s2_1 (Zf s1_0 s2_1 k x_l0)).1 (Z2p s1_0 s2_1 (Zf s1_0 s2_1 k x_l0)).2 := by
 intro k
 induction k with
 | zero => intro x_l0 Z3h hk; exact absurd hk (Nat.not_lt_zero _)
 | succ k ih =>
  intro x_l0 Z3h hk
  cases h_0 : (decide (x_l0 < (s1_0.length : Int))) with
  | true =>
   have gh_0 := of_decide_eq_true h_0
   have y_0 : (0 : Int) ≤ x_l0 := (by assumption)
   have y_1 : x_l0 < (s1_0.length : Int) := (by assumption)
   have p {a C} (s : Scr a C) := sB h_0 <| sG (cI .i64) s1_0 x_l0 y_0 y_1 <| sZ (cI .i64) s2_1 <| s
   cases h_1 : (decide (x_l0 ≥ (s2_1.length : Int))) with
   | true =>
    have gh_1 := of_decide_eq_true h_1
    have e : Zf s1_0 s2_1 (k + 1) x_l0 = (.inl 1) := by simp only [Zf, h_0, h_1, cond_true]
    rw [e]
    exact outR (e := .ret) E0Ok Z4 [] (mR false [4, 1, 31]) [] (p (sB h_1 <| sN)) (by kernel_rfl) (by intro h; cases h)
   | false =>
    have gh_1 := of_decide_eq_false h_1
    have y_2 : x_l0 < (s2_1.length : Int) := by clear p; exact (by omega)
    have q {a C} (s : Scr a C) := p (sB h_1 <| sG (cI .i64) s2_1 x_l0 y_0 y_2 <| sF (Z7O (s1_0.getD x_l0.toNat default) (s2_1.getD x_l0.toNat default)) <| s)
    clear p
    cases h_2 : ((Z18 (s1_0.getD x_l0.toNat default) (s2_1.getD x_l0.toNat default)) != 0) with
    | true =>
     have gh_2 := bne_iff_ne.1 h_2
     have e : Zf s1_0 s2_1 (k + 1) x_l0 = (.inl (Z18 (s1_0.getD x_l0.toNat default) (s2_1.getD x_l0.toNat default))) := by simp only [Zf, h_0, h_1, h_2, cond_true, cond_false]
     rw [e]
     exact outR (e := .ret) E0Ok Z4 [] (mR false [4, 1, 31]) [] (q (sB h_2 <| sN)) (by kernel_rfl) (by intro h; cases h)
    | false =>
     have gh_2 := bne_eq_false_iff_eq.1 h_2
     have y_3 : (-9223372036854775808 : Int) ≤ (x_l0 + 1) := by clear q; exact (by omega)
     have y_4 : (x_l0 + 1) ≤ (9223372036854775807 : Int) := by clear q; exact (by omega)
     have e : Zf s1_0 s2_1 (k + 1) x_l0 = (Zf s1_0 s2_1 k (x_l0 + 1)) := by simp only [Zf, h_0, h_1, h_2, cond_true, cond_false]
     rw [e]
     exact nextR E0Ok Z4 [] (mR false [0, 2, 7, 3, 24]) [] (ih (x_l0 + 1) (show 0 ≤ (x_l0 + 1) from (by omega)) (by omega)) (q (sB h_2 <| sI (x_l0 + 1) y_3 y_4 <| sN)) (by kernel_rfl)
  | false =>
   have gh_0 := of_decide_eq_false h_0
   have e : Zf s1_0 s2_1 (k + 1) x_l0 = (.inr ()) := by simp only [Zf, h_0, cond_false]
   rw [e]
   exact outR (e := (.exit 0)) E0Ok Z4 [] (mR false [0, 2, 7, 1, 26]) [] (sB h_0 <| sN) (by kernel_rfl) (by intro h; cases h)
def Z1J (s1_0 : (List Int)) (s2_1 : (List Int)) : (Int) ⊕ (Unit) := (Zf s1_0 s2_1 (((s1_0.length : Int) - 0).toNat + 1) 0)
def Z1q (s1_0 : (List Int)) (s2_1 : (List Int)) : Int := (match (Z1J s1_0 s2_1) with
  | .inl r1 => r1
  | .inr r1 => (cond (decide ((s1_0.length : Int) < (s2_1.length : Int)))
    (-1)
    0))
theorem Z5I (s1_0 : (List Int)) (s2_1 : (List Int)) (hp0 : s1_0.length ≤ 1073741824) (hp1 : s2_1.length ≤ 1073741824)  : Fn prog 155 [.sl (s1_0.map (cI .i64)), .sl (s2_1.map (cI .i64))] (.i .i64 (Z1q s1_0 s2_1)) [] := by
 have p {a C} (s : Scr a C) := sZ (cI .i64) s1_0 <| s
 cases h0 : (Z1J s1_0 s2_1) with
 | inl r1 =>
  refine fnS E0Ok Z4 (c := bodyOf f155) [] (.i .i64 r1) [] func155 (p (sL (mR false [0, 2, 7, 3, 24]) 0 (lp_val (Z2p s1_0 s2_1) (x := (Z1J s1_0 s2_1)) (Z3u s1_0 s2_1 hp0 hp1 (((s1_0.length : Int) - 0).toNat + 1) 0 (show 0 ≤ 0 from (by omega)) (Nat.lt_succ_self _)) h0) <| sK [] sN)) rfl (by kernel_rfl) (by kernel_rfl) rfl ?_ ?_
  · simp only [Z1q, h0]
  · rfl
 | inr r1 =>
  have q {a C} (s : Scr a C) := p (sL (mR false [0, 2, 7, 3, 24]) 0 (lp_val (Z2p s1_0 s2_1) (x := (Z1J s1_0 s2_1)) (Z3u s1_0 s2_1 hp0 hp1 (((s1_0.length : Int) - 0).toNat + 1) 0 (show 0 ≤ 0 from (by omega)) (Nat.lt_succ_self _)) h0) <| sZ (cI .i64) s1_0 <| sZ (cI .i64) s2_1 <| s)
  clear p
  cases h1 : (decide ((s1_0.length : Int) < (s2_1.length : Int))) with
  | true =>
   have gh1 := of_decide_eq_true h1
   refine fnS E0Ok Z4 (c := bodyOf f155) [] (.i .i64 (-1)) [] func155 (q (sB h1 <| sK [] sN)) rfl (by kernel_rfl) (by kernel_rfl) rfl ?_ ?_
   · simp only [Z1q, h0, h1, cond_true]
   · rfl
  | false =>
   have gh1 := of_decide_eq_false h1
   refine fnS E0Ok Z4 (c := bodyOf f155) [] (.i .i64 0) [] func155 (q (sB h1 <| sK [] sN)) rfl (by kernel_rfl) (by kernel_rfl) rfl ?_ ?_
   · simp only [Z1q, h0, h1, cond_false]
   · rfl
def Z4G (a_0 : Gedge) (b_1 : Gedge) : Int := (Z1q ([a_0.e0, a_0.e1]) ([b_1.e0, b_1.e1]))
theorem Z6k (a_0 : Gedge) (b_1 : Gedge)   : Fn prog 151 [.agg [.i .i64 a_0.e0, .i .i64 a_0.e1], .agg [.i .i64 b_1.e0, .i .i64 b_1.e1]] (.i .i64 (Z4G a_0 b_1)) [] := by
 have y0 : ([a_0.e0, a_0.e1]).length ≤ 1073741824 := (by simp_all <;> omega)
 have y1 : ([b_1.e0, b_1.e1]).length ≤ 1073741824 := (by assumption)
 refine fnS E0Ok Z4 (c := bodyOf f151) [] (.i .i64 (Z1q ([a_0.e0, a_0.e1]) ([b_1.e0, b_1.e1]))) [] func151 (sK [2, 2] <| sF (Z5I ([a_0.e0, a_0.e1]) ([b_1.e0, b_1.e1]) y0 y1) <| sK [] sN) rfl (by kernel_rfl) (by kernel_rfl) rfl ?_ ?_
 · rfl
 · rfl
def Z2 (m_0 : GMesh) (x_l0 : Int) (x_l0_1 : Int) : Gedge := (Z4r ((m_0.Triangles.getD x_l0.toNat default).getD x_l0_1.toNat default) ((m_0.Triangles.getD x_l0.toNat default).getD (Int.tmod (x_l0_1 + 1) 3).toNat default))
def Za (m_0 : GMesh) (x_l0 : Int) (r1_l1 : (List (Gedge × List Int))) (r2_l2 : (List Gedge)) : Nat → Int → (List (Gedge × List Int)) → (List Gedge) → (List (Gedge × List Int)) × (List Gedge)
  | 0, _, _, _ => default
  | k + 1, x_l0_1, r1_l1_1, r2_l2_1 => (cond (decide (x_l0_1 < 3))
    (cond (mhas r1_l1_1 (Z2 m_0 x_l0 x_l0_1))
      (cond (((r1_l1_1.getD (midx r1_l1_1 (Z2 m_0 x_l0 x_l0_1)) default).2.length : Int) == 0)
        (Za m_0 x_l0 r1_l1 r2_l2 k (x_l0_1 + 1) (mput r1_l1_1 (midx r1_l1_1 (Z2 m_0 x_l0 x_l0_1)) ((r1_l1_1.getD (midx r1_l1_1 (Z2 m_0 x_l0 x_l0_1)) default).2 ++ [x_l0])) (r2_l2_1 ++ [(Z2 m_0 x_l0 x_l0_1)]))
        (Za m_0 x_l0 r1_l1 r2_l2 k (x_l0_1 + 1) (mput r1_l1_1 (midx r1_l1_1 (Z2 m_0 x_l0 x_l0_1)) ((r1_l1_1.getD (midx r1_l1_1 (Z2 m_0 x_l0 x_l0_1)) default).2 ++ [x_l0])) r2_l2_1))
      (Za m_0 x_l0 r1_l1 r2_l2 k (x_l0_1 + 1) (r1_l1_1 ++ [((Z2 m_0 x_l0 x_l0_1), [x_l0])]) (r2_l2_1 ++ [(Z2 m_0 x_l0 x_l0_1)])))
    (r1_l1_1, r2_l2_1))
def Z3B (m_0 : GMesh) (x_l0 : Int) (r1_l1 : (List (Gedge × List Int))) (r2_l2 : (List Gedge)) (r : (List (Gedge × List Int)) × (List Gedge)) : Ex × St := ((.exit 2), ⟨.agg [.sl (m_0.Places.map GVector.cells), .sl (m_0.Triangles.map (cL (cI .i64)))] :: .ptr 0 0 0 :: .any :: .nils :: .mp 1 :: .own 2 :: .i .i64 x_l0 :: .sl ((m_0.Triangles.getD x_l0.toNat default).map (cI .i64)) :: .any :: .any :: .mp 1 :: .any :: .ptr 0 0 1 :: .sl (m_0.Triangles.map (cL (cI .i64))) :: .i .i64 (m_0.Triangles.length : Int) :: .i .i64 x_l0 :: .b (decide (x_l0 < (m_0.Triangles.length : Int))) :: .i .i64 x_l0 :: .ref [.sl ((m_0.Triangles.getD x_l0.toNat default).map (cI .i64))] 0 :: .sl ((m_0.Triangles.getD x_l0.toNat default).map (cI .i64)) :: an 37 [], [.box 38 [.sl (m_0.Places.map GVector.cells), .sl (m_0.Triangles.map (cL (cI .i64)))], .mapN 2 (mapC Gedge.pr (cI .i64) r.1) none, .vec 167 2 (r.2.map Gedge.cells) false]⟩)
def Z6M (m_0 : GMesh) (x_l0 : Int) (r1_l1 : (List (Gedge × List Int))) (r2_l2 : (List Gedge)) (x_l0_1 : Int) (r1_l1_1 : (List (Gedge × List Int))) (r2_l2_1 : (List Gedge)) : St := ⟨.agg [.sl (m_0.Places.map GVector.cells), .sl (m_0.Triangles.map (cL (cI .i64)))] :: .ptr 0 0 0 :: .any :: .nils :: .mp 1 :: .own 2 :: .i .i64 x_l0 :: .sl ((m_0.Triangles.getD x_l0.toNat default).map (cI .i64)) :: .any :: .any :: .mp 1 :: .any :: .ptr 0 0 1 :: .sl (m_0.Triangles.map (cL (cI .i64))) :: .i .i64 (m_0.Triangles.length : Int) :: .i .i64 x_l0 :: .b (decide (x_l0 < (m_0.Triangles.length : Int))) :: .i .i64 x_l0 :: .ref [.sl ((m_0.Triangles.getD x_l0.toNat default).map (cI .i64))] 0 :: .sl ((m_0.Triangles.getD x_l0.toNat default).map (cI .i64)) :: .i .i64 x_l0_1 :: an 36 [], [.box 38 [.sl (m_0.Places.map GVector.cells), .sl (m_0.Triangles.map (cL (cI .i64)))], .mapN 2 (mapC Gedge.pr (cI .i64) r1_l1_1) none, .vec 167 2 (r2_l2_1.map Gedge.cells) false]⟩
set_option maxHeartbeats 1000000 in
theorem Z6N (m_0 : GMesh) (x_l0 : Int) (r1_l1 : (List (Gedge × List Int))) (r2_l2 : (List Gedge)) (hp0 : m_0.Places.length ≤ 1073741824) (hp1 : m_0.Triangles.length ≤ 1073741824) (hp2 : ∀ t ∈ m_0.Triangles, t.length ≤ 1073741824) (hp3 : OkE m_0.Places.length m_0.Triangles) (Zz : 0 ≤ x_l0) (Z2U : (r2_l2.length : Int) ≤ 3 * x_l0) (Z2y : ∀ y ∈ r1_l1, (y.2.length : Int) ≤ 3 * x_l0) (Z1K : (decide (x_l0 < (m_0.Triangles.length : Int))) = true) : ∀ (k : Nat) (x_l0_1 : Int) (r1_l1_1 : (List (Gedge × List Int))) (r2_l2_1 : (List Gedge)) (Z1f : 0 ≤ x_l0_1) (Z48 : (r2_l2_1.length : Int) ≤ (r2_l2.length : Int) + x_l0_1) (Z49 : ∀ y ∈ r1_l1_1, (y.2.length : Int) ≤ 3 * x_l0 + x_l0_1) (hk : ((3 : Int) - x_l0_1).toNat < k), Lp prog 0 (sub (bodyOf f141) [1, 1, 0, 1, 0, 0, 1, 1, 0, 0, 1, 1, 0, 0]) (Z6M m_0 x_l0 r1_l1 r2_l2 x_l0_1 r1_l1_1 r2_l2_1) (Z3B m_0 x_l0 r1_l1 r2_l2 (Za m_0 x_l0 r1_l1 r2_l2 k x_l0_1 r1_l1_1 r2_l2_1)).1 (Z3B m_0 x_l0 r1_l1 r2_l2 (Za m_0 x_l0 r1_l1 r2_l2 k x_l0_1 r1_l1_1 r2_l2_1)).2 := by
 intro k
 induction k with
 | zero => intro x_l0_1 r1_l1_1 r2_l2_1 Z1f Z48 Z49 hk; exact absurd hk (Nat.not_lt_zero _)
 | succ k ih =>
  intro x_l0_1 r1_l1_1 r2_l2_1 Z1f Z48 Z49 hk
  cases h__0 : (decide (x_l0_1 < 3)) with
  | true =>
   have gh__0 := of_decide_eq_true h__0
   have y__0 : (0 : Int) ≤ x_l0_1 := (by assumption)
   have y__1 : x_l0_1 < ((m_0.Triangles.getD x_l0.toNat default).length : Int) := (by ((have g5 := of_decide_eq_true Z1K; have q := OkE.at hp3 Zz g5 Z1f (of_decide_eq_true (by assumption)); omega)))
   have y__2 : (-9223372036854775808 : Int) ≤ (x_l0_1 + 1) := (by omega)
   have y__3 : (x_l0_1 + 1) ≤ (9223372036854775807 : Int) := (by omega)
   have y__4 : (0 : Int) ≤ (Int.tmod (x_l0_1 + 1) 3) := (by ((have g5 := of_decide_eq_true Z1K; have q := OkE.at hp3 Zz g5 Z1f (of_decide_eq_true (by assumption)); omega)))
   have y__5 : (Int.tmod (x_l0_1 + 1) 3) < ((m_0.Triangles.getD x_l0.toNat default).length : Int) := (by ((have g5 := of_decide_eq_true Z1K; have q := OkE.at hp3 Zz g5 Z1f (of_decide_eq_true (by assumption)); omega)))
   have p {a C} (s : Scr a C) := sB h__0 <| sK [12, 12] <| sG (cI .i64) (m_0.Triangles.getD x_l0.toNat default) x_l0_1 y__0 y__1 <| sI (x_l0_1 + 1) y__2 y__3 <| sC (show (3 : Int) ≠ 0 from (by decide)) <| sQ (Int.tmod (x_l0_1 + 1) 3) <| sG (cI .i64) (m_0.Triangles.getD x_l0.toNat default) (Int.tmod (x_l0_1 + 1) 3) y__4 y__5 <| sF (Zao ((m_0.Triangles.getD x_l0.toNat default).getD x_l0_1.toNat default) ((m_0.Triangles.getD x_l0.toNat default).getD (Int.tmod (x_l0_1 + 1) 3).toNat default)) <| s
   cases h__1 : (mhas r1_l1_1 (Z2 m_0 x_l0 x_l0_1)) with
   | true =>
    have m__16 := midx_lt h__1
    have q {a C} (s : Scr a C) := p (sA (.keep [midx r1_l1_1 (Z2 m_0 x_l0 x_l0_1)]) <| sC (mget_ok (ck := Gedge.pr) (cv := (cI .i64)) h__1) <| sM (mget_len (ck := Gedge.pr) (cv := (cI .i64)) (l := r1_l1_1) (j := (midx r1_l1_1 (Z2 m_0 x_l0 x_l0_1)))) <| s)
    clear p
    cases h__2 : (((r1_l1_1.getD (midx r1_l1_1 (Z2 m_0 x_l0 x_l0_1)) default).2.length : Int) == 0) with
    | true =>
     have gh__2 := eq_of_beq h__2
     have y__6 : r2_l2_1.length + ([(Z2 m_0 x_l0 x_l0_1)]).length ≤ 1073741824 := by clear q; exact (by ((have g5 := of_decide_eq_true Z1K; have q := OkE.at hp3 Zz g5 Z1f (of_decide_eq_true (by assumption)); (simp only [List.length_append, List.length_cons, List.length_nil]; omega))))
     have y__7 : (midx r1_l1_1 (Z2 m_0 x_l0 x_l0_1)) < r1_l1_1.length := by clear q; exact (by assumption)
     have y__8 : ((r1_l1_1.getD (midx r1_l1_1 (Z2 m_0 x_l0 x_l0_1)) default).2).length + ([x_l0]).length ≤ 1073741824 := by clear q; exact (by ((have g5 := of_decide_eq_true Z1K; have q := OkE.at hp3 Zz g5 Z1f (of_decide_eq_true (by assumption)); (simp only [List.length_append, List.length_cons, List.length_nil]; omega))))
     have e : Za m_0 x_l0 r1_l1 r2_l2 (k + 1) x_l0_1 r1_l1_1 r2_l2_1 = (Za m_0 x_l0 r1_l1 r2_l2 k (x_l0_1 + 1) (mput r1_l1_1 (midx r1_l1_1 (Z2 m_0 x_l0 x_l0_1)) ((r1_l1_1.getD (midx r1_l1_1 (Z2 m_0 x_l0 x_l0_1)) default).2 ++ [x_l0])) (r2_l2_1 ++ [(Z2 m_0 x_l0 x_l0_1)])) := by simp only [Za, h__0, h__1, h__2, cond_true]
     rw [e]
     exact nextS E0Ok Z4 [] (mR false [0, 2, 1, 5, 2, 1, 1, 9, 36]) [0, 1, 2] (⟨.agg [.sl (m_0.Places.map GVector.cells), .sl (m_0.Triangles.map (cL (cI .i64)))] :: .ptr 0 0 0 :: .any :: .nils :: .mp 1 :: .own 2 :: .i .i64 x_l0 :: .sl ((m_0.Triangles.getD x_l0.toNat default).map (cI .i64)) :: .any :: .any :: .mp 1 :: .any :: .ptr 0 0 1 :: .sl (m_0.Triangles.map (cL (cI .i64))) :: .i .i64 (m_0.Triangles.length : Int) :: .i .i64 x_l0 :: .b (decide (x_l0 < (m_0.Triangles.length : Int))) :: .i .i64 x_l0 :: .ref [.sl ((m_0.Triangles.getD x_l0.toNat default).map (cI .i64))] 0 :: .sl ((m_0.Triangles.getD x_l0.toNat default).map (cI .i64)) :: .i .i64 (x_l0_1 + 1) :: an 36 [], [.box 38 [.sl (m_0.Places.map GVector.cells), .sl (m_0.Triangles.map (cL (cI .i64)))], .mapN 2 (((mapC Gedge.pr (cI .i64) r1_l1_1).set (midx r1_l1_1 (Z2 m_0 x_l0 x_l0_1)) (((mapC Gedge.pr (cI .i64) r1_l1_1).getD (midx r1_l1_1 (Z2 m_0 x_l0 x_l0_1)) default).1, [])).set (midx r1_l1_1 (Z2 m_0 x_l0 x_l0_1)) ((((mapC Gedge.pr (cI .i64) r1_l1_1).set (midx r1_l1_1 (Z2 m_0 x_l0 x_l0_1)) (((mapC Gedge.pr (cI .i64) r1_l1_1).getD (midx r1_l1_1 (Z2 m_0 x_l0 x_l0_1)) default).1, [])).getD (midx r1_l1_1 (Z2 m_0 x_l0 x_l0_1)) default).1, (((mapC Gedge.pr (cI .i64) r1_l1_1).getD (midx r1_l1_1 (Z2 m_0 x_l0 x_l0_1)) default).2 ++ ([x_l0].map (cI .i64))))) none, .vec 167 2 ((r2_l2_1.map Gedge.cells) ++ ([[.i .i64 ((Z2 m_0 x_l0 x_l0_1).e0), .i .i64 ((Z2 m_0 x_l0 x_l0_1).e1)]] : List (List AV))) false]⟩) (q (sB h__2 <| sC (show (r2_l2_1.map Gedge.cells).length + ([[.i .i64 ((Z2 m_0 x_l0 x_l0_1).e0), .i .i64 ((Z2 m_0 x_l0 x_l0_1).e1)]] : List (List AV)).length ≤ 1073741824 from (by simpa using y__6)) <| sA (.keep [midx r1_l1_1 (Z2 m_0 x_l0 x_l0_1)]) <| sC (mget_ok (ck := Gedge.pr) (cv := (cI .i64)) h__1) <| sC (show (midx r1_l1_1 (Z2 m_0 x_l0 x_l0_1)) < (mapC Gedge.pr (cI .i64) r1_l1_1).length from (by simpa using y__7)) <| sC (show (((mapC Gedge.pr (cI .i64) r1_l1_1).getD (midx r1_l1_1 (Z2 m_0 x_l0 x_l0_1)) default).2).length + ([[.i .i64 x_l0]] : List (List AV)).length ≤ 1073741824 from (by simpa using y__8)) <| sA (.keep [(midx r1_l1_1 (Z2 m_0 x_l0 x_l0_1))]) <| sC (show ((midx r1_l1_1 (Z2 m_0 x_l0 x_l0_1)) : Int) = (((midx r1_l1_1 (Z2 m_0 x_l0 x_l0_1)) : Nat) : Int) from rfl) <| sC (show (midx r1_l1_1 (Z2 m_0 x_l0 x_l0_1)) < ((mapC Gedge.pr (cI .i64) r1_l1_1).set (midx r1_l1_1 (Z2 m_0 x_l0 x_l0_1)) (((mapC Gedge.pr (cI .i64) r1_l1_1).getD (midx r1_l1_1 (Z2 m_0 x_l0 x_l0_1)) default).1, [])).length from (by simpa using y__7)) <| sC (show ∀ i, some (midx r1_l1_1 (Z2 m_0 x_l0 x_l0_1)) = some i → i = (midx r1_l1_1 (Z2 m_0 x_l0 x_l0_1)) from (fun i h => by cases h; rfl)) <| sI (x_l0_1 + 1) y__2 y__3 <| sN)) (by kernel_rfl) (show _ = ⟨.agg [.sl (m_0.Places.map GVector.cells), .sl (m_0.Triangles.map (cL (cI .i64)))] :: .ptr 0 0 0 :: .any :: .nils :: .mp 1 :: .own 2 :: .i .i64 x_l0 :: .sl ((m_0.Triangles.getD x_l0.toNat default).map (cI .i64)) :: .any :: .any :: .mp 1 :: .any :: .ptr 0 0 1 :: .sl (m_0.Triangles.map (cL (cI .i64))) :: .i .i64 (m_0.Triangles.length : Int) :: .i .i64 x_l0 :: .b (decide (x_l0 < (m_0.Triangles.length : Int))) :: .i .i64 x_l0 :: .ref [.sl ((m_0.Triangles.getD x_l0.toNat default).map (cI .i64))] 0 :: .sl ((m_0.Triangles.getD x_l0.toNat default).map (cI .i64)) :: .i .i64 (x_l0_1 + 1) :: an 36 [], [.box 38 [.sl (m_0.Places.map GVector.cells), .sl (m_0.Triangles.map (cL (cI .i64)))], .mapN 2 (mapC Gedge.pr (cI .i64) (mput r1_l1_1 (midx r1_l1_1 (Z2 m_0 x_l0 x_l0_1)) ((r1_l1_1.getD (midx r1_l1_1 (Z2 m_0 x_l0 x_l0_1)) default).2 ++ [x_l0]))) none, .vec 167 2 ((r2_l2_1 ++ [(Z2 m_0 x_l0 x_l0_1)]).map Gedge.cells) false]⟩ from (by rw [mapC_put (midx_lt h__1)]; simp [List.map_set, Gedge.cells])) (ih (x_l0_1 + 1) (mput r1_l1_1 (midx r1_l1_1 (Z2 m_0 x_l0 x_l0_1)) ((r1_l1_1.getD (midx r1_l1_1 (Z2 m_0 x_l0 x_l0_1)) default).2 ++ [x_l0])) (r2_l2_1 ++ [(Z2 m_0 x_l0 x_l0_1)]) (show 0 ≤ (x_l0_1 + 1) from (by omega)) (show ((r2_l2_1 ++ [(Z2 m_0 x_l0 x_l0_1)]).length : Int) ≤ (r2_l2.length : Int) + (x_l0_1 + 1) from (by simp only [List.length_append, List.length_cons, List.length_nil]; omega)) (show ∀ y ∈ (mput r1_l1_1 (midx r1_l1_1 (Z2 m_0 x_l0 x_l0_1)) ((r1_l1_1.getD (midx r1_l1_1 (Z2 m_0 x_l0 x_l0_1)) default).2 ++ [x_l0])), (y.2.length : Int) ≤ 3 * x_l0 + (x_l0_1 + 1) from (by exact mput_inv (by assumption) (by omega) (by omega))) (by omega))
    | false =>
     have gh__2 := ne_of_beq_false h__2
     have y__6 : (midx r1_l1_1 (Z2 m_0 x_l0 x_l0_1)) < r1_l1_1.length := by clear q; exact (by assumption)
     have y__7 : ((r1_l1_1.getD (midx r1_l1_1 (Z2 m_0 x_l0 x_l0_1)) default).2).length + ([x_l0]).length ≤ 1073741824 := by clear q; exact (by ((have g5 := of_decide_eq_true Z1K; have q := OkE.at hp3 Zz g5 Z1f (of_decide_eq_true (by assumption)); (have q3 := mlen_leI (N := 3 * x_l0 + x_l0_1) (by omega) (by assumption) (midx r1_l1_1 (Z2 m_0 x_l0 x_l0_1)); simp only [List.length_cons, List.length_nil]; omega))))
     have e : Za m_0 x_l0 r1_l1 r2_l2 (k + 1) x_l0_1 r1_l1_1 r2_l2_1 = (Za m_0 x_l0 r1_l1 r2_l2 k (x_l0_1 + 1) (mput r1_l1_1 (midx r1_l1_1 (Z2 m_0 x_l0 x_l0_1)) ((r1_l1_1.getD (midx r1_l1_1 (Z2 m_0 x_l0 x_l0_1)) default).2 ++ [x_l0])) r2_l2_1) := by simp only [Za, h__0, h__1, h__2, cond_true, cond_false]
     rw [e]
     exact nextS E0Ok Z4 [] (mR false [0, 2, 1, 5, 2, 1, 1, 9, 36]) [0, 1, 2] (⟨.agg [.sl (m_0.Places.map GVector.cells), .sl (m_0.Triangles.map (cL (cI .i64)))] :: .ptr 0 0 0 :: .any :: .nils :: .mp 1 :: .own 2 :: .i .i64 x_l0 :: .sl ((m_0.Triangles.getD x_l0.toNat default).map (cI .i64)) :: .any :: .any :: .mp 1 :: .any :: .ptr 0 0 1 :: .sl (m_0.Triangles.map (cL (cI .i64))) :: .i .i64 (m_0.Triangles.length : Int) :: .i .i64 x_l0 :: .b (decide (x_l0 < (m_0.Triangles.length : Int))) :: .i .i64 x_l0 :: .ref [.sl ((m_0.Triangles.getD x_l0.toNat default).map (cI .i64))] 0 :: .sl ((m_0.Triangles.getD x_l0.toNat default).map (cI .i64)) :: .i .i64 (x_l0_1 + 1) :: an 36 [], [.box 38 [.sl (m_0.Places.map GVector.cells), .sl (m_0.Triangles.map (cL (cI .i64)))], .mapN 2 (((mapC Gedge.pr (cI .i64) r1_l1_1).set (midx r1_l1_1 (Z2 m_0 x_l0 x_l0_1)) (((mapC Gedge.pr (cI .i64) r1_l1_1).getD (midx r1_l1_1 (Z2 m_0 x_l0 x_l0_1)) default).1, [])).set (midx r1_l1_1 (Z2 m_0 x_l0 x_l0_1)) ((((mapC Gedge.pr (cI .i64) r1_l1_1).set (midx r1_l1_1 (Z2 m_0 x_l0 x_l0_1)) (((mapC Gedge.pr (cI .i64) r1_l1_1).getD (midx r1_l1_1 (Z2 m_0 x_l0 x_l0_1)) default).1, [])).getD (midx r1_l1_1 (Z2 m_0 x_l0 x_l0_1)) default).1, (((mapC Gedge.pr (cI .i64) r1_l1_1).getD (midx r1_l1_1 (Z2 m_0 x_l0 x_l0_1)) default).2 ++ ([x_l0].map (cI .i64))))) none, .vec 167 2 (r2_l2_1.map Gedge.cells) false]⟩) (q (sB h__2 <| sA (.keep [midx r1_l1_1 (Z2 m_0 x_l0 x_l0_1)]) <| sC (mget_ok (ck := Gedge.pr) (cv := (cI .i64)) h__1) <| sC (show (midx r1_l1_1 (Z2 m_0 x_l0 x_l0_1)) < (mapC Gedge.pr (cI .i64) r1_l1_1).length from (by simpa using y__6)) <| sC (show (((mapC Gedge.pr (cI .i64) r1_l1_1).getD (midx r1_l1_1 (Z2 m_0 x_l0 x_l0_1)) default).2).length + ([[.i .i64 x_l0]] : List (List AV)).length ≤ 1073741824 from (by simpa using y__7)) <| sA (.keep [(midx r1_l1_1 (Z2 m_0 x_l0 x_l0_1))]) <| sC (show ((midx r1_l1_1 (Z2 m_0 x_l0 x_l0_1)) : Int) = (((midx r1_l1_1 (Z2 m_0 x_l0 x_l0_1)) : Nat) : Int) from rfl) <| sC (show (midx r1_l1_1 (Z2 m_0 x_l0 x_l0_1)) < ((mapC Gedge.pr (cI .i64) r1_l1_1).set (midx r1_l1_1 (Z2 m_0 x_l0 x_l0_1)) (((mapC Gedge.pr (cI .i64) r1_l1_1).getD (midx r1_l1_1 (Z2 m_0 x_l0 x_l0_1)) default).1, [])).length from (by simpa using y__6)) <| sC (show ∀ i, some (midx r1_l1_1 (Z2 m_0 x_l0 x_l0_1)) = some i → i = (midx r1_l1_1 (Z2 m_0 x_l0 x_l0_1)) from (fun i h => by cases h; rfl)) <| sI (x_l0_1 + 1) y__2 y__3 <| sN)) (by kernel_rfl) (show _ = ⟨.agg [.sl (m_0.Places.map GVector.cells), .sl (m_0.Triangles.map (cL (cI .i64)))] :: .ptr 0 0 0 :: .any :: .nils :: .mp 1 :: .own 2 :: .i .i64 x_l0 :: .sl ((m_0.Triangles.getD x_l0.toNat default).map (cI .i64)) :: .any :: .any :: .mp 1 :: .any :: .ptr 0 0 1 :: .sl (m_0.Triangles.map (cL (cI .i64))) :: .i .i64 (m_0.Triangles.length : Int) :: .i .i64 x_l0 :: .b (decide (x_l0 < (m_0.Triangles.length : Int))) :: .i .i64 x_l0 :: .ref [.sl ((m_0.Triangles.getD x_l0.toNat default).map (cI .i64))] 0 :: .sl ((m_0.Triangles.getD x_l0.toNat default).map (cI .i64)) :: .i .i64 (x_l0_1 + 1) :: an 36 [], [.box 38 [.sl (m_0.Places.map GVector.cells), .sl (m_0.Triangles.map (cL (cI .i64)))], .mapN 2 (mapC Gedge.pr (cI .i64) (mput r1_l1_1 (midx r1_l1_1 (Z2 m_0 x_l0 x_l0_1)) ((r1_l1_1.getD (midx r1_l1_1 (Z2 m_0 x_l0 x_l0_1)) default).2 ++ [x_l0]))) none, .vec 167 2 (r2_l2_1.map Gedge.cells) false]⟩ from (by rw [mapC_put (midx_lt h__1)]; done)) (ih (x_l0_1 + 1) (mput r1_l1_1 (midx r1_l1_1 (Z2 m_0 x_l0 x_l0_1)) ((r1_l1_1.getD (midx r1_l1_1 (Z2 m_0 x_l0 x_l0_1)) default).2 ++ [x_l0])) r2_l2_1 (show 0 ≤ (x_l0_1 + 1) from (by omega)) (show (r2_l2_1.length : Int) ≤ (r2_l2.length : Int) + (x_l0_1 + 1) from (by omega)) (show ∀ y ∈ (mput r1_l1_1 (midx r1_l1_1 (Z2 m_0 x_l0 x_l0_1)) ((r1_l1_1.getD (midx r1_l1_1 (Z2 m_0 x_l0 x_l0_1)) default).2 ++ [x_l0])), (y.2.length : Int) ≤ 3 * x_l0 + (x_l0_1 + 1) from (by exact mput_inv (by assumption) (by omega) (by omega))) (by omega))
   | false =>
    have y__6 : r2_l2_1.length + ([(Z2 m_0 x_l0 x_l0_1)]).length ≤ 1073741824 := by clear p; exact (by ((have g5 := of_decide_eq_true Z1K; have q := OkE.at hp3 Zz g5 Z1f (of_decide_eq_true (by assumption)); (simp only [List.length_append, List.length_cons, List.length_nil]; omega))))
    have e : Za m_0 x_l0 r1_l1 r2_l2 (k + 1) x_l0_1 r1_l1_1 r2_l2_1 = (Za m_0 x_l0 r1_l1 r2_l2 k (x_l0_1 + 1) (r1_l1_1 ++ [((Z2 m_0 x_l0 x_l0_1), [x_l0])]) (r2_l2_1 ++ [(Z2 m_0 x_l0 x_l0_1)])) := by simp only [Za, h__0, h__1, cond_true, cond_false]
    rw [e]
    exact nextS E0Ok Z4 [] (mR false [0, 2, 1, 5, 2, 1, 1, 9, 36]) [0, 1, 2] (⟨.agg [.sl (m_0.Places.map GVector.cells), .sl (m_0.Triangles.map (cL (cI .i64)))] :: .ptr 0 0 0 :: .any :: .nils :: .mp 1 :: .own 2 :: .i .i64 x_l0 :: .sl ((m_0.Triangles.getD x_l0.toNat default).map (cI .i64)) :: .any :: .any :: .mp 1 :: .any :: .ptr 0 0 1 :: .sl (m_0.Triangles.map (cL (cI .i64))) :: .i .i64 (m_0.Triangles.length : Int) :: .i .i64 x_l0 :: .b (decide (x_l0 < (m_0.Triangles.length : Int))) :: .i .i64 x_l0 :: .ref [.sl ((m_0.Triangles.getD x_l0.toNat default).map (cI .i64))] 0 :: .sl ((m_0.Triangles.getD x_l0.toNat default).map (cI .i64)) :: .i .i64 (x_l0_1 + 1) :: an 36 [], [.box 38 [.sl (m_0.Places.map GVector.cells), .sl (m_0.Triangles.map (cL (cI .i64)))], .mapN 2 (((mapC Gedge.pr (cI .i64) r1_l1_1) ++ [((Gedge.pr (Z2 m_0 x_l0 x_l0_1)), [])]).set (mapC Gedge.pr (cI .i64) r1_l1_1).length ((((mapC Gedge.pr (cI .i64) r1_l1_1) ++ [((Gedge.pr (Z2 m_0 x_l0 x_l0_1)), [])]).getD (mapC Gedge.pr (cI .i64) r1_l1_1).length default).1, (([x_l0]).map (cI .i64)))) none, .vec 167 2 ((r2_l2_1.map Gedge.cells) ++ ([[.i .i64 ((Z2 m_0 x_l0 x_l0_1).e0), .i .i64 ((Z2 m_0 x_l0 x_l0_1).e1)]] : List (List AV))) false]⟩) (p (sA (.keep []) <| sC (mnot_ok (ck := Gedge.pr) (cv := (cI .i64)) Gedge.inj h__1) <| sM (show ((0 : Nat) : Int) = 0 from rfl) <| sB (show (0 == 0) = true from rfl) <| sC (show (r2_l2_1.map Gedge.cells).length + ([[.i .i64 ((Z2 m_0 x_l0 x_l0_1).e0), .i .i64 ((Z2 m_0 x_l0 x_l0_1).e1)]] : List (List AV)).length ≤ 1073741824 from (by simpa using y__6)) <| sA (.keep []) <| sC (mnot_ok (ck := Gedge.pr) (cv := (cI .i64)) Gedge.inj h__1) <| sC (show ([[.i .i64 x_l0]] : List (List AV)) ≠ [] from (by simp)) <| sC (show ([[.i .i64 x_l0]] : List (List AV)).length ≤ 1073741824 from (by simp)) <| sA (.keep [(mapC Gedge.pr (cI .i64) r1_l1_1).length]) <| sC (show ((mapC Gedge.pr (cI .i64) r1_l1_1).length : Int) = (((mapC Gedge.pr (cI .i64) r1_l1_1).length : Nat) : Int) from rfl) <| sC (show (mapC Gedge.pr (cI .i64) r1_l1_1).length < ((mapC Gedge.pr (cI .i64) r1_l1_1) ++ [((Gedge.pr (Z2 m_0 x_l0 x_l0_1)), [])]).length from (by simp)) <| sC (show ∀ i, (none : Option Nat) = some i → i = (mapC Gedge.pr (cI .i64) r1_l1_1).length from (fun i h => by cases h)) <| sI (x_l0_1 + 1) y__2 y__3 <| sN)) (by kernel_rfl) (show _ = ⟨.agg [.sl (m_0.Places.map GVector.cells), .sl (m_0.Triangles.map (cL (cI .i64)))] :: .ptr 0 0 0 :: .any :: .nils :: .mp 1 :: .own 2 :: .i .i64 x_l0 :: .sl ((m_0.Triangles.getD x_l0.toNat default).map (cI .i64)) :: .any :: .any :: .mp 1 :: .any :: .ptr 0 0 1 :: .sl (m_0.Triangles.map (cL (cI .i64))) :: .i .i64 (m_0.Triangles.length : Int) :: .i .i64 x_l0 :: .b (decide (x_l0 < (m_0.Triangles.length : Int))) :: .i .i64 x_l0 :: .ref [.sl ((m_0.Triangles.getD x_l0.toNat default).map (cI .i64))] 0 :: .sl ((m_0.Triangles.getD x_l0.toNat default).map (cI .i64)) :: .i .i64 (x_l0_1 + 1) :: an 36 [], [.box 38 [.sl (m_0.Places.map GVector.cells), .sl (m_0.Triangles.map (cL (cI .i64)))], .mapN 2 (mapC Gedge.pr (cI .i64) (r1_l1_1 ++ [((Z2 m_0 x_l0 x_l0_1), [x_l0])])) none, .vec 167 2 ((r2_l2_1 ++ [(Z2 m_0 x_l0 x_l0_1)]).map Gedge.cells) false]⟩ from (by rw [mapC_new]; simp [List.map_set, Gedge.cells])) (ih (x_l0_1 + 1) (r1_l1_1 ++ [((Z2 m_0 x_l0 x_l0_1), [x_l0])]) (r2_l2_1 ++ [(Z2 m_0 x_l0 x_l0_1)]) (show 0 ≤ (x_l0_1 + 1) from (by omega)) (show ((r2_l2_1 ++ [(Z2 m_0 x_l0 x_l0_1)]).length : Int) ≤ (r2_l2.length : Int) + (x_l0_1 + 1) from (by simp only [List.length_append, List.length_cons, List.length_nil]; omega)) (show ∀ y ∈ (r1_l1_1 ++ [((Z2 m_0 x_l0 x_l0_1), [x_l0])]), (y.2.length : Int) ≤ 3 * x_l0 + (x_l0_1 + 1) from (by exact mnew_inv (by assumption) (by omega) (by omega))) (by omega))
  | false =>
   have gh__0 := of_decide_eq_false h__0
   have e : Za m_0 x_l0 r1_l1 r2_l2 (k + 1) x_l0_1 r1_l1_1 r2_l2_1 = (r1_l1_1, r2_l2_1) := by simp only [Za, h__0, cond_false]
   rw [e]
   exact outR (e := (.exit 2)) E0Ok Z4 [] (mR false [0, 2, 1, 5, 2, 1, 1, 8, 37]) [0, 1, 2] (sB h__0 <| sN) (by kernel_rfl) (by intro h; cases h)
def ZA (m_0 : GMesh) (x_l0 : Int) (r1_l1 : (List (Gedge × List Int))) (r2_l2 : (List Gedge)) : (List (Gedge × List Int)) × (List Gedge) := (Za m_0 x_l0 r1_l1 r2_l2 (((3 : Int) - 0).toNat + 1) 0 r1_l1 r2_l2)
theorem Zbu (m : GMesh) (i : Int) (b0 : List (Gedge × List Int)) (l0 : List Gedge) (h0 : 0 ≤ i) : ∀ (k : Nat) (x : Int) (b : List (Gedge × List Int)) (l : List Gedge), 0 ≤ x → (3 - x).toNat < k → x ≤ 3 → (l.length : Int) ≤ 3 * i + x → (∀ y ∈ b, (y.2.length : Int) ≤ 3 * i + x) → ((Za m i b0 l0 k x b l).2.length : Int) ≤ 3 * (i + 1) ∧ ∀ y ∈ (Za m i b0 l0 k x b l).1, (y.2.length : Int) ≤ 3 * (i + 1) := by
  intro k
  induction k with
  | zero => intro x b l _ hk; exact absurd hk (Nat.not_lt_zero _)
  | succ k ih =>
    intro x b l hx hk h3 hl hb
    rw [Za]
    cases hc : decide (x < 3) with
    | false => rw [cond_false]; exact ⟨by simp only; omega, fun y hy => by have := hb y hy; omega⟩
    | true =>
      have hc' := of_decide_eq_true hc
      rw [cond_true]
      cases mhas b (Z2 m i x) with
      | true =>
        rw [cond_true]
        cases (((b.getD (midx b (Z2 m i x)) default).2.length : Int) == 0) with
        | true => rw [cond_true]; exact ih _ _ _ (by omega) (by omega) (by omega) (by simp only [List.length_append, List.length_cons, List.length_nil]; omega) (mput_inv hb (by omega) (by omega))
        | false => rw [cond_false]; exact ih _ _ _ (by omega) (by omega) (by omega) (by omega) (mput_inv hb (by omega) (by omega))
      | false => rw [cond_false]; exact ih _ _ _ (by omega) (by omega) (by omega) (by simp only [List.length_append, List.length_cons, List.length_nil]; omega) (mnew_inv hb (by omega) (by omega))
theorem Zb5 (m : GMesh) (i : Int) (b : List (Gedge × List Int)) (l : List Gedge) (h0 : 0 ≤ i) (hl : (l.length : Int) ≤ 3 * i) (hb : ∀ y ∈ b, (y.2.length : Int) ≤ 3 * i) :
    ((ZA m i b l).2.length : Int) ≤ 3 * (i + 1) ∧ ∀ y ∈ (ZA m i b l).1, (y.2.length : Int) ≤ 3 * (i + 1) :=
  Zbu m i b l h0 _ 0 b l (Int.le_refl 0) (by omega) (by omega) (by omega) (fun y hy => by have := hb y hy; omega)
def ZM (m_0 : GMesh) : Nat → Int → (List (Gedge × List Int)) → (List Gedge) → (List (Gedge × List Int)) × (List Gedge)
  | 0, _, _, _ => default
  | k + 1, x_l0, r1_l1, r2_l2 => (cond (decide (x_l0 < (m_0.Triangles.length : Int)))
    (ZM m_0 k (x_l0 + 1) ((ZA m_0 x_l0 r1_l1 r2_l2).1) ((ZA m_0 x_l0 r1_l1 r2_l2).2))
    (r1_l1, r2_l2))
def Z3C (m_0 : GMesh) (r : (List (Gedge × List Int)) × (List Gedge)) : Ex × St := ((.exit 0), ⟨.agg [.sl (m_0.Places.map GVector.cells), .sl (m_0.Triangles.map (cL (cI .i64)))] :: .ptr 0 0 0 :: .any :: .nils :: .mp 1 :: .own 2 :: an 4 (.mp 1 :: .any :: .ptr 0 0 1 :: .sl (m_0.Triangles.map (cL (cI .i64))) :: an 43 []), [.box 38 [.sl (m_0.Places.map GVector.cells), .sl (m_0.Triangles.map (cL (cI .i64)))], .mapN 2 (mapC Gedge.pr (cI .i64) r.1) none, .vec 167 2 (r.2.map Gedge.cells) false]⟩)
def Z4M (m_0 : GMesh) (x_l0 : Int) (r1_l1 : (List (Gedge × List Int))) (r2_l2 : (List Gedge)) : St := ⟨.agg [.sl (m_0.Places.map GVector.cells), .sl (m_0.Triangles.map (cL (cI .i64)))] :: .ptr 0 0 0 :: .any :: .nils :: .mp 1 :: .own 2 :: an 4 (.mp 1 :: .any :: .ptr 0 0 1 :: .sl (m_0.Triangles.map (cL (cI .i64))) :: .i .i64 (m_0.Triangles.length : Int) :: .i .i64 x_l0 :: an 41 []), [.box 38 [.sl (m_0.Places.map GVector.cells), .sl (m_0.Triangles.map (cL (cI .i64)))], .mapN 2 (mapC Gedge.pr (cI .i64) r1_l1) none, .vec 167 2 (r2_l2.map Gedge.cells) false]⟩
theorem Z6O (m_0 : GMesh) (hp0 : m_0.Places.length ≤ 1073741824) (hp1 : m_0.Triangles.length ≤ 1073741824) (hp2 : ∀ t ∈ m_0.Triangles, t.length ≤ 1073741824) (hp3 : OkE m_0.Places.length m_0.Triangles) : ∀ (k : Nat) (x_l0 : Int) (r1_l1 : (List (Gedge × List Int))) (r2_l2 : (List Gedge)) (Zz : 0 ≤ x_l0) (Z2U : (r2_l2.length : Int) ≤ 3 * x_l0) (Z2y : ∀ y ∈ r1_l1, (y.2.length : Int) ≤ 3 * x_l0) (hk : ((m_0.Triangles.length : Int) - x_l0).toNat < k), Lp prog 0 (sub (bodyOf f141) [1, 1, 0, 1, 0, 0]) (Z4M m_0 x_l0 r1_l1 r2_l2) (Z3C m_0 (ZM m_0 k x_l0 r1_l1 r2_l2)).1 (Z3C m_0 (ZM m_0 k x_l0 r1_l1 r2_l2)).2 := by
 intro k
 induction k with
 | zero => intro x_l0 r1_l1 r2_l2 Zz Z2U Z2y hk; exact absurd hk (Nat.not_lt_zero _)
 | succ k ih =>
  intro x_l0 r1_l1 r2_l2 Zz Z2U Z2y hk
  cases h_0 : (decide (x_l0 < (m_0.Triangles.length : Int))) with
  | true =>
   have gh_0 := of_decide_eq_true h_0
   have y_0 : (0 : Int) ≤ x_l0 := (by assumption)
   have y_1 : x_l0 < (m_0.Triangles.length : Int) := (by assumption)
   have y_2 : (-9223372036854775808 : Int) ≤ (x_l0 + 1) := (by omega)
   have y_3 : (x_l0 + 1) ≤ (9223372036854775807 : Int) := (by omega)
   have e : ZM m_0 (k + 1) x_l0 r1_l1 r2_l2 = (ZM m_0 k (x_l0 + 1) ((ZA m_0 x_l0 r1_l1 r2_l2).1) ((ZA m_0 x_l0 r1_l1 r2_l2).2)) := by simp only [ZM, h_0, cond_true]
   rw [e]
   exact nextR E0Ok Z4 [] (mR false [0, 2, 1, 3, 4, 1, 1, 4, 41]) [0, 1, 2] (ih (x_l0 + 1) ((ZA m_0 x_l0 r1_l1 r2_l2).1) ((ZA m_0 x_l0 r1_l1 r2_l2).2) (show 0 ≤ (x_l0 + 1) from (by omega)) (show (((ZA m_0 x_l0 r1_l1 r2_l2).2).length : Int) ≤ 3 * (x_l0 + 1) from (by exact (Zb5 _ _ _ _ Zz (by assumption) (by assumption)).1)) (show ∀ y ∈ ((ZA m_0 x_l0 r1_l1 r2_l2).1), (y.2.length : Int) ≤ 3 * (x_l0 + 1) from (by exact (Zb5 _ _ _ _ Zz (by assumption) (by assumption)).2)) (by omega)) (sB h_0 <| sG (cL (cI .i64)) m_0.Triangles x_l0 y_0 y_1 <| sL (mR false [0, 2, 1, 5, 2, 1, 1, 9, 36]) 3 (lp_val (Z3B m_0 x_l0 r1_l1 r2_l2) (x := (ZA m_0 x_l0 r1_l1 r2_l2)) (Z6N m_0 x_l0 r1_l1 r2_l2 hp0 hp1 hp2 hp3 Zz Z2U Z2y h_0 (((3 : Int) - 0).toNat + 1) 0 r1_l1 r2_l2 (show 0 ≤ 0 from (by omega)) (show (r2_l2.length : Int) ≤ (r2_l2.length : Int) + 0 from (by omega)) (show ∀ y ∈ r1_l1, (y.2.length : Int) ≤ 3 * x_l0 + 0 from (by intro y hy; have q := Z2y y hy; omega)) (Nat.lt_succ_self _)) rfl) <| sI (x_l0 + 1) y_2 y_3 <| sN) (by kernel_rfl)
  | false =>
   have gh_0 := of_decide_eq_false h_0
   have e : ZM m_0 (k + 1) x_l0 r1_l1 r2_l2 = (r1_l1, r2_l2) := by simp only [ZM, h_0, cond_false]
   rw [e]
   exact outR (e := (.exit 0)) E0Ok Z4 [] (mR false [0, 2, 1, 3, 4, 1, 1, 2, 43]) [0, 1, 2] (sB h_0 <| sN) (by kernel_rfl) (by intro h; cases h)
def ZI (m_0 : GMesh) : (List (Gedge × List Int)) × (List Gedge) := (ZM m_0 (((m_0.Triangles.length : Int) - 0).toNat + 1) 0 ([] : (List (Gedge × List Int))) ([] : List Gedge))
theorem ZbA (m : GMesh) (k : Nat) (i : Int) (b : List (Gedge × List Int)) (l : List Gedge) (h0 : 0 ≤ i) : ZM m (k + 1) i b l = cond (decide (i < (m.Triangles.length : Int))) (ZM m k (i + 1) (stT (b, l) (m.Triangles.getD i.toNat default) i).1 (stT (b, l) (m.Triangles.getD i.toNat default) i).2) (b, l) := by
  have st : ∀ (x : Int) (k : Nat) (b : List (Gedge × List Int)) (l : List Gedge), x < 3 → Za m i b l (k + 1) x b l = Za m i b l (k + 1) x b l := fun _ _ _ _ _ => rfl
  have one : ∀ (b0 : List (Gedge × List Int)) (l0 : List Gedge) (k : Nat) (x : Int) (s : List (Gedge × List Int) × List Gedge), x < 3 → Za m i b0 l0 (k + 1) x s.1 s.2 = Za m i b0 l0 k (x + 1) (stE s (Z2 m i x) i).1 (stE s (Z2 m i x) i).2 := by
    intro b0 l0 k x s hx
    rw [Za, decide_eq_true hx, cond_true]
    unfold stE
    cases mhas s.1 (Z2 m i x) with
    | true =>
      rw [cond_true, cond_true]
      cases (((s.1.getD (midx s.1 (Z2 m i x)) default).2.length : Int) == 0) <;> rfl
    | false => rfl
  have tri : ZA m i b l = stT (b, l) (m.Triangles.getD i.toNat default) i := by
    unfold ZA
    show Za m i b l 4 0 (b, l).1 (b, l).2 = _
    rw [one b l 3 0 (b, l) (by omega), one b l 2 (0 + 1) _ (by omega), one b l 1 (0 + 1 + 1) _ (by omega), Za]
    show cond (decide ((3 : Int) < 3)) _ _ = _
    rw [decide_eq_false (by omega), cond_false]
    unfold Z2 stT
    simp only [Zbl]
    rfl
  rw [ZM, tri]
theorem Za5 (m : GMesh) (ok : OkE m.Places.length m.Triangles) : ETab m.Triangles m.Triangles.length (ZI m) := by
  unfold ZI
  exact ETab.loop ok (ZbA m) _ 0 ([], []) (Nat.zero_le _) (ETab.nil _) (by omega)
theorem Zbv (m : GMesh) (ok : OkE m.Places.length m.Triangles) : (ZI m).2.length ≤ 4096 := by
  have h := congrArg List.length ((Za5 m ok).sorted ok)
  rw [length_sortE] at h
  rw [h]; exact edgL_len ok
end Go.Ab
namespace Go.Proofs
open Go.Shelf
def Tryz.laysF0n6_ren : Go.Shelf.Ren := ⟨fun | 6 => 150 | 15 => 154 | 14 => 153 | 28 => 164 | 29 => 165 | 20 => 156 | 21 => 157 | 22 => 158 | 23 => 159 | 24 => 160 | 25 => 161 | 26 => 162 | 27 => 163 | 46 => 167 | 47 => 168 | 48 => 169 | 49 => 170 | 50 => 171 | 57 => 173 | n => n, fun | 22 => 163 | 24 => 167 | 25 => 175 | 3 => 3 | 39 => 178 | 0 => 0 | 53 => 189 | 55 => 191 | 4 => 4 | 46 => 182 | 45 => 181 | 50 => 186 | 5 => 5 | 9 => 9 | 66 => 193 | 70 => 197 | 76 => 200 | 77 => 201 | n => n, fun | n => n⟩
theorem Tryz.laysF0n6 : Go.Proofs.SlLaysF0.n6 Tryz.prog Tryz.laysF0n6_ren := {
  mixed := by kernel_rfl
  f6 := ⟨Tryz.f150.name, by decide, Tryz.func150.trans (congrArg some (by kernel_rfl))⟩
  f14 := ⟨Tryz.f153.name, by decide, Tryz.func153.trans (congrArg some (by kernel_rfl))⟩
  f15 := Tryz.func154.trans (congrArg some (by kernel_rfl))
  f20 := ⟨Tryz.f156.name, by decide, Tryz.func156.trans (congrArg some (by kernel_rfl))⟩
  f21 := ⟨Tryz.f157.name, by decide, Tryz.func157.trans (congrArg some (by kernel_rfl))⟩
  f22 := ⟨Tryz.f158.name, by decide, Tryz.func158.trans (congrArg some (by kernel_rfl))⟩
  f23 := ⟨Tryz.f159.name, by decide, Tryz.func159.trans (congrArg some (by kernel_rfl))⟩
  f24 := ⟨Tryz.f160.name, by decide, Tryz.func160.trans (congrArg some (by kernel_rfl))⟩
  f25 := ⟨Tryz.f161.name, by decide, Tryz.func161.trans (congrArg some (by kernel_rfl))⟩
  f26 := ⟨Tryz.f162.name, by decide, Tryz.func162.trans (congrArg some (by kernel_rfl))⟩
  f27 := ⟨Tryz.f163.name, by decide, Tryz.func163.trans (congrArg some (by kernel_rfl))⟩
  f28 := Tryz.func164.trans (congrArg some (by kernel_rfl))
  f29 := Tryz.func165.trans (congrArg some (by kernel_rfl))
  f46 := ⟨Tryz.f167.name, by decide, Tryz.func167.trans (congrArg some (by kernel_rfl))⟩
  f47 := Tryz.func168.trans (congrArg some (by kernel_rfl))
  f48 := Tryz.func169.trans (congrArg some (by kernel_rfl))
  f49 := ⟨Tryz.f170.name, by decide, Tryz.func170.trans (congrArg some (by kernel_rfl))⟩
  f50 := ⟨Tryz.f171.name, by decide, Tryz.func171.trans (congrArg some (by kernel_rfl))⟩
  f57 := ⟨Tryz.f173.name, by decide, Tryz.func173.trans (congrArg some (by kernel_rfl))⟩
  t0 := Tryz.underlying0
  a0 := Tryz.isAgg0
  z0 := Tryz.sizeOf0
  v0 := Tryz.zeroValue0
  t3 := Tryz.underlying3
  a3 := Tryz.isAgg3
  z3 := Tryz.sizeOf3
  v3 := Tryz.zeroValue3
  t4 := Tryz.underlying4
  a4 := Tryz.isAgg4
  z4 := Tryz.sizeOf4
  v4 := Tryz.zeroValue4
  t5 := Tryz.underlying5
  a5 := Tryz.isAgg5
  z5 := Tryz.sizeOf5
  v5 := Tryz.zeroValue5
  t9 := Tryz.underlying9
  a9 := Tryz.isAgg9
  z9 := Tryz.sizeOf9
  v9 := Tryz.zeroValue9
  t22 := Tryz.underlying163
  a22 := Tryz.isAgg163
  z22 := Tryz.sizeOf163
  v22 := Tryz.zeroValue163
  t25 := Tryz.underlying175
  a25 := Tryz.isAgg175
  z25 := Tryz.sizeOf175
  v25 := Tryz.zeroValue175
  t39 := Tryz.underlying178
  a39 := Tryz.isAgg178
  z39 := Tryz.sizeOf178
  v39 := Tryz.zeroValue178
  t45 := Tryz.underlying181
  a45 := Tryz.isAgg181
  z45 := Tryz.sizeOf181
  v45 := Tryz.zeroValue181
  t46 := Tryz.underlying182
  a46 := Tryz.isAgg182
  z46 := Tryz.sizeOf182
  v46 := Tryz.zeroValue182
  t50 := Tryz.underlying186
  a50 := Tryz.isAgg186
  z50 := Tryz.sizeOf186
  v50 := Tryz.zeroValue186
  t53 := Tryz.underlying189
  a53 := Tryz.isAgg189
  z53 := Tryz.sizeOf189
  v53 := Tryz.zeroValue189
  t55 := Tryz.underlying191
  a55 := Tryz.isAgg191
  z55 := Tryz.sizeOf191
  v55 := Tryz.zeroValue191
  t66 := Tryz.underlying193
  a66 := Tryz.isAgg193
  z66 := Tryz.sizeOf193
  v66 := Tryz.zeroValue193
  t70 := Tryz.underlying197
  a70 := Tryz.isAgg197
  z70 := Tryz.sizeOf197
  v70 := Tryz.zeroValue197
  t76 := Tryz.underlying200
  a76 := Tryz.isAgg200
  z76 := Tryz.sizeOf200
  v76 := Tryz.zeroValue200
  t77 := Tryz.underlying201
  a77 := Tryz.isAgg201
  z77 := Tryz.sizeOf201
  v77 := Tryz.zeroValue201 }
end Go.Proofs
namespace Go.Ab
open Go.RowKit Go.Proofs.Tryz
theorem ZbF (x y : Int) : Z18 x y = if x < y then -1 else if x > y then 1 else 0 := by
  unfold Z18 Z2x
  simp only [bne_self_eq_false, cond_false]
  by_cases h1 : x < y
  · simp [h1]
  · by_cases h2 : x > y <;> simp [h1, h2]
theorem ZbG (a b : Gedge) : Z4G a b = cmpP a.pr b.pr := by
  unfold Z4G Z1q Z1J cmpP Gedge.pr
  show (match Zf [a.e0, a.e1] [b.e0, b.e1] 3 0 with | .inl r1 => r1 | .inr r1 => cond (decide (((2 : Nat) : Int) < ((2 : Nat) : Int))) (-1) 0) = _
  simp only [Zf, ZbF, List.length_cons, List.length_nil]
  by_cases h1 : a.e0 < b.e0
  · simp [h1]
  · by_cases h2 : a.e0 > b.e0
    · simp [h1, h2]
    · by_cases h3 : a.e1 < b.e1
      · simp [h1, h2, h3]
      · by_cases h4 : a.e1 > b.e1 <;> simp [h1, h2, h3, h4]
def Z3Y (l : List Gedge) : List Gedge := sortE Gedge.pr l
theorem Z74 (l : List Gedge) (h : l.length ≤ 1073741824) : CallSt prog 150 [.vec 167 2 (l.map Gedge.cells) false] [.own 0, .fn 151 []] (.tup []) [.vec 167 2 ((Z3Y l).map Gedge.cells) false] :=
  sort_row laysF0n6 isAgg167 sizeOf167 Gedge.pr Gedge.inj Gedge.cells (fun _ => rfl) 167 151 ⟨_, func150, rfl, by kernel_rfl⟩ (Z6k default default).1
    (fun a b W => ((Z6k a b).2 W #[keyV a.pr, keyV b.pr] ⟨rfl, fun j c e => by match j, e with | 0, e => cases e; exact Rep.agg _ _ rfl (fun i c e => by match i, e with | 0, e => cases e; exact .i _ _ | 1, e => cases e; exact .i _ _) | 1, e => cases e; exact Rep.agg _ _ rfl (fun i c e => by match i, e with | 0, e => cases e; exact .i _ _ | 1, e => cases e; exact .i _ _)⟩).mono fun e w' ⟨v, μ', he, hb, _, hr⟩ => by
      cases hr; rw [ZbG] at he; exact ⟨he, hb⟩) l h
def Z1 (m_0 : GMesh) : (List (Gedge × List Int)) × (List Gedge) := ((ZI m_0).1, (Z3Y ((ZI m_0).2)))
theorem Z75 (m : GMesh) (ok : OkE m.Places.length m.Triangles) : (Z1 m).2 = edgL m.Places.length m.Triangles := (Za5 m ok).sorted ok
theorem ZaI (m : GMesh) (ok : OkE m.Places.length m.Triangles) {e : Gedge} (he : e ∈ (Z1 m).2) : mhas (Z1 m).1 e = true ∧ ((Z1 m).1.getD (midx (Z1 m).1 e) default).2 = idxP m.Triangles e.e0 e.e1 := by
  rw [Z75 m ok] at he
  have h := (Za5 m ok).at ok he
  exact ⟨h.1, h.2.trans (idxE_eq ok (mem_edgL.1 he).1.2.1)⟩
theorem Zbm (m : GMesh) (ok : OkE m.Places.length m.Triangles) : (Z1 m).2.length ≤ 4096 := by
  rw [Z75 m ok]; exact edgL_len ok
theorem Z8D (m : GMesh) (ok : OkE m.Places.length m.Triangles) {i : Int} (h0 : 0 ≤ i) (hi : i < ((Z1 m).2.length : Int)) : (Z1 m).2.getD i.toNat default ∈ (Z1 m).2 := by
  have hn : i.toNat < (Z1 m).2.length := by omega
  rw [List.getD_eq_getElem?_getD, List.getElem?_eq_getElem hn]; exact List.getElem_mem hn
theorem Z5D (m : GMesh) (ok : OkE m.Places.length m.Triangles) {i : Int} (h0 : 0 ≤ i) (hi : i < ((Z1 m).2.length : Int)) :
    0 ≤ ((Z1 m).2.getD i.toNat default).e0 ∧ ((Z1 m).2.getD i.toNat default).e0 < ((Z1 m).2.getD i.toNat default).e1 ∧ ((Z1 m).2.getD i.toNat default).e1 < (m.Places.length : Int) ∧ (m.Places.length : Int) ≤ 64 ∧ ((Z1 m).2.length : Int) ≤ 4096 := by
  have hl := Zbm m ok
  have h64 := ok.1
  have hm := Z8D m ok h0 hi
  rw [Z75 m ok] at hm
  have hb := edgL_at hm
  rw [← Z75 m ok] at hb
  exact ⟨hb.1, hb.2.1, hb.2.2, by omega, by omega⟩
theorem Z7d (m : GMesh) (ok : OkE m.Places.length m.Triangles) {i : Int} (h0 : 0 ≤ i) (hi : i < ((Z1 m).2.length : Int))
    (h2 : ((((Z1 m).1.getD (midx (Z1 m).1 ((Z1 m).2.getD i.toNat default)) default).2.length : Int)) = 2) :
    0 ≤ ((Z1 m).1.getD (midx (Z1 m).1 ((Z1 m).2.getD i.toNat default)) default).2.getD 0 default ∧ ((Z1 m).1.getD (midx (Z1 m).1 ((Z1 m).2.getD i.toNat default)) default).2.getD 0 default < (m.Triangles.length : Int) ∧
    0 ≤ ((Z1 m).1.getD (midx (Z1 m).1 ((Z1 m).2.getD i.toNat default)) default).2.getD 1 default ∧ ((Z1 m).1.getD (midx (Z1 m).1 ((Z1 m).2.getD i.toNat default)) default).2.getD 1 default < (m.Triangles.length : Int) ∧ (m.Triangles.length : Int) ≤ 128 := by
  obtain ⟨g1, g2⟩ := ZaI m ok (Z8D m ok h0 hi)
  rw [g2] at h2 ⊢
  have a1 := idxP_at (ts := m.Triangles) (a := ((Z1 m).2.getD i.toNat default).e0) (b := ((Z1 m).2.getD i.toNat default).e1) (k := 0) (by omega)
  have a2 := idxP_at (ts := m.Triangles) (a := ((Z1 m).2.getD i.toNat default).e0) (b := ((Z1 m).2.getD i.toNat default).e1) (k := 1) (by omega)
  have := ok.2.1
  exact ⟨a1.1, a1.2.1, a2.1, a2.2.1, by omega⟩
theorem Z7k (m_0 : GMesh) (hp0 : m_0.Places.length ≤ 1073741824) (hp1 : m_0.Triangles.length ≤ 1073741824) (hp2 : ∀ t ∈ m_0.Triangles, t.length ≤ 1073741824) (hp3 : OkE m_0.Places.length m_0.Triangles)  : Fn prog 141 [.agg [.sl (m_0.Places.map GVector.cells), .sl (m_0.Triangles.map (cL (cI .i64)))]] (.tup [.mp 0, .own 1]) [.mapN 2 (mapC Gedge.pr (cI .i64) ((Z1 m_0).1)) none, .vec 167 2 (((Z1 m_0).2).map Gedge.cells) false] := by
 have y0 : ((ZI m_0).2).length ≤ 1073741824 := (by (have q := Zbv m_0 hp3; omega))
 refine fnS E0Ok Z4 (c := bodyOf f141) [] (.tup [.mp 0, .own 1]) [.mapN 2 (mapC Gedge.pr (cI .i64) ((ZI m_0).1)) none, .vec 167 2 ((Z3Y ((ZI m_0).2)).map Gedge.cells) false] func141 (sZ (cL (cI .i64)) m_0.Triangles <| sL (mR false [0, 2, 1, 3, 4, 1, 1, 4, 41]) 3 (lp_cast (st2 := ⟨.agg [.sl (m_0.Places.map GVector.cells), .sl (m_0.Triangles.map (cL (cI .i64)))] :: .ptr 0 0 0 :: .any :: .nils :: .mp 1 :: .own 2 :: an 4 (.mp 1 :: .any :: .ptr 0 0 1 :: .sl (m_0.Triangles.map (cL (cI .i64))) :: .i .i64 (m_0.Triangles.length : Int) :: .i .i64 0 :: an 41 []), [.box 38 [.sl (m_0.Places.map GVector.cells), .sl (m_0.Triangles.map (cL (cI .i64)))], .mapN 2 [] none, .vec 167 2 ([] : List (List AV)) false]⟩) (lp_val (Z3C m_0) (x := (ZI m_0)) (Z6O m_0 hp0 hp1 hp2 hp3 (((m_0.Triangles.length : Int) - 0).toNat + 1) 0 ([] : (List (Gedge × List Int))) ([] : List Gedge) (show 0 ≤ 0 from (by omega)) (show (([] : List Gedge).length : Int) ≤ 3 * 0 from (by simp; done)) (show ∀ y ∈ ([] : (List (Gedge × List Int))), (y.2.length : Int) ≤ 3 * 0 from (by simp; done)) (Nat.lt_succ_self _)) rfl) (by simp [Z4M, mapC, Gedge.cells])) <| sS (CallSt.frame (Z74 ((ZI m_0).2) y0) [2] (R := [.box 38 [.sl (m_0.Places.map GVector.cells), .sl (m_0.Triangles.map (cL (cI .i64)))], .mapN 2 (mapC Gedge.pr (cI .i64) ((ZI m_0).1)) none, .vec 167 2 (((ZI m_0).2).map Gedge.cells) false]) (args' := [.own 2, .fn 151 []]) rfl rfl rfl rfl rfl rfl) <| sK [1, 2] sN) rfl (by kernel_rfl) (by kernel_rfl) rfl ?_ ?_
 · rfl
 · simp [Z1]
def Z41 (t_0 : (List Int)) (e_1 : Gedge) : Int := (IntKind.wrap .i64 ((IntKind.wrap .i64 ((IntKind.wrap .i64 ((IntKind.wrap .i64 ((t_0.getD 0 default) + (t_0.getD 1 default))) + (t_0.getD 2 default))) - e_1.e0)) - e_1.e1))
def Z45 (t_0 : (List Int)) (e_1 : Gedge) : Int := (Z41 t_0 e_1)
theorem Z7D (t_0 : (List Int)) (e_1 : Gedge) (hp0 : t_0.length ≤ 1073741824) (hp1 : t_0.length = 3)  : Fn prog 142 [.sl (t_0.map (cI .i64)), .agg [.i .i64 e_1.e0, .i .i64 e_1.e1]] (.i .i64 (Z45 t_0 e_1)) [] := by
 have y0 : (0 : Int) ≤ 0 := (by omega)
 have y1 : 0 < (t_0.length : Int) := (by omega)
 have y2 : (0 : Int) ≤ 1 := (by omega)
 have y3 : 1 < (t_0.length : Int) := (by omega)
 have y4 : (0 : Int) ≤ 2 := (by omega)
 have y5 : 2 < (t_0.length : Int) := (by omega)
 refine fnS E0Ok Z4 (c := bodyOf f142) [] (.i .i64 (Z41 t_0 e_1)) [] func142 (sK [16, 16] <| sG (cI .i64) t_0 0 y0 y1 <| sG (cI .i64) t_0 1 y2 y3 <| sW .i64 ((t_0.getD 0 default) + (t_0.getD 1 default)) <| sG (cI .i64) t_0 2 y4 y5 <| sW .i64 ((IntKind.wrap .i64 ((t_0.getD 0 default) + (t_0.getD 1 default))) + (t_0.getD 2 default)) <| sC (show (0 : Int) ≤ 0 ∧ 0 < ((2 : Nat) : Int) from (by decide)) <| sW .i64 ((IntKind.wrap .i64 ((IntKind.wrap .i64 ((t_0.getD 0 default) + (t_0.getD 1 default))) + (t_0.getD 2 default))) - e_1.e0) <| sC (show (0 : Int) ≤ 1 ∧ 1 < ((2 : Nat) : Int) from (by decide)) <| sM (show IntKind.wrap .i64 ((IntKind.wrap .i64 ((IntKind.wrap .i64 ((IntKind.wrap .i64 ((t_0.getD 0 default) + (t_0.getD 1 default))) + (t_0.getD 2 default))) - e_1.e0)) - e_1.e1) = (Z41 t_0 e_1) from rfl) <| sK [] sN) rfl (by kernel_rfl) (by kernel_rfl) rfl ?_ ?_
 · rfl
 · rfl
def Z2i (m_0 : GMesh) (x_l0 : Int) : Int := (Z45 (m_0.Triangles.getD ((((Z1 m_0).1).getD (midx ((Z1 m_0).1) (((Z1 m_0).2).getD x_l0.toNat default)) default).2.getD 0 default).toNat default) (((Z1 m_0).2).getD x_l0.toNat default))
def Z2j (m_0 : GMesh) (x_l0 : Int) : Int := (Z45 (m_0.Triangles.getD ((((Z1 m_0).1).getD (midx ((Z1 m_0).1) (((Z1 m_0).2).getD x_l0.toNat default)) default).2.getD 1 default).toNat default) (((Z1 m_0).2).getD x_l0.toNat default))
def ZB (m_0 : GMesh) : Nat → Int → (List (List Int)) → (List (List Int))
  | 0, _, _ => default
  | k + 1, x_l0, r1_l1 => (cond (decide (x_l0 < (((Z1 m_0).2).length : Int)))
    (cond (mhas ((Z1 m_0).1) (((Z1 m_0).2).getD x_l0.toNat default))
      (cond (((((Z1 m_0).1).getD (midx ((Z1 m_0).1) (((Z1 m_0).2).getD x_l0.toNat default)) default).2.length : Int) == 2)
        (ZB m_0 k (x_l0 + 1) (r1_l1 ++ [[(((Z1 m_0).2).getD x_l0.toNat default).e0, (((Z1 m_0).2).getD x_l0.toNat default).e1, (Z2i m_0 x_l0), (Z2j m_0 x_l0)]]))
        (ZB m_0 k (x_l0 + 1) r1_l1))
      (ZB m_0 k (x_l0 + 1) r1_l1))
    r1_l1)
def Z4T (m_0 : GMesh) (r : (List (List Int))) : Ex × St := ((.exit 0), ⟨.agg [.sl (m_0.Places.map GVector.cells), .sl (m_0.Triangles.map (cL (cI .i64)))] :: .ptr 0 0 0 :: .nils :: .own 1 :: .any :: .own 2 :: an 5 (.agg [.sl (m_0.Places.map GVector.cells), .sl (m_0.Triangles.map (cL (cI .i64)))] :: .any :: .mp 3 :: .own 2 :: .own 2 :: an 39 []), [.box 38 [.sl (m_0.Places.map GVector.cells), .sl (m_0.Triangles.map (cL (cI .i64)))], .nest 49 (r.map fun l => l.map (cI .i64)) false, .vec 167 2 (((Z1 m_0).2).map Gedge.cells) false, .mapN 2 (mapC Gedge.pr (cI .i64) ((Z1 m_0).1)) none]⟩)
def Z6w (m_0 : GMesh) (x_l0 : Int) (r1_l1 : (List (List Int))) : St := ⟨.agg [.sl (m_0.Places.map GVector.cells), .sl (m_0.Triangles.map (cL (cI .i64)))] :: .ptr 0 0 0 :: .nils :: .own 1 :: .mp 2 :: .own 3 :: an 5 (.agg [.sl (m_0.Places.map GVector.cells), .sl (m_0.Triangles.map (cL (cI .i64)))] :: .any :: .mp 2 :: .own 3 :: .own 3 :: .i .i64 (((Z1 m_0).2).length : Int) :: .i .i64 x_l0 :: an 37 []), [.box 38 [.sl (m_0.Places.map GVector.cells), .sl (m_0.Triangles.map (cL (cI .i64)))], .nest 49 (r1_l1.map fun l => l.map (cI .i64)) false, .mapN 2 (mapC Gedge.pr (cI .i64) ((Z1 m_0).1)) none, .vec 167 2 (((Z1 m_0).2).map Gedge.cells) false]⟩
set_option maxHeartbeats 1000000 in
theorem Z8E (m_0 : GMesh) (hp0 : m_0.Places.length ≤ 1073741824) (hp1 : m_0.Triangles.length ≤ 1073741824) (hp2 : ∀ t ∈ m_0.Triangles, t.length ≤ 1073741824) (hp3 : OkE m_0.Places.length m_0.Triangles) : ∀ (k : Nat) (x_l0 : Int) (r1_l1 : (List (List Int))) (ZV : 0 ≤ x_l0) (Z5R : (r1_l1.length : Int) ≤ x_l0) (hk : ((((Z1 m_0).2).length : Int) - x_l0).toNat < k), Lp prog 0 (sub (bodyOf f115) [1, 1, 1, 0, 1, 0, 0]) (Z6w m_0 x_l0 r1_l1) (Z4T m_0 (ZB m_0 k x_l0 r1_l1)).1 (Z4T m_0 (ZB m_0 k x_l0 r1_l1)).2 := by
 intro k
 induction k with
 | zero => intro x_l0 r1_l1 ZV Z5R hk; exact absurd hk (Nat.not_lt_zero _)
 | succ k ih =>
  intro x_l0 r1_l1 ZV Z5R hk
  cases h_0 : (decide (x_l0 < (((Z1 m_0).2).length : Int))) with
  | true =>
   have gh_0 := of_decide_eq_true h_0
   have y_0 : (0 : Int) ≤ x_l0 := (by assumption)
   have y_1 : x_l0 < (((Z1 m_0).2).length : Int) := (by assumption)
   have y_2 : x_l0.toNat < ((Z1 m_0).2).length := (by omega)
   have p {a C} (s : Scr a C) := sB h_0 <| sX Gedge.cells ((Z1 m_0).2) x_l0 y_0 y_1 <| sV Gedge.cells ((Z1 m_0).2) x_l0.toNat y_2 <| s
   cases h_1 : (mhas ((Z1 m_0).1) (((Z1 m_0).2).getD x_l0.toNat default)) with
   | true =>
    have m_8 := midx_lt h_1
    have q {a C} (s : Scr a C) := p (sA (.keep [midx ((Z1 m_0).1) (((Z1 m_0).2).getD x_l0.toNat default)]) <| sC (mget_ok (ck := Gedge.pr) (cv := (cI .i64)) h_1) <| sM (mget_len (ck := Gedge.pr) (cv := (cI .i64)) (l := (Z1 m_0).1) (j := (midx ((Z1 m_0).1) (((Z1 m_0).2).getD x_l0.toNat default)))) <| s)
    clear p
    cases h_2 : (((((Z1 m_0).1).getD (midx ((Z1 m_0).1) (((Z1 m_0).2).getD x_l0.toNat default)) default).2.length : Int) == 2) with
    | true =>
     have gh_2 := eq_of_beq h_2
     have y_3 : (0 : Int) ≤ 0 := by clear q; exact (by omega)
     have y_4 : 0 < ((((Z1 m_0).1).getD (midx ((Z1 m_0).1) (((Z1 m_0).2).getD x_l0.toNat default)) default).2.length : Int) := by clear q; exact (by omega)
     have y_5 : 0 < (((Z1 m_0).1).getD (midx ((Z1 m_0).1) (((Z1 m_0).2).getD x_l0.toNat default)) default).2.length := by clear q; exact (by omega)
     have y_6 : (0 : Int) ≤ ((((Z1 m_0).1).getD (midx ((Z1 m_0).1) (((Z1 m_0).2).getD x_l0.toNat default)) default).2.getD 0 default) := by clear q; exact (by ((have q := Z7d m_0 hp3 ZV (of_decide_eq_true (by assumption)) (by assumption); omega)))
     have y_7 : ((((Z1 m_0).1).getD (midx ((Z1 m_0).1) (((Z1 m_0).2).getD x_l0.toNat default)) default).2.getD 0 default) < (m_0.Triangles.length : Int) := by clear q; exact (by ((have q := Z7d m_0 hp3 ZV (of_decide_eq_true (by assumption)) (by assumption); omega)))
     have y_8 : (m_0.Triangles.getD ((((Z1 m_0).1).getD (midx ((Z1 m_0).1) (((Z1 m_0).2).getD x_l0.toNat default)) default).2.getD 0 default).toNat default).length ≤ 1073741824 := by clear q; exact (by (have q := Z7d m_0 hp3 ZV (of_decide_eq_true (by assumption)) (by assumption); have q1 := (hp3.tris.at q.1 q.2.1).1; have q2 := (hp3.tris.at q.2.2.1 q.2.2.2.1).1; omega))
     have y_9 : (m_0.Triangles.getD ((((Z1 m_0).1).getD (midx ((Z1 m_0).1) (((Z1 m_0).2).getD x_l0.toNat default)) default).2.getD 0 default).toNat default).length = 3 := by clear q; exact (by (have q := Z7d m_0 hp3 ZV (of_decide_eq_true (by assumption)) (by assumption); have q1 := (hp3.tris.at q.1 q.2.1).1; have q2 := (hp3.tris.at q.2.2.1 q.2.2.2.1).1; exact q1))
     have y_10 : (0 : Int) ≤ 1 := by clear q; exact (by omega)
     have y_11 : 1 < ((((Z1 m_0).1).getD (midx ((Z1 m_0).1) (((Z1 m_0).2).getD x_l0.toNat default)) default).2.length : Int) := by clear q; exact (by omega)
     have y_12 : 1 < (((Z1 m_0).1).getD (midx ((Z1 m_0).1) (((Z1 m_0).2).getD x_l0.toNat default)) default).2.length := by clear q; exact (by omega)
     have y_13 : (0 : Int) ≤ ((((Z1 m_0).1).getD (midx ((Z1 m_0).1) (((Z1 m_0).2).getD x_l0.toNat default)) default).2.getD 1 default) := by clear q; exact (by ((have q := Z7d m_0 hp3 ZV (of_decide_eq_true (by assumption)) (by assumption); omega)))
     have y_14 : ((((Z1 m_0).1).getD (midx ((Z1 m_0).1) (((Z1 m_0).2).getD x_l0.toNat default)) default).2.getD 1 default) < (m_0.Triangles.length : Int) := by clear q; exact (by ((have q := Z7d m_0 hp3 ZV (of_decide_eq_true (by assumption)) (by assumption); omega)))
     have y_15 : (m_0.Triangles.getD ((((Z1 m_0).1).getD (midx ((Z1 m_0).1) (((Z1 m_0).2).getD x_l0.toNat default)) default).2.getD 1 default).toNat default).length ≤ 1073741824 := by clear q; exact (by (have q := Z7d m_0 hp3 ZV (of_decide_eq_true (by assumption)) (by assumption); have q1 := (hp3.tris.at q.1 q.2.1).1; have q2 := (hp3.tris.at q.2.2.1 q.2.2.2.1).1; omega))
     have y_16 : (m_0.Triangles.getD ((((Z1 m_0).1).getD (midx ((Z1 m_0).1) (((Z1 m_0).2).getD x_l0.toNat default)) default).2.getD 1 default).toNat default).length = 3 := by clear q; exact (by (have q := Z7d m_0 hp3 ZV (of_decide_eq_true (by assumption)) (by assumption); have q1 := (hp3.tris.at q.1 q.2.1).1; have q2 := (hp3.tris.at q.2.2.1 q.2.2.2.1).1; exact q2))
     have y_17 : r1_l1.length + [[(((Z1 m_0).2).getD x_l0.toNat default).e0, (((Z1 m_0).2).getD x_l0.toNat default).e1, (Z2i m_0 x_l0), (Z2j m_0 x_l0)]].length ≤ 1073741824 := by clear q; exact (by ((have q := Z5D m_0 hp3 ZV (of_decide_eq_true (by assumption)); (simp only [List.length_append, List.length_cons, List.length_nil]; omega))))
     have y_18 : (-9223372036854775808 : Int) ≤ (x_l0 + 1) := by clear q; exact (by omega)
     have y_19 : (x_l0 + 1) ≤ (9223372036854775807 : Int) := by clear q; exact (by ((have q := Z5D m_0 hp3 ZV (of_decide_eq_true (by assumption)); omega)))
     have e : ZB m_0 (k + 1) x_l0 r1_l1 = (ZB m_0 k (x_l0 + 1) (r1_l1 ++ [[(((Z1 m_0).2).getD x_l0.toNat default).e0, (((Z1 m_0).2).getD x_l0.toNat default).e1, (Z2i m_0 x_l0), (Z2j m_0 x_l0)]])) := by simp only [ZB, h_0, h_1, h_2, cond_true]
     rw [e]
     exact nextS E0Ok Z4 [] (mR false [0, 6, 5, 1, 1, 5, 37]) [0, 1, 2, 3] (⟨.agg [.sl (m_0.Places.map GVector.cells), .sl (m_0.Triangles.map (cL (cI .i64)))] :: .ptr 0 0 0 :: .nils :: .own 1 :: .mp 2 :: .own 3 :: an 5 (.agg [.sl (m_0.Places.map GVector.cells), .sl (m_0.Triangles.map (cL (cI .i64)))] :: .any :: .mp 2 :: .own 3 :: .own 3 :: .i .i64 (((Z1 m_0).2).length : Int) :: .i .i64 (x_l0 + 1) :: an 37 []), [.box 38 [.sl (m_0.Places.map GVector.cells), .sl (m_0.Triangles.map (cL (cI .i64)))], .nest 49 ((r1_l1.map fun l => l.map (cI .i64)) ++ [([[.i .i64 ((((Z1 m_0).2).getD x_l0.toNat default).e0)], [.i .i64 ((((Z1 m_0).2).getD x_l0.toNat default).e1)], [.i .i64 (Z2i m_0 x_l0)], [.i .i64 (Z2j m_0 x_l0)]] : List (List AV))]) false, .mapN 2 (mapC Gedge.pr (cI .i64) ((Z1 m_0).1)) none, .vec 167 2 (((Z1 m_0).2).map Gedge.cells) false]⟩) (q (sB h_2 <| sK [25, 25] <| sC (show (0 : Int) ≤ 0 ∧ 0 < ((2 : Nat) : Int) from (by decide)) <| sC (show (0 : Int) ≤ 1 ∧ 1 < ((2 : Nat) : Int) from (by decide)) <| sC (mget_ix (ck := Gedge.pr) (cv := (cI .i64)) (l := (Z1 m_0).1) (j := (midx ((Z1 m_0).1) (((Z1 m_0).2).getD x_l0.toNat default))) (i := 0) y_3 y_4) <| sE (mget_el (ck := Gedge.pr) (cv := (cI .i64)) (l := (Z1 m_0).1) (j := (midx ((Z1 m_0).1) (((Z1 m_0).2).getD x_l0.toNat default))) (i := 0) y_5) <| sG (cL (cI .i64)) m_0.Triangles ((((Z1 m_0).1).getD (midx ((Z1 m_0).1) (((Z1 m_0).2).getD x_l0.toNat default)) default).2.getD 0 default) y_6 y_7 <| sF (Z7D (m_0.Triangles.getD ((((Z1 m_0).1).getD (midx ((Z1 m_0).1) (((Z1 m_0).2).getD x_l0.toNat default)) default).2.getD 0 default).toNat default) (((Z1 m_0).2).getD x_l0.toNat default) y_8 y_9) <| sC (mget_ix (ck := Gedge.pr) (cv := (cI .i64)) (l := (Z1 m_0).1) (j := (midx ((Z1 m_0).1) (((Z1 m_0).2).getD x_l0.toNat default))) (i := 1) y_10 y_11) <| sE (mget_el (ck := Gedge.pr) (cv := (cI .i64)) (l := (Z1 m_0).1) (j := (midx ((Z1 m_0).1) (((Z1 m_0).2).getD x_l0.toNat default))) (i := 1) y_12) <| sG (cL (cI .i64)) m_0.Triangles ((((Z1 m_0).1).getD (midx ((Z1 m_0).1) (((Z1 m_0).2).getD x_l0.toNat default)) default).2.getD 1 default) y_13 y_14 <| sF (Z7D (m_0.Triangles.getD ((((Z1 m_0).1).getD (midx ((Z1 m_0).1) (((Z1 m_0).2).getD x_l0.toNat default)) default).2.getD 1 default).toNat default) (((Z1 m_0).2).getD x_l0.toNat default) y_15 y_16) <| sC (show (r1_l1.map fun l => l.map (cI .i64)).length + [([[.i .i64 ((((Z1 m_0).2).getD x_l0.toNat default).e0)], [.i .i64 ((((Z1 m_0).2).getD x_l0.toNat default).e1)], [.i .i64 (Z2i m_0 x_l0)], [.i .i64 (Z2j m_0 x_l0)]] : List (List AV))].length ≤ 1073741824 from (by simpa using y_17)) <| sI (x_l0 + 1) y_18 y_19 <| sN)) (by kernel_rfl) (show _ = ⟨.agg [.sl (m_0.Places.map GVector.cells), .sl (m_0.Triangles.map (cL (cI .i64)))] :: .ptr 0 0 0 :: .nils :: .own 1 :: .mp 2 :: .own 3 :: an 5 (.agg [.sl (m_0.Places.map GVector.cells), .sl (m_0.Triangles.map (cL (cI .i64)))] :: .any :: .mp 2 :: .own 3 :: .own 3 :: .i .i64 (((Z1 m_0).2).length : Int) :: .i .i64 (x_l0 + 1) :: an 37 []), [.box 38 [.sl (m_0.Places.map GVector.cells), .sl (m_0.Triangles.map (cL (cI .i64)))], .nest 49 ((r1_l1 ++ [[(((Z1 m_0).2).getD x_l0.toNat default).e0, (((Z1 m_0).2).getD x_l0.toNat default).e1, (Z2i m_0 x_l0), (Z2j m_0 x_l0)]]).map fun l => l.map (cI .i64)) false, .mapN 2 (mapC Gedge.pr (cI .i64) ((Z1 m_0).1)) none, .vec 167 2 (((Z1 m_0).2).map Gedge.cells) false]⟩ from (by simp [cL, cI])) (ih (x_l0 + 1) (r1_l1 ++ [[(((Z1 m_0).2).getD x_l0.toNat default).e0, (((Z1 m_0).2).getD x_l0.toNat default).e1, (Z2i m_0 x_l0), (Z2j m_0 x_l0)]]) (show 0 ≤ (x_l0 + 1) from (by omega)) (show ((r1_l1 ++ [[(((Z1 m_0).2).getD x_l0.toNat default).e0, (((Z1 m_0).2).getD x_l0.toNat default).e1, (Z2i m_0 x_l0), (Z2j m_0 x_l0)]]).length : Int) ≤ (x_l0 + 1) from (by ((have q := Z5D m_0 hp3 ZV (of_decide_eq_true (by assumption)); (simp only [List.length_append, List.length_cons, List.length_nil]; omega))))) (by omega))
    | false =>
     have gh_2 := ne_of_beq_false h_2
     have y_3 : (-9223372036854775808 : Int) ≤ (x_l0 + 1) := by clear q; exact (by omega)
     have y_4 : (x_l0 + 1) ≤ (9223372036854775807 : Int) := by clear q; exact (by ((have q := Z5D m_0 hp3 ZV (of_decide_eq_true (by assumption)); omega)))
     have e : ZB m_0 (k + 1) x_l0 r1_l1 = (ZB m_0 k (x_l0 + 1) r1_l1) := by simp only [ZB, h_0, h_1, h_2, cond_true, cond_false]
     rw [e]
     exact nextR E0Ok Z4 [] (mR false [0, 6, 5, 1, 1, 5, 37]) [0, 1, 2, 3] (ih (x_l0 + 1) r1_l1 (show 0 ≤ (x_l0 + 1) from (by omega)) (show (r1_l1.length : Int) ≤ (x_l0 + 1) from (by omega)) (by omega)) (q (sB h_2 <| sI (x_l0 + 1) y_3 y_4 <| sN)) (by kernel_rfl)
   | false =>
    have y_3 : (-9223372036854775808 : Int) ≤ (x_l0 + 1) := by clear p; exact (by omega)
    have y_4 : (x_l0 + 1) ≤ (9223372036854775807 : Int) := by clear p; exact (by ((have q := Z5D m_0 hp3 ZV (of_decide_eq_true (by assumption)); omega)))
    have e : ZB m_0 (k + 1) x_l0 r1_l1 = (ZB m_0 k (x_l0 + 1) r1_l1) := by simp only [ZB, h_0, h_1, cond_true, cond_false]
    rw [e]
    exact nextR E0Ok Z4 [] (mR false [0, 6, 5, 1, 1, 5, 37]) [0, 1, 2, 3] (ih (x_l0 + 1) r1_l1 (show 0 ≤ (x_l0 + 1) from (by omega)) (show (r1_l1.length : Int) ≤ (x_l0 + 1) from (by omega)) (by omega)) (p (sA (.keep []) <| sC (mnot_ok (ck := Gedge.pr) (cv := (cI .i64)) Gedge.inj h_1) <| sM (show ((0 : Nat) : Int) = 0 from rfl) <| sB (show (0 == 2) = false from rfl) <| sI (x_l0 + 1) y_3 y_4 <| sN)) (by kernel_rfl)
  | false =>
   have gh_0 := of_decide_eq_false h_0
   have e : ZB m_0 (k + 1) x_l0 r1_l1 = r1_l1 := by simp only [ZB, h_0, cond_false]
   rw [e]
   exact outR (e := (.exit 0)) E0Ok Z4 [] (mR false [0, 4, 1, 1, 5, 1, 1, 3, 39]) [0, 1, 3, 2] (sB h_0 <| sN) (by kernel_rfl) (by intro h; cases h)
end Go.Ab
