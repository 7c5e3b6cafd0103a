/- Two words of single that compare equal and have one sign are one word; the sign of a widened word. -/
import Derived.Test.YtiiijolkhbnblaaA37
set_option linter.unusedVariables false
set_option linter.unusedSimpArgs false
namespace Go.Ab
open Ieee

def mg (r : Nat) : Nat := if r < 8388608 then r else 8388608 + r % 8388608
def ex (r : Nat) : Nat := if r < 8388608 then 0 else r / 8388608 - 1
theorem mg_inj {r r' : Nat} (h : mg r * 2 ^ (ex r - min (ex r) (ex r')) = mg r' * 2 ^ (ex r' - min (ex r) (ex r'))) : r = r' := by
  have hm : ∀ r, mg r < 16777216 := by intro r; unfold mg; split <;> omega
  have hn : ∀ r, 1 ≤ ex r → 8388608 ≤ mg r := by intro r; unfold mg ex; split <;> omega
  have two : ∀ k : Nat, 1 ≤ k → 2 ≤ 2 ^ k := by
    intro k hk
    have : 2 ^ 1 ≤ 2 ^ k := Nat.pow_le_pow_right (by omega) hk
    omega
  rcases Nat.lt_trichotomy (ex r) (ex r') with hl | he | hl
  · rw [Nat.min_eq_left (by omega), Nat.sub_self, Nat.pow_zero, Nat.mul_one] at h
    have h1 := hm r
    have h2 := hn r' (by omega)
    have h3 := two (ex r' - ex r) (by omega)
    have : 8388608 * 2 ≤ mg r' * 2 ^ (ex r' - ex r) := Nat.mul_le_mul h2 h3
    omega
  · rw [he, Nat.min_self, Nat.sub_self, Nat.pow_zero, Nat.mul_one, Nat.mul_one] at h
    unfold mg at h
    unfold ex at he
    split at h <;> split at h <;> rename_i a b <;> first | rw [if_pos a, if_pos b] at he | rw [if_pos a, if_neg b] at he | rw [if_neg a, if_pos b] at he | rw [if_neg a, if_neg b] at he
    all_goals omega
  · rw [Nat.min_eq_right (by omega), Nat.sub_self, Nat.pow_zero, Nat.mul_one] at h
    have h1 := hm r'
    have h2 := hn r (by omega)
    have h3 := two (ex r - ex r') (by omega)
    have : 8388608 * 2 ≤ mg r * 2 ^ (ex r - ex r') := Nat.mul_le_mul h2 h3
    omega
theorem rd32 (a : Nat) : FloatKind.f32.format.read a = if a % 2147483648 < 2139095040 then .number (a / 2147483648 % 2 == 1) (mg (a % 2147483648)) (FloatKind.f32.format.leastPlace + (ex (a % 2147483648) : Nat)) else if a % 2147483648 = 2139095040 then .infinity (a / 2147483648 % 2 == 1) else .nan (a / 2147483648 % 2 == 1) (a % 2147483648 - 2139095040) := by
  unfold Format.read
  rw [show FloatKind.f32.format.signWeight = 2147483648 from rfl, show FloatKind.f32.format.binade = 8388608 from rfl, show FloatKind.f32.format.infRung = 2139095040 from rfl]
  simp only
  generalize a % 2147483648 = r
  generalize (a / 2147483648 % 2 == 1) = s
  unfold mg ex
  by_cases h1 : r < 8388608
  · rw [if_pos h1, if_pos (by omega), if_pos h1, if_pos h1]; simp
  · rw [if_neg h1, if_neg h1, if_neg h1]
theorem eql_word {a b : Nat} (ha : a < 4294967296) (hb : b < 4294967296) (hs : decide (2147483648 ≤ a) = decide (2147483648 ≤ b)) (h : fcmp .eql .f32 a b = true) : a = b := by
  have h' : ((FloatKind.f32.format.read a).order (FloatKind.f32.format.read b) == some .eq) = true := h
  rw [beq_iff_eq] at h'
  have hs' : (a / 2147483648 % 2 == 1) = (b / 2147483648 % 2 == 1) := by
    rw [Bool.eq_iff_iff, beq_iff_eq, beq_iff_eq]
    have := decide_eq_decide.1 hs
    omega
  have hq := decide_eq_decide.1 hs
  suffices hr : a % 2147483648 = b % 2147483648 by omega
  rw [rd32 a, rd32 b, hs'] at h'
  generalize (b / 2147483648 % 2 == 1) = s at h'
  generalize a % 2147483648 = r at *
  generalize b % 2147483648 = r' at *
  by_cases h1 : r < 2139095040
  · rw [if_pos h1] at h'
    by_cases h2 : r' < 2139095040
    · rw [if_pos h2] at h'
      simp only [Datum.order, Option.some.injEq] at h'
      rw [Int.compare_eq_eq] at h'
      refine mg_inj ?_
      have key : ∀ x y : Nat, ((FloatKind.f32.format.leastPlace + (x : Int)) - min (FloatKind.f32.format.leastPlace + (x : Int)) (FloatKind.f32.format.leastPlace + (y : Int))).toNat = x - min x y := by
        intro x y; omega
      have key2 : ∀ x y : Nat, ((FloatKind.f32.format.leastPlace + (y : Int)) - min (FloatKind.f32.format.leastPlace + (x : Int)) (FloatKind.f32.format.leastPlace + (y : Int))).toNat = y - min x y := by
        intro x y; omega
      rw [key, key2] at h'
      unfold signed at h'
      rw [Nat.shiftLeft_eq, Nat.shiftLeft_eq] at h'
      cases s
      · simp only [Bool.false_eq_true, if_false] at h'; exact_mod_cast h'
      · simp only [if_true] at h'; omega
    · rw [if_neg h2] at h'
      by_cases h3 : r' = 2139095040
      · rw [if_pos h3] at h'; cases s <;> simp [Datum.order] at h'
      · rw [if_neg h3] at h'; simp [Datum.order] at h'
  · rw [if_neg h1] at h'
    by_cases h3 : r = 2139095040
    · rw [if_pos h3] at h'
      by_cases h2 : r' < 2139095040
      · rw [if_pos h2] at h'; cases s <;> simp [Datum.order] at h'
      · rw [if_neg h2] at h'
        by_cases h4 : r' = 2139095040
        · omega
        · rw [if_neg h4] at h'; simp [Datum.order] at h'
    · rw [if_neg h3] at h'; simp [Datum.order] at h'
theorem sign_fcv {a : Nat} (ha : a < 4294967296) (hn : isNaN .f32 a = false) : decide (IntKind.wrap .i64 ((fcv .f32 .f64 a : Nat) : Int) < 0) = decide (2147483648 ≤ a) := by
  have hw : ∀ (s : Bool) (r : Nat), r ≤ 9218868437227405312 → s = (a / 2147483648 % 2 == 1) → decide (IntKind.wrap .i64 ((FloatKind.f64.format.word s r : Nat) : Int) < 0) = decide (2147483648 ≤ a) := by
    intro s r hr hs
    have h1 : FloatKind.f64.format.word s r = (if s then 9223372036854775808 + r else r) := rfl
    rw [h1]
    cases s
    · have : (a / 2147483648 % 2 == 1) = false := hs.symm
      rw [beq_eq_false_iff_ne] at this
      rw [if_neg (by simp), wrap_id (by omega) (by omega), decide_eq_false (by omega), decide_eq_false (by omega)]
    · have : (a / 2147483648 % 2 == 1) = true := hs.symm
      rw [beq_iff_eq] at this
      rw [if_pos rfl, decide_eq_true (show 2147483648 ≤ a by omega)]
      apply decide_eq_true
      have e : IntKind.wrap .i64 ((9223372036854775808 + r : Nat) : Int) = (r : Int) - 9223372036854775808 := by
        simp only [IntKind.wrap, IntKind.bits, IntKind.signed]
        simp
        split <;> omega
      rw [e]; omega
  unfold isNaN FloatKind.decode at hn
  have hf : fcv .f32 .f64 a = (match FloatKind.f32.decode a with | .nan .. => nanOf .f64 | y => FloatKind.f64.encode y) := rfl
  rw [hf]
  unfold FloatKind.decode
  rw [rd32] at hn ⊢
  by_cases h1 : a % 2147483648 < 2139095040
  · rw [if_pos h1]
    show decide (IntKind.wrap .i64 ((FloatKind.f64.format.nearest _ _ _ : Nat) : Int) < 0) = _
    unfold Format.nearest
    split
    · exact hw _ _ (by omega) rfl
    · exact hw _ _ (Nat.min_le_right _ _) rfl
  · rw [if_neg h1] at hn ⊢
    by_cases h2 : a % 2147483648 = 2139095040
    · rw [if_pos h2]
      exact hw _ 9218868437227405312 (Nat.le_refl _) rfl
    · rw [if_neg h2] at hn; simp [Datum.isNaN] at hn
theorem fcv_nn {a : Nat} (hn : isNaN .f32 a = false) : isNaN .f64 (fcv .f32 .f64 a) = false := by
  have hw : ∀ (s : Bool) (r : Nat), r ≤ 9218868437227405312 → isNaN .f64 (FloatKind.f64.format.word s r) = false := by
    intro s r hr
    have h1 : FloatKind.f64.format.word s r = (if s then 9223372036854775808 + r else r) := rfl
    have h2 : FloatKind.f64.format.word s r % 9223372036854775808 = r := by rw [h1]; cases s <;> simp <;> omega
    show (FloatKind.f64.format.read _).isNaN = false
    unfold Format.read
    rw [show FloatKind.f64.format.signWeight = 9223372036854775808 from rfl, show FloatKind.f64.format.infRung = 9218868437227405312 from rfl]
    simp only [h2]
    split
    · rfl
    · split
      · rfl
      · rw [if_pos (by omega)]; rfl
  unfold isNaN FloatKind.decode at hn
  have hf : fcv .f32 .f64 a = (match FloatKind.f32.decode a with | .nan .. => nanOf .f64 | y => FloatKind.f64.encode y) := rfl
  rw [hf]
  unfold FloatKind.decode
  rw [rd32] at hn ⊢
  by_cases h1 : a % 2147483648 < 2139095040
  · rw [if_pos h1]
    show isNaN .f64 (FloatKind.f64.format.nearest _ _ _) = false
    unfold Format.nearest
    split
    · exact hw _ _ (by omega)
    · exact hw _ _ (Nat.min_le_right _ _)
  · rw [if_neg h1] at hn ⊢
    by_cases h2 : a % 2147483648 = 2139095040
    · rw [if_pos h2]; exact hw _ 9218868437227405312 (Nat.le_refl _)
    · rw [if_neg h2] at hn; simp [Datum.isNaN] at hn
def Ok32 (x : Nat) : Prop := Wd .f32 x ∧ cn .f32 x = x
theorem Ok32.lt {x : Nat} (h : Ok32 x) : x < 4294967296 := h.1
theorem ok32_default : Ok32 default := ⟨by unfold Wd; decide +kernel, by decide +kernel⟩
theorem ok_getD {α : Type} [Inhabited α] {P : α → Prop} {l : List α} (hd : P default) (h : ∀ x ∈ l, P x) (i : Nat) : P (l.getD i default) := by
  rw [List.getD_eq_getElem?_getD]
  cases hx : l[i]? with
  | none => exact hd
  | some x => exact h x (List.mem_of_getElem? hx)
theorem num_same {a b : Nat} (ha : Ok32 a) (hb : Ok32 b) {S : Nat → Bool} {B : Nat → Int} (hS : ∀ x, isNaN .f32 x = false → S (fcv .f32 .f64 x) = decide (IntKind.wrap .i64 ((fcv .f32 .f64 x : Nat) : Int) < 0)) (hB : ∀ x, B x = cond (fcmp .neq .f32 x x) 2143289344 (IntKind.wrap .i64 ((x : Nat) : Int))) :
    (cond (fcmp .neq .f32 a a) (fcmp .neq .f32 b b) (cond (fcmp .neq .f32 b b) false (cond (fcmp .eql .f32 a b) (S (fcv .f32 .f64 a) == S (fcv .f32 .f64 b)) false))) = (B a == B b) := by
  have hlt := ha.lt
  have hlt2 := hb.lt
  have nn : isNaN .f32 2143289344 = true := isNaN_nanOf .f32
  rw [hB, hB, neq_self, neq_self]
  cases h1 : isNaN .f32 a with
  | true =>
    cases h2 : isNaN .f32 b with
    | true => rfl
    | false =>
      rw [cond_true, cond_true, cond_false, wrap_id (n := (b : Int)) (by omega) (by omega)]
      symm
      rw [beq_eq_false_iff_ne]
      intro hc
      have : b = 2143289344 := by omega
      rw [this, nn] at h2; cases h2
  | false =>
    cases h2 : isNaN .f32 b with
    | true =>
      rw [cond_false, cond_true, cond_false, cond_true, wrap_id (n := (a : Int)) (by omega) (by omega)]
      symm
      rw [beq_eq_false_iff_ne]
      intro hc
      have : a = 2143289344 := by omega
      rw [this, nn] at h1; cases h1
    | false =>
      rw [cond_false, cond_false, cond_false, cond_false, hS a h1, hS b h2, sign_fcv hlt h1, sign_fcv hlt2 h2, wrap_id (n := (a : Int)) (by omega) (by omega), wrap_id (n := (b : Int)) (by omega) (by omega)]
      by_cases hab : a = b
      · subst hab
        have : fcmp .eql .f32 a a = true := by
          have h3 := neq_self .f32 a
          rw [h1] at h3
          have h4 : fcmp .eql .f32 a a = !(fcmp .neq .f32 a a) := by
            show (FloatKind.f32.format.order a a == some .eq) = !(FloatKind.f32.format.order a a != some .eq)
            simp only [bne, Bool.not_not]
          rw [h4, h3]; rfl
        rw [this, cond_true, beq_self_eq_true, beq_self_eq_true]
      · rw [show ((a : Int) == (b : Int)) = false from by rw [beq_eq_false_iff_ne]; omega]
        cases h3 : fcmp .eql .f32 a b with
        | false => rfl
        | true =>
          rw [cond_true, beq_eq_false_iff_ne]
          intro hs
          exact hab (eql_word hlt hlt2 hs h3)
theorem same_loop {A : Type} {x : A} {α : Type} [Inhabited α] {n : Int} {p q : Int → Bool} {lo lo' : Nat → Int → A ⊕ Unit}
    (h : ∀ k i, lo (k + 1) i = cond (decide (i < n)) (cond (p i) (lo k (i + 1)) (.inl x)) (.inr ())) (h' : ∀ k i, lo' (k + 1) i = cond (decide (i < n)) (cond (q i) (lo' k (i + 1)) (.inl x)) (.inr ()))
    (h0 : lo 0 = lo' 0) (e : ∀ i, p i = q i) : ∀ (k : Nat) (i : Int), lo k i = lo' k i := by
  intro k
  induction k with
  | zero => intro i; rw [h0]
  | succ k ih => intro i; rw [h, h', e, ih]
end Go.Ab
