/- The length of a difference does not know its direction. -/
import Derived.Test.YtiiijolkhbnblaaA34
set_option linter.unusedVariables false
set_option linter.unusedSimpArgs false
namespace Go.Ab
open Ieee

def SameMag : Option Datum → Option Datum → Prop
  | none, none => True
  | some (.infinity _), some (.infinity _) => True
  | some (.number _ m i), some (.number _ n j) => m = n ∧ i = j
  | _, _ => False
theorem signed_not (s : Bool) (m k : Nat) : signed (!s) m k = -(signed s m k) := by
  unfold signed; cases s <;> simp
theorem sum_opp (D E : Datum) : SameMag (D.sum E.opposite) (E.sum D.opposite) := by
  cases D with
  | nan => cases E <;> simp [Datum.sum, Datum.opposite, SameMag]
  | infinity s =>
    cases E with
    | nan => simp [Datum.sum, Datum.opposite, SameMag]
    | infinity t => cases s <;> cases t <;> simp [Datum.sum, Datum.opposite, SameMag]
    | number t n j => simp [Datum.sum, Datum.opposite, SameMag]
  | number s m i =>
    cases E with
    | nan => simp [Datum.sum, Datum.opposite, SameMag]
    | infinity t => simp [Datum.sum, Datum.opposite, SameMag]
    | number t n j =>
      simp only [Datum.sum, Datum.opposite, SameMag, signed_not]
      rw [Int.min_comm j i]
      exact ⟨by omega, rfl⟩
theorem write_mag {d d' : Datum} (h : SameMag (some d) (some d')) : ∃ (s s' : Bool) (r : Nat), r ≤ 2139095040 ∧ FloatKind.f32.format.write d = FloatKind.f32.format.word s r ∧ FloatKind.f32.format.write d' = FloatKind.f32.format.word s' r := by
  cases d with
  | nan => cases d' <;> simp [SameMag] at h
  | infinity s =>
    cases d' with
    | infinity t => exact ⟨s, t, 2139095040, Nat.le_refl _, rfl, rfl⟩
    | _ => simp [SameMag] at h
  | number s m i =>
    cases d' with
    | number t n j =>
      obtain ⟨rfl, rfl⟩ := h
      show ∃ (s' t' : Bool) (r : Nat), r ≤ 2139095040 ∧ FloatKind.f32.format.nearest s m i = _ ∧ FloatKind.f32.format.nearest t m i = _
      unfold Format.nearest
      by_cases hm : m = 0
      · rw [if_pos hm, if_pos hm]; exact ⟨s, t, 0, Nat.zero_le _, rfl, rfl⟩
      · rw [if_neg hm, if_neg hm]
        exact ⟨s, t, _, Nat.min_le_right _ _, rfl, rfl⟩
    | _ => simp [SameMag] at h
theorem rdw32 (s : Bool) {r : Nat} (h : r ≤ 2139095040) : FloatKind.f32.format.read (FloatKind.f32.format.word s r) =
    if r < 8388608 then .number s r FloatKind.f32.format.leastPlace else if r < 2139095040 then .number s (8388608 + r % 8388608) (FloatKind.f32.format.leastPlace + (r / 8388608 - 1 : Nat)) else .infinity s := by
  unfold Format.read
  rw [show FloatKind.f32.format.signWeight = 2147483648 from rfl, show FloatKind.f32.format.binade = 8388608 from rfl, show FloatKind.f32.format.infRung = 2139095040 from rfl]
  have hw : FloatKind.f32.format.word s r = (if s then 2147483648 + r else r) := rfl
  have h1 : FloatKind.f32.format.word s r % 2147483648 = r := by rw [hw]; cases s <;> simp <;> omega
  have h2 : (FloatKind.f32.format.word s r / 2147483648 % 2 == 1) = s := by
    rw [hw]
    cases s
    · rw [if_neg (by simp), beq_eq_false_iff_ne]; omega
    · rw [if_pos rfl, beq_iff_eq]; omega
  simp only [h1, h2]
  by_cases a : r < 8388608
  · rw [if_pos a, if_pos a]
  · rw [if_neg a, if_neg a]
    by_cases b : r < 2139095040
    · rw [if_pos b, if_pos b]
    · rw [if_neg b, if_neg b, if_pos (by omega)]
theorem sq_word (s s' : Bool) {r : Nat} (h : r ≤ 2139095040) : FloatKind.f32.format.mul (FloatKind.f32.format.word s r) (FloatKind.f32.format.word s r) = FloatKind.f32.format.mul (FloatKind.f32.format.word s' r) (FloatKind.f32.format.word s' r) := by
  unfold Format.mul
  rw [rdw32 s h, rdw32 s' h]
  by_cases a : r < 8388608
  · rw [if_pos a, if_pos a]; simp [Datum.product]
  · rw [if_neg a, if_neg a]
    by_cases b : r < 2139095040
    · rw [if_pos b, if_pos b]; simp [Datum.product]
    · rw [if_neg b, if_neg b]; simp [Datum.product]
theorem sq_sub (a b : Nat) : fop .mul .f32 (fop .sub .f32 a b) (fop .sub .f32 a b) = fop .mul .f32 (fop .sub .f32 b a) (fop .sub .f32 b a) := by
  have h := sum_opp (FloatKind.f32.format.read a) (FloatKind.f32.format.read b)
  have e1 : floatBits .sub .f32 a b = ((FloatKind.f32.format.read a).sum (FloatKind.f32.format.read b).opposite).map FloatKind.f32.format.write := rfl
  have e2 : floatBits .sub .f32 b a = ((FloatKind.f32.format.read b).sum (FloatKind.f32.format.read a).opposite).map FloatKind.f32.format.write := rfl
  unfold fop
  rw [e1, e2]
  cases h1 : (FloatKind.f32.format.read a).sum (FloatKind.f32.format.read b).opposite with
  | none =>
    cases h2 : (FloatKind.f32.format.read b).sum (FloatKind.f32.format.read a).opposite with
    | none => rfl
    | some d' => rw [h1, h2] at h; cases d' <;> simp [SameMag] at h
  | some d =>
    cases h2 : (FloatKind.f32.format.read b).sum (FloatKind.f32.format.read a).opposite with
    | none => rw [h1, h2] at h; cases d <;> simp [SameMag] at h
    | some d' =>
      rw [h1, h2] at h
      obtain ⟨s, s', r, hr, w1, w2⟩ := write_mag h
      simp only [Option.map_some, Option.getD_some]
      rw [w1, w2]
      have := sq_word s s' hr
      show (FloatKind.f32.format.mul _ _).getD _ = (FloatKind.f32.format.mul _ _).getD _
      rw [this]
end Go.Ab
