/- Bounds on the sizes of floats. -/
import Derived.Test.YtiddhiepmakopaaA21
set_option linter.unusedVariables false
set_option linter.unusedSimpArgs false
namespace Go.Ab
open Go.RowKit Ieee
def NumLe (d : Datum) (S : Int) : Prop := ∀ s m e, d = .number s m e → m = 0 ∨ e + (m.log2 : Int) ≤ S
theorem NumLe.mono {d : Datum} {S T : Int} (h : NumLe d S) (hS : S ≤ T) : NumLe d T := fun s m e he => (h s m e he).imp id fun h => Int.le_trans h hS
theorem datum_self (d : Datum) : d.order d = if d.isNaN then none else some .eq := by
 cases d with
 | nan s t => rfl
 | infinity s => cases s <;> rfl
 | number s m i =>
  simp only [Datum.order, Datum.isNaN]
  have hi : ∀ a : Int, compare a a = .eq := fun a => by simp [compare, compareOfLessAndEq]
  rw [hi]; rfl
theorem neq_self (k : FloatKind) (x : Nat) : fcmp .neq k x x = isNaN k x := by
 have : k.format.order x x = if isNaN k x then none else some .eq := datum_self _
 unfold fcmp
 rw [this]
 cases isNaN k x <;> rfl
end Go.Ab
