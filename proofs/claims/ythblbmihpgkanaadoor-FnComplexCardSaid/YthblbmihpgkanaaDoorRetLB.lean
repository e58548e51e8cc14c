/- What a function hands back that makes a list, and a Bool besides. Conditions: none. -/
import Derived.Test.YthblbmihpgkanaaDoorRow
namespace Go.Proofs.YthblbmihpgkanaaDoor
open Go.RowKit
set_option linter.unusedVariables false
/-- What a function hands back that makes a list, and a Bool besides. -/
def RetLB (w : World) (xs : List Int) (t : Bool) (e : Ending) (w' : World) : Prop :=
  ∃ A c, e = .returned (.tuple #[.slice A xs.length c, .bool t]) ∧ OI w' w.heap.size A xs ∧ Below w.heap.size w w'
theorem RetLB.nil (w w' : World) (hb : Below w.heap.size w w') : RetLB w [] false (.returned (.tuple #[.slice none 0 0, .bool false])) w' := ⟨none, 0, rfl, .inl rfl, hb⟩
theorem RetLB.of {w w' : World} {v : Value} {xs ys : List Int} {t : Bool} (h : Row w' w.heap.size v xs) (hb : Below w.heap.size w w') (e : xs = ys) : RetLB w ys t (.returned (.tuple #[v, .bool t])) w' := by
  subst e
  obtain ⟨A, c, rfl⟩ := h.shape
  exact ⟨A, c, rfl, (OI.of_own h).2, hb⟩

theorem RetL.toLB {w w0 w' : World} {xs : List Int} {e : Ending} (h : RetL w0 xs e w') (h0 : Below w.heap.size w w0) : ∃ A c, e = .returned (.slice A xs.length c) ∧ OI w' w.heap.size A xs ∧ Below w.heap.size w w' := by
  obtain ⟨A, c, he, hO, hb⟩ := h
  refine ⟨A, c, he, ?_, b_step h0 hb⟩
  rcases hO with h | ⟨g, off, cs, hA, hB, r⟩
  · exact .inl h
  · exact .inr ⟨g, off, cs, hA, Nat.le_trans h0.size hB, r⟩

end Go.Proofs.YthblbmihpgkanaaDoor
