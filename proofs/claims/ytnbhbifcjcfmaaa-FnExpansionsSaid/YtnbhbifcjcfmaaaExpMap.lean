/- The map of rests. Conditions: none. -/
import Derived.Test.YtnbhbifcjcfmaaaExpM
import Derived.Test.YtnbhbifcjcfmaaaInts
import Derived.Maps.OwnSet
import Derived.Maps.OwnOps
namespace Go.Proofs.Ytnbhbifcjcfmaaa
open Go.RowKit
set_option linter.unusedVariables false

/-- The map tells after how many digits each of the first n rests is left first. -/
def MapOf (D : DataW Unit) (b q p : Int) (n : Nat) : Prop :=
  (∀ i, i < n → D.atKey (.int .i64 (rst b q p i)) (.lit (.int .i64 0)) = .lit (.int .i64 (i : Int)) ∧ Maps.has D (.int .i64 (rst b q p i)) = true) ∧
  (∀ x : Int, (∀ i, i < n → rst b q p i ≠ x) → Maps.has D (.int .i64 x) = false)
theorem MapOf.empty (b q p : Int) : MapOf (.map []) b q p 0 := ⟨fun i hi => by omega, fun x _ => rfl⟩
theorem MapOf.put {D : DataW Unit} {b q p : Int} {n : Nat} (h : MapOf D b q p n) (hD : Maps.IsMap D) (hk : WideAt.IsKeyLit (.int .i64 (rst b q p n))) (hn : ∀ j, j < n → rst b q p j ≠ rst b q p n) :
    MapOf (D.put (.int .i64 (rst b q p n)) (.lit (.int .i64 (n : Int)))) b q p (n + 1) := by
  refine ⟨fun i hi => ?_, fun x hx => ?_⟩
  · by_cases e : i = n
    · subst e
      exact ⟨Maps.atKey_put_same hD hk _ _, Maps.has_put_same hD hk _⟩
    · have hne : (Lit.int .i64 (rst b q p i)) ≠ .int .i64 (rst b q p n) := fun e2 => hn i (by omega) (by injection e2)
      rw [Maps.atKey_put_other hne, Maps.has_put_other hne]
      exact h.1 i (by omega)
  · have hne : (Lit.int .i64 x) ≠ .int .i64 (rst b q p n) := fun e2 => hx n (by omega) (by injection e2 with _ e3; exact e3.symm)
    rw [Maps.has_put_other hne]
    exact h.2 x fun i hi => hx i (by omega)
theorem law3 : Maps.Keyed Try.prog 3 := Maps.int_keyed Try.underlying3
theorem law3_key (x : Int) : WideAt.IsKeyLit (.int .i64 x) := by simp [WideAt.IsKeyLit]
theorem zero3 (w : World) : (zeroValue 3).run Try.prog w = .ok (.int .i64 0) w := by kernel_rfl
end Go.Proofs.Ytnbhbifcjcfmaaa
