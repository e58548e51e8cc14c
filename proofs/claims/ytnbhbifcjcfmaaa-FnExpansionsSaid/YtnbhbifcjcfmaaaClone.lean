/- Contract of slices.Clone. Conditions: lengths of at most 2^32. -/
import Derived.Test.YtnbhbifcjcfmaaaRow
import Derived.Test.YtnbhbifcjcfmaaaShelf
namespace Go.Proofs.Ytnbhbifcjcfmaaa
open Go.RowKit
set_option linter.unusedVariables false

theorem i_clone (A : Option Addr) (xs : List Int) (c : Nat) (w : World) (hR : RI w w.heap.size A xs) (hl : xs.length ≤ 4294967296) :
    Calls Try.prog 40 #[.slice A xs.length c] w (RetL w xs) := by
  rcases hR with rfl | ⟨b, off, rfl, hb, hc⟩
  · cases A with
    | none => exact (Try.slices_Clone_int_nil 0 c w).mono fun e w' ⟨he, hw⟩ => by subst hw; exact ⟨none, 0, he, .inl rfl, Below.refl _ _⟩
    | some a => exact (Try.slices_Clone_int_zero a c w).mono fun e w' ⟨v', he, hO, _, hb⟩ => by subst he; exact RetL.of (xs := []) hO hb rfl
  · exact (Try.slices_Clone_int b off xs.length c xs w (Nat.le_refl _) (by omega) hc).mono fun e w' ⟨v', he, hO, _, hb⟩ => by subst he; rw [List.take_of_length_le (Nat.le_refl _)] at hO; exact RetL.of hO hb rfl

theorem i_cloneN (A : Option Addr) (xs : List Int) (n c : Nat) (w : World) (hn : xs.length = n) (hR : RI w w.heap.size A xs) (hl : xs.length ≤ 4294967296) :
    Calls Try.prog 40 #[.slice A n c] w (RetL w xs) := by subst hn; exact i_clone A xs c w hR hl

theorem i_cloneR (A : Option Addr) (xs : List Int) (n c : Nat) (w : World) (hn : xs.length = n) (hR : RI w w.heap.size A xs) (hl : xs.length ≤ 4294967296) :
    Calls Try.prog 40 #[.slice A n c] w fun e w' => ∃ v, e = .returned v ∧ Row w' w.heap.size v xs ∧ Below w.heap.size w w' := by
  subst hn
  rcases hR with rfl | ⟨b, off, rfl, hb, hc⟩
  · cases A with
    | none => exact (Try.slices_Clone_int_nil 0 c w).mono fun e w' ⟨he, hw⟩ => by subst hw; exact ⟨_, he, Row.nil _ _, Below.refl _ _⟩
    | some a => exact (Try.slices_Clone_int_zero a c w).mono fun e w' ⟨v', he, hO, _, hb⟩ => ⟨v', he, hO, hb⟩
  · exact (Try.slices_Clone_int b off xs.length c xs w (Nat.le_refl _) (by omega) hc).mono fun e w' ⟨v', he, hO, _, hb⟩ => ⟨v', he, by rw [List.take_of_length_le (Nat.le_refl _)] at hO; exact hO, hb⟩
end Go.Proofs.Ytnbhbifcjcfmaaa
