/- Contract of (impl.Machine).step. Conditions: the machine's parts fit. -/
import Derived.Test.YtoihjapbidbpdaaDoorCntM
namespace Go.Proofs.YtoihjapbidbpdaaDoor
open Go.RowKit
set_option linter.unusedVariables false
set_option maxHeartbeats 1000000 in
theorem step_m (bb : Nat) (N F : Option Addr) (xs : List Int) (n m c d : Nat) (s t : Nat) (p : Int) (w : World) (hN : RI w w.heap.size N xs) (hbb : bb ≤ 10) (hm : m ≤ 144) (hs : s < m) (ht : t < bb) (hx : xs.length = m * bb) (hp : p = xs.getD (s * bb + t) 0) :
    Calls Tryd.prog 26 #[.agg #[.int .i64 (bb : Nat), .slice N xs.length c, .slice F n d], .int .i64 (s : Nat), .int .i64 (t : Nat)] w fun e w' => e = .returned (.int .i64 p) ∧ Below w.heap.size w w' := by
  have hlt : s * bb + t < xs.length := by
    have : (s + 1) * bb ≤ m * bb := Nat.mul_le_mul_right _ (by omega)
    rw [Nat.add_mul, Nat.one_mul] at this
    omega
  have hle : m * bb ≤ 144 * 10 := Nat.mul_le_mul hm hbb
  obtain ⟨g, off, hA, hb, hc⟩ := (hN.below (b_alloc (Below.refl _ _) (.cells #[.int .i64 (bb : Nat), .slice N xs.length c, .slice F n d] 28))).at_ hlt
  rw [← hp] at hc
  subst hA
  obtain ⟨q, hq⟩ : ∃ q, q = s * bb := ⟨_, rfl⟩
  have e1 : (s : Int) * (bb : Int) = (q : Int) := by rw [hq]; exact (Int.natCast_mul s bb).symm
  rw [← hq] at hc hlt
  have hl : xs.length ≤ 1440 := by omega
  clear hN hp hq hx hle
  go_enter Tryd.func26, Tryd.ntmps26
  go_wp2
  go_ret
  exact ⟨rfl, b_alloc (Below.refl _ _) _⟩
end Go.Proofs.YtoihjapbidbpdaaDoor
