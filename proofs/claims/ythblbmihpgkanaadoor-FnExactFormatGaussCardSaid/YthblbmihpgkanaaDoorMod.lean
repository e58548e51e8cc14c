/- Contracts of modulo and l15Mod. Conditions: 1 ≤ m ≤ 10^18. -/
import Derived.Test.YthblbmihpgkanaaDoorBase
import Derived.Test.YthblbmihpgkanaaDoorRows
namespace Go.Proofs.YthblbmihpgkanaaDoor
open Go.RowKit
set_option linter.unusedVariables false

theorem tmod_bd (n : Int) {m : Int} (hm : 0 < m) : -m < n.tmod m ∧ n.tmod m < m := by
  have h := Int.natAbs_tmod n m
  have h2 : n.natAbs % m.natAbs < m.natAbs := Nat.mod_lt _ (by omega)
  omega
theorem tmod_emod (n m : Int) : (n.tmod m + m) % m = n % m := by
  rw [Int.tmod_def, Int.add_emod_right, Int.sub_mul_emod_self_left]

theorem i_mod (n m : Int) (w : World) (hm : 1 ≤ m) (hm2 : m ≤ 1000000000000000000) :
    Calls Tryd.prog 21 #[.int .i64 n, .int .i64 m] w fun e w' => e = .returned (.int .i64 (n % m)) ∧ w = w' := by
  obtain ⟨b1, b2⟩ := tmod_bd n (show 0 < m by omega)
  have HE := Lib.hid (tmod_emod n m)
  go_enter Tryd.func21, Tryd.ntmps21
  go_wp2
  go_ret
  exact ⟨by rw [← HE.out]; rfl, rfl⟩

end Go.Proofs.YthblbmihpgkanaaDoor
