/- The walk of the law FormatGauss over the contracts. Conditions: internal/strconv.uint64pow10 reads as the text lays it. -/
import Derived.Test.YthblbmihpgkanaaDoorFgS
namespace Go.Proofs.YthblbmihpgkanaaDoor
open Go.RowKit
set_option linter.unusedVariables false
set_option maxHeartbeats 4000000 in
theorem walk_fg0 (x y : Int) (T : ByteArray) (w : World) (HS : Hid (∀ W : World, Calls Tryd.prog 17 #[.agg #[.int .i64 x, .int .i64 y]] W fun e w' => e = .returned (.string T) ∧ Below W.heap.size W w'))
    (HI : Hid (∀ W : World, Below w.heap.size w W → Calls Tryd.prog 16 #[.agg #[.int .i64 x, .int .i64 y]] W fun e w' => e = .returned (.string T) ∧ Below W.heap.size W w')) :
    Calls Tryd.prog 4 #[.agg #[.int .i64 x, .int .i64 y]] w fun e w' => e = .returned (.bool true) ∧ Below w.heap.size w w' := by
  go_enter Tryd.func4, Tryd.ntmps4
  go_wp2_with (first | (go_at_call 18; refine (toGauss_any _ _ _).mono ?_; rintro e w1 ⟨rfl, c1, c2, c3, rfl⟩) | (go_at_call 17; (with_reducible refine (HS.out _).mono ?_); rintro e w2 ⟨rfl, hbw2⟩; obtain ⟨hcw2, hfw2, _⟩ := bcell hbw2; have hzw2 : w.heap.size < w2.heap.size := (by have := hbw2.size; simp at this; omega); have HBw2 := Lib.hid hbw2; clear hbw2) | (go_at_call 16; refine (HI.out _ (by refine Below.trans (b_step (by repeat (first | exact Below.refl _ _ | refine b_alloc ?_ _)) HBw2.out) (by repeat (first | exact Below.refl _ _ | refine Below.alloc ?_ (by (try simp) <;> omega) _)))).mono ?_; rintro e w3 ⟨rfl, hbw3⟩; have HBw3 := Lib.hid hbw3; clear hbw3))
  go_ret
  refine ⟨rfl, ?_⟩
  repeat (first | exact Below.refl _ _ | refine b_alloc ?_ _ | refine b_step ?_ HBw3.out | refine b_step ?_ HBw2.out)
theorem walk_fg (x y : Int) (_ : (Lit.int .i64 x).wf = true) (_ : (Lit.int .i64 y).wf = true) (w : World) (ht : Lib.TabIs Tryd.prog w "internal/strconv.uint64pow10" .u64 Lib.pow10Tab) :
    Calls Tryd.prog 4 #[.agg #[.int .i64 x, .int .i64 y]] w fun e w' => e = .returned (.bool true) ∧ Below w.heap.size w w' := by
  have hT := Lib.tabBelow_of_tabIs ht
  have hT' : ∀ W : World, Below w.heap.size w W → Lib.TabBelow Tryd.prog W.heap.size W "internal/strconv.uint64pow10" .u64 Lib.pow10Tab := fun W hb => Lib.tabBelow_of_tabIs (hT W hb)
  by_cases hg : gok x y
  · obtain ⟨h1, h2, h3, h4⟩ := hg
    by_cases hy : y < 0
    · exact walk_fg0 x y _ w (Lib.hid fun W => spec_fg_neg x y W h1 h2 h3 h4 hy) (Lib.hid fun W hb => impl_fg_neg x y W h1 h2 h3 h4 hy (hT' W hb))
    · exact walk_fg0 x y _ w (Lib.hid fun W => spec_fg_pos x y W h1 h2 h3 h4 hy) (Lib.hid fun W hb => impl_fg_pos x y W h1 h2 h3 h4 hy (hT' W hb))
  · exact walk_fg0 x y _ w (Lib.hid fun W => spec_fg_bad x y W hg) (Lib.hid fun W hb => impl_fg_bad x y W hg)
end Go.Proofs.YthblbmihpgkanaaDoor
