/- The walk of the law on RationalOf. Conditions: none. -/
import Derived.Test.YtjdfpodmjpkfpaaPadRat
namespace Go.Proofs.Ytjdfpodmjpkfpaa
open Go.RowKit
set_option linter.unusedVariables false
set_option maxHeartbeats 1000000 in
theorem walk_rat0 (Axs : Option Addr) (xs : List Int) (cxs : Nat) (p : Int) (B : Int) (w : World) (Rxs : RI w w.heap.size Axs xs) (hlxs : xs.length ≤ 1048576)  :
    Calls Try.prog 8 #[.slice Axs xs.length cxs, .int .i64 p, .int .i64 B] w fun e w' => e = .returned (.bool true) ∧ Below w.heap.size w w' := by
  have T0 : Below w.heap.size w w := Below.refl _ _
  go_enter Try.func8, Try.ntmps8
  go_wp2_with fail
  refine (toIntS_any _ xs _ _ (Rxs.more (by omega)) (by omega)).mono ?_
  rintro e w1 ⟨rfl, hO, hz, hb1⟩
  have T1 := b_step T0 hb1
  have sz1 := hb1.size
  have Rxs_1 := Rxs.below (hb1.mono (by omega))
  clear hb1
  have szl1 := hz
  clear hz
  have Xxs_1 := hO
  clear hO
  go_wp2_with fail
  refine (s_rat _ xs _ p B _ ((Xxs_1).reads) (by omega)).mono ?_
  rintro e w2 ⟨rfl, hb2⟩
  have T2 := b_step T1 hb2
  have sz2 := hb2.size
  have Rxs_2 := Rxs_1.below (hb2.mono (by omega))
  have Xxs_2 := Xxs_1.keep hb2
  clear hb2 Rxs_1 Xxs_1
  clear Xxs_2
  go_wp2_with fail
  refine (toIntS_any _ xs _ _ (Rxs_2.more (by omega)) (by omega)).mono ?_
  rintro e w3 ⟨rfl, hO, hz, hb3⟩
  have T3 := b_step T2 hb3
  have sz3 := hb3.size
  have Rxs_3 := Rxs_2.below (hb3.mono (by omega))
  clear hb3 Rxs_2
  have szl3 := hz
  clear hz
  have Yxs_3 := hO
  clear hO
  go_wp2_with fail
  refine (i_rat _ xs _ p B _ ((Yxs_3).reads) (by omega)).mono ?_
  rintro e w4 ⟨rfl, hb4⟩
  have T4 := b_step T3 hb4
  have sz4 := hb4.size
  have Rxs_4 := Rxs_3.below (hb4.mono (by omega))
  have Yxs_4 := Yxs_3.keep hb4
  clear hb4 Rxs_3 Yxs_3
  go_wp2_with fail
  refine (toIntS_any _ xs _ _ (Rxs_4.more (by omega)) (by omega)).mono ?_
  rintro e w5 ⟨rfl, hO, hz, hb5⟩
  have T5 := b_step T4 hb5
  have sz5 := hb5.size
  have Rxs_5 := Rxs_4.below (hb5.mono (by omega))
  have Yxs_5 := Yxs_4.keep hb5
  clear hb5 Rxs_4 Yxs_4
  have szl5 := hz
  clear hz
  have Zxs_5 := hO
  clear hO
  go_wp2_with fail
  refine (eqIntS_same _ _ (xs) _ _ _ ((Yxs_5).reads) ((Zxs_5).reads) (by omega)).mono ?_
  rintro e w6 ⟨rfl, hb6⟩
  have T6 := b_step T5 hb6
  have sz6 := hb6.size
  have Rxs_6 := Rxs_5.below (hb6.mono (by omega))
  have Yxs_6 := Yxs_5.keep hb6
  have Zxs_6 := Zxs_5.keep hb6
  clear hb6 Rxs_5 Yxs_5 Zxs_5
  clear Zxs_6
  clear Yxs_6
  go_wp2
  go_ret
  exact ⟨rfl, T6⟩

theorem walk_rat (w : World) (Axs : Option Addr) (xs : List Int) (cxs : Nat) (Rxs : RI w w.heap.size Axs xs) (_ : ∀ n ∈ xs, (Lit.int .i64 n).wf = true) (p : Int) (_ : (Lit.int .i64 p).wf = true) (B : Int) (_ : (Lit.int .i64 B).wf = true) :
    Calls Try.prog 8 #[.slice Axs xs.length cxs, .int .i64 p, .int .i64 B] w fun e w' => e = .returned (.bool true) ∧ Below w.heap.size w w' := by
  by_cases hlxs : xs.length ≤ 1048576
  · skip
    exact walk_rat0 Axs xs cxs p B w Rxs hlxs
  · go_enter Try.func8, Try.ntmps8
    go_wp2
    go_ret
    exact ⟨rfl, Below.refl _ _⟩
end Go.Proofs.Ytjdfpodmjpkfpaa
