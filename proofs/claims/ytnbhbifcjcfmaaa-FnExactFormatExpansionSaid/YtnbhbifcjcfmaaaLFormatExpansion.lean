/- The walk of the law on FormatExpansion. Conditions: none. -/
import Derived.Test.YtnbhbifcjcfmaaaFmtS
namespace Go.Proofs.Ytnbhbifcjcfmaaa
open Go.RowKit
set_option linter.unusedVariables false
set_option maxHeartbeats 1000000 in
theorem walk_FormatExpansion0 (Axs : Option Addr) (xs : List Int) (cxs : Nat) (Ays : Option Addr) (ys : List Int) (cys : Nat) (b : Int) (w : World) (Rxs : RI w w.heap.size Axs xs) (hlxs : xs.length ≤ 1048576) (Rys : RI w w.heap.size Ays ys) (hlys : ys.length ≤ 1048576)  :
    Calls Try.prog 7 #[.slice Axs xs.length cxs, .slice Ays ys.length cys, .int .i64 b] w fun e w' => e = .returned (.bool true) ∧ Below w.heap.size w w' := by
  have T0 : Below w.heap.size w w := Below.refl _ _
  go_enter Try.func7, Try.ntmps7
  go_wp2_with fail
  refine (toIntS_any _ xs _ _ (Rxs.more (by omega)) (by omega)).mono ?_
  rintro e w1 ⟨rfl, hO, hz, hb1⟩
  have T1 := b_step T0 hb1
  have sz1 := hb1.size
  have Rxs_1 := Rxs.below (hb1.mono (by omega))
  have Rys_1 := Rys.below (hb1.mono (by omega))
  clear hb1
  have szl1 := hz
  clear hz
  have Xxs_1 := hO
  clear hO
  go_wp2_with fail
  refine (toIntS_any _ ys _ _ (Rys_1.more (by omega)) (by omega)).mono ?_
  rintro e w2 ⟨rfl, hO, hz, hb2⟩
  have T2 := b_step T1 hb2
  have sz2 := hb2.size
  have Rxs_2 := Rxs_1.below (hb2.mono (by omega))
  have Rys_2 := Rys_1.below (hb2.mono (by omega))
  have Xxs_2 := Xxs_1.keep hb2
  clear hb2 Rxs_1 Rys_1 Xxs_1
  have szl2 := hz
  clear hz
  have Xys_2 := hO
  clear hO
  go_wp2_with fail
  refine (s_fmt _ _ xs ys _ _ b _ ((Xxs_2).reads) ((Xys_2).reads) (by omega) (by omega)).mono ?_
  rintro e w3 ⟨rfl, hb3⟩
  have T3 := b_step T2 hb3
  have sz3 := hb3.size
  have Rxs_3 := Rxs_2.below (hb3.mono (by omega))
  have Rys_3 := Rys_2.below (hb3.mono (by omega))
  have Xxs_3 := Xxs_2.keep hb3
  have Xys_3 := Xys_2.keep hb3
  clear hb3 Rxs_2 Rys_2 Xxs_2 Xys_2
  clear Xxs_3
  clear Xys_3
  go_wp2_with fail
  refine (toIntS_any _ xs _ _ (Rxs_3.more (by omega)) (by omega)).mono ?_
  rintro e w4 ⟨rfl, hO, hz, hb4⟩
  have T4 := b_step T3 hb4
  have sz4 := hb4.size
  have Rxs_4 := Rxs_3.below (hb4.mono (by omega))
  have Rys_4 := Rys_3.below (hb4.mono (by omega))
  clear hb4 Rxs_3 Rys_3
  have szl4 := hz
  clear hz
  have Yxs_4 := hO
  clear hO
  go_wp2_with fail
  refine (toIntS_any _ ys _ _ (Rys_4.more (by omega)) (by omega)).mono ?_
  rintro e w5 ⟨rfl, hO, hz, hb5⟩
  have T5 := b_step T4 hb5
  have sz5 := hb5.size
  have Rxs_5 := Rxs_4.below (hb5.mono (by omega))
  have Rys_5 := Rys_4.below (hb5.mono (by omega))
  have Yxs_5 := Yxs_4.keep hb5
  clear hb5 Rxs_4 Rys_4 Yxs_4
  have szl5 := hz
  clear hz
  have Yys_5 := hO
  clear hO
  go_wp2_with fail
  refine (i_fmt _ _ xs ys _ _ b _ ((Yxs_5).reads) ((Yys_5).reads) (by omega) (by omega)).mono ?_
  rintro e w6 ⟨rfl, hb6⟩
  have T6 := b_step T5 hb6
  have sz6 := hb6.size
  have Rxs_6 := Rxs_5.below (hb6.mono (by omega))
  have Rys_6 := Rys_5.below (hb6.mono (by omega))
  have Yxs_6 := Yxs_5.keep hb6
  have Yys_6 := Yys_5.keep hb6
  clear hb6 Rxs_5 Rys_5 Yxs_5 Yys_5
  go_wp2_with fail
  refine (toIntS_any _ xs _ _ (Rxs_6.more (by omega)) (by omega)).mono ?_
  rintro e w7 ⟨rfl, hO, hz, hb7⟩
  have T7 := b_step T6 hb7
  have sz7 := hb7.size
  have Rxs_7 := Rxs_6.below (hb7.mono (by omega))
  have Rys_7 := Rys_6.below (hb7.mono (by omega))
  have Yxs_7 := Yxs_6.keep hb7
  have Yys_7 := Yys_6.keep hb7
  clear hb7 Rxs_6 Rys_6 Yxs_6 Yys_6
  have szl7 := hz
  clear hz
  have Zxs_7 := hO
  clear hO
  go_wp2_with fail
  refine (eqIntS_same _ _ (xs) _ _ _ ((Yxs_7).reads) ((Zxs_7).reads) (by omega)).mono ?_
  rintro e w8 ⟨rfl, hb8⟩
  have T8 := b_step T7 hb8
  have sz8 := hb8.size
  have Rxs_8 := Rxs_7.below (hb8.mono (by omega))
  have Rys_8 := Rys_7.below (hb8.mono (by omega))
  have Yxs_8 := Yxs_7.keep hb8
  have Yys_8 := Yys_7.keep hb8
  have Zxs_8 := Zxs_7.keep hb8
  clear hb8 Rxs_7 Rys_7 Yxs_7 Yys_7 Zxs_7
  clear Zxs_8
  clear Yxs_8
  go_wp2_with fail
  refine (toIntS_any _ ys _ _ (Rys_8.more (by omega)) (by omega)).mono ?_
  rintro e w9 ⟨rfl, hO, hz, hb9⟩
  have T9 := b_step T8 hb9
  have sz9 := hb9.size
  have Rxs_9 := Rxs_8.below (hb9.mono (by omega))
  have Rys_9 := Rys_8.below (hb9.mono (by omega))
  have Yys_9 := Yys_8.keep hb9
  clear hb9 Rxs_8 Rys_8 Yys_8
  have szl9 := hz
  clear hz
  have Zys_9 := hO
  clear hO
  go_wp2_with fail
  refine (eqIntS_same _ _ (ys) _ _ _ ((Yys_9).reads) ((Zys_9).reads) (by omega)).mono ?_
  rintro e w10 ⟨rfl, hb10⟩
  have T10 := b_step T9 hb10
  have sz10 := hb10.size
  have Rxs_10 := Rxs_9.below (hb10.mono (by omega))
  have Rys_10 := Rys_9.below (hb10.mono (by omega))
  have Yys_10 := Yys_9.keep hb10
  have Zys_10 := Zys_9.keep hb10
  clear hb10 Rxs_9 Rys_9 Yys_9 Zys_9
  clear Zys_10
  clear Yys_10
  go_wp2
  go_ret
  exact ⟨rfl, T10⟩

theorem walk_FormatExpansion (w : World) (Axs : Option Addr) (xs : List Int) (cxs : Nat) (Rxs : RI w w.heap.size Axs xs) (_ : ∀ n ∈ xs, (Lit.int .i64 n).wf = true) (Ays : Option Addr) (ys : List Int) (cys : Nat) (Rys : RI w w.heap.size Ays ys) (_ : ∀ n ∈ ys, (Lit.int .i64 n).wf = true) (b : Int) (_ : (Lit.int .i64 b).wf = true) :
    Calls Try.prog 7 #[.slice Axs xs.length cxs, .slice Ays ys.length cys, .int .i64 b] w fun e w' => e = .returned (.bool true) ∧ Below w.heap.size w w' := by
  by_cases hlxs : xs.length ≤ 1048576
  · skip
    by_cases hlys : ys.length ≤ 1048576
    · skip
      exact walk_FormatExpansion0 Axs xs cxs Ays ys cys b w Rxs hlxs Rys hlys
    · go_enter Try.func7, Try.ntmps7
      go_wp2
      go_ret
      exact ⟨rfl, Below.refl _ _⟩
  · go_enter Try.func7, Try.ntmps7
    go_wp2
    go_ret
    exact ⟨rfl, Below.refl _ _⟩
end Go.Proofs.Ytnbhbifcjcfmaaa
