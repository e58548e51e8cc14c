/- The walk of the law on GaussOf. Conditions: none. -/
import Derived.Test.YthblbmihpgkanaaGofS
import Derived.Test.YthblbmihpgkanaaGofJ
import Derived.Test.YthblbmihpgkanaaGaussEq
namespace Go.Proofs.Ythblbmihpgkanaa
open Go.RowKit
set_option linter.unusedVariables false
set_option maxHeartbeats 1000000 in
theorem walk_GaussOf0 (Axs : Option Addr) (xs : List Int) (cxs : Nat) (w : World) (Rxs : RI w w.heap.size Axs xs) (hlxs : xs.length ≤ 1048576)  :
    Calls Try.prog 11 #[.slice Axs xs.length cxs] w fun e w' => e = .returned (.bool true) ∧ Below w.heap.size w w' := by
  have T0 : Below w.heap.size w w := Below.refl _ _
  go_enter Try.func11, Try.ntmps11
  go_wp2_with fail
  refine (toIntS_any _ xs _ _ (Rxs.more (by omega)) (by omega)).mono ?_
  rintro e w1 ⟨rfl, hO, hz, hb1⟩
  have T1 := b_step T0 hb1
  have sz1 := hb1.size
  have Rxs_1 := Rxs.below (hb1.mono (by omega))
  clear hb1
  have szl1 := hz
  clear hz
  have Xxs_1 := hO
  clear hO
  go_wp2_with fail
  refine (s_GaussOf _ xs _ _ ((Xxs_1).reads) (by omega)).mono ?_
  rintro e w2 ⟨rfl, hb2⟩
  have T2 := b_step T1 hb2
  have sz2 := hb2.size
  have Rxs_2 := Rxs_1.below (hb2.mono (by omega))
  have Xxs_2 := Xxs_1.keep hb2
  clear hb2 Rxs_1 Xxs_1
  clear Xxs_2
  have hb3 : Below w2.heap.size w2 (w2.alloc (.cells #[.int .i64 (goX 1 (-1) 1 xs), .int .i64 (goY 1 (-1) 1 xs)] 25)) := b_alloc (Below.refl _ _) _
  have T3 := b_step T2 hb3
  have sz3 := hb3.size
  have Rxs_3 := Rxs_2.below (hb3.mono (by omega))
  clear hb3 Rxs_2
  have W_3 := BG.new w2 (goX 1 (-1) 1 xs) (goY 1 (-1) 1 xs)
  go_wp2_with fail
  refine (toIntS_any _ xs _ _ (Rxs_3.more (by omega)) (by omega)).mono ?_
  rintro e w4 ⟨rfl, hO, hz, hb4⟩
  have T4 := b_step T3 hb4
  have sz4 := hb4.size
  have Rxs_4 := Rxs_3.below (hb4.mono (by omega))
  have W_4 := W_3.below hb4 W_3.lt
  clear hb4 Rxs_3 W_3
  simp only [World.size_alloc] at hO hz
  have szl4 := hz
  clear hz
  have Yxs_4 := hO
  clear hO
  go_wp2_with fail
  refine (i_GaussOf _ xs _ _ ((Yxs_4).reads) (by omega)).mono ?_
  rintro e w5 ⟨rfl, hb5⟩
  have T5 := b_step T4 hb5
  have sz5 := hb5.size
  have Rxs_5 := Rxs_4.below (hb5.mono (by omega))
  have W_5 := W_4.below hb5 W_4.lt
  have Yxs_5 := Yxs_4.keep hb5
  clear hb5 Rxs_4 W_4 Yxs_4
  have hb6 : Below w5.heap.size w5 (w5.alloc (.cells #[.int .i64 (goX 1 (-1) 1 xs), .int .i64 (goY 1 (-1) 1 xs)] 25)) := b_alloc (Below.refl _ _) _
  have T6 := b_step T5 hb6
  have sz6 := hb6.size
  have Rxs_6 := Rxs_5.below (hb6.mono (by omega))
  have W_6 := W_5.below hb6 W_5.lt
  have Yxs_6 := Yxs_5.keep hb6
  clear hb6 Rxs_5 W_5 Yxs_5
  have G_6 := BG.new w5 (goX 1 (-1) 1 xs) (goY 1 (-1) 1 xs)
  have cW0 := W_6.cell0
  have cW1 := W_6.cell1
  have HW := Lib.hid W_6
  clear W_6
  have cG0 := G_6.cell0
  have cG1 := G_6.cell1
  have HG := Lib.hid G_6
  clear G_6
  go_wp2_with fail
  have W_6 := HW.out
  clear HW cW0 cW1
  have G_6 := HG.out
  clear HG cG0 cG1
  skip
  refine (eqGauss_b (goX 1 (-1) 1 xs) (goY 1 (-1) 1 xs) _).mono ?_
  rintro e w7 ⟨rfl, hb7⟩
  have T7 := b_step T6 hb7
  have sz7 := hb7.size
  have Rxs_7 := Rxs_6.below (hb7.mono (by omega))
  have W_7 := W_6.below hb7 W_6.lt
  have Yxs_7 := Yxs_6.keep hb7
  have G_7 := G_6.below hb7 G_6.lt
  clear hb7 Rxs_6 W_6 Yxs_6 G_6
  clear W_7
  clear G_7
  go_wp2_with fail
  refine (toIntS_any _ xs _ _ (Rxs_7.more (by omega)) (by omega)).mono ?_
  rintro e w8 ⟨rfl, hO, hz, hb8⟩
  have T8 := b_step T7 hb8
  have sz8 := hb8.size
  have Rxs_8 := Rxs_7.below (hb8.mono (by omega))
  have Yxs_8 := Yxs_7.keep hb8
  clear hb8 Rxs_7 Yxs_7
  have szl8 := hz
  clear hz
  have Zxs_8 := hO
  clear hO
  go_wp2_with fail
  refine (eqIntS_same _ _ (xs) _ _ _ ((Yxs_8).reads) ((Zxs_8).reads) (by omega)).mono ?_
  rintro e w9 ⟨rfl, hb9⟩
  have T9 := b_step T8 hb9
  have sz9 := hb9.size
  have Rxs_9 := Rxs_8.below (hb9.mono (by omega))
  have Yxs_9 := Yxs_8.keep hb9
  have Zxs_9 := Zxs_8.keep hb9
  clear hb9 Rxs_8 Yxs_8 Zxs_8
  go_wp2
  go_ret
  exact ⟨rfl, T9⟩

theorem walk_GaussOf (w : World) (Axs : Option Addr) (xs : List Int) (cxs : Nat) (Rxs : RI w w.heap.size Axs xs) (_ : ∀ n ∈ xs, (Lit.int .i64 n).wf = true) :
    Calls Try.prog 11 #[.slice Axs xs.length cxs] w fun e w' => e = .returned (.bool true) ∧ Below w.heap.size w w' := by
  by_cases hlxs : xs.length ≤ 1048576
  · skip
    exact walk_GaussOf0 Axs xs cxs w Rxs hlxs
  · go_enter Try.func11, Try.ntmps11
    go_wp2
    go_ret
    exact ⟨rfl, Below.refl _ _⟩
end Go.Proofs.Ythblbmihpgkanaa
