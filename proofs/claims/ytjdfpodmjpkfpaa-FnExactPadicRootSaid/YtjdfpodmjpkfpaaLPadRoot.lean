/- The walk of the law on PadicRoot. Conditions: none. -/
import Derived.Test.YtjdfpodmjpkfpaaPadRoot
namespace Go.Proofs.Ytjdfpodmjpkfpaa
open Go.RowKit
set_option linter.unusedVariables false
set_option maxHeartbeats 1000000 in
theorem walk_root0 (Axs : Option Addr) (xs : List Int) (cxs : Nat) (p : Int) (w : World) (Rxs : RI w w.heap.size Axs xs) (hlxs : xs.length ≤ 1048576)  :
    Calls Try.prog 12 #[.slice Axs xs.length cxs, .int .i64 p] w fun e w' => e = .returned (.bool true) ∧ Below w.heap.size w w' := by
  have hlr : (rootR p xs).length ≤ 4294967296 := length_rootR p xs (by omega)
  have T0 : Below w.heap.size w w := Below.refl _ _
  go_enter Try.func12, Try.ntmps12
  go_wp2_with fail
  refine (toIntS_any _ xs _ _ (Rxs.more (by omega)) (by omega)).mono ?_
  rintro e w1 ⟨rfl, hO, hz, hb1⟩
  have T1 := b_step T0 hb1
  have sz1 := hb1.size
  have Rxs_1 := Rxs.below (hb1.mono (by omega))
  clear hb1
  have szl1 := hz
  clear hz
  have Xxs_1 := hO
  clear hO
  go_wp2_with fail
  refine (s_root _ xs _ p _ ((Xxs_1).reads) (by omega)).mono ?_
  rintro e w2 ⟨S0, cS, rfl, hO, hb2⟩
  have T2 := b_step T1 hb2
  have sz2 := hb2.size
  have Rxs_2 := Rxs_1.below (hb2.mono (by omega))
  have Xxs_2 := Xxs_1.keep hb2
  clear hb2 Rxs_1 Xxs_1
  have W0_2 := hO.reads
  clear hO
  clear Xxs_2
  go_wp2_with fail
  refine (toIntS_any _ xs _ _ (Rxs_2.more (by omega)) (by omega)).mono ?_
  rintro e w3 ⟨rfl, hO, hz, hb3⟩
  have T3 := b_step T2 hb3
  have sz3 := hb3.size
  have Rxs_3 := Rxs_2.below (hb3.mono (by omega))
  have W0_3 := W0_2.below (hb3.mono (by omega))
  clear hb3 Rxs_2 W0_2
  have szl3 := hz
  clear hz
  have Yxs_3 := hO
  clear hO
  go_wp2_with fail
  refine (i_root _ xs _ p _ ((Yxs_3).reads) (by omega)).mono ?_
  rintro e w4 ⟨GG0, cGG0, rfl, hO, hb4⟩
  have T4 := b_step T3 hb4
  have sz4 := hb4.size
  have Rxs_4 := Rxs_3.below (hb4.mono (by omega))
  have W0_4 := W0_3.below (hb4.mono (by omega))
  have Yxs_4 := Yxs_3.keep hb4
  clear hb4 Rxs_3 W0_3 Yxs_3
  have G0_4 := hO
  clear hO
  go_wp2_with fail
  refine (eqIntS_same _ _ (rootR p xs) _ _ _ ((G0_4).reads) (W0_4.more (by omega)) (by omega)).mono ?_
  rintro e w5 ⟨rfl, hb5⟩
  have T5 := b_step T4 hb5
  have sz5 := hb5.size
  have Rxs_5 := Rxs_4.below (hb5.mono (by omega))
  have W0_5 := W0_4.below (hb5.mono (by omega))
  have Yxs_5 := Yxs_4.keep hb5
  have G0_5 := G0_4.keep hb5
  clear hb5 Rxs_4 W0_4 Yxs_4 G0_4
  go_wp2_with fail
  refine (toIntS_any _ xs _ _ (Rxs_5.more (by omega)) (by omega)).mono ?_
  rintro e w6 ⟨rfl, hO, hz, hb6⟩
  have T6 := b_step T5 hb6
  have sz6 := hb6.size
  have Rxs_6 := Rxs_5.below (hb6.mono (by omega))
  have W0_6 := W0_5.below (hb6.mono (by omega))
  have Yxs_6 := Yxs_5.keep hb6
  have G0_6 := G0_5.keep hb6
  clear hb6 Rxs_5 W0_5 Yxs_5 G0_5
  have szl6 := hz
  clear hz
  have Zxs_6 := hO
  clear hO
  go_wp2_with fail
  refine (eqIntS_same _ _ (xs) _ _ _ ((Yxs_6).reads) ((Zxs_6).reads) (by omega)).mono ?_
  rintro e w7 ⟨rfl, hb7⟩
  have T7 := b_step T6 hb7
  have sz7 := hb7.size
  have Rxs_7 := Rxs_6.below (hb7.mono (by omega))
  have W0_7 := W0_6.below (hb7.mono (by omega))
  have Yxs_7 := Yxs_6.keep hb7
  have G0_7 := G0_6.keep hb7
  have Zxs_7 := Zxs_6.keep hb7
  clear hb7 Rxs_6 W0_6 Yxs_6 G0_6 Zxs_6
  clear Zxs_7
  go_wp2_with fail
  refine (markIntS_any (w2.heap.size) _ (xs) _ 1 _ Yxs_7 (by omega) (by omega)).mono ?_
  rintro e w8 ⟨rfl, hO, hbel, hoth, hs⟩
  have T8 := T7.trans (hbel w.heap.size (by omega) (by omega))
  have sz8 := hs
  have Rxs_8 := Rxs_7.below (hbel (w.heap.size) (by omega) (by omega))
  have W0_8 := W0_7.below (hbel (w2.heap.size) (by omega) (by omega))
  have Yxs_8 := hO
  have G0_8 := hoth _ (by intro a ha; injection ha with ha; subst ha; dsimp only; omega) _ _ G0_7
  clear hO hbel hoth hs Rxs_7 W0_7 Yxs_7 G0_7
  clear Yxs_8
  go_wp2_with fail
  refine (eqIntS_same _ _ (rootR p xs) _ _ _ ((G0_8).reads) (W0_8.more (by omega)) (by omega)).mono ?_
  rintro e w9 ⟨rfl, hb9⟩
  have T9 := b_step T8 hb9
  have sz9 := hb9.size
  have Rxs_9 := Rxs_8.below (hb9.mono (by omega))
  have W0_9 := W0_8.below (hb9.mono (by omega))
  have G0_9 := G0_8.keep hb9
  clear hb9 Rxs_8 W0_8 G0_8
  go_wp2_with fail
  refine (markIntS_any (w3.heap.size) _ (rootR p xs) _ 1 _ G0_9 (by omega) (by omega)).mono ?_
  rintro e w10 ⟨rfl, hO, hbel, hoth, hs⟩
  have T10 := T9.trans (hbel w.heap.size (by omega) (by omega))
  have sz10 := hs
  have Rxs_10 := Rxs_9.below (hbel (w.heap.size) (by omega) (by omega))
  have W0_10 := W0_9.below (hbel (w2.heap.size) (by omega) (by omega))
  have G0_10 := hO
  clear hO hbel hoth hs Rxs_9 W0_9 G0_9
  go_wp2_with fail
  refine (heldIntS_any _ (rootR p xs).length _ 1 _ ((G0_10).reads) (by omega) (by omega)).mono ?_
  rintro e w11 ⟨rfl, hb11⟩
  have T11 := b_step T10 hb11
  have sz11 := hb11.size
  have Rxs_11 := Rxs_10.below (hb11.mono (by omega))
  have W0_11 := W0_10.below (hb11.mono (by omega))
  have G0_11 := G0_10.keep hb11
  clear hb11 Rxs_10 W0_10 G0_10
  go_wp2_with fail
  refine (toIntS_any _ xs _ _ (Rxs_11.more (by omega)) (by omega)).mono ?_
  rintro e w12 ⟨rfl, hO, hz, hb12⟩
  have T12 := b_step T11 hb12
  have sz12 := hb12.size
  have Rxs_12 := Rxs_11.below (hb12.mono (by omega))
  have W0_12 := W0_11.below (hb12.mono (by omega))
  have G0_12 := G0_11.keep hb12
  clear hb12 Rxs_11 W0_11 G0_11
  have szl12 := hz
  clear hz
  have Vxs_12 := hO
  clear hO
  go_wp2_with fail
  refine (i_root _ xs _ p _ ((Vxs_12).reads) (by omega)).mono ?_
  rintro e w13 ⟨GH0, cGH0, rfl, hO, hb13⟩
  have T13 := b_step T12 hb13
  have sz13 := hb13.size
  have Rxs_13 := Rxs_12.below (hb13.mono (by omega))
  have W0_13 := W0_12.below (hb13.mono (by omega))
  have G0_13 := G0_12.keep hb13
  have Vxs_13 := Vxs_12.keep hb13
  clear hb13 Rxs_12 W0_12 G0_12 Vxs_12
  have H0_13 := hO
  clear hO
  clear Vxs_13
  go_wp2_with fail
  refine (eqIntS_same _ _ (rootR p xs) _ _ _ ((H0_13).reads) (W0_13.more (by omega)) (by omega)).mono ?_
  rintro e w14 ⟨rfl, hb14⟩
  have T14 := b_step T13 hb14
  have sz14 := hb14.size
  have Rxs_14 := Rxs_13.below (hb14.mono (by omega))
  have W0_14 := W0_13.below (hb14.mono (by omega))
  have G0_14 := G0_13.keep hb14
  have H0_14 := H0_13.keep hb14
  clear hb14 Rxs_13 W0_13 G0_13 H0_13
  clear H0_14
  clear W0_14
  go_wp2_with fail
  refine (heldIntS_any _ (rootR p xs).length _ 1 _ ((G0_14).reads) (by omega) (by omega)).mono ?_
  rintro e w15 ⟨rfl, hb15⟩
  have T15 := b_step T14 hb15
  have sz15 := hb15.size
  have Rxs_15 := Rxs_14.below (hb15.mono (by omega))
  have G0_15 := G0_14.keep hb15
  clear hb15 Rxs_14 G0_14
  go_wp2
  go_ret
  exact ⟨rfl, T15⟩

theorem walk_root (w : World) (Axs : Option Addr) (xs : List Int) (cxs : Nat) (Rxs : RI w w.heap.size Axs xs) (_ : ∀ n ∈ xs, (Lit.int .i64 n).wf = true) (p : Int) (_ : (Lit.int .i64 p).wf = true) :
    Calls Try.prog 12 #[.slice Axs xs.length cxs, .int .i64 p] w fun e w' => e = .returned (.bool true) ∧ Below w.heap.size w w' := by
  by_cases hlxs : xs.length ≤ 1048576
  · skip
    exact walk_root0 Axs xs cxs p w Rxs hlxs
  · go_enter Try.func12, Try.ntmps12
    go_wp2
    go_ret
    exact ⟨rfl, Below.refl _ _⟩
end Go.Proofs.Ytjdfpodmjpkfpaa
