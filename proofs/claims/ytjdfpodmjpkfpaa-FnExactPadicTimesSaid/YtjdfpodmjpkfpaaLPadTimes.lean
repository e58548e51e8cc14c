/- The walk of the law on PadicTimes. Conditions: none. -/
import Derived.Test.YtjdfpodmjpkfpaaPadTimes
import Derived.Test.YtjdfpodmjpkfpaaPadAddS
namespace Go.Proofs.Ytjdfpodmjpkfpaa
open Go.RowKit
set_option linter.unusedVariables false
set_option maxHeartbeats 1000000 in
theorem walk_times0 (Axs : Option Addr) (xs : List Int) (cxs : Nat) (Ays : Option Addr) (ys : List Int) (cys : Nat) (p : Int) (w : World) (Rxs : RI w w.heap.size Axs xs) (hlxs : xs.length ≤ 1048576) (Rys : RI w w.heap.size Ays ys) (hlys : ys.length ≤ 1048576)  :
    Calls Try.prog 11 #[.slice Axs xs.length cxs, .slice Ays ys.length cys, .int .i64 p] w fun e w' => e = .returned (.bool true) ∧ Below w.heap.size w w' := by
  have hlr : (timesR p xs ys).length ≤ 4294967296 := length_timesR p xs ys (by omega)
  have T0 : Below w.heap.size w w := Below.refl _ _
  go_enter Try.func11, Try.ntmps11
  go_wp2_with fail
  refine (toIntS_any _ xs _ _ (Rxs.more (by omega)) (by omega)).mono ?_
  rintro e w1 ⟨rfl, hO, hz, hb1⟩
  have T1 := b_step T0 hb1
  have sz1 := hb1.size
  have Rxs_1 := Rxs.below (hb1.mono (by omega))
  have Rys_1 := Rys.below (hb1.mono (by omega))
  clear hb1
  have szl1 := hz
  clear hz
  have Xxs_1 := hO
  clear hO
  go_wp2_with fail
  refine (toIntS_any _ ys _ _ (Rys_1.more (by omega)) (by omega)).mono ?_
  rintro e w2 ⟨rfl, hO, hz, hb2⟩
  have T2 := b_step T1 hb2
  have sz2 := hb2.size
  have Rxs_2 := Rxs_1.below (hb2.mono (by omega))
  have Rys_2 := Rys_1.below (hb2.mono (by omega))
  have Xxs_2 := Xxs_1.keep hb2
  clear hb2 Rxs_1 Rys_1 Xxs_1
  have szl2 := hz
  clear hz
  have Xys_2 := hO
  clear hO
  go_wp2_with fail
  refine (s_times _ _ xs ys _ _ p _ ((Xxs_2).reads) ((Xys_2).reads) (by omega) (by omega)).mono ?_
  rintro e w3 ⟨S0, cS, rfl, hO, hb3⟩
  have T3 := b_step T2 hb3
  have sz3 := hb3.size
  have Rxs_3 := Rxs_2.below (hb3.mono (by omega))
  have Rys_3 := Rys_2.below (hb3.mono (by omega))
  have Xxs_3 := Xxs_2.keep hb3
  have Xys_3 := Xys_2.keep hb3
  clear hb3 Rxs_2 Rys_2 Xxs_2 Xys_2
  have W0_3 := hO.reads
  clear hO
  clear Xxs_3
  clear Xys_3
  go_wp2_with fail
  refine (toIntS_any _ xs _ _ (Rxs_3.more (by omega)) (by omega)).mono ?_
  rintro e w4 ⟨rfl, hO, hz, hb4⟩
  have T4 := b_step T3 hb4
  have sz4 := hb4.size
  have Rxs_4 := Rxs_3.below (hb4.mono (by omega))
  have Rys_4 := Rys_3.below (hb4.mono (by omega))
  have W0_4 := W0_3.below (hb4.mono (by omega))
  clear hb4 Rxs_3 Rys_3 W0_3
  have szl4 := hz
  clear hz
  have Yxs_4 := hO
  clear hO
  go_wp2_with fail
  refine (toIntS_any _ ys _ _ (Rys_4.more (by omega)) (by omega)).mono ?_
  rintro e w5 ⟨rfl, hO, hz, hb5⟩
  have T5 := b_step T4 hb5
  have sz5 := hb5.size
  have Rxs_5 := Rxs_4.below (hb5.mono (by omega))
  have Rys_5 := Rys_4.below (hb5.mono (by omega))
  have W0_5 := W0_4.below (hb5.mono (by omega))
  have Yxs_5 := Yxs_4.keep hb5
  clear hb5 Rxs_4 Rys_4 W0_4 Yxs_4
  have szl5 := hz
  clear hz
  have Yys_5 := hO
  clear hO
  go_wp2_with fail
  refine (i_times _ _ xs ys _ _ p _ ((Yxs_5).reads) ((Yys_5).reads) (by omega) (by omega)).mono ?_
  rintro e w6 ⟨GG0, cGG0, rfl, hO, hb6⟩
  have T6 := b_step T5 hb6
  have sz6 := hb6.size
  have Rxs_6 := Rxs_5.below (hb6.mono (by omega))
  have Rys_6 := Rys_5.below (hb6.mono (by omega))
  have W0_6 := W0_5.below (hb6.mono (by omega))
  have Yxs_6 := Yxs_5.keep hb6
  have Yys_6 := Yys_5.keep hb6
  clear hb6 Rxs_5 Rys_5 W0_5 Yxs_5 Yys_5
  have G0_6 := hO
  clear hO
  go_wp2_with fail
  refine (eqIntS_same _ _ (timesR p xs ys) _ _ _ ((G0_6).reads) (W0_6.more (by omega)) (by omega)).mono ?_
  rintro e w7 ⟨rfl, hb7⟩
  have T7 := b_step T6 hb7
  have sz7 := hb7.size
  have Rxs_7 := Rxs_6.below (hb7.mono (by omega))
  have Rys_7 := Rys_6.below (hb7.mono (by omega))
  have W0_7 := W0_6.below (hb7.mono (by omega))
  have Yxs_7 := Yxs_6.keep hb7
  have Yys_7 := Yys_6.keep hb7
  have G0_7 := G0_6.keep hb7
  clear hb7 Rxs_6 Rys_6 W0_6 Yxs_6 Yys_6 G0_6
  go_wp2_with fail
  refine (toIntS_any _ xs _ _ (Rxs_7.more (by omega)) (by omega)).mono ?_
  rintro e w8 ⟨rfl, hO, hz, hb8⟩
  have T8 := b_step T7 hb8
  have sz8 := hb8.size
  have Rxs_8 := Rxs_7.below (hb8.mono (by omega))
  have Rys_8 := Rys_7.below (hb8.mono (by omega))
  have W0_8 := W0_7.below (hb8.mono (by omega))
  have Yxs_8 := Yxs_7.keep hb8
  have Yys_8 := Yys_7.keep hb8
  have G0_8 := G0_7.keep hb8
  clear hb8 Rxs_7 Rys_7 W0_7 Yxs_7 Yys_7 G0_7
  have szl8 := hz
  clear hz
  have Zxs_8 := hO
  clear hO
  go_wp2_with fail
  refine (eqIntS_same _ _ (xs) _ _ _ ((Yxs_8).reads) ((Zxs_8).reads) (by omega)).mono ?_
  rintro e w9 ⟨rfl, hb9⟩
  have T9 := b_step T8 hb9
  have sz9 := hb9.size
  have Rxs_9 := Rxs_8.below (hb9.mono (by omega))
  have Rys_9 := Rys_8.below (hb9.mono (by omega))
  have W0_9 := W0_8.below (hb9.mono (by omega))
  have Yxs_9 := Yxs_8.keep hb9
  have Yys_9 := Yys_8.keep hb9
  have G0_9 := G0_8.keep hb9
  have Zxs_9 := Zxs_8.keep hb9
  clear hb9 Rxs_8 Rys_8 W0_8 Yxs_8 Yys_8 G0_8 Zxs_8
  clear Zxs_9
  go_wp2_with fail
  refine (toIntS_any _ ys _ _ (Rys_9.more (by omega)) (by omega)).mono ?_
  rintro e w10 ⟨rfl, hO, hz, hb10⟩
  have T10 := b_step T9 hb10
  have sz10 := hb10.size
  have Rxs_10 := Rxs_9.below (hb10.mono (by omega))
  have Rys_10 := Rys_9.below (hb10.mono (by omega))
  have W0_10 := W0_9.below (hb10.mono (by omega))
  have Yxs_10 := Yxs_9.keep hb10
  have Yys_10 := Yys_9.keep hb10
  have G0_10 := G0_9.keep hb10
  clear hb10 Rxs_9 Rys_9 W0_9 Yxs_9 Yys_9 G0_9
  have szl10 := hz
  clear hz
  have Zys_10 := hO
  clear hO
  go_wp2_with fail
  refine (eqIntS_same _ _ (ys) _ _ _ ((Yys_10).reads) ((Zys_10).reads) (by omega)).mono ?_
  rintro e w11 ⟨rfl, hb11⟩
  have T11 := b_step T10 hb11
  have sz11 := hb11.size
  have Rxs_11 := Rxs_10.below (hb11.mono (by omega))
  have Rys_11 := Rys_10.below (hb11.mono (by omega))
  have W0_11 := W0_10.below (hb11.mono (by omega))
  have Yxs_11 := Yxs_10.keep hb11
  have Yys_11 := Yys_10.keep hb11
  have G0_11 := G0_10.keep hb11
  have Zys_11 := Zys_10.keep hb11
  clear hb11 Rxs_10 Rys_10 W0_10 Yxs_10 Yys_10 G0_10 Zys_10
  clear Zys_11
  go_wp2_with fail
  refine (markIntS_any (w3.heap.size) _ (xs) _ 1 _ Yxs_11 (by omega) (by omega)).mono ?_
  rintro e w12 ⟨rfl, hO, hbel, hoth, hs⟩
  have T12 := T11.trans (hbel w.heap.size (by omega) (by omega))
  have sz12 := hs
  have Rxs_12 := Rxs_11.below (hbel (w.heap.size) (by omega) (by omega))
  have Rys_12 := Rys_11.below (hbel (w.heap.size) (by omega) (by omega))
  have W0_12 := W0_11.below (hbel (w3.heap.size) (by omega) (by omega))
  have Yxs_12 := hO
  have Yys_12 := hoth _ (by intro a ha; injection ha with ha; subst ha; dsimp only; omega) _ _ Yys_11
  have G0_12 := hoth _ (by intro a ha; injection ha with ha; subst ha; dsimp only; omega) _ _ G0_11
  clear hO hbel hoth hs Rxs_11 Rys_11 W0_11 Yxs_11 Yys_11 G0_11
  clear Yxs_12
  go_wp2_with fail
  refine (markIntS_any (w4.heap.size) _ (ys) _ (1 + xs.length) _ Yys_12 (by omega) (by omega)).mono ?_
  rintro e w13 ⟨rfl, hO, hbel, hoth, hs⟩
  have T13 := T12.trans (hbel w.heap.size (by omega) (by omega))
  have sz13 := hs
  have Rxs_13 := Rxs_12.below (hbel (w.heap.size) (by omega) (by omega))
  have Rys_13 := Rys_12.below (hbel (w.heap.size) (by omega) (by omega))
  have W0_13 := W0_12.below (hbel (w3.heap.size) (by omega) (by omega))
  have Yys_13 := hO
  have G0_13 := hoth _ (by intro a ha; injection ha with ha; subst ha; dsimp only; omega) _ _ G0_12
  clear hO hbel hoth hs Rxs_12 Rys_12 W0_12 Yys_12 G0_12
  clear Yys_13
  go_wp2_with fail
  refine (eqIntS_same _ _ (timesR p xs ys) _ _ _ ((G0_13).reads) (W0_13.more (by omega)) (by omega)).mono ?_
  rintro e w14 ⟨rfl, hb14⟩
  have T14 := b_step T13 hb14
  have sz14 := hb14.size
  have Rxs_14 := Rxs_13.below (hb14.mono (by omega))
  have Rys_14 := Rys_13.below (hb14.mono (by omega))
  have W0_14 := W0_13.below (hb14.mono (by omega))
  have G0_14 := G0_13.keep hb14
  clear hb14 Rxs_13 Rys_13 W0_13 G0_13
  go_wp2_with fail
  refine (markIntS_any (w5.heap.size) _ (timesR p xs ys) _ 1 _ G0_14 (by omega) (by omega)).mono ?_
  rintro e w15 ⟨rfl, hO, hbel, hoth, hs⟩
  have T15 := T14.trans (hbel w.heap.size (by omega) (by omega))
  have sz15 := hs
  have Rxs_15 := Rxs_14.below (hbel (w.heap.size) (by omega) (by omega))
  have Rys_15 := Rys_14.below (hbel (w.heap.size) (by omega) (by omega))
  have W0_15 := W0_14.below (hbel (w3.heap.size) (by omega) (by omega))
  have G0_15 := hO
  clear hO hbel hoth hs Rxs_14 Rys_14 W0_14 G0_14
  go_wp2_with fail
  refine (heldIntS_any _ (timesR p xs ys).length _ 1 _ ((G0_15).reads) (by omega) (by omega)).mono ?_
  rintro e w16 ⟨rfl, hb16⟩
  have T16 := b_step T15 hb16
  have sz16 := hb16.size
  have Rxs_16 := Rxs_15.below (hb16.mono (by omega))
  have Rys_16 := Rys_15.below (hb16.mono (by omega))
  have W0_16 := W0_15.below (hb16.mono (by omega))
  have G0_16 := G0_15.keep hb16
  clear hb16 Rxs_15 Rys_15 W0_15 G0_15
  go_wp2_with fail
  refine (toIntS_any _ xs _ _ (Rxs_16.more (by omega)) (by omega)).mono ?_
  rintro e w17 ⟨rfl, hO, hz, hb17⟩
  have T17 := b_step T16 hb17
  have sz17 := hb17.size
  have Rxs_17 := Rxs_16.below (hb17.mono (by omega))
  have Rys_17 := Rys_16.below (hb17.mono (by omega))
  have W0_17 := W0_16.below (hb17.mono (by omega))
  have G0_17 := G0_16.keep hb17
  clear hb17 Rxs_16 Rys_16 W0_16 G0_16
  have szl17 := hz
  clear hz
  have Vxs_17 := hO
  clear hO
  go_wp2_with fail
  refine (toIntS_any _ ys _ _ (Rys_17.more (by omega)) (by omega)).mono ?_
  rintro e w18 ⟨rfl, hO, hz, hb18⟩
  have T18 := b_step T17 hb18
  have sz18 := hb18.size
  have Rxs_18 := Rxs_17.below (hb18.mono (by omega))
  have Rys_18 := Rys_17.below (hb18.mono (by omega))
  have W0_18 := W0_17.below (hb18.mono (by omega))
  have G0_18 := G0_17.keep hb18
  have Vxs_18 := Vxs_17.keep hb18
  clear hb18 Rxs_17 Rys_17 W0_17 G0_17 Vxs_17
  have szl18 := hz
  clear hz
  have Vys_18 := hO
  clear hO
  go_wp2_with fail
  refine (i_times _ _ xs ys _ _ p _ ((Vxs_18).reads) ((Vys_18).reads) (by omega) (by omega)).mono ?_
  rintro e w19 ⟨GH0, cGH0, rfl, hO, hb19⟩
  have T19 := b_step T18 hb19
  have sz19 := hb19.size
  have Rxs_19 := Rxs_18.below (hb19.mono (by omega))
  have Rys_19 := Rys_18.below (hb19.mono (by omega))
  have W0_19 := W0_18.below (hb19.mono (by omega))
  have G0_19 := G0_18.keep hb19
  have Vxs_19 := Vxs_18.keep hb19
  have Vys_19 := Vys_18.keep hb19
  clear hb19 Rxs_18 Rys_18 W0_18 G0_18 Vxs_18 Vys_18
  have H0_19 := hO
  clear hO
  clear Vxs_19
  clear Vys_19
  go_wp2_with fail
  refine (eqIntS_same _ _ (timesR p xs ys) _ _ _ ((H0_19).reads) (W0_19.more (by omega)) (by omega)).mono ?_
  rintro e w20 ⟨rfl, hb20⟩
  have T20 := b_step T19 hb20
  have sz20 := hb20.size
  have Rxs_20 := Rxs_19.below (hb20.mono (by omega))
  have Rys_20 := Rys_19.below (hb20.mono (by omega))
  have W0_20 := W0_19.below (hb20.mono (by omega))
  have G0_20 := G0_19.keep hb20
  have H0_20 := H0_19.keep hb20
  clear hb20 Rxs_19 Rys_19 W0_19 G0_19 H0_19
  clear H0_20
  clear W0_20
  go_wp2_with fail
  refine (heldIntS_any _ (timesR p xs ys).length _ 1 _ ((G0_20).reads) (by omega) (by omega)).mono ?_
  rintro e w21 ⟨rfl, hb21⟩
  have T21 := b_step T20 hb21
  have sz21 := hb21.size
  have Rxs_21 := Rxs_20.below (hb21.mono (by omega))
  have Rys_21 := Rys_20.below (hb21.mono (by omega))
  have G0_21 := G0_20.keep hb21
  clear hb21 Rxs_20 Rys_20 G0_20
  go_wp2
  go_ret
  exact ⟨rfl, T21⟩

theorem walk_times (w : World) (Axs : Option Addr) (xs : List Int) (cxs : Nat) (Rxs : RI w w.heap.size Axs xs) (_ : ∀ n ∈ xs, (Lit.int .i64 n).wf = true) (Ays : Option Addr) (ys : List Int) (cys : Nat) (Rys : RI w w.heap.size Ays ys) (_ : ∀ n ∈ ys, (Lit.int .i64 n).wf = true) (p : Int) (_ : (Lit.int .i64 p).wf = true) :
    Calls Try.prog 11 #[.slice Axs xs.length cxs, .slice Ays ys.length cys, .int .i64 p] w fun e w' => e = .returned (.bool true) ∧ Below w.heap.size w w' := by
  by_cases hlxs : xs.length ≤ 1048576
  · skip
    by_cases hlys : ys.length ≤ 1048576
    · skip
      exact walk_times0 Axs xs cxs Ays ys cys p w Rxs hlxs Rys hlys
    · go_enter Try.func11, Try.ntmps11
      go_wp2
      go_ret
      exact ⟨rfl, Below.refl _ _⟩
  · go_enter Try.func11, Try.ntmps11
    go_wp2
    go_ret
    exact ⟨rfl, Below.refl _ _⟩
end Go.Proofs.Ytjdfpodmjpkfpaa
