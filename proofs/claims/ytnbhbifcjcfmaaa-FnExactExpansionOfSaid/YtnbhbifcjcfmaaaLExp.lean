/- The walk of the law on ExpansionOf. Conditions: none. -/
import Derived.Test.YtnbhbifcjcfmaaaExpI
import Derived.Test.YtnbhbifcjcfmaaaExpS
namespace Go.Proofs.Ytnbhbifcjcfmaaa
open Go.RowKit
set_option linter.unusedVariables false

theorem OI.belowB {w w' : World} {B0 C : Nat} {A : Option Addr} {xs : List Int} (h : OI w B0 A xs) (hA : ∀ a, A = some a → a.block < C) (hb : Below C w w') : OI w' B0 A xs := by
  rcases h with h | ⟨g, off, cs, hA', hB, hc, hf⟩
  · exact .inl h
  · exact .inr ⟨g, off, cs, hA', hB, hc.below hb (hA _ hA'), hf⟩
set_option maxHeartbeats 1000000 in
theorem walk_exp0 (p : Int) (q : Int) (b : Int) (w : World)   :
    Calls Try.prog 9 #[.int .i64 p, .int .i64 q, .int .i64 b] w fun e w' => e = .returned (.bool true) ∧ Below w.heap.size w w' := by
  obtain ⟨lx, ly⟩ := ex_len p q b
  have T0 : Below w.heap.size w w := Below.refl _ _
  go_enter Try.func9, Try.ntmps9
  go_wp2_with fail
  refine (s_exp p q b _).mono ?_
  rintro e w1 ⟨SA1, sc1, SA2, sc2, rfl, hRa, hRb, hb1⟩
  have T1 := b_step T0 hb1
  have sz1 := hb1.size
  clear hb1
  have W0_1 := hRa
  have W1_1 := hRb
  clear hRa hRb
  go_wp2_with fail
  refine (i_exp p q b _).mono ?_
  rintro e w2 ⟨GA, gc, GB, gd, BB, rfl, hOa, hla, hOb, hBa, hBb, hb2⟩
  have T2 := b_step T1 hb2
  have sz2 := hb2.size
  have W0_2 := W0_1.below (hb2.mono (by omega))
  have W1_2 := W1_1.below (hb2.mono (by omega))
  clear hb2 W0_1 W1_1
  have G0_2 := hOa
  have G1_2 := hOb
  clear hOa hOb
  go_wp2_with fail
  refine (eqIntS_same _ _ (exPre p q b) _ _ _ ((G0_2).reads) (W0_2.more (by omega)) (by omega)).mono ?_
  rintro e w3 ⟨rfl, hb3⟩
  have T3 := b_step T2 hb3
  have sz3 := hb3.size
  have W0_3 := W0_2.below (hb3.mono (by omega))
  have W1_3 := W1_2.below (hb3.mono (by omega))
  have G0_3 := G0_2.keep hb3
  have G1_3 := G1_2.keep hb3
  clear hb3 W0_2 W1_2 G0_2 G1_2
  go_wp2_with fail
  refine (eqIntS_same _ _ (exPer p q b) _ _ _ ((G1_3).reads) (W1_3.more (by omega)) (by omega)).mono ?_
  rintro e w4 ⟨rfl, hb4⟩
  have T4 := b_step T3 hb4
  have sz4 := hb4.size
  have W0_4 := W0_3.below (hb4.mono (by omega))
  have W1_4 := W1_3.below (hb4.mono (by omega))
  have G0_4 := G0_3.keep hb4
  have G1_4 := G1_3.keep hb4
  clear hb4 W0_3 W1_3 G0_3 G1_3
  go_wp2_with fail
  refine (markIntS_any (w1.heap.size) _ (exPre p q b) _ 1 _ G0_4 (by omega) (by omega)).mono ?_
  rintro e w5 ⟨rfl, hO, hbel, hoth, hs⟩
  have T5 := T4.trans (hbel w.heap.size (by omega) (by omega))
  have sz5 := hs
  have W0_5 := W0_4.below (hbel (w1.heap.size) (by omega) (by omega))
  have W1_5 := W1_4.below (hbel (w1.heap.size) (by omega) (by omega))
  have G0_5 := hO
  have G1_5 := hoth _ hla _ _ G1_4
  clear hO hbel hoth hs W0_4 W1_4 G0_4 G1_4
  go_wp2_with fail
  refine (markIntS_any (BB) _ (exPer p q b) _ (1 + (exPre p q b).length) _ G1_5 (by omega) (by omega)).mono ?_
  rintro e w6 ⟨rfl, hO, hbel, hoth, hs⟩
  have T6 := T5.trans (hbel w.heap.size (by omega) (by omega))
  have sz6 := hs
  have W0_6 := W0_5.below (hbel (w1.heap.size) (by omega) (by omega))
  have W1_6 := W1_5.below (hbel (w1.heap.size) (by omega) (by omega))
  have G0_6 := G0_5.belowB hla (hbel (BB) (by omega) (by omega))
  have G1_6 := hO
  clear hO hbel hoth hs W0_5 W1_5 G0_5 G1_5
  go_wp2_with fail
  refine (heldIntS_any _ (exPre p q b).length _ 1 _ ((G0_6).reads) (by omega) (by omega)).mono ?_
  rintro e w7 ⟨rfl, hb7⟩
  have T7 := b_step T6 hb7
  have sz7 := hb7.size
  have W0_7 := W0_6.below (hb7.mono (by omega))
  have W1_7 := W1_6.below (hb7.mono (by omega))
  have G0_7 := G0_6.keep hb7
  have G1_7 := G1_6.keep hb7
  clear hb7 W0_6 W1_6 G0_6 G1_6
  go_wp2_with fail
  refine (heldIntS_any _ (exPer p q b).length _ (1 + (exPre p q b).length) _ ((G1_7).reads) (by omega) (by omega)).mono ?_
  rintro e w8 ⟨rfl, hb8⟩
  have T8 := b_step T7 hb8
  have sz8 := hb8.size
  have W0_8 := W0_7.below (hb8.mono (by omega))
  have W1_8 := W1_7.below (hb8.mono (by omega))
  have G0_8 := G0_7.keep hb8
  have G1_8 := G1_7.keep hb8
  clear hb8 W0_7 W1_7 G0_7 G1_7
  go_wp2_with fail
  refine (i_exp p q b _).mono ?_
  rintro e w9 ⟨HA, hc, HB, hd, BC, rfl, hOa, hlh, hOb, hBc, hBd, hb9⟩
  have T9 := b_step T8 hb9
  have sz9 := hb9.size
  have W0_9 := W0_8.below (hb9.mono (by omega))
  have W1_9 := W1_8.below (hb9.mono (by omega))
  have G0_9 := G0_8.keep hb9
  have G1_9 := G1_8.keep hb9
  clear hb9 W0_8 W1_8 G0_8 G1_8
  have H0_9 := hOa
  have H1_9 := hOb
  clear hOa hOb hlh
  go_wp2_with fail
  refine (eqIntS_same _ _ (exPre p q b) _ _ _ ((H0_9).reads) (W0_9.more (by omega)) (by omega)).mono ?_
  rintro e w10 ⟨rfl, hb10⟩
  have T10 := b_step T9 hb10
  have sz10 := hb10.size
  have W0_10 := W0_9.below (hb10.mono (by omega))
  have W1_10 := W1_9.below (hb10.mono (by omega))
  have G0_10 := G0_9.keep hb10
  have G1_10 := G1_9.keep hb10
  have H0_10 := H0_9.keep hb10
  have H1_10 := H1_9.keep hb10
  clear hb10 W0_9 W1_9 G0_9 G1_9 H0_9 H1_9
  go_wp2_with fail
  refine (eqIntS_same _ _ (exPer p q b) _ _ _ ((H1_10).reads) (W1_10.more (by omega)) (by omega)).mono ?_
  rintro e w11 ⟨rfl, hb11⟩
  have T11 := b_step T10 hb11
  have sz11 := hb11.size
  have W0_11 := W0_10.below (hb11.mono (by omega))
  have W1_11 := W1_10.below (hb11.mono (by omega))
  have G0_11 := G0_10.keep hb11
  have G1_11 := G1_10.keep hb11
  have H0_11 := H0_10.keep hb11
  have H1_11 := H1_10.keep hb11
  clear hb11 W0_10 W1_10 G0_10 G1_10 H0_10 H1_10
  clear H0_11
  clear H1_11
  clear W0_11
  clear W1_11
  go_wp2_with fail
  refine (heldIntS_any _ (exPre p q b).length _ 1 _ ((G0_11).reads) (by omega) (by omega)).mono ?_
  rintro e w12 ⟨rfl, hb12⟩
  have T12 := b_step T11 hb12
  have sz12 := hb12.size
  have G0_12 := G0_11.keep hb12
  have G1_12 := G1_11.keep hb12
  clear hb12 G0_11 G1_11
  go_wp2_with fail
  refine (heldIntS_any _ (exPer p q b).length _ (1 + (exPre p q b).length) _ ((G1_12).reads) (by omega) (by omega)).mono ?_
  rintro e w13 ⟨rfl, hb13⟩
  have T13 := b_step T12 hb13
  have sz13 := hb13.size
  have G0_13 := G0_12.keep hb13
  have G1_13 := G1_12.keep hb13
  clear hb13 G0_12 G1_12
  go_wp2
  go_ret
  exact ⟨rfl, T13⟩

theorem walk_exp (w : World) (p : Int) (_ : (Lit.int .i64 p).wf = true) (q : Int) (_ : (Lit.int .i64 q).wf = true) (b : Int) (_ : (Lit.int .i64 b).wf = true) :
    Calls Try.prog 9 #[.int .i64 p, .int .i64 q, .int .i64 b] w fun e w' => e = .returned (.bool true) ∧ Below w.heap.size w w' := by
  exact walk_exp0 p q b w 
end Go.Proofs.Ytnbhbifcjcfmaaa
