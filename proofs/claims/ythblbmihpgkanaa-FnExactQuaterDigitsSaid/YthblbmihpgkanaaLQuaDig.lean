/- The walk of the law on QuaterDigits. Conditions: none. -/
import Derived.Test.YthblbmihpgkanaaQuaI
import Derived.Test.YthblbmihpgkanaaQuaS
import Derived.Test.YthblbmihpgkanaaGaussBL
namespace Go.Proofs.Ythblbmihpgkanaa
open Go.RowKit
set_option linter.unusedVariables false
set_option maxHeartbeats 1000000 in
theorem walk_qdig0 (zx zy : Int) (w : World)   :
    Calls Try.prog 10 #[.agg #[.int .i64 zx, .int .i64 zy]] w fun e w' => e = .returned (.bool true) ∧ Below w.heap.size w w' := by
  have hlr : (qdR zx zy).length ≤ 4294967296 := by have := length_qdR zx zy; omega
  have Z : BL (w.alloc (.cells #[.int .i64 zx, .int .i64 zy] 23)) w.heap.size zx zy := BL.new _ _ _
  have T0 : Below w.heap.size w (w.alloc (.cells #[.int .i64 zx, .int .i64 zy] 23)) := b_alloc (Below.refl _ _) _
  have sz0 : w.heap.size + 1 ≤ (w.alloc (.cells #[.int .i64 zx, .int .i64 zy] 23)).heap.size := by simp
  go_enter Try.func10, Try.ntmps10
  have cz0 := Z.cell0
  have cz1 := Z.cell1
  have HZ := Lib.hid Z
  clear Z
  go_wp2_with fail
  have Z := HZ.out
  clear HZ cz0 cz1
  skip
  refine (toGauss_b zx zy _).mono ?_
  rintro e w1 ⟨rfl, hb1⟩
  have T1 := b_step T0 hb1
  have sz1 := hb1.size
  have Z_1 := Z.below hb1 Z.lt
  clear hb1 Z
  go_wp2_with fail
  refine (s_qdig zx zy _).mono ?_
  rintro e w2 ⟨S0, cS, rfl, hO, hb2⟩
  have T2 := b_step T1 hb2
  have sz2 := hb2.size
  have Z_2 := Z_1.below hb2 Z_1.lt
  clear hb2 Z_1
  have W0_2 := hO.reads
  clear hO
  have cz0 := Z_2.cell0
  have cz1 := Z_2.cell1
  have HZ := Lib.hid Z_2
  clear Z_2
  go_wp2_with fail
  have Z_2 := HZ.out
  clear HZ cz0 cz1
  skip
  refine (toGauss_b zx zy _).mono ?_
  rintro e w3 ⟨rfl, hb3⟩
  have T3 := b_step T2 hb3
  have sz3 := hb3.size
  have Z_3 := Z_2.below hb3 Z_2.lt
  have W0_3 := W0_2.below (hb3.mono (by omega))
  clear hb3 Z_2 W0_2
  go_wp2_with fail
  refine (i_qdig zx zy _).mono ?_
  rintro e w4 ⟨GG0, cGG0, rfl, hO, hb4⟩
  have T4 := b_step T3 hb4
  have sz4 := hb4.size
  have Z_4 := Z_3.below hb4 Z_3.lt
  have W0_4 := W0_3.below (hb4.mono (by omega))
  clear hb4 Z_3 W0_3
  have G0_4 := hO
  clear hO
  go_wp2_with fail
  refine (eqIntS_same _ _ (qdR zx zy) _ _ _ ((G0_4).reads) (W0_4.more (by omega)) (by omega)).mono ?_
  rintro e w5 ⟨rfl, hb5⟩
  have T5 := b_step T4 hb5
  have sz5 := hb5.size
  have Z_5 := Z_4.below hb5 Z_4.lt
  have W0_5 := W0_4.below (hb5.mono (by omega))
  have G0_5 := G0_4.keep hb5
  clear hb5 Z_4 W0_4 G0_4
  go_wp2_with fail
  refine (markIntS_any (w3.heap.size) _ (qdR zx zy) _ 1 _ G0_5 (by omega) (by omega)).mono ?_
  rintro e w6 ⟨rfl, hO, hbel, hoth, hs⟩
  have T6 := T5.trans (hbel w.heap.size (by omega) (by omega))
  have sz6 := hs
  have Z_6 := Z_5.below (hbel (w.heap.size + 1) (by omega) (by omega)) (by omega)
  have W0_6 := W0_5.below (hbel (w2.heap.size) (by omega) (by omega))
  have G0_6 := hO
  clear hO hbel hoth hs Z_5 W0_5 G0_5
  go_wp2_with fail
  refine (heldIntS_any _ (qdR zx zy).length _ 1 _ ((G0_6).reads) (by omega) (by omega)).mono ?_
  rintro e w7 ⟨rfl, hb7⟩
  have T7 := b_step T6 hb7
  have sz7 := hb7.size
  have Z_7 := Z_6.below hb7 Z_6.lt
  have W0_7 := W0_6.below (hb7.mono (by omega))
  have G0_7 := G0_6.keep hb7
  clear hb7 Z_6 W0_6 G0_6
  have cz0 := Z_7.cell0
  have cz1 := Z_7.cell1
  have HZ := Lib.hid Z_7
  clear Z_7
  go_wp2_with fail
  have Z_7 := HZ.out
  clear HZ cz0 cz1
  skip
  refine (toGauss_b zx zy _).mono ?_
  rintro e w8 ⟨rfl, hb8⟩
  have T8 := b_step T7 hb8
  have sz8 := hb8.size
  have Z_8 := Z_7.below hb8 Z_7.lt
  have W0_8 := W0_7.below (hb8.mono (by omega))
  have G0_8 := G0_7.keep hb8
  clear hb8 Z_7 W0_7 G0_7
  go_wp2_with fail
  refine (i_qdig zx zy _).mono ?_
  rintro e w9 ⟨GH0, cGH0, rfl, hO, hb9⟩
  have T9 := b_step T8 hb9
  have sz9 := hb9.size
  have Z_9 := Z_8.below hb9 Z_8.lt
  have W0_9 := W0_8.below (hb9.mono (by omega))
  have G0_9 := G0_8.keep hb9
  clear hb9 Z_8 W0_8 G0_8
  have H0_9 := hO
  clear hO
  go_wp2_with fail
  refine (eqIntS_same _ _ (qdR zx zy) _ _ _ ((H0_9).reads) (W0_9.more (by omega)) (by omega)).mono ?_
  rintro e w10 ⟨rfl, hb10⟩
  have T10 := b_step T9 hb10
  have sz10 := hb10.size
  have Z_10 := Z_9.below hb10 Z_9.lt
  have W0_10 := W0_9.below (hb10.mono (by omega))
  have G0_10 := G0_9.keep hb10
  have H0_10 := H0_9.keep hb10
  clear hb10 Z_9 W0_9 G0_9 H0_9
  clear H0_10
  clear W0_10
  go_wp2_with fail
  refine (heldIntS_any _ (qdR zx zy).length _ 1 _ ((G0_10).reads) (by omega) (by omega)).mono ?_
  rintro e w11 ⟨rfl, hb11⟩
  have T11 := b_step T10 hb11
  have sz11 := hb11.size
  have Z_11 := Z_10.below hb11 Z_10.lt
  have G0_11 := G0_10.keep hb11
  clear hb11 Z_10 G0_10
  go_wp2
  go_ret
  exact ⟨rfl, T11⟩

theorem walk_qdig (w : World) (zx zy : Int) (_ : (Lit.int .i64 zx).wf = true) (_ : (Lit.int .i64 zy).wf = true) :
    Calls Try.prog 10 #[.agg #[.int .i64 zx, .int .i64 zy]] w fun e w' => e = .returned (.bool true) ∧ Below w.heap.size w w' := by
  exact walk_qdig0 zx zy w 
end Go.Proofs.Ythblbmihpgkanaa
