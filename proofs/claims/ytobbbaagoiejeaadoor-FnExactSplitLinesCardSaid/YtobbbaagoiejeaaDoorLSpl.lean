/- The walk of the law SplitLines over the contracts. Conditions: internal/bytealg.MaxLen holds some number. -/
import Derived.Test.YtobbbaagoiejeaaDoorSplL
namespace Go.Proofs.YtobbbaagoiejeaaDoor
open Go.RowKit
set_option linter.unusedVariables false
set_option maxHeartbeats 2000000 in
theorem law_spl0 (s : ByteArray) (mx : Int) (w : World) (hs : s.size ≤ 1048576) (hx : w.cell? ⟨2, 0, none⟩ = some (.int .i64 mx)) :
    Calls Tryd.prog 9 #[.string s] w fun e w' => e = .returned (.bool true) ∧ Below w.heap.size w w' := by
  have HX := Lib.hid hx
  have h2 : 2 < w.heap.size := World.block_lt_of_cell? w ⟨2, 0, none⟩ hx
  clear hx
  have hlr : (lnsOf (pcs s)).length ≤ 4294967296 := by have := lns_le s; omega
  have hsi : (s.size : Int) ≤ 1048576 := by omega
  have T0 : Below w.heap.size w w := Below.refl _ _
  go_enter Tryd.func9, Tryd.ntmps9
  go_wp2_with fail
  refine (s_splitLines s _ (by omega)).mono ?_
  rintro e w1 ⟨S0, cS, rfl, hO, hb1⟩
  have T1 := b_step T0 hb1
  have sz1 := hb1.size
  clear hb1
  have W0_1 := hO.reads
  clear hO
  go_wp2_with fail
  refine (i_splitLines s mx _ (by omega) ((T1.cell (p := ⟨2, 0, none⟩) h2).trans HX.out)).mono ?_
  rintro e w2 ⟨GG0, cGG0, rfl, hO, hb2⟩
  have T2 := b_step T1 hb2
  have sz2 := hb2.size
  have W0_2 := W0_1.below (hb2.mono (by omega))
  clear hb2 W0_1
  have G0_2 := hO
  clear hO
  go_wp2_with fail
  refine (eqStringS_same _ _ (lnsOf (pcs s)) _ _ _ ((G0_2).reads) (W0_2.more (by omega)) (by omega)).mono ?_
  rintro e w3 ⟨rfl, hb3⟩
  have T3 := b_step T2 hb3
  have sz3 := hb3.size
  have W0_3 := W0_2.below (hb3.mono (by omega))
  have G0_3 := G0_2.keep hb3
  clear hb3 W0_2 G0_2
  go_wp2_with fail
  refine (markStringS_any (w1.heap.size) _ (lnsOf (pcs s)) _ 1 _ G0_3 (by omega) (by omega) (by omega)).mono ?_
  rintro e w4 ⟨rfl, hO, hbel, hoth, hs⟩
  have T4 := T3.trans (hbel w.heap.size (by omega) (by omega))
  have sz4 := hs
  have W0_4 := W0_3.below (hbel (w1.heap.size) (by omega) (by omega))
  have G0_4 := hO
  clear hO hbel hoth hs W0_3 G0_3
  go_wp2_with fail
  refine (heldStringS_any _ (lnsOf (pcs s)).length _ 1 _ ((G0_4).reads) (by omega) (by omega) (by omega)).mono ?_
  rintro e w5 ⟨rfl, hb5⟩
  have T5 := b_step T4 hb5
  have sz5 := hb5.size
  have W0_5 := W0_4.below (hb5.mono (by omega))
  have G0_5 := G0_4.keep hb5
  clear hb5 W0_4 G0_4
  go_wp2_with fail
  refine (i_splitLines s mx _ (by omega) ((T5.cell (p := ⟨2, 0, none⟩) h2).trans HX.out)).mono ?_
  rintro e w6 ⟨GH0, cGH0, rfl, hO, hb6⟩
  have T6 := b_step T5 hb6
  have sz6 := hb6.size
  have W0_6 := W0_5.below (hb6.mono (by omega))
  have G0_6 := G0_5.keep hb6
  clear hb6 W0_5 G0_5
  have H0_6 := hO
  clear hO
  go_wp2_with fail
  refine (eqStringS_same _ _ (lnsOf (pcs s)) _ _ _ ((H0_6).reads) (W0_6.more (by omega)) (by omega)).mono ?_
  rintro e w7 ⟨rfl, hb7⟩
  have T7 := b_step T6 hb7
  have sz7 := hb7.size
  have W0_7 := W0_6.below (hb7.mono (by omega))
  have G0_7 := G0_6.keep hb7
  have H0_7 := H0_6.keep hb7
  clear hb7 W0_6 G0_6 H0_6
  clear H0_7
  clear W0_7
  go_wp2_with fail
  refine (heldStringS_any _ (lnsOf (pcs s)).length _ 1 _ ((G0_7).reads) (by omega) (by omega) (by omega)).mono ?_
  rintro e w8 ⟨rfl, hb8⟩
  have T8 := b_step T7 hb8
  have sz8 := hb8.size
  have G0_8 := G0_7.keep hb8
  clear hb8 G0_7
  go_wp2
  go_ret
  exact ⟨rfl, T8⟩
theorem law_spl (s : ByteArray) (_ : s.size ≤ maxLen) (mx : Int) (w : World) (hx : w.cell? ⟨2, 0, none⟩ = some (.int .i64 mx)) :
    Calls Tryd.prog 9 #[.string s] w fun e w' => e = .returned (.bool true) ∧ Below w.heap.size w w' := by
  by_cases hs : s.size ≤ 1048576
  · exact law_spl0 s mx w hs hx
  · have hm : s.size ≤ maxLen := by assumption
    unfold maxLen at hm
    have h1 : (1048576 : Int) < (s.size : Int) := by omega
    clear hx
    go_enter Tryd.func9, Tryd.ntmps9
    go_wp2
    go_ret
    exact ⟨rfl, Below.refl _ _⟩
end Go.Proofs.YtobbbaagoiejeaaDoor
