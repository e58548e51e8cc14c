/- The walk of the law FnExactWithoutDigit over the contracts. Conditions: none. -/
import Derived.Test.YtoihjapbidbpdaaWoS
import Derived.Deep.RegionHeld3
import Derived.Deep.DeepCutAuto
namespace Go.Proofs.Ytoihjapbidbpdaa
open Go.RowKit
set_option linter.unusedVariables false
set_option maxHeartbeats 2000000 in
theorem walk_wo (w : World) (b : Int) (d : Int)    :
    Calls Try.prog 5 #[.int .i64 b, .int .i64 d] w fun e w' => e = .returned (.bool true) ∧ Below w.heap.size w w' := by
  obtain ⟨hlX, hlY⟩ : (woX b d).length ≤ 2000 ∧ (woY b d).length ≤ 2000 := by have := wo_len b d; omega
  have T0 : Below w.heap.size w w := Below.refl _ _
  have sz0 : w.heap.size ≤ w.heap.size := Nat.le_refl _
  go_enter Try.func5, Try.ntmps5
  go_wp2_with fail
  refine (spec_wo b d _).mono ?_
  rintro e w1 ⟨NW, FW, cW, dW, rfl, hO, hP, hb⟩
  have hb1 : Below w.heap.size w w1 := hb
  have T1 := b_step T0 hb1
  have sz1 := hb1.size
  clear hb1 T0
  clear hb
  have WN_1 := hO.reads
  have WF_1 := hP.reads
  clear hO hP
  have hb2 : Below w1.heap.size w1 (w1.alloc (.cells #[.int .i64 (woB b d), .slice NW (woX b d).length cW, .slice FW (woY b d).length dW] 25)) := b_alloc (Below.refl _ _) _
  have T2 := b_step T1 hb2
  have sz2 := hb2.size
  have WN_2 := WN_1.below (hb2.mono (by omega))
  have WF_2 := WF_1.below (hb2.mono (by omega))
  clear hb2 T1 WN_1 WF_1
  have sz2' : w1.heap.size < (w1.alloc (.cells #[.int .i64 (woB b d), .slice NW (woX b d).length cW, .slice FW (woY b d).length dW] 25)).heap.size := by simp
  have BW_2 := BM.new w1 (woB b d) (.slice NW (woX b d).length cW) (.slice FW (woY b d).length dW)
  go_wp2_with fail
  refine (impl_wo b d _).mono ?_
  rintro e w2 ⟨NG, FG, cG, dG, rfl, hO, hP, hb⟩
  have hb3 : Below (w1.alloc (.cells #[.int .i64 (woB b d), .slice NW (woX b d).length cW, .slice FW (woY b d).length dW] 25)).heap.size (w1.alloc (.cells #[.int .i64 (woB b d), .slice NW (woX b d).length cW, .slice FW (woY b d).length dW] 25)) w2 := hb
  have T3 := b_step T2 hb3
  have sz3 := hb3.size
  have WN_3 := WN_2.below (hb3.mono (by omega))
  have WF_3 := WF_2.below (hb3.mono (by omega))
  have BW_3 := BW_2.below hb3 BW_2.lt
  clear hb3 T2 WN_2 WF_2 BW_2
  clear hb
  have GN_3 := hO
  have GF_3 := hP
  have LGN := hO.lo
  have LGF := hP.lo
  clear hO hP
  have hb4 : Below w2.heap.size w2 (w2.alloc (.cells #[.int .i64 (woB b d), .slice NG (woX b d).length cG, .slice FG (woY b d).length dG] 25)) := b_alloc (Below.refl _ _) _
  have T4 := b_step T3 hb4
  have sz4 := hb4.size
  have WN_4 := WN_3.below (hb4.mono (by omega))
  have WF_4 := WF_3.below (hb4.mono (by omega))
  have BW_4 := BW_3.below hb4 BW_3.lt
  have GN_4 := GN_3.keep hb4
  have GF_4 := GF_3.keep hb4
  clear hb4 T3 WN_3 WF_3 BW_3 GN_3 GF_3
  have sz4' : w2.heap.size < (w2.alloc (.cells #[.int .i64 (woB b d), .slice NG (woX b d).length cG, .slice FG (woY b d).length dG] 25)).heap.size := by simp
  have BG_4 := BM.new w2 (woB b d) (.slice NG (woX b d).length cG) (.slice FG (woY b d).length dG)
  have c00 := BG_4.cell0
  have c01 := BG_4.cell1
  have c02 := BG_4.cell2
  have HBG := Lib.hid BG_4
  clear BG_4
  have c10 := BW_4.cell0
  have c11 := BW_4.cell1
  have c12 := BW_4.cell2
  have HBW := Lib.hid BW_4
  clear BW_4
  go_wp2_with fail
  have BG_4 := HBG.out
  clear HBG c00 c01 c02
  have BW_4 := HBW.out
  clear HBW c10 c11 c12
  refine (eqMachine_same (woB b d) _ _ (woX b d) (woY b d) _ _ _ _ _ _ _ GN_4.reads (WN_4.more (by omega)) GF_4.reads (WF_4.more (by omega)) (by omega) (by omega)).mono ?_
  rintro e w3 ⟨rfl, hb⟩
  have hb5 : Below (w2.alloc (.cells #[.int .i64 (woB b d), .slice NG (woX b d).length cG, .slice FG (woY b d).length dG] 25)).heap.size (w2.alloc (.cells #[.int .i64 (woB b d), .slice NG (woX b d).length cG, .slice FG (woY b d).length dG] 25)) w3 := hb
  have T5 := b_step T4 hb5
  have sz5 := hb5.size
  have WN_5 := WN_4.below (hb5.mono (by omega))
  have WF_5 := WF_4.below (hb5.mono (by omega))
  have BW_5 := BW_4.below hb5 BW_4.lt
  have GN_5 := GN_4.keep hb5
  have GF_5 := GF_4.keep hb5
  have BG_5 := BG_4.below hb5 BG_4.lt
  clear hb5 T4 WN_4 WF_4 BW_4 GN_4 GF_4 BG_4
  clear hb
  have c00 := BG_5.cell0
  have c01 := BG_5.cell1
  have c02 := BG_5.cell2
  have HBG := Lib.hid BG_5
  clear BG_5
  go_wp2_with fail
  have BG_5 := HBG.out
  clear HBG c00 c01 c02
  refine (markMachine_m (woB b d) _ _ (woX b d) (woY b d) _ _ ((w1.alloc (.cells #[.int .i64 (woB b d), .slice NW (woX b d).length cW, .slice FW (woY b d).length dW] 25)).heap.size) (1) _ GN_5 GF_5 (by omega) (by omega) (by omega)).mono ?_
  rintro e w4 ⟨rfl, hO, hP, hbel, hoi, hob, hbm, hblm, hs⟩
  have T6 := T5.trans (hbel w.heap.size (by omega) (by omega))
  have sz6 := hs
  have WN_6 := WN_5.below (hbel (w1.heap.size) (by omega) (by omega))
  have WF_6 := WF_5.below (hbel (w1.heap.size) (by omega) (by omega))
  have BW_6 := hbm _ _ _ _ BW_5
  have GN_6 := hO
  have GF_6 := hP
  have BG_6 := hbm _ _ _ _ BG_5
  clear hO hP hbel hoi hob hbm hblm hs T5 WN_5 WF_5 BW_5 GN_5 GF_5 BG_5
  have c00 := BG_6.cell0
  have c01 := BG_6.cell1
  have c02 := BG_6.cell2
  have HBG := Lib.hid BG_6
  clear BG_6
  go_wp2_with fail
  have BG_6 := HBG.out
  clear HBG c00 c01 c02
  refine (heldMachine_m (woB b d) _ _ (woX b d).length (woY b d).length _ _ (1) _ GN_6.reads GF_6.reads (by omega) (by omega) (by omega)).mono ?_
  rintro e w5 ⟨rfl, hb⟩
  have hb7 : Below w4.heap.size w4 w5 := hb
  have T7 := b_step T6 hb7
  have sz7 := hb7.size
  have WN_7 := WN_6.below (hb7.mono (by omega))
  have WF_7 := WF_6.below (hb7.mono (by omega))
  have BW_7 := BW_6.below hb7 BW_6.lt
  have GN_7 := GN_6.keep hb7
  have GF_7 := GF_6.keep hb7
  have BG_7 := BG_6.below hb7 BG_6.lt
  clear hb7 T6 WN_6 WF_6 BW_6 GN_6 GF_6 BG_6
  clear hb
  go_wp2_with fail
  refine (impl_wo b d _).mono ?_
  rintro e w6 ⟨NH, FH, cH, dH, rfl, hO, hP, hb⟩
  have hb8 : Below w5.heap.size w5 w6 := hb
  have T8 := b_step T7 hb8
  have sz8 := hb8.size
  have WN_8 := WN_7.below (hb8.mono (by omega))
  have WF_8 := WF_7.below (hb8.mono (by omega))
  have BW_8 := BW_7.below hb8 BW_7.lt
  have GN_8 := GN_7.keep hb8
  have GF_8 := GF_7.keep hb8
  have BG_8 := BG_7.below hb8 BG_7.lt
  clear hb8 T7 WN_7 WF_7 BW_7 GN_7 GF_7 BG_7
  clear hb
  have HN_8 := hO
  have HF_8 := hP
  have LHN := hO.lo
  have LHF := hP.lo
  clear hO hP
  have hb9 : Below w6.heap.size w6 (w6.alloc (.cells #[.int .i64 (woB b d), .slice NH (woX b d).length cH, .slice FH (woY b d).length dH] 25)) := b_alloc (Below.refl _ _) _
  have T9 := b_step T8 hb9
  have sz9 := hb9.size
  have WN_9 := WN_8.below (hb9.mono (by omega))
  have WF_9 := WF_8.below (hb9.mono (by omega))
  have BW_9 := BW_8.below hb9 BW_8.lt
  have GN_9 := GN_8.keep hb9
  have GF_9 := GF_8.keep hb9
  have BG_9 := BG_8.below hb9 BG_8.lt
  have HN_9 := HN_8.keep hb9
  have HF_9 := HF_8.keep hb9
  clear hb9 T8 WN_8 WF_8 BW_8 GN_8 GF_8 BG_8 HN_8 HF_8
  have sz9' : w6.heap.size < (w6.alloc (.cells #[.int .i64 (woB b d), .slice NH (woX b d).length cH, .slice FH (woY b d).length dH] 25)).heap.size := by simp
  have BH_9 := BM.new w6 (woB b d) (.slice NH (woX b d).length cH) (.slice FH (woY b d).length dH)
  have c00 := BH_9.cell0
  have c01 := BH_9.cell1
  have c02 := BH_9.cell2
  have HBH := Lib.hid BH_9
  clear BH_9
  have c10 := BW_9.cell0
  have c11 := BW_9.cell1
  have c12 := BW_9.cell2
  have HBW := Lib.hid BW_9
  clear BW_9
  go_wp2_with fail
  have BH_9 := HBH.out
  clear HBH c00 c01 c02
  have BW_9 := HBW.out
  clear HBW c10 c11 c12
  refine (eqMachine_same (woB b d) _ _ (woX b d) (woY b d) _ _ _ _ _ _ _ HN_9.reads (WN_9.more (by omega)) HF_9.reads (WF_9.more (by omega)) (by omega) (by omega)).mono ?_
  rintro e w7 ⟨rfl, hb⟩
  have hb10 : Below (w6.alloc (.cells #[.int .i64 (woB b d), .slice NH (woX b d).length cH, .slice FH (woY b d).length dH] 25)).heap.size (w6.alloc (.cells #[.int .i64 (woB b d), .slice NH (woX b d).length cH, .slice FH (woY b d).length dH] 25)) w7 := hb
  have T10 := b_step T9 hb10
  have sz10 := hb10.size
  have WN_10 := WN_9.below (hb10.mono (by omega))
  have WF_10 := WF_9.below (hb10.mono (by omega))
  have BW_10 := BW_9.below hb10 BW_9.lt
  have GN_10 := GN_9.keep hb10
  have GF_10 := GF_9.keep hb10
  have BG_10 := BG_9.below hb10 BG_9.lt
  have HN_10 := HN_9.keep hb10
  have HF_10 := HF_9.keep hb10
  have BH_10 := BH_9.below hb10 BH_9.lt
  clear hb10 T9 WN_9 WF_9 BW_9 GN_9 GF_9 BG_9 HN_9 HF_9 BH_9
  clear hb
  clear HN_10
  clear HF_10
  clear BH_10
  have c00 := BG_10.cell0
  have c01 := BG_10.cell1
  have c02 := BG_10.cell2
  have HBG := Lib.hid BG_10
  clear BG_10
  go_wp2_with fail
  have BG_10 := HBG.out
  clear HBG c00 c01 c02
  refine (heldMachine_m (woB b d) _ _ (woX b d).length (woY b d).length _ _ (1) _ GN_10.reads GF_10.reads (by omega) (by omega) (by omega)).mono ?_
  rintro e w8 ⟨rfl, hb⟩
  have hb11 : Below w7.heap.size w7 w8 := hb
  have T11 := b_step T10 hb11
  have sz11 := hb11.size
  have WN_11 := WN_10.below (hb11.mono (by omega))
  have WF_11 := WF_10.below (hb11.mono (by omega))
  have BW_11 := BW_10.below hb11 BW_10.lt
  have GN_11 := GN_10.keep hb11
  have GF_11 := GF_10.keep hb11
  have BG_11 := BG_10.below hb11 BG_10.lt
  clear hb11 T10 WN_10 WF_10 BW_10 GN_10 GF_10 BG_10
  clear hb
  go_wp2
  go_ret
  exact ⟨rfl, T11⟩

set_option maxHeartbeats 1000000 in
theorem walk_FnExactWithoutDigit (w : World) (b : Int) (_ : (Lit.int .i64 b).wf = true) (d : Int) (_ : (Lit.int .i64 d).wf = true) :
    Calls Try.prog 5 #[.int .i64 b, .int .i64 d] w fun e w' => e = .returned (.bool true) ∧ Below w.heap.size w w' := by
  exact walk_wo w b d  
end Go.Proofs.Ytoihjapbidbpdaa
