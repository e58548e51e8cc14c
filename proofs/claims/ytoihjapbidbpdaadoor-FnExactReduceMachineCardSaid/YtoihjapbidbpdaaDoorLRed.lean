/- The walk of the law FnExactReduceMachine over the contracts. Conditions: none. -/
import Derived.Test.YtoihjapbidbpdaaDoorRedA
import Derived.Deep.RegionHeld3
import Derived.Deep.DeepCutAuto
namespace Go.Proofs.YtoihjapbidbpdaaDoor
open Go.RowKit
set_option linter.unusedVariables false
set_option maxRecDepth 100000 in
set_option maxHeartbeats 20000000 in
theorem walk_red (w : World) (bm : Int) (Nm : Option Addr) (xm : List Int) (cm : Nat) (Fm : Option Addr) (ym : List Bool) (dm : Nat) (RNm : RI w w.heap.size Nm xm) (RFm : RB w w.heap.size Fm ym) (hlen : xm.length + ym.length ≤ 1048576) (hT : Lib.TabBelow Tryd.prog w.heap.size w "internal/strconv.uint64pow10" .u64 Lib.pow10Tab) :
    Calls Tryd.prog 4 #[.agg #[.int .i64 bm, .slice Nm xm.length cm, .slice Fm ym.length dm]] w fun e w' => e = .returned (.bool true) ∧ Below w.heap.size w w' := by
  obtain ⟨hlX, hlY⟩ : (rX bm xm ym).length ≤ 2000 ∧ (rY bm xm ym).length ≤ 2000 := r_len bm xm ym
  have HTB := Lib.hid hT
  clear hT
  have T0 : Below w.heap.size w w := Below.refl _ _
  have sz0 : w.heap.size ≤ w.heap.size := Nat.le_refl _
  have RNm_0 := RNm
  have RFm_0 := RFm
  clear RNm RFm
  go_enter Tryd.func4, Tryd.ntmps4
  have hb1 : Below w.heap.size w (w.alloc (.cells #[.int .i64 (bm), .slice Nm xm.length cm, .slice Fm ym.length dm] 25)) := b_alloc (Below.refl _ _) _
  have T1 := b_step T0 hb1
  have sz1 := hb1.size
  have RNm_1 := RNm_0.below (hb1.mono (by omega))
  have RFm_1 := RFm_0.below (hb1.mono (by omega))
  clear hb1 T0 RNm_0 RFm_0
  have sz1' : w.heap.size < (w.alloc (.cells #[.int .i64 (bm), .slice Nm xm.length cm, .slice Fm ym.length dm] 25)).heap.size := by simp
  have Zm_1 := BLM.new w (bm) (.slice Nm xm.length cm) (.slice Fm ym.length dm)
  have c00 := Zm_1.cell0
  have c01 := Zm_1.cell1
  have c02 := Zm_1.cell2
  have HZm := Lib.hid Zm_1
  clear Zm_1
  go_wp2_with fail
  have Zm_1 := HZm.out
  clear HZm c00 c01 c02
  refine (szMachine_y bm Nm Fm xm.length ym.length cm dm (1048576) _ (by omega) (by omega)).mono ?_
  rintro e w1 ⟨rfl, hb⟩
  have hb2 : Below (w.alloc (.cells #[.int .i64 (bm), .slice Nm xm.length cm, .slice Fm ym.length dm] 25)).heap.size (w.alloc (.cells #[.int .i64 (bm), .slice Nm xm.length cm, .slice Fm ym.length dm] 25)) w1 := hb
  have T2 := b_step T1 hb2
  have sz2 := hb2.size
  have RNm_2 := RNm_1.below (hb2.mono (by omega))
  have RFm_2 := RFm_1.below (hb2.mono (by omega))
  have Zm_2 := Zm_1.below hb2 Zm_1.lt
  clear hb2 T1 RNm_1 RFm_1 Zm_1
  clear hb
  have c00 := Zm_2.cell0
  have c01 := Zm_2.cell1
  have c02 := Zm_2.cell2
  have HZm := Lib.hid Zm_2
  clear Zm_2
  go_wp2_with fail
  have Zm_2 := HZm.out
  clear HZm c00 c01 c02
  refine (toMachine_m bm Nm Fm xm ym cm dm _ (RNm_2.more (by omega)) (RFm_2.more (by omega)) (by omega) (by omega)).mono ?_
  rintro e w2 ⟨NS, FS, rfl, hO, hP, hb⟩
  have hb3 : Below w1.heap.size w1 w2 := hb
  have T3 := b_step T2 hb3
  have sz3 := hb3.size
  have RNm_3 := RNm_2.below (hb3.mono (by omega))
  have RFm_3 := RFm_2.below (hb3.mono (by omega))
  have Zm_3 := Zm_2.below hb3 Zm_2.lt
  clear hb3 T2 RNm_2 RFm_2 Zm_2
  clear hb
  have SN_3 := hO
  have SF_3 := hP
  have LSN := hO.lo
  have LSF := hP.lo
  clear hO hP
  go_wp2_with fail
  refine (spec_red bm _ _ xm ym _ _ _ SN_3.reads SF_3.reads (by omega) (by omega)).mono ?_
  rintro e w3 ⟨NW, FW, cW, dW, rfl, hO, hP, hb⟩
  have hb4 : Below w2.heap.size w2 w3 := hb
  have T4 := b_step T3 hb4
  have sz4 := hb4.size
  have RNm_4 := RNm_3.below (hb4.mono (by omega))
  have RFm_4 := RFm_3.below (hb4.mono (by omega))
  have Zm_4 := Zm_3.below hb4 Zm_3.lt
  have SN_4 := SN_3.keep hb4
  have SF_4 := SF_3.keep hb4
  clear hb4 T3 RNm_3 RFm_3 Zm_3 SN_3 SF_3
  clear hb
  have WN_4 := hO.reads
  have WF_4 := hP.reads
  clear hO hP
  have hb5 : Below w3.heap.size w3 (w3.alloc (.cells #[.int .i64 (rB bm xm ym), .slice NW (rX bm xm ym).length cW, .slice FW (rY bm xm ym).length dW] 28)) := b_alloc (Below.refl _ _) _
  have T5 := b_step T4 hb5
  have sz5 := hb5.size
  have RNm_5 := RNm_4.below (hb5.mono (by omega))
  have RFm_5 := RFm_4.below (hb5.mono (by omega))
  have Zm_5 := Zm_4.below hb5 Zm_4.lt
  have SN_5 := SN_4.keep hb5
  have SF_5 := SF_4.keep hb5
  have WN_5 := WN_4.below (hb5.mono (by omega))
  have WF_5 := WF_4.below (hb5.mono (by omega))
  clear hb5 T4 RNm_4 RFm_4 Zm_4 SN_4 SF_4 WN_4 WF_4
  have sz5' : w3.heap.size < (w3.alloc (.cells #[.int .i64 (rB bm xm ym), .slice NW (rX bm xm ym).length cW, .slice FW (rY bm xm ym).length dW] 28)).heap.size := by simp
  have BW_5 := BM.new w3 (rB bm xm ym) (.slice NW (rX bm xm ym).length cW) (.slice FW (rY bm xm ym).length dW)
  clear SN_5
  clear SF_5
  have c00 := Zm_5.cell0
  have c01 := Zm_5.cell1
  have c02 := Zm_5.cell2
  have HZm := Lib.hid Zm_5
  clear Zm_5
  go_wp2_with fail
  have Zm_5 := HZm.out
  clear HZm c00 c01 c02
  refine (toMachine_m bm Nm Fm xm ym cm dm _ (RNm_5.more (by omega)) (RFm_5.more (by omega)) (by omega) (by omega)).mono ?_
  rintro e w4 ⟨NX, FX, rfl, hO, hP, hb⟩
  have hb6 : Below (w3.alloc (.cells #[.int .i64 (rB bm xm ym), .slice NW (rX bm xm ym).length cW, .slice FW (rY bm xm ym).length dW] 28)).heap.size (w3.alloc (.cells #[.int .i64 (rB bm xm ym), .slice NW (rX bm xm ym).length cW, .slice FW (rY bm xm ym).length dW] 28)) w4 := hb
  have T6 := b_step T5 hb6
  have sz6 := hb6.size
  have RNm_6 := RNm_5.below (hb6.mono (by omega))
  have RFm_6 := RFm_5.below (hb6.mono (by omega))
  have Zm_6 := Zm_5.below hb6 Zm_5.lt
  have WN_6 := WN_5.below (hb6.mono (by omega))
  have WF_6 := WF_5.below (hb6.mono (by omega))
  have BW_6 := BW_5.below hb6 BW_5.lt
  clear hb6 T5 RNm_5 RFm_5 Zm_5 WN_5 WF_5 BW_5
  clear hb
  have XN_6 := hO
  have XF_6 := hP
  have LXN := hO.lo
  have LXF := hP.lo
  clear hO hP
  have hb7 : Below w4.heap.size w4 (w4.alloc (.cells #[.int .i64 (bm), .slice NX xm.length xm.length, .slice FX ym.length ym.length] 28)) := b_alloc (Below.refl _ _) _
  have T7 := b_step T6 hb7
  have sz7 := hb7.size
  have RNm_7 := RNm_6.below (hb7.mono (by omega))
  have RFm_7 := RFm_6.below (hb7.mono (by omega))
  have Zm_7 := Zm_6.below hb7 Zm_6.lt
  have WN_7 := WN_6.below (hb7.mono (by omega))
  have WF_7 := WF_6.below (hb7.mono (by omega))
  have BW_7 := BW_6.below hb7 BW_6.lt
  have XN_7 := XN_6.keep hb7
  have XF_7 := XF_6.keep hb7
  clear hb7 T6 RNm_6 RFm_6 Zm_6 WN_6 WF_6 BW_6 XN_6 XF_6
  have sz7' : w4.heap.size < (w4.alloc (.cells #[.int .i64 (bm), .slice NX xm.length xm.length, .slice FX ym.length ym.length] 28)).heap.size := by simp
  have BX_7 := BM.new w4 (bm) (.slice NX xm.length xm.length) (.slice FX ym.length ym.length)
  have c00 := BX_7.cell0
  have c01 := BX_7.cell1
  have c02 := BX_7.cell2
  have HBX := Lib.hid BX_7
  clear BX_7
  go_wp2_with fail
  have BX_7 := HBX.out
  clear HBX c00 c01 c02
  refine (impl_red bm _ _ xm ym _ _ _ XN_7.reads XF_7.reads (by omega) (by omega) (Lib.tabBelow_of_tabIs (HTB.out.on T7).here)).mono ?_
  rintro e w5 ⟨NG, FG, cG, dG, rfl, hO, hP, hb⟩
  have hb8 : Below (w4.alloc (.cells #[.int .i64 (bm), .slice NX xm.length xm.length, .slice FX ym.length ym.length] 28)).heap.size (w4.alloc (.cells #[.int .i64 (bm), .slice NX xm.length xm.length, .slice FX ym.length ym.length] 28)) w5 := hb
  have T8 := b_step T7 hb8
  have sz8 := hb8.size
  have RNm_8 := RNm_7.below (hb8.mono (by omega))
  have RFm_8 := RFm_7.below (hb8.mono (by omega))
  have Zm_8 := Zm_7.below hb8 Zm_7.lt
  have WN_8 := WN_7.below (hb8.mono (by omega))
  have WF_8 := WF_7.below (hb8.mono (by omega))
  have BW_8 := BW_7.below hb8 BW_7.lt
  have XN_8 := XN_7.keep hb8
  have XF_8 := XF_7.keep hb8
  have BX_8 := BX_7.below hb8 BX_7.lt
  clear hb8 T7 RNm_7 RFm_7 Zm_7 WN_7 WF_7 BW_7 XN_7 XF_7 BX_7
  clear hb
  have GN_8 := hO
  have GF_8 := hP
  have LGN := hO.lo
  have LGF := hP.lo
  clear hO hP
  have hb9 : Below w5.heap.size w5 (w5.alloc (.cells #[.int .i64 (rB bm xm ym), .slice NG (rX bm xm ym).length cG, .slice FG (rY bm xm ym).length dG] 28)) := b_alloc (Below.refl _ _) _
  have T9 := b_step T8 hb9
  have sz9 := hb9.size
  have RNm_9 := RNm_8.below (hb9.mono (by omega))
  have RFm_9 := RFm_8.below (hb9.mono (by omega))
  have Zm_9 := Zm_8.below hb9 Zm_8.lt
  have WN_9 := WN_8.below (hb9.mono (by omega))
  have WF_9 := WF_8.below (hb9.mono (by omega))
  have BW_9 := BW_8.below hb9 BW_8.lt
  have XN_9 := XN_8.keep hb9
  have XF_9 := XF_8.keep hb9
  have BX_9 := BX_8.below hb9 BX_8.lt
  have GN_9 := GN_8.keep hb9
  have GF_9 := GF_8.keep hb9
  clear hb9 T8 RNm_8 RFm_8 Zm_8 WN_8 WF_8 BW_8 XN_8 XF_8 BX_8 GN_8 GF_8
  have sz9' : w5.heap.size < (w5.alloc (.cells #[.int .i64 (rB bm xm ym), .slice NG (rX bm xm ym).length cG, .slice FG (rY bm xm ym).length dG] 28)).heap.size := by simp
  have BG_9 := BM.new w5 (rB bm xm ym) (.slice NG (rX bm xm ym).length cG) (.slice FG (rY bm xm ym).length dG)
  have c00 := BG_9.cell0
  have c01 := BG_9.cell1
  have c02 := BG_9.cell2
  have HBG := Lib.hid BG_9
  clear BG_9
  have c10 := BW_9.cell0
  have c11 := BW_9.cell1
  have c12 := BW_9.cell2
  have HBW := Lib.hid BW_9
  clear BW_9
  go_wp2_with fail
  have BG_9 := HBG.out
  clear HBG c00 c01 c02
  have BW_9 := HBW.out
  clear HBW c10 c11 c12
  refine (eqMachine_same (rB bm xm ym) _ _ (rX bm xm ym) (rY bm xm ym) _ _ _ _ _ _ _ GN_9.reads (WN_9.more (by omega)) GF_9.reads (WF_9.more (by omega)) (by omega) (by omega)).mono ?_
  rintro e w6 ⟨rfl, hb⟩
  have hb10 : Below (w5.alloc (.cells #[.int .i64 (rB bm xm ym), .slice NG (rX bm xm ym).length cG, .slice FG (rY bm xm ym).length dG] 28)).heap.size (w5.alloc (.cells #[.int .i64 (rB bm xm ym), .slice NG (rX bm xm ym).length cG, .slice FG (rY bm xm ym).length dG] 28)) w6 := hb
  have T10 := b_step T9 hb10
  have sz10 := hb10.size
  have RNm_10 := RNm_9.below (hb10.mono (by omega))
  have RFm_10 := RFm_9.below (hb10.mono (by omega))
  have Zm_10 := Zm_9.below hb10 Zm_9.lt
  have WN_10 := WN_9.below (hb10.mono (by omega))
  have WF_10 := WF_9.below (hb10.mono (by omega))
  have BW_10 := BW_9.below hb10 BW_9.lt
  have XN_10 := XN_9.keep hb10
  have XF_10 := XF_9.keep hb10
  have BX_10 := BX_9.below hb10 BX_9.lt
  have GN_10 := GN_9.keep hb10
  have GF_10 := GF_9.keep hb10
  have BG_10 := BG_9.below hb10 BG_9.lt
  clear hb10 T9 RNm_9 RFm_9 Zm_9 WN_9 WF_9 BW_9 XN_9 XF_9 BX_9 GN_9 GF_9 BG_9
  clear hb
  have c00 := BX_10.cell0
  have c01 := BX_10.cell1
  have c02 := BX_10.cell2
  have lt0 := BX_10.lt
  have c10 := Zm_10.cell0
  have c11 := Zm_10.cell1
  have c12 := Zm_10.cell2
  have lt1 := Zm_10.lt
  have HRNm := Lib.hid RNm_10
  have HRFm := Lib.hid RFm_10
  have HZm := Lib.hid Zm_10
  have HWN := Lib.hid WN_10
  have HWF := Lib.hid WF_10
  have HBW := Lib.hid BW_10
  have HXN := Lib.hid XN_10
  have HXF := Lib.hid XF_10
  have HBX := Lib.hid BX_10
  have HGN := Lib.hid GN_10
  have HGF := Lib.hid GF_10
  have HBG := Lib.hid BG_10
  have HT := Lib.hid T10
  clear T10 RNm_10 RFm_10 Zm_10 WN_10 WF_10 BW_10 XN_10 XF_10 BX_10 GN_10 GF_10 BG_10
  go_upto_region 10 with fail
  go_cut [45] (fun s wx => s = .bool false ∧ Below w6.heap.size w6 wx)
  case first =>
    go_region_held3 (fun w' => w'.cell? ⟨w4.heap.size, 0, none⟩ = some (.int .i64 bm) ∧ w'.cell? ⟨w4.heap.size, 1, none⟩ = some (.slice NX xm.length xm.length) ∧ w'.cell? ⟨w4.heap.size, 2, none⟩ = some (.slice FX ym.length ym.length) ∧ w'.cell? ⟨w.heap.size, 0, none⟩ = some (.int .i64 bm) ∧ w'.cell? ⟨w.heap.size, 1, none⟩ = some (.slice Nm xm.length cm) ∧ w'.cell? ⟨w.heap.size, 2, none⟩ = some (.slice Fm ym.length dm)) (simp [go_sem, *]) (first | (go_at_call 7; refine (toMachine_m bm Nm Fm xm ym cm dm _ ?_ ?_ (by omega) (by omega)).mono ?_; (first | exact HRNm.out.more (by omega) | exact (HRNm.out.below (below_drewN (Below.refl _ _) _)).more (by simp; omega) | exact (HRNm.out.below (Below.refl _ _).drew).more (by simp; omega)); (first | exact HRFm.out.more (by omega) | exact (HRFm.out.below (below_drewN (Below.refl _ _) _)).more (by simp; omega) | exact (HRFm.out.below (Below.refl _ _).drew).more (by simp; omega)); rintro e w1' ⟨N1', F1', rfl, hO1, hP1, hb1⟩; obtain ⟨hc1, hf1, _⟩ := bcell hb1; have hc2 : ∀ b o, b < w6.heap.size → w1'.cell? ⟨b, o, none⟩ = w6.cell? ⟨b, o, none⟩ := (fun b o h => hc1 b o h); clear hc1 hf1; have RX1 := (by first | exact Lib.hid (HXN.out.keep hb1).reads | exact Lib.hid ((HXN.out.keep (Below.refl _ _).drew).keep hb1).reads | exact Lib.hid ((HXN.out.keep (below_drewN (Below.refl _ _) _)).keep hb1).reads); have RX2 := (by first | exact Lib.hid (HXF.out.keep hb1).reads | exact Lib.hid ((HXF.out.keep (Below.refl _ _).drew).keep hb1).reads | exact Lib.hid ((HXF.out.keep (below_drewN (Below.refl _ _) _)).keep hb1).reads); have RY1 := Lib.hid hO1.reads; have RY2 := Lib.hid hP1.reads; have HB1 := Lib.hid hb1; clear hO1 hP1 hb1) | (go_at_call 9; refine (eqMachine_same bm _ _ xm ym _ _ _ _ _ _ _ RX1.out RY1.out RX2.out RY2.out (by omega) (by omega)).mono ?_; rintro e w2' ⟨rfl, hb2⟩; have hc3 : ∀ b o, b < w6.heap.size → w2'.cell? ⟨b, o, none⟩ = w1'.cell? ⟨b, o, none⟩ := (fun b o h => (bcell hb2).1 b o (Nat.lt_of_lt_of_le h HB1.out.size)); have HB2 := Lib.hid hb2; clear hb2))
    all_goals (go_wp2_with fail; go_meet)
    all_goals refine ⟨rfl, ?_⟩
    all_goals (repeat (first | exact Below.refl _ _ | refine b_drew ?_ | refine b_drewN ?_ _ | refine b_step ?_ HB2.out | refine b_step ?_ HB1.out))
  case rest =>
  obtain ⟨rfl, hb⟩ := hcut
  have RNm_10 := HRNm.out
  have RFm_10 := HRFm.out
  have Zm_10 := HZm.out
  have WN_10 := HWN.out
  have WF_10 := HWF.out
  have BW_10 := HBW.out
  have XN_10 := HXN.out
  have XF_10 := HXF.out
  have BX_10 := HBX.out
  have GN_10 := HGN.out
  have GF_10 := HGF.out
  have BG_10 := HBG.out
  have T10 := HT.out
  clear HT c00 c01 c02 c10 c11 c12 lt0 lt1 HRNm HRFm HZm HWN HWF HBW HXN HXF HBX HGN HGF HBG
  rename World => wx7
  have hb11 : Below w6.heap.size w6 wx7 := hb
  have T11 := b_step T10 hb11
  have sz11 := hb11.size
  have RNm_11 := RNm_10.below (hb11.mono (by omega))
  have RFm_11 := RFm_10.below (hb11.mono (by omega))
  have Zm_11 := Zm_10.below hb11 Zm_10.lt
  have WN_11 := WN_10.below (hb11.mono (by omega))
  have WF_11 := WF_10.below (hb11.mono (by omega))
  have BW_11 := BW_10.below hb11 BW_10.lt
  have XN_11 := XN_10.keep hb11
  have XF_11 := XF_10.keep hb11
  have BX_11 := BX_10.below hb11 BX_10.lt
  have GN_11 := GN_10.keep hb11
  have GF_11 := GF_10.keep hb11
  have BG_11 := BG_10.below hb11 BG_10.lt
  clear hb11 T10 RNm_10 RFm_10 Zm_10 WN_10 WF_10 BW_10 XN_10 XF_10 BX_10 GN_10 GF_10 BG_10
  clear hb
  have c00 := BX_11.cell0
  have c01 := BX_11.cell1
  have c02 := BX_11.cell2
  have HBX := Lib.hid BX_11
  clear BX_11
  go_wp2_with fail
  have BX_11 := HBX.out
  clear HBX c00 c01 c02
  refine (markMachine_m (bm) _ _ (xm) (ym) _ _ ((w3.alloc (.cells #[.int .i64 (rB bm xm ym), .slice NW (rX bm xm ym).length cW, .slice FW (rY bm xm ym).length dW] 28)).heap.size) (1) _ XN_11 XF_11 (by omega) (by omega) (by omega)).mono ?_
  rintro e w8 ⟨rfl, hO, hP, hbel, hoi, hob, hbm, hblm, hs⟩
  have T12 := T11.trans (hbel w.heap.size (by omega) (by omega))
  have sz12 := hs
  have RNm_12 := RNm_11.below (hbel (w.heap.size) (by omega) (by omega))
  have RFm_12 := RFm_11.below (hbel (w.heap.size) (by omega) (by omega))
  have Zm_12 := hblm _ _ _ _ Zm_11
  have WN_12 := WN_11.below (hbel (w3.heap.size) (by omega) (by omega))
  have WF_12 := WF_11.below (hbel (w3.heap.size) (by omega) (by omega))
  have BW_12 := hbm _ _ _ _ BW_11
  have XN_12 := hO
  have XF_12 := hP
  have BX_12 := hbm _ _ _ _ BX_11
  have GN_12 := hoi ((w4.alloc (.cells #[.int .i64 (bm), .slice NX xm.length xm.length, .slice FX ym.length ym.length] 28)).heap.size) (LXN.more (by omega)) _ _ GN_11
  have GF_12 := hob ((w4.alloc (.cells #[.int .i64 (bm), .slice NX xm.length xm.length, .slice FX ym.length ym.length] 28)).heap.size) (LXF.more (by omega)) _ _ GF_11
  have BG_12 := hbm _ _ _ _ BG_11
  clear hO hP hbel hoi hob hbm hblm hs T11 RNm_11 RFm_11 Zm_11 WN_11 WF_11 BW_11 XN_11 XF_11 BX_11 GN_11 GF_11 BG_11
  clear XN_12
  clear XF_12
  clear BX_12
  have c00 := BG_12.cell0
  have c01 := BG_12.cell1
  have c02 := BG_12.cell2
  have HBG := Lib.hid BG_12
  clear BG_12
  have c10 := BW_12.cell0
  have c11 := BW_12.cell1
  have c12 := BW_12.cell2
  have HBW := Lib.hid BW_12
  clear BW_12
  go_wp2_with fail
  have BG_12 := HBG.out
  clear HBG c00 c01 c02
  have BW_12 := HBW.out
  clear HBW c10 c11 c12
  refine (eqMachine_same (rB bm xm ym) _ _ (rX bm xm ym) (rY bm xm ym) _ _ _ _ _ _ _ GN_12.reads (WN_12.more (by omega)) GF_12.reads (WF_12.more (by omega)) (by omega) (by omega)).mono ?_
  rintro e w9 ⟨rfl, hb⟩
  have hb13 : Below w8.heap.size w8 w9 := hb
  have T13 := b_step T12 hb13
  have sz13 := hb13.size
  have RNm_13 := RNm_12.below (hb13.mono (by omega))
  have RFm_13 := RFm_12.below (hb13.mono (by omega))
  have Zm_13 := Zm_12.below hb13 Zm_12.lt
  have WN_13 := WN_12.below (hb13.mono (by omega))
  have WF_13 := WF_12.below (hb13.mono (by omega))
  have BW_13 := BW_12.below hb13 BW_12.lt
  have GN_13 := GN_12.keep hb13
  have GF_13 := GF_12.keep hb13
  have BG_13 := BG_12.below hb13 BG_12.lt
  clear hb13 T12 RNm_12 RFm_12 Zm_12 WN_12 WF_12 BW_12 GN_12 GF_12 BG_12
  clear hb
  have c00 := BG_13.cell0
  have c01 := BG_13.cell1
  have c02 := BG_13.cell2
  have HBG := Lib.hid BG_13
  clear BG_13
  go_wp2_with fail
  have BG_13 := HBG.out
  clear HBG c00 c01 c02
  refine (markMachine_m (rB bm xm ym) _ _ (rX bm xm ym) (rY bm xm ym) _ _ ((w4.alloc (.cells #[.int .i64 (bm), .slice NX xm.length xm.length, .slice FX ym.length ym.length] 28)).heap.size) (1) _ GN_13 GF_13 (by omega) (by omega) (by omega)).mono ?_
  rintro e w10 ⟨rfl, hO, hP, hbel, hoi, hob, hbm, hblm, hs⟩
  have T14 := T13.trans (hbel w.heap.size (by omega) (by omega))
  have sz14 := hs
  have RNm_14 := RNm_13.below (hbel (w.heap.size) (by omega) (by omega))
  have RFm_14 := RFm_13.below (hbel (w.heap.size) (by omega) (by omega))
  have Zm_14 := hblm _ _ _ _ Zm_13
  have WN_14 := WN_13.below (hbel (w3.heap.size) (by omega) (by omega))
  have WF_14 := WF_13.below (hbel (w3.heap.size) (by omega) (by omega))
  have BW_14 := hbm _ _ _ _ BW_13
  have GN_14 := hO
  have GF_14 := hP
  have BG_14 := hbm _ _ _ _ BG_13
  clear hO hP hbel hoi hob hbm hblm hs T13 RNm_13 RFm_13 Zm_13 WN_13 WF_13 BW_13 GN_13 GF_13 BG_13
  have c00 := BG_14.cell0
  have c01 := BG_14.cell1
  have c02 := BG_14.cell2
  have HBG := Lib.hid BG_14
  clear BG_14
  go_wp2_with fail
  have BG_14 := HBG.out
  clear HBG c00 c01 c02
  refine (heldMachine_m (rB bm xm ym) _ _ (rX bm xm ym).length (rY bm xm ym).length _ _ (1) _ GN_14.reads GF_14.reads (by omega) (by omega) (by omega)).mono ?_
  rintro e w11 ⟨rfl, hb⟩
  have hb15 : Below w10.heap.size w10 w11 := hb
  have T15 := b_step T14 hb15
  have sz15 := hb15.size
  have RNm_15 := RNm_14.below (hb15.mono (by omega))
  have RFm_15 := RFm_14.below (hb15.mono (by omega))
  have Zm_15 := Zm_14.below hb15 Zm_14.lt
  have WN_15 := WN_14.below (hb15.mono (by omega))
  have WF_15 := WF_14.below (hb15.mono (by omega))
  have BW_15 := BW_14.below hb15 BW_14.lt
  have GN_15 := GN_14.keep hb15
  have GF_15 := GF_14.keep hb15
  have BG_15 := BG_14.below hb15 BG_14.lt
  clear hb15 T14 RNm_14 RFm_14 Zm_14 WN_14 WF_14 BW_14 GN_14 GF_14 BG_14
  clear hb
  have c00 := Zm_15.cell0
  have c01 := Zm_15.cell1
  have c02 := Zm_15.cell2
  have HZm := Lib.hid Zm_15
  clear Zm_15
  go_wp2_with fail
  have Zm_15 := HZm.out
  clear HZm c00 c01 c02
  refine (toMachine_m bm Nm Fm xm ym cm dm _ (RNm_15.more (by omega)) (RFm_15.more (by omega)) (by omega) (by omega)).mono ?_
  rintro e w12 ⟨NV, FV, rfl, hO, hP, hb⟩
  have hb16 : Below w11.heap.size w11 w12 := hb
  have T16 := b_step T15 hb16
  have sz16 := hb16.size
  have RNm_16 := RNm_15.below (hb16.mono (by omega))
  have RFm_16 := RFm_15.below (hb16.mono (by omega))
  have Zm_16 := Zm_15.below hb16 Zm_15.lt
  have WN_16 := WN_15.below (hb16.mono (by omega))
  have WF_16 := WF_15.below (hb16.mono (by omega))
  have BW_16 := BW_15.below hb16 BW_15.lt
  have GN_16 := GN_15.keep hb16
  have GF_16 := GF_15.keep hb16
  have BG_16 := BG_15.below hb16 BG_15.lt
  clear hb16 T15 RNm_15 RFm_15 Zm_15 WN_15 WF_15 BW_15 GN_15 GF_15 BG_15
  clear hb
  have VN_16 := hO
  have VF_16 := hP
  have LVN := hO.lo
  have LVF := hP.lo
  clear hO hP
  go_wp2_with fail
  refine (impl_red bm _ _ xm ym _ _ _ VN_16.reads VF_16.reads (by omega) (by omega) (Lib.tabBelow_of_tabIs (HTB.out.on T16).here)).mono ?_
  rintro e w13 ⟨NH, FH, cH, dH, rfl, hO, hP, hb⟩
  have hb17 : Below w12.heap.size w12 w13 := hb
  have T17 := b_step T16 hb17
  have sz17 := hb17.size
  have RNm_17 := RNm_16.below (hb17.mono (by omega))
  have RFm_17 := RFm_16.below (hb17.mono (by omega))
  have Zm_17 := Zm_16.below hb17 Zm_16.lt
  have WN_17 := WN_16.below (hb17.mono (by omega))
  have WF_17 := WF_16.below (hb17.mono (by omega))
  have BW_17 := BW_16.below hb17 BW_16.lt
  have GN_17 := GN_16.keep hb17
  have GF_17 := GF_16.keep hb17
  have BG_17 := BG_16.below hb17 BG_16.lt
  have VN_17 := VN_16.keep hb17
  have VF_17 := VF_16.keep hb17
  clear hb17 T16 RNm_16 RFm_16 Zm_16 WN_16 WF_16 BW_16 GN_16 GF_16 BG_16 VN_16 VF_16
  clear hb
  have HN_17 := hO.reads
  have HF_17 := hP.reads
  clear hO hP
  have hb18 : Below w13.heap.size w13 (w13.alloc (.cells #[.int .i64 (rB bm xm ym), .slice NH (rX bm xm ym).length cH, .slice FH (rY bm xm ym).length dH] 28)) := b_alloc (Below.refl _ _) _
  have T18 := b_step T17 hb18
  have sz18 := hb18.size
  have RNm_18 := RNm_17.below (hb18.mono (by omega))
  have RFm_18 := RFm_17.below (hb18.mono (by omega))
  have Zm_18 := Zm_17.below hb18 Zm_17.lt
  have WN_18 := WN_17.below (hb18.mono (by omega))
  have WF_18 := WF_17.below (hb18.mono (by omega))
  have BW_18 := BW_17.below hb18 BW_17.lt
  have GN_18 := GN_17.keep hb18
  have GF_18 := GF_17.keep hb18
  have BG_18 := BG_17.below hb18 BG_17.lt
  have VN_18 := VN_17.keep hb18
  have VF_18 := VF_17.keep hb18
  have HN_18 := HN_17.below (hb18.mono (by omega))
  have HF_18 := HF_17.below (hb18.mono (by omega))
  clear hb18 T17 RNm_17 RFm_17 Zm_17 WN_17 WF_17 BW_17 GN_17 GF_17 BG_17 VN_17 VF_17 HN_17 HF_17
  have sz18' : w13.heap.size < (w13.alloc (.cells #[.int .i64 (rB bm xm ym), .slice NH (rX bm xm ym).length cH, .slice FH (rY bm xm ym).length dH] 28)).heap.size := by simp
  have BH_18 := BM.new w13 (rB bm xm ym) (.slice NH (rX bm xm ym).length cH) (.slice FH (rY bm xm ym).length dH)
  clear VN_18
  clear VF_18
  have c00 := BH_18.cell0
  have c01 := BH_18.cell1
  have c02 := BH_18.cell2
  have HBH := Lib.hid BH_18
  clear BH_18
  have c10 := BW_18.cell0
  have c11 := BW_18.cell1
  have c12 := BW_18.cell2
  have HBW := Lib.hid BW_18
  clear BW_18
  go_wp2_with fail
  have BH_18 := HBH.out
  clear HBH c00 c01 c02
  have BW_18 := HBW.out
  clear HBW c10 c11 c12
  refine (eqMachine_same (rB bm xm ym) _ _ (rX bm xm ym) (rY bm xm ym) _ _ _ _ _ _ _ (HN_18.more (by omega)) (WN_18.more (by omega)) (HF_18.more (by omega)) (WF_18.more (by omega)) (by omega) (by omega)).mono ?_
  rintro e w14 ⟨rfl, hb⟩
  have hb19 : Below (w13.alloc (.cells #[.int .i64 (rB bm xm ym), .slice NH (rX bm xm ym).length cH, .slice FH (rY bm xm ym).length dH] 28)).heap.size (w13.alloc (.cells #[.int .i64 (rB bm xm ym), .slice NH (rX bm xm ym).length cH, .slice FH (rY bm xm ym).length dH] 28)) w14 := hb
  have T19 := b_step T18 hb19
  have sz19 := hb19.size
  have RNm_19 := RNm_18.below (hb19.mono (by omega))
  have RFm_19 := RFm_18.below (hb19.mono (by omega))
  have Zm_19 := Zm_18.below hb19 Zm_18.lt
  have WN_19 := WN_18.below (hb19.mono (by omega))
  have WF_19 := WF_18.below (hb19.mono (by omega))
  have BW_19 := BW_18.below hb19 BW_18.lt
  have GN_19 := GN_18.keep hb19
  have GF_19 := GF_18.keep hb19
  have BG_19 := BG_18.below hb19 BG_18.lt
  have HN_19 := HN_18.below (hb19.mono (by omega))
  have HF_19 := HF_18.below (hb19.mono (by omega))
  have BH_19 := BH_18.below hb19 BH_18.lt
  clear hb19 T18 RNm_18 RFm_18 Zm_18 WN_18 WF_18 BW_18 GN_18 GF_18 BG_18 HN_18 HF_18 BH_18
  clear hb
  have c00 := BG_19.cell0
  have c01 := BG_19.cell1
  have c02 := BG_19.cell2
  have HBG := Lib.hid BG_19
  clear BG_19
  go_wp2_with fail
  have BG_19 := HBG.out
  clear HBG c00 c01 c02
  refine (heldMachine_m (rB bm xm ym) _ _ (rX bm xm ym).length (rY bm xm ym).length _ _ (1) _ GN_19.reads GF_19.reads (by omega) (by omega) (by omega)).mono ?_
  rintro e w15 ⟨rfl, hb⟩
  have hb20 : Below w14.heap.size w14 w15 := hb
  have T20 := b_step T19 hb20
  have sz20 := hb20.size
  have RNm_20 := RNm_19.below (hb20.mono (by omega))
  have RFm_20 := RFm_19.below (hb20.mono (by omega))
  have Zm_20 := Zm_19.below hb20 Zm_19.lt
  have WN_20 := WN_19.below (hb20.mono (by omega))
  have WF_20 := WF_19.below (hb20.mono (by omega))
  have BW_20 := BW_19.below hb20 BW_19.lt
  have GN_20 := GN_19.keep hb20
  have GF_20 := GF_19.keep hb20
  have BG_20 := BG_19.below hb20 BG_19.lt
  have HN_20 := HN_19.below (hb20.mono (by omega))
  have HF_20 := HF_19.below (hb20.mono (by omega))
  have BH_20 := BH_19.below hb20 BH_19.lt
  clear hb20 T19 RNm_19 RFm_19 Zm_19 WN_19 WF_19 BW_19 GN_19 GF_19 BG_19 HN_19 HF_19 BH_19
  clear hb
  go_wp2
  go_ret
  exact ⟨rfl, T20⟩

set_option maxHeartbeats 1000000 in
theorem walk_FnExactReduceMachine (w : World) (bm : Int) (_ : (Lit.int .i64 bm).wf = true) (Nm : Option Addr) (xm : List Int) (cm : Nat) (RNm : RI w w.heap.size Nm xm) (_ : ∀ n ∈ xm, (Lit.int .i64 n).wf = true) (hxm : xm.length ≤ 9223372036854775807) (Fm : Option Addr) (ym : List Bool) (dm : Nat) (RFm : RB w w.heap.size Fm ym) (hym : ym.length ≤ 9223372036854775807) (hT : Lib.TabBelow Tryd.prog w.heap.size w "internal/strconv.uint64pow10" .u64 Lib.pow10Tab) :
    Calls Tryd.prog 4 #[.agg #[.int .i64 bm, .slice Nm xm.length cm, .slice Fm ym.length dm]] w fun e w' => e = .returned (.bool true) ∧ Below w.heap.size w w' := by
  by_cases hlm : xm.length + ym.length ≤ 1048576
  · skip
    exact walk_red w bm Nm xm cm Fm ym dm RNm RFm hlm hT
  · go_enter Tryd.func4, Tryd.ntmps4
    go_wp2_with (first | (go_at_call 5; with_reducible refine (szMachine_n bm Nm Fm xm.length ym.length _ _ (1048576) _ (by omega) (by omega) (by omega) (by omega) (by omega)).mono ?_; rintro e wm ⟨rfl, hbm⟩; obtain ⟨hcm, _, _⟩ := bcell hbm; have HBm := Lib.hid hbm; clear hbm))
    go_ret
    refine ⟨rfl, ?_⟩
    repeat (first | exact Below.refl _ _ | refine b_alloc ?_ _ | refine b_step ?_ HBm.out)
end Go.Proofs.YtoihjapbidbpdaaDoor
