/- The walk of the law FnExactCountAccepted over the contracts. Conditions: none. -/
import Derived.Test.YtoihjapbidbpdaaCntS
import Derived.Deep.RegionHeld3
import Derived.Deep.DeepCutAuto
namespace Go.Proofs.Ytoihjapbidbpdaa
open Go.RowKit
set_option linter.unusedVariables false
set_option maxHeartbeats 2000000 in
theorem walk_cnt (w : World) (bm : Int) (Nm : Option Addr) (xm : List Int) (cm : Nat) (Fm : Option Addr) (ym : List Bool) (dm : Nat) (k : Int) (RNm : RI w w.heap.size Nm xm) (RFm : RB w w.heap.size Fm ym) (hlen : xm.length + ym.length ≤ 1048576)  :
    Calls Try.prog 6 #[.agg #[.int .i64 bm, .slice Nm xm.length cm, .slice Fm ym.length dm], .int .i64 k] w fun e w' => e = .returned (.bool true) ∧ Below w.heap.size w w' := by
  have T0 : Below w.heap.size w w := Below.refl _ _
  have sz0 : w.heap.size ≤ w.heap.size := Nat.le_refl _
  have RNm_0 := RNm
  have RFm_0 := RFm
  clear RNm RFm
  go_enter Try.func6, Try.ntmps6
  have hb1 : Below w.heap.size w (w.alloc (.cells #[.int .i64 (bm), .slice Nm xm.length cm, .slice Fm ym.length dm] 31)) := b_alloc (Below.refl _ _) _
  have T1 := b_step T0 hb1
  have sz1 := hb1.size
  have RNm_1 := RNm_0.below (hb1.mono (by omega))
  have RFm_1 := RFm_0.below (hb1.mono (by omega))
  clear hb1 T0 RNm_0 RFm_0
  have sz1' : w.heap.size < (w.alloc (.cells #[.int .i64 (bm), .slice Nm xm.length cm, .slice Fm ym.length dm] 31)).heap.size := by simp
  have Zm_1 := BLM.new w (bm) (.slice Nm xm.length cm) (.slice Fm ym.length dm)
  have c00 := Zm_1.cell0
  have c01 := Zm_1.cell1
  have c02 := Zm_1.cell2
  have HZm := Lib.hid Zm_1
  clear Zm_1
  go_wp2_with fail
  have Zm_1 := HZm.out
  clear HZm c00 c01 c02
  refine (szMachine_y bm Nm Fm _ _ _ _ (1048576) _ (by omega) (by omega)).mono ?_
  rintro e w1 ⟨rfl, hb⟩
  have hb2 : Below (w.alloc (.cells #[.int .i64 (bm), .slice Nm xm.length cm, .slice Fm ym.length dm] 31)).heap.size (w.alloc (.cells #[.int .i64 (bm), .slice Nm xm.length cm, .slice Fm ym.length dm] 31)) w1 := hb
  have T2 := b_step T1 hb2
  have sz2 := hb2.size
  have RNm_2 := RNm_1.below (hb2.mono (by omega))
  have RFm_2 := RFm_1.below (hb2.mono (by omega))
  have Zm_2 := Zm_1.below hb2 Zm_1.lt
  clear hb2 T1 RNm_1 RFm_1 Zm_1
  clear hb
  have c00 := Zm_2.cell0
  have c01 := Zm_2.cell1
  have c02 := Zm_2.cell2
  have HZm := Lib.hid Zm_2
  clear Zm_2
  go_wp2_with fail
  have Zm_2 := HZm.out
  clear HZm c00 c01 c02
  refine (toMachine_m bm Nm Fm xm ym cm dm _ (RNm_2.more (by omega)) (RFm_2.more (by omega)) (by omega) (by omega)).mono ?_
  rintro e w2 ⟨NS, FS, rfl, hO, hP, hb⟩
  have hb3 : Below w1.heap.size w1 w2 := hb
  have T3 := b_step T2 hb3
  have sz3 := hb3.size
  have RNm_3 := RNm_2.below (hb3.mono (by omega))
  have RFm_3 := RFm_2.below (hb3.mono (by omega))
  have Zm_3 := Zm_2.below hb3 Zm_2.lt
  clear hb3 T2 RNm_2 RFm_2 Zm_2
  clear hb
  have SN_3 := hO
  have SF_3 := hP
  clear hO hP
  go_wp2_with fail
  refine (spec_count bm _ _ xm ym _ _ k _ SN_3.reads SF_3.reads (by omega) (by omega)).mono ?_
  rintro e w3 ⟨rfl, hb⟩
  have hb4 : Below w2.heap.size w2 w3 := hb
  have T4 := b_step T3 hb4
  have sz4 := hb4.size
  have RNm_4 := RNm_3.below (hb4.mono (by omega))
  have RFm_4 := RFm_3.below (hb4.mono (by omega))
  have Zm_4 := Zm_3.below hb4 Zm_3.lt
  have SN_4 := SN_3.keep hb4
  have SF_4 := SF_3.keep hb4
  clear hb4 T3 RNm_3 RFm_3 Zm_3 SN_3 SF_3
  clear hb
  clear SN_4
  clear SF_4
  have c00 := Zm_4.cell0
  have c01 := Zm_4.cell1
  have c02 := Zm_4.cell2
  have HZm := Lib.hid Zm_4
  clear Zm_4
  go_wp2_with fail
  have Zm_4 := HZm.out
  clear HZm c00 c01 c02
  refine (toMachine_m bm Nm Fm xm ym cm dm _ (RNm_4.more (by omega)) (RFm_4.more (by omega)) (by omega) (by omega)).mono ?_
  rintro e w4 ⟨NX, FX, rfl, hO, hP, hb⟩
  have hb5 : Below w3.heap.size w3 w4 := hb
  have T5 := b_step T4 hb5
  have sz5 := hb5.size
  have RNm_5 := RNm_4.below (hb5.mono (by omega))
  have RFm_5 := RFm_4.below (hb5.mono (by omega))
  have Zm_5 := Zm_4.below hb5 Zm_4.lt
  clear hb5 T4 RNm_4 RFm_4 Zm_4
  clear hb
  have XN_5 := hO
  have XF_5 := hP
  clear hO hP
  have hb6 : Below w4.heap.size w4 (w4.alloc (.cells #[.int .i64 (bm), .slice NX xm.length xm.length, .slice FX ym.length ym.length] 25)) := b_alloc (Below.refl _ _) _
  have T6 := b_step T5 hb6
  have sz6 := hb6.size
  have RNm_6 := RNm_5.below (hb6.mono (by omega))
  have RFm_6 := RFm_5.below (hb6.mono (by omega))
  have Zm_6 := Zm_5.below hb6 Zm_5.lt
  have XN_6 := XN_5.keep hb6
  have XF_6 := XF_5.keep hb6
  clear hb6 T5 RNm_5 RFm_5 Zm_5 XN_5 XF_5
  have sz6' : w4.heap.size < (w4.alloc (.cells #[.int .i64 (bm), .slice NX xm.length xm.length, .slice FX ym.length ym.length] 25)).heap.size := by simp
  have BX_6 := BM.new w4 (bm) (.slice NX xm.length xm.length) (.slice FX ym.length ym.length)
  have c00 := BX_6.cell0
  have c01 := BX_6.cell1
  have c02 := BX_6.cell2
  have HBX := Lib.hid BX_6
  clear BX_6
  go_wp2_with fail
  have BX_6 := HBX.out
  clear HBX c00 c01 c02
  refine (impl_count bm _ _ xm ym _ _ k _ XN_6.reads XF_6.reads (by omega) (by omega)).mono ?_
  rintro e w5 ⟨rfl, hb⟩
  have hb7 : Below (w4.alloc (.cells #[.int .i64 (bm), .slice NX xm.length xm.length, .slice FX ym.length ym.length] 25)).heap.size (w4.alloc (.cells #[.int .i64 (bm), .slice NX xm.length xm.length, .slice FX ym.length ym.length] 25)) w5 := hb
  have T7 := b_step T6 hb7
  have sz7 := hb7.size
  have RNm_7 := RNm_6.below (hb7.mono (by omega))
  have RFm_7 := RFm_6.below (hb7.mono (by omega))
  have Zm_7 := Zm_6.below hb7 Zm_6.lt
  have XN_7 := XN_6.keep hb7
  have XF_7 := XF_6.keep hb7
  have BX_7 := BX_6.below hb7 BX_6.lt
  clear hb7 T6 RNm_6 RFm_6 Zm_6 XN_6 XF_6 BX_6
  clear hb
  obtain ⟨q, hq⟩ : ∃ q, q = countR bm xm ym k := ⟨_, rfl⟩
  rw [← hq]
  clear hq
  have c00 := BX_7.cell0
  have c01 := BX_7.cell1
  have c02 := BX_7.cell2
  have lt0 := BX_7.lt
  have c10 := Zm_7.cell0
  have c11 := Zm_7.cell1
  have c12 := Zm_7.cell2
  have lt1 := Zm_7.lt
  have HRNm := Lib.hid RNm_7
  have HRFm := Lib.hid RFm_7
  have HZm := Lib.hid Zm_7
  have HXN := Lib.hid XN_7
  have HXF := Lib.hid XF_7
  have HBX := Lib.hid BX_7
  have HT := Lib.hid T7
  clear T7 RNm_7 RFm_7 Zm_7 XN_7 XF_7 BX_7
  go_upto_region 10 with fail
  go_cut [30] (fun s wx => s = .bool false ∧ Below w5.heap.size w5 wx)
  case first =>
    go_region_held3 (fun w' => w'.cell? ⟨w4.heap.size, 0, none⟩ = some (.int .i64 bm) ∧ w'.cell? ⟨w4.heap.size, 1, none⟩ = some (.slice NX xm.length xm.length) ∧ w'.cell? ⟨w4.heap.size, 2, none⟩ = some (.slice FX ym.length ym.length) ∧ w'.cell? ⟨w.heap.size, 0, none⟩ = some (.int .i64 bm) ∧ w'.cell? ⟨w.heap.size, 1, none⟩ = some (.slice Nm xm.length cm) ∧ w'.cell? ⟨w.heap.size, 2, none⟩ = some (.slice Fm ym.length dm)) (simp [go_sem, *]) (first | (go_at_call 15; refine (toMachine_m bm Nm Fm xm ym cm dm _ ?_ ?_ (by omega) (by omega)).mono ?_; (first | exact HRNm.out.more (by omega) | exact (HRNm.out.below (below_drewN (Below.refl _ _) _)).more (by simp; omega) | exact (HRNm.out.below (Below.refl _ _).drew).more (by simp; omega)); (first | exact HRFm.out.more (by omega) | exact (HRFm.out.below (below_drewN (Below.refl _ _) _)).more (by simp; omega) | exact (HRFm.out.below (Below.refl _ _).drew).more (by simp; omega)); rintro e w1' ⟨N1', F1', rfl, hO1, hP1, hb1⟩; obtain ⟨hc1, hf1, _⟩ := bcell hb1; have hc2 : ∀ b o, b < w5.heap.size → w1'.cell? ⟨b, o, none⟩ = w5.cell? ⟨b, o, none⟩ := (fun b o h => hc1 b o h); clear hc1 hf1; have RX1 := (by first | exact Lib.hid (HXN.out.keep hb1).reads | exact Lib.hid ((HXN.out.keep (Below.refl _ _).drew).keep hb1).reads | exact Lib.hid ((HXN.out.keep (below_drewN (Below.refl _ _) _)).keep hb1).reads); have RX2 := (by first | exact Lib.hid (HXF.out.keep hb1).reads | exact Lib.hid ((HXF.out.keep (Below.refl _ _).drew).keep hb1).reads | exact Lib.hid ((HXF.out.keep (below_drewN (Below.refl _ _) _)).keep hb1).reads); have RY1 := Lib.hid hO1.reads; have RY2 := Lib.hid hP1.reads; have HB1 := Lib.hid hb1; clear hO1 hP1 hb1) | (go_at_call 10; refine (eqMachine_same bm _ _ xm ym _ _ _ _ _ _ _ RX1.out RY1.out RX2.out RY2.out (by omega) (by omega)).mono ?_; rintro e w2' ⟨rfl, hb2⟩; have hc3 : ∀ b o, b < w5.heap.size → w2'.cell? ⟨b, o, none⟩ = w1'.cell? ⟨b, o, none⟩ := (fun b o h => (bcell hb2).1 b o (Nat.lt_of_lt_of_le h HB1.out.size)); have HB2 := Lib.hid hb2; clear hb2))
    all_goals (go_wp2_with fail; go_meet)
    all_goals refine ⟨rfl, ?_⟩
    all_goals (repeat (first | exact Below.refl _ _ | refine b_drew ?_ | refine b_drewN ?_ _ | refine b_step ?_ HB2.out | refine b_step ?_ HB1.out))
  case rest =>
  obtain ⟨rfl, hb⟩ := hcut
  have RNm_7 := HRNm.out
  have RFm_7 := HRFm.out
  have Zm_7 := HZm.out
  have XN_7 := HXN.out
  have XF_7 := HXF.out
  have BX_7 := HBX.out
  have T7 := HT.out
  clear HT c00 c01 c02 c10 c11 c12 lt0 lt1 HRNm HRFm HZm HXN HXF HBX
  have hb8 : Below w5.heap.size w5 wc := hb
  have T8 := b_step T7 hb8
  have sz8 := hb8.size
  have RNm_8 := RNm_7.below (hb8.mono (by omega))
  have RFm_8 := RFm_7.below (hb8.mono (by omega))
  have Zm_8 := Zm_7.below hb8 Zm_7.lt
  have XN_8 := XN_7.keep hb8
  have XF_8 := XF_7.keep hb8
  have BX_8 := BX_7.below hb8 BX_7.lt
  clear hb8 T7 RNm_7 RFm_7 Zm_7 XN_7 XF_7 BX_7
  clear hb
  go_wp2
  go_ret
  exact ⟨rfl, T8⟩

set_option maxHeartbeats 1000000 in
theorem walk_FnExactCountAccepted (w : World) (bm : Int) (_ : (Lit.int .i64 bm).wf = true) (Nm : Option Addr) (xm : List Int) (cm : Nat) (RNm : RI w w.heap.size Nm xm) (_ : ∀ n ∈ xm, (Lit.int .i64 n).wf = true) (hxm : xm.length ≤ 9223372036854775807) (Fm : Option Addr) (ym : List Bool) (dm : Nat) (RFm : RB w w.heap.size Fm ym) (hym : ym.length ≤ 9223372036854775807) (k : Int) (_ : (Lit.int .i64 k).wf = true) :
    Calls Try.prog 6 #[.agg #[.int .i64 bm, .slice Nm xm.length cm, .slice Fm ym.length dm], .int .i64 k] w fun e w' => e = .returned (.bool true) ∧ Below w.heap.size w w' := by
  by_cases hlm : xm.length + ym.length ≤ 1048576
  · skip
    exact walk_cnt w bm Nm xm cm Fm ym dm k RNm RFm hlm
  · go_enter Try.func6, Try.ntmps6
    go_wp2_with (first | (go_at_call 13; refine (szMachine_n bm Nm Fm _ _ _ _ (1048576) _ (by omega) (by omega) (by omega) (by omega) (by omega)).mono ?_; rintro e wm ⟨rfl, hbm⟩; obtain ⟨hcm, _, _⟩ := bcell hbm; have HBm := Lib.hid hbm; clear hbm))
    go_ret
    refine ⟨rfl, ?_⟩
    repeat (first | exact Below.refl _ _ | refine b_alloc ?_ _ | refine b_step ?_ HBm.out)
end Go.Proofs.Ytoihjapbidbpdaa
