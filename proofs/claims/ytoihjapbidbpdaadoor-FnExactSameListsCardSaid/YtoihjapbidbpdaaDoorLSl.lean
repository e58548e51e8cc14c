/- The walk of the law FnExactSameLists over the contracts. Conditions: none. -/
import Derived.Test.YtoihjapbidbpdaaDoorSlW
import Derived.Deep.RegionHeld3
import Derived.Deep.DeepCutAuto
set_option linter.unusedSimpArgs false
namespace Go.Proofs.YtoihjapbidbpdaaDoor
open Go.RowKit
set_option linter.unusedVariables false
set_option maxRecDepth 100000 in
set_option maxHeartbeats 60000000 in
theorem walk_sl (w : World) (ba : Int) (Na : Option Addr) (xa : List Int) (ca : Nat) (Fa : Option Addr) (ya : List Bool) (da : Nat) (bc : Int) (Nc : Option Addr) (xc : List Int) (cc : Nat) (Fc : Option Addr) (yc : List Bool) (dc : Nat) (RNa : RI w w.heap.size Na xa) (RFa : RB w w.heap.size Fa ya) (RNc : RI w w.heap.size Nc xc) (RFc : RB w w.heap.size Fc yc) (hlen : xa.length + ya.length + xc.length + yc.length ≤ 1048576) (hT : Lib.TabBelow Tryd.prog w.heap.size w "internal/strconv.uint64pow10" .u64 Lib.pow10Tab) :
    Calls Tryd.prog 3 #[.agg #[.int .i64 ba, .slice Na xa.length ca, .slice Fa ya.length da], .agg #[.int .i64 bc, .slice Nc xc.length cc, .slice Fc yc.length dc]] w fun e w' => e = .returned (.bool true) ∧ Below w.heap.size w w' := by
  have HTB := Lib.hid hT
  clear hT
  have T0 : Below w.heap.size w w := Below.refl _ _
  have sz0 : w.heap.size ≤ w.heap.size := Nat.le_refl _
  have RNa_0 := RNa
  have RFa_0 := RFa
  clear RNa RFa
  have RNc_0 := RNc
  have RFc_0 := RFc
  clear RNc RFc
  go_enter Tryd.func3, Tryd.ntmps3
  have hb1 : Below w.heap.size w (w.alloc (.cells #[.int .i64 (ba), .slice Na xa.length ca, .slice Fa ya.length da] 25)) := b_alloc (Below.refl _ _) _
  have T1 := b_step T0 hb1
  have sz1 := hb1.size
  have RNa_1 := RNa_0.below (hb1.mono (by omega))
  have RFa_1 := RFa_0.below (hb1.mono (by omega))
  have RNc_1 := RNc_0.below (hb1.mono (by omega))
  have RFc_1 := RFc_0.below (hb1.mono (by omega))
  clear hb1 T0 RNa_0 RFa_0 RNc_0 RFc_0
  have sz1' : w.heap.size < (w.alloc (.cells #[.int .i64 (ba), .slice Na xa.length ca, .slice Fa ya.length da] 25)).heap.size := by simp
  have Za_1 := BLM.new w (ba) (.slice Na xa.length ca) (.slice Fa ya.length da)
  have hb2 : Below (w.alloc (.cells #[.int .i64 (ba), .slice Na xa.length ca, .slice Fa ya.length da] 25)).heap.size (w.alloc (.cells #[.int .i64 (ba), .slice Na xa.length ca, .slice Fa ya.length da] 25)) ((w.alloc (.cells #[.int .i64 (ba), .slice Na xa.length ca, .slice Fa ya.length da] 25)).alloc (.cells #[.int .i64 (bc), .slice Nc xc.length cc, .slice Fc yc.length dc] 25)) := b_alloc (Below.refl _ _) _
  have T2 := b_step T1 hb2
  have sz2 := hb2.size
  have RNa_2 := RNa_1.below (hb2.mono (by omega))
  have RFa_2 := RFa_1.below (hb2.mono (by omega))
  have RNc_2 := RNc_1.below (hb2.mono (by omega))
  have RFc_2 := RFc_1.below (hb2.mono (by omega))
  have Za_2 := Za_1.below hb2 Za_1.lt
  clear hb2 T1 RNa_1 RFa_1 RNc_1 RFc_1 Za_1
  have sz2' : (w.alloc (.cells #[.int .i64 (ba), .slice Na xa.length ca, .slice Fa ya.length da] 25)).heap.size < ((w.alloc (.cells #[.int .i64 (ba), .slice Na xa.length ca, .slice Fa ya.length da] 25)).alloc (.cells #[.int .i64 (bc), .slice Nc xc.length cc, .slice Fc yc.length dc] 25)).heap.size := by simp
  have Zc_2 := BLM.new (w.alloc (.cells #[.int .i64 (ba), .slice Na xa.length ca, .slice Fa ya.length da] 25)) (bc) (.slice Nc xc.length cc) (.slice Fc yc.length dc)
  simp only [World.size_alloc] at Zc_2
  have c00 := Za_2.cell0
  have c01 := Za_2.cell1
  have c02 := Za_2.cell2
  have HZa := Lib.hid Za_2
  clear Za_2
  go_wp2_with fail
  have Za_2 := HZa.out
  clear HZa c00 c01 c02
  refine (szMachine_y ba Na Fa xa.length ya.length ca da (1048576) _ (by omega) (by omega)).mono ?_
  rintro e w1 ⟨rfl, hb⟩
  have hb3 : Below ((w.alloc (.cells #[.int .i64 (ba), .slice Na xa.length ca, .slice Fa ya.length da] 25)).alloc (.cells #[.int .i64 (bc), .slice Nc xc.length cc, .slice Fc yc.length dc] 25)).heap.size ((w.alloc (.cells #[.int .i64 (ba), .slice Na xa.length ca, .slice Fa ya.length da] 25)).alloc (.cells #[.int .i64 (bc), .slice Nc xc.length cc, .slice Fc yc.length dc] 25)) w1 := hb
  have T3 := b_step T2 hb3
  have sz3 := hb3.size
  have RNa_3 := RNa_2.below (hb3.mono (by omega))
  have RFa_3 := RFa_2.below (hb3.mono (by omega))
  have RNc_3 := RNc_2.below (hb3.mono (by omega))
  have RFc_3 := RFc_2.below (hb3.mono (by omega))
  have Za_3 := Za_2.below hb3 Za_2.lt
  have Zc_3 := Zc_2.below hb3 Zc_2.lt
  clear hb3 T2 RNa_2 RFa_2 RNc_2 RFc_2 Za_2 Zc_2
  clear hb
  have c00 := Zc_3.cell0
  have c01 := Zc_3.cell1
  have c02 := Zc_3.cell2
  have HZc := Lib.hid Zc_3
  clear Zc_3
  go_wp2_with fail
  have Zc_3 := HZc.out
  clear HZc c00 c01 c02
  refine (szMachine_y bc Nc Fc xc.length yc.length cc dc (1048576 - xa.length - ya.length) _ (by omega) (by omega)).mono ?_
  rintro e w2 ⟨rfl, hb⟩
  have hb4 : Below w1.heap.size w1 w2 := hb
  have T4 := b_step T3 hb4
  have sz4 := hb4.size
  have RNa_4 := RNa_3.below (hb4.mono (by omega))
  have RFa_4 := RFa_3.below (hb4.mono (by omega))
  have RNc_4 := RNc_3.below (hb4.mono (by omega))
  have RFc_4 := RFc_3.below (hb4.mono (by omega))
  have Za_4 := Za_3.below hb4 Za_3.lt
  have Zc_4 := Zc_3.below hb4 Zc_3.lt
  clear hb4 T3 RNa_3 RFa_3 RNc_3 RFc_3 Za_3 Zc_3
  clear hb
  have c00 := Za_4.cell0
  have c01 := Za_4.cell1
  have c02 := Za_4.cell2
  have lt0 := Za_4.lt
  have c10 := Zc_4.cell0
  have c11 := Zc_4.cell1
  have c12 := Zc_4.cell2
  have lt1 := Zc_4.lt
  have HRNa := Lib.hid RNa_4
  have HRFa := Lib.hid RFa_4
  have HRNc := Lib.hid RNc_4
  have HRFc := Lib.hid RFc_4
  have HZa := Lib.hid Za_4
  have HZc := Lib.hid Zc_4
  have HT := Lib.hid T4
  clear T4 RNa_4 RFa_4 RNc_4 RFc_4 Za_4 Zc_4
  go_upto_region 8 with fail
  go_cut [6] (fun sp wx => sp = .bool (slV ba bc xa xc ya yc) ∧ Below w2.heap.size w2 wx)
  case first =>
    go_region_held3 (fun w' => w'.cell? ⟨w.heap.size, 0, none⟩ = some (.int .i64 ba) ∧ w'.cell? ⟨w.heap.size, 1, none⟩ = some (.slice Na xa.length ca) ∧ w'.cell? ⟨w.heap.size, 2, none⟩ = some (.slice Fa ya.length da) ∧ w'.cell? ⟨(w.heap.size + 1), 0, none⟩ = some (.int .i64 bc) ∧ w'.cell? ⟨(w.heap.size + 1), 1, none⟩ = some (.slice Nc xc.length cc) ∧ w'.cell? ⟨(w.heap.size + 1), 2, none⟩ = some (.slice Fc yc.length dc)) (first | (simp [go_sem, World.cell?_alloc_past, c00, c01, c02, c10, c11, c12, lt0, lt1]; done) | (simp [go_sem, c00, c01, c02, c10, c11, c12, World.cell?_alloc_past, lt0, lt1, lJ0, lJ1, hcJ]; done) | (simp [go_sem, c00, c01, c02, c10, c11, c12, World.cell?_alloc_past, lt0, lt1, lC0, lC1, hcC]; done) | (simp [go_sem, c00, c01, c02, c10, c11, c12, World.cell?_alloc_past, lt0, lt1, lA0, lA1, hcA]; done)) (first | (go_at_call 7; with_reducible refine (toMachine_m ba Na Fa xa ya ca da _ ?_ ?_ (by omega) (by omega)).mono ?_; exact HRNa.out.upTo (by repeat (first | exact Below.refl _ _ | refine b_alloc ?_ _ | refine b_drew ?_)) (by omega); exact HRFa.out.upTo (by repeat (first | exact Below.refl _ _ | refine b_alloc ?_ _ | refine b_drew ?_)) (by omega); rintro e wA ⟨NA', FA', rfl, hO, hP, hb⟩; have HBA : Hid (Below w2.heap.size w2 wA) := Lib.hid (b_step (by repeat (first | exact Below.refl _ _ | refine b_alloc ?_ _ | refine b_drew ?_)) hb); have hzA := hb.size; (try simp at hzA); obtain ⟨hxA, hfA, _⟩ := bcell hb; have HbA := Lib.hid hb; have HOA := Lib.hid hO; have HPA := Lib.hid hP; have hcA : ∀ b o, b < w2.heap.size → wA.cell? ⟨b, o, none⟩ = w2.cell? ⟨b, o, none⟩ := (fun b o h => HBA.out.cell (p := ⟨b, o, none⟩) h); have lA0 := Nat.lt_of_lt_of_le lt0 HBA.out.size; have lA1 := Nat.lt_of_lt_of_le lt1 HBA.out.size; (try (refine cutT (T := w2.heap.size < wA.heap.size) ?_ ?_; omega; intro yw2wA)); clear hO hP hb) | (go_at_call 7; with_reducible refine (toMachine_m bc Nc Fc xc yc cc dc _ ?_ ?_ (by omega) (by omega)).mono ?_; exact HRNc.out.upTo (by repeat (first | exact Below.refl _ _ | exact HBA.out | refine b_alloc ?_ _ | refine b_drew ?_)) (by omega); exact HRFc.out.upTo (by repeat (first | exact Below.refl _ _ | exact HBA.out | refine b_alloc ?_ _ | refine b_drew ?_)) (by omega); rintro e wC ⟨NC', FC', rfl, hO, hP, hb⟩; have HBC : Hid (Below w2.heap.size w2 wC) := Lib.hid (b_step (by repeat (first | exact Below.refl _ _ | exact HBA.out | refine b_alloc ?_ _ | refine b_drew ?_)) hb); have HAC : Hid (Below wA.heap.size wA wC) := Lib.hid (b_step (by repeat (first | exact Below.refl _ _ | refine b_alloc ?_ _ | refine b_drew ?_)) hb); have hzC := hb.size; (try simp at hzC); obtain ⟨hxC, hfC, _⟩ := bcell hb; have HbC := Lib.hid hb; have HOC := Lib.hid hO; have HPC := Lib.hid hP; have hcC : ∀ b o, b < w2.heap.size → wC.cell? ⟨b, o, none⟩ = w2.cell? ⟨b, o, none⟩ := (fun b o h => HBC.out.cell (p := ⟨b, o, none⟩) h); have lC0 := Nat.lt_of_lt_of_le lt0 HBC.out.size; have lC1 := Nat.lt_of_lt_of_le lt1 HBC.out.size; (try (refine cutT (T := w2.heap.size < wC.heap.size) ?_ ?_; omega; intro yw2wC)); (try (refine cutT (T := wA.heap.size < wC.heap.size) ?_ ?_; omega; intro ywAwC)); clear hO hP hb) | (go_at_call 6; with_reducible refine (spec_sl ba bc NA' FA' NC' FC' xa xc ya yc _ _ _ _ _ ?_ ?_ ?_ ?_ (by omega) (by omega) (by omega) (by omega)).mono ?_; exact HOA.out.reads.upTo (by repeat (first | exact Below.refl _ _ | exact HAC.out | refine b_alloc ?_ _ | refine b_drew ?_)) (Nat.le_refl _); exact HPA.out.reads.upTo (by repeat (first | exact Below.refl _ _ | exact HAC.out | refine b_alloc ?_ _ | refine b_drew ?_)) (Nat.le_refl _); exact HOC.out.reads.upTo (by repeat (first | exact Below.refl _ _ | refine b_alloc ?_ _ | refine b_drew ?_)) (Nat.le_refl _); exact HPC.out.reads.upTo (by repeat (first | exact Below.refl _ _ | refine b_alloc ?_ _ | refine b_drew ?_)) (Nat.le_refl _); rintro e wJ ⟨rfl, hb⟩; have HBJ : Hid (Below w2.heap.size w2 wJ) := Lib.hid (b_step (by repeat (first | exact Below.refl _ _ | exact HBC.out | refine b_alloc ?_ _ | refine b_drew ?_)) hb); have hzJ := hb.size; (try simp at hzJ); obtain ⟨hxJ, hfJ, _⟩ := bcell hb; have HbJ := Lib.hid hb; have hcJ : ∀ b o, b < w2.heap.size → wJ.cell? ⟨b, o, none⟩ = w2.cell? ⟨b, o, none⟩ := (fun b o h => HBJ.out.cell (p := ⟨b, o, none⟩) h); have lJ0 := Nat.lt_of_lt_of_le lt0 HBJ.out.size; have lJ1 := Nat.lt_of_lt_of_le lt1 HBJ.out.size; (try (refine cutT (T := w2.heap.size < wJ.heap.size) ?_ ?_; omega; intro yw2wJ)); (try (refine cutT (T := wA.heap.size < wJ.heap.size) ?_ ?_; omega; intro ywAwJ)); (try (refine cutT (T := wC.heap.size < wJ.heap.size) ?_ ?_; omega; intro ywCwJ)); clear hb))
    all_goals (go_wp2_with fail; go_meet)
    all_goals exact ⟨rfl, HBJ.out⟩
  case rest =>
  obtain ⟨rfl, hb⟩ := hcut
  have RNa_4 := HRNa.out
  have RFa_4 := HRFa.out
  have RNc_4 := HRNc.out
  have RFc_4 := HRFc.out
  have Za_4 := HZa.out
  have Zc_4 := HZc.out
  have T4 := HT.out
  clear HT c00 c01 c02 c10 c11 c12 lt0 lt1 HRNa HRFa HRNc HRFc HZa HZc
  rename World => wx3
  have hb5 : Below w2.heap.size w2 wx3 := hb
  have T5 := b_step T4 hb5
  have sz5 := hb5.size
  have RNa_5 := RNa_4.below (hb5.mono (by omega))
  have RFa_5 := RFa_4.below (hb5.mono (by omega))
  have RNc_5 := RNc_4.below (hb5.mono (by omega))
  have RFc_5 := RFc_4.below (hb5.mono (by omega))
  have Za_5 := Za_4.below hb5 Za_4.lt
  have Zc_5 := Zc_4.below hb5 Zc_4.lt
  clear hb5 T4 RNa_4 RFa_4 RNc_4 RFc_4 Za_4 Zc_4
  clear hb
  have c00 := Za_5.cell0
  have c01 := Za_5.cell1
  have c02 := Za_5.cell2
  have HZa := Lib.hid Za_5
  clear Za_5
  go_wp2_with fail
  have Za_5 := HZa.out
  clear HZa c00 c01 c02
  refine (toMachine_m ba Na Fa xa ya ca da _ (RNa_5.more (by omega)) (RFa_5.more (by omega)) (by omega) (by omega)).mono ?_
  rintro e w4 ⟨NX, FX, rfl, hO, hP, hb⟩
  have hb6 : Below wx3.heap.size wx3 w4 := hb
  have T6 := b_step T5 hb6
  have sz6 := hb6.size
  have RNa_6 := RNa_5.below (hb6.mono (by omega))
  have RFa_6 := RFa_5.below (hb6.mono (by omega))
  have RNc_6 := RNc_5.below (hb6.mono (by omega))
  have RFc_6 := RFc_5.below (hb6.mono (by omega))
  have Za_6 := Za_5.below hb6 Za_5.lt
  have Zc_6 := Zc_5.below hb6 Zc_5.lt
  clear hb6 T5 RNa_5 RFa_5 RNc_5 RFc_5 Za_5 Zc_5
  clear hb
  have XN_6 := hO
  have XF_6 := hP
  have LXN := hO.lo
  have LXF := hP.lo
  clear hO hP
  have hb7 : Below w4.heap.size w4 (w4.alloc (.cells #[.int .i64 (ba), .slice NX xa.length xa.length, .slice FX ya.length ya.length] 28)) := b_alloc (Below.refl _ _) _
  have T7 := b_step T6 hb7
  have sz7 := hb7.size
  have RNa_7 := RNa_6.below (hb7.mono (by omega))
  have RFa_7 := RFa_6.below (hb7.mono (by omega))
  have RNc_7 := RNc_6.below (hb7.mono (by omega))
  have RFc_7 := RFc_6.below (hb7.mono (by omega))
  have Za_7 := Za_6.below hb7 Za_6.lt
  have Zc_7 := Zc_6.below hb7 Zc_6.lt
  have XN_7 := XN_6.keep hb7
  have XF_7 := XF_6.keep hb7
  clear hb7 T6 RNa_6 RFa_6 RNc_6 RFc_6 Za_6 Zc_6 XN_6 XF_6
  have sz7' : w4.heap.size < (w4.alloc (.cells #[.int .i64 (ba), .slice NX xa.length xa.length, .slice FX ya.length ya.length] 28)).heap.size := by simp
  have BX_7 := BM.new w4 (ba) (.slice NX xa.length xa.length) (.slice FX ya.length ya.length)
  have c00 := Zc_7.cell0
  have c01 := Zc_7.cell1
  have c02 := Zc_7.cell2
  have HZc := Lib.hid Zc_7
  clear Zc_7
  go_wp2_with fail
  have Zc_7 := HZc.out
  clear HZc c00 c01 c02
  refine (toMachine_m bc Nc Fc xc yc cc dc _ (RNc_7.more (by omega)) (RFc_7.more (by omega)) (by omega) (by omega)).mono ?_
  rintro e w5 ⟨NY, FY, rfl, hO, hP, hb⟩
  have hb8 : Below (w4.alloc (.cells #[.int .i64 (ba), .slice NX xa.length xa.length, .slice FX ya.length ya.length] 28)).heap.size (w4.alloc (.cells #[.int .i64 (ba), .slice NX xa.length xa.length, .slice FX ya.length ya.length] 28)) w5 := hb
  have T8 := b_step T7 hb8
  have sz8 := hb8.size
  have RNa_8 := RNa_7.below (hb8.mono (by omega))
  have RFa_8 := RFa_7.below (hb8.mono (by omega))
  have RNc_8 := RNc_7.below (hb8.mono (by omega))
  have RFc_8 := RFc_7.below (hb8.mono (by omega))
  have Za_8 := Za_7.below hb8 Za_7.lt
  have Zc_8 := Zc_7.below hb8 Zc_7.lt
  have XN_8 := XN_7.keep hb8
  have XF_8 := XF_7.keep hb8
  have BX_8 := BX_7.below hb8 BX_7.lt
  clear hb8 T7 RNa_7 RFa_7 RNc_7 RFc_7 Za_7 Zc_7 XN_7 XF_7 BX_7
  clear hb
  have YN_8 := hO
  have YF_8 := hP
  have LYN := hO.lo
  have LYF := hP.lo
  clear hO hP
  have hb9 : Below w5.heap.size w5 (w5.alloc (.cells #[.int .i64 (bc), .slice NY xc.length xc.length, .slice FY yc.length yc.length] 28)) := b_alloc (Below.refl _ _) _
  have T9 := b_step T8 hb9
  have sz9 := hb9.size
  have RNa_9 := RNa_8.below (hb9.mono (by omega))
  have RFa_9 := RFa_8.below (hb9.mono (by omega))
  have RNc_9 := RNc_8.below (hb9.mono (by omega))
  have RFc_9 := RFc_8.below (hb9.mono (by omega))
  have Za_9 := Za_8.below hb9 Za_8.lt
  have Zc_9 := Zc_8.below hb9 Zc_8.lt
  have XN_9 := XN_8.keep hb9
  have XF_9 := XF_8.keep hb9
  have BX_9 := BX_8.below hb9 BX_8.lt
  have YN_9 := YN_8.keep hb9
  have YF_9 := YF_8.keep hb9
  clear hb9 T8 RNa_8 RFa_8 RNc_8 RFc_8 Za_8 Zc_8 XN_8 XF_8 BX_8 YN_8 YF_8
  have sz9' : w5.heap.size < (w5.alloc (.cells #[.int .i64 (bc), .slice NY xc.length xc.length, .slice FY yc.length yc.length] 28)).heap.size := by simp
  have BY_9 := BM.new w5 (bc) (.slice NY xc.length xc.length) (.slice FY yc.length yc.length)
  have c00 := BX_9.cell0
  have c01 := BX_9.cell1
  have c02 := BX_9.cell2
  have HBX := Lib.hid BX_9
  clear BX_9
  have c10 := BY_9.cell0
  have c11 := BY_9.cell1
  have c12 := BY_9.cell2
  have HBY := Lib.hid BY_9
  clear BY_9
  go_wp2_with fail
  have BX_9 := HBX.out
  clear HBX c00 c01 c02
  have BY_9 := HBY.out
  clear HBY c10 c11 c12
  refine (impl_sl ba bc _ _ _ _ xa xc ya yc _ _ _ _ _ XN_9.reads XF_9.reads YN_9.reads YF_9.reads (by omega) (by omega) (by omega) (by omega) (Lib.tabBelow_of_tabIs (HTB.out.on T9).here)).mono ?_
  rintro e w6 ⟨rfl, hb⟩
  have hb10 : Below (w5.alloc (.cells #[.int .i64 (bc), .slice NY xc.length xc.length, .slice FY yc.length yc.length] 28)).heap.size (w5.alloc (.cells #[.int .i64 (bc), .slice NY xc.length xc.length, .slice FY yc.length yc.length] 28)) w6 := hb
  have T10 := b_step T9 hb10
  have sz10 := hb10.size
  have RNa_10 := RNa_9.below (hb10.mono (by omega))
  have RFa_10 := RFa_9.below (hb10.mono (by omega))
  have RNc_10 := RNc_9.below (hb10.mono (by omega))
  have RFc_10 := RFc_9.below (hb10.mono (by omega))
  have Za_10 := Za_9.below hb10 Za_9.lt
  have Zc_10 := Zc_9.below hb10 Zc_9.lt
  have XN_10 := XN_9.keep hb10
  have XF_10 := XF_9.keep hb10
  have BX_10 := BX_9.below hb10 BX_9.lt
  have YN_10 := YN_9.keep hb10
  have YF_10 := YF_9.keep hb10
  have BY_10 := BY_9.below hb10 BY_9.lt
  clear hb10 T9 RNa_9 RFa_9 RNc_9 RFc_9 Za_9 Zc_9 XN_9 XF_9 BX_9 YN_9 YF_9 BY_9
  clear hb
  obtain ⟨q, hq⟩ : ∃ q, q = slV ba bc xa xc ya yc := ⟨_, rfl⟩
  rw [← hq]
  clear hq
  have c00 := BX_10.cell0
  have c01 := BX_10.cell1
  have c02 := BX_10.cell2
  have lt0 := BX_10.lt
  have c10 := Za_10.cell0
  have c11 := Za_10.cell1
  have c12 := Za_10.cell2
  have lt1 := Za_10.lt
  have HRNa := Lib.hid RNa_10
  have HRFa := Lib.hid RFa_10
  have HRNc := Lib.hid RNc_10
  have HRFc := Lib.hid RFc_10
  have HZa := Lib.hid Za_10
  have HZc := Lib.hid Zc_10
  have HXN := Lib.hid XN_10
  have HXF := Lib.hid XF_10
  have HBX := Lib.hid BX_10
  have HYN := Lib.hid YN_10
  have HYF := Lib.hid YF_10
  have HBY := Lib.hid BY_10
  have HT := Lib.hid T10
  clear T10 RNa_10 RFa_10 RNc_10 RFc_10 Za_10 Zc_10 XN_10 XF_10 BX_10 YN_10 YF_10 BY_10
  go_upto_region 14 with fail
  go_cut [39] (fun s wx => s = .bool false ∧ Below w6.heap.size w6 wx)
  case first =>
    go_region_held3 (fun w' => w'.cell? ⟨w4.heap.size, 0, none⟩ = some (.int .i64 ba) ∧ w'.cell? ⟨w4.heap.size, 1, none⟩ = some (.slice NX xa.length xa.length) ∧ w'.cell? ⟨w4.heap.size, 2, none⟩ = some (.slice FX ya.length ya.length) ∧ w'.cell? ⟨w.heap.size, 0, none⟩ = some (.int .i64 ba) ∧ w'.cell? ⟨w.heap.size, 1, none⟩ = some (.slice Na xa.length ca) ∧ w'.cell? ⟨w.heap.size, 2, none⟩ = some (.slice Fa ya.length da)) (simp [go_sem, *]) (first | (go_at_call 7; refine (toMachine_m ba Na Fa xa ya ca da _ ?_ ?_ (by omega) (by omega)).mono ?_; (first | exact HRNa.out.more (by omega) | exact (HRNa.out.below (below_drewN (Below.refl _ _) _)).more (by simp; omega) | exact (HRNa.out.below (Below.refl _ _).drew).more (by simp; omega)); (first | exact HRFa.out.more (by omega) | exact (HRFa.out.below (below_drewN (Below.refl _ _) _)).more (by simp; omega) | exact (HRFa.out.below (Below.refl _ _).drew).more (by simp; omega)); rintro e w1' ⟨N1', F1', rfl, hO1, hP1, hb1⟩; obtain ⟨hc1, hf1, _⟩ := bcell hb1; have hc2 : ∀ b o, b < w6.heap.size → w1'.cell? ⟨b, o, none⟩ = w6.cell? ⟨b, o, none⟩ := (fun b o h => hc1 b o h); clear hc1 hf1; have RX1 := (by first | exact Lib.hid (HXN.out.keep hb1).reads | exact Lib.hid ((HXN.out.keep (Below.refl _ _).drew).keep hb1).reads | exact Lib.hid ((HXN.out.keep (below_drewN (Below.refl _ _) _)).keep hb1).reads); have RX2 := (by first | exact Lib.hid (HXF.out.keep hb1).reads | exact Lib.hid ((HXF.out.keep (Below.refl _ _).drew).keep hb1).reads | exact Lib.hid ((HXF.out.keep (below_drewN (Below.refl _ _) _)).keep hb1).reads); have RY1 := Lib.hid hO1.reads; have RY2 := Lib.hid hP1.reads; have HB1 := Lib.hid hb1; clear hO1 hP1 hb1) | (go_at_call 9; refine (eqMachine_same ba _ _ xa ya _ _ _ _ _ _ _ RX1.out RY1.out RX2.out RY2.out (by omega) (by omega)).mono ?_; rintro e w2' ⟨rfl, hb2⟩; have hc3 : ∀ b o, b < w6.heap.size → w2'.cell? ⟨b, o, none⟩ = w1'.cell? ⟨b, o, none⟩ := (fun b o h => (bcell hb2).1 b o (Nat.lt_of_lt_of_le h HB1.out.size)); have HB2 := Lib.hid hb2; clear hb2))
    all_goals (go_wp2_with fail; go_meet)
    all_goals refine ⟨rfl, ?_⟩
    all_goals (repeat (first | exact Below.refl _ _ | refine b_drew ?_ | refine b_drewN ?_ _ | refine b_step ?_ HB2.out | refine b_step ?_ HB1.out))
  case rest =>
  obtain ⟨rfl, hb⟩ := hcut
  have RNa_10 := HRNa.out
  have RFa_10 := HRFa.out
  have RNc_10 := HRNc.out
  have RFc_10 := HRFc.out
  have Za_10 := HZa.out
  have Zc_10 := HZc.out
  have XN_10 := HXN.out
  have XF_10 := HXF.out
  have BX_10 := HBX.out
  have YN_10 := HYN.out
  have YF_10 := HYF.out
  have BY_10 := HBY.out
  have T10 := HT.out
  clear HT c00 c01 c02 c10 c11 c12 lt0 lt1 HRNa HRFa HRNc HRFc HZa HZc HXN HXF HBX HYN HYF HBY
  rename World => wx7
  have hb11 : Below w6.heap.size w6 wx7 := hb
  have T11 := b_step T10 hb11
  have sz11 := hb11.size
  have RNa_11 := RNa_10.below (hb11.mono (by omega))
  have RFa_11 := RFa_10.below (hb11.mono (by omega))
  have RNc_11 := RNc_10.below (hb11.mono (by omega))
  have RFc_11 := RFc_10.below (hb11.mono (by omega))
  have Za_11 := Za_10.below hb11 Za_10.lt
  have Zc_11 := Zc_10.below hb11 Zc_10.lt
  have XN_11 := XN_10.keep hb11
  have XF_11 := XF_10.keep hb11
  have BX_11 := BX_10.below hb11 BX_10.lt
  have YN_11 := YN_10.keep hb11
  have YF_11 := YF_10.keep hb11
  have BY_11 := BY_10.below hb11 BY_10.lt
  clear hb11 T10 RNa_10 RFa_10 RNc_10 RFc_10 Za_10 Zc_10 XN_10 XF_10 BX_10 YN_10 YF_10 BY_10
  clear hb
  have c00 := BY_11.cell0
  have c01 := BY_11.cell1
  have c02 := BY_11.cell2
  have lt0 := BY_11.lt
  have c10 := Zc_11.cell0
  have c11 := Zc_11.cell1
  have c12 := Zc_11.cell2
  have lt1 := Zc_11.lt
  have HRNa := Lib.hid RNa_11
  have HRFa := Lib.hid RFa_11
  have HRNc := Lib.hid RNc_11
  have HRFc := Lib.hid RFc_11
  have HZa := Lib.hid Za_11
  have HZc := Lib.hid Zc_11
  have HXN := Lib.hid XN_11
  have HXF := Lib.hid XF_11
  have HBX := Lib.hid BX_11
  have HYN := Lib.hid YN_11
  have HYF := Lib.hid YF_11
  have HBY := Lib.hid BY_11
  have HT := Lib.hid T11
  clear T11 RNa_11 RFa_11 RNc_11 RFc_11 Za_11 Zc_11 XN_11 XF_11 BX_11 YN_11 YF_11 BY_11
  go_upto_region 16 with fail
  go_cut [44] (fun s wx => s = .bool false ∧ Below wx7.heap.size wx7 wx)
  case first =>
    go_region_held3 (fun w' => w'.cell? ⟨w5.heap.size, 0, none⟩ = some (.int .i64 bc) ∧ w'.cell? ⟨w5.heap.size, 1, none⟩ = some (.slice NY xc.length xc.length) ∧ w'.cell? ⟨w5.heap.size, 2, none⟩ = some (.slice FY yc.length yc.length) ∧ w'.cell? ⟨(w.heap.size + 1), 0, none⟩ = some (.int .i64 bc) ∧ w'.cell? ⟨(w.heap.size + 1), 1, none⟩ = some (.slice Nc xc.length cc) ∧ w'.cell? ⟨(w.heap.size + 1), 2, none⟩ = some (.slice Fc yc.length dc)) (simp [go_sem, *]) (first | (go_at_call 7; refine (toMachine_m bc Nc Fc xc yc cc dc _ ?_ ?_ (by omega) (by omega)).mono ?_; (first | exact HRNc.out.more (by omega) | exact (HRNc.out.below (below_drewN (Below.refl _ _) _)).more (by simp; omega) | exact (HRNc.out.below (Below.refl _ _).drew).more (by simp; omega)); (first | exact HRFc.out.more (by omega) | exact (HRFc.out.below (below_drewN (Below.refl _ _) _)).more (by simp; omega) | exact (HRFc.out.below (Below.refl _ _).drew).more (by simp; omega)); rintro e w1' ⟨N1', F1', rfl, hO1, hP1, hb1⟩; obtain ⟨hc1, hf1, _⟩ := bcell hb1; have hc2 : ∀ b o, b < wx7.heap.size → w1'.cell? ⟨b, o, none⟩ = wx7.cell? ⟨b, o, none⟩ := (fun b o h => hc1 b o h); clear hc1 hf1; have RX1 := (by first | exact Lib.hid (HYN.out.keep hb1).reads | exact Lib.hid ((HYN.out.keep (Below.refl _ _).drew).keep hb1).reads | exact Lib.hid ((HYN.out.keep (below_drewN (Below.refl _ _) _)).keep hb1).reads); have RX2 := (by first | exact Lib.hid (HYF.out.keep hb1).reads | exact Lib.hid ((HYF.out.keep (Below.refl _ _).drew).keep hb1).reads | exact Lib.hid ((HYF.out.keep (below_drewN (Below.refl _ _) _)).keep hb1).reads); have RY1 := Lib.hid hO1.reads; have RY2 := Lib.hid hP1.reads; have HB1 := Lib.hid hb1; clear hO1 hP1 hb1) | (go_at_call 9; refine (eqMachine_same bc _ _ xc yc _ _ _ _ _ _ _ RX1.out RY1.out RX2.out RY2.out (by omega) (by omega)).mono ?_; rintro e w2' ⟨rfl, hb2⟩; have hc3 : ∀ b o, b < wx7.heap.size → w2'.cell? ⟨b, o, none⟩ = w1'.cell? ⟨b, o, none⟩ := (fun b o h => (bcell hb2).1 b o (Nat.lt_of_lt_of_le h HB1.out.size)); have HB2 := Lib.hid hb2; clear hb2))
    all_goals (go_wp2_with fail; go_meet)
    all_goals refine ⟨rfl, ?_⟩
    all_goals (repeat (first | exact Below.refl _ _ | refine b_drew ?_ | refine b_drewN ?_ _ | refine b_step ?_ HB2.out | refine b_step ?_ HB1.out))
  case rest =>
  obtain ⟨rfl, hb⟩ := hcut
  have RNa_11 := HRNa.out
  have RFa_11 := HRFa.out
  have RNc_11 := HRNc.out
  have RFc_11 := HRFc.out
  have Za_11 := HZa.out
  have Zc_11 := HZc.out
  have XN_11 := HXN.out
  have XF_11 := HXF.out
  have BX_11 := HBX.out
  have YN_11 := HYN.out
  have YF_11 := HYF.out
  have BY_11 := HBY.out
  have T11 := HT.out
  clear HT c00 c01 c02 c10 c11 c12 lt0 lt1 HRNa HRFa HRNc HRFc HZa HZc HXN HXF HBX HYN HYF HBY
  rename World => wx8
  have hb12 : Below wx7.heap.size wx7 wx8 := hb
  have T12 := b_step T11 hb12
  have sz12 := hb12.size
  have RNa_12 := RNa_11.below (hb12.mono (by omega))
  have RFa_12 := RFa_11.below (hb12.mono (by omega))
  have RNc_12 := RNc_11.below (hb12.mono (by omega))
  have RFc_12 := RFc_11.below (hb12.mono (by omega))
  have Za_12 := Za_11.below hb12 Za_11.lt
  have Zc_12 := Zc_11.below hb12 Zc_11.lt
  have XN_12 := XN_11.keep hb12
  have XF_12 := XF_11.keep hb12
  have BX_12 := BX_11.below hb12 BX_11.lt
  have YN_12 := YN_11.keep hb12
  have YF_12 := YF_11.keep hb12
  have BY_12 := BY_11.below hb12 BY_11.lt
  clear hb12 T11 RNa_11 RFa_11 RNc_11 RFc_11 Za_11 Zc_11 XN_11 XF_11 BX_11 YN_11 YF_11 BY_11
  clear hb
  go_wp2
  go_ret
  exact ⟨rfl, T12⟩

set_option maxHeartbeats 1000000 in
theorem walk_FnExactSameLists (w : World) (ba : Int) (_ : (Lit.int .i64 ba).wf = true) (Na : Option Addr) (xa : List Int) (ca : Nat) (RNa : RI w w.heap.size Na xa) (_ : ∀ n ∈ xa, (Lit.int .i64 n).wf = true) (hxa : xa.length ≤ 9223372036854775807) (Fa : Option Addr) (ya : List Bool) (da : Nat) (RFa : RB w w.heap.size Fa ya) (hya : ya.length ≤ 9223372036854775807) (bc : Int) (_ : (Lit.int .i64 bc).wf = true) (Nc : Option Addr) (xc : List Int) (cc : Nat) (RNc : RI w w.heap.size Nc xc) (_ : ∀ n ∈ xc, (Lit.int .i64 n).wf = true) (hxc : xc.length ≤ 9223372036854775807) (Fc : Option Addr) (yc : List Bool) (dc : Nat) (RFc : RB w w.heap.size Fc yc) (hyc : yc.length ≤ 9223372036854775807) (hT : Lib.TabBelow Tryd.prog w.heap.size w "internal/strconv.uint64pow10" .u64 Lib.pow10Tab) :
    Calls Tryd.prog 3 #[.agg #[.int .i64 ba, .slice Na xa.length ca, .slice Fa ya.length da], .agg #[.int .i64 bc, .slice Nc xc.length cc, .slice Fc yc.length dc]] w fun e w' => e = .returned (.bool true) ∧ Below w.heap.size w w' := by
  by_cases hla : xa.length + ya.length ≤ 1048576
  · skip
    by_cases hlc : xa.length + ya.length + xc.length + yc.length ≤ 1048576
    · skip
      exact walk_sl w ba Na xa ca Fa ya da bc Nc xc cc Fc yc dc RNa RFa RNc RFc hlc hT
    · go_enter Tryd.func3, Tryd.ntmps3
      go_wp2_with (first | (go_at_call 5; with_reducible refine (szMachine_y ba Na Fa xa.length ya.length _ _ (1048576) _ (by omega) (by omega)).mono ?_; rintro e wa ⟨rfl, hba⟩; obtain ⟨hca, _, _⟩ := bcell hba; have HBa := Lib.hid hba; clear hba) | (go_at_call 5; with_reducible refine (szMachine_n bc Nc Fc xc.length yc.length _ _ ((1048576 - xa.length - ya.length)) _ (by omega) (by omega) (by omega) (by omega) (by omega)).mono ?_; rintro e wc ⟨rfl, hbc⟩; obtain ⟨hcc, _, _⟩ := bcell hbc; have HBc := Lib.hid hbc; clear hbc))
      go_ret
      refine ⟨rfl, ?_⟩
      repeat (first | exact Below.refl _ _ | refine b_alloc ?_ _ | refine b_step ?_ HBc.out | refine b_step ?_ HBa.out)
  · go_enter Tryd.func3, Tryd.ntmps3
    go_wp2_with (first | (go_at_call 5; with_reducible refine (szMachine_n ba Na Fa xa.length ya.length _ _ (1048576) _ (by omega) (by omega) (by omega) (by omega) (by omega)).mono ?_; rintro e wa ⟨rfl, hba⟩; obtain ⟨hca, _, _⟩ := bcell hba; have HBa := Lib.hid hba; clear hba))
    go_ret
    refine ⟨rfl, ?_⟩
    repeat (first | exact Below.refl _ _ | refine b_alloc ?_ _ | refine b_step ?_ HBa.out)
end Go.Proofs.YtoihjapbidbpdaaDoor
