/- The walk of the law FnExactJoinMachines over the contracts. Conditions: none. -/
import Derived.Test.YtoihjapbidbpdaaUpTo
import Derived.Deep.RegionHeld3
import Derived.Deep.DeepCutAuto
namespace Go.Proofs.Ytoihjapbidbpdaa
open Go.RowKit
set_option linter.unusedVariables false
set_option maxRecDepth 100000 in
set_option maxHeartbeats 60000000 in
theorem walk_join (w : World) (ba : Int) (Na : Option Addr) (xa : List Int) (ca : Nat) (Fa : Option Addr) (ya : List Bool) (da : Nat) (bc : Int) (Nc : Option Addr) (xc : List Int) (cc : Nat) (Fc : Option Addr) (yc : List Bool) (dc : Nat) (q : Bool) (RNa : RI w w.heap.size Na xa) (RFa : RB w w.heap.size Fa ya) (RNc : RI w w.heap.size Nc xc) (RFc : RB w w.heap.size Fc yc) (hlen : xa.length + ya.length + xc.length + yc.length ≤ 1048576)  :
    Calls Try.prog 7 #[.agg #[.int .i64 ba, .slice Na xa.length ca, .slice Fa ya.length da], .agg #[.int .i64 bc, .slice Nc xc.length cc, .slice Fc yc.length dc], .bool q] w fun e w' => e = .returned (.bool true) ∧ Below w.heap.size w w' := by
  obtain ⟨hlX, hlY⟩ : (jX ba bc xa xc ya.length yc.length).length ≤ 2000 ∧ (jY ba bc xa xc ya yc q).length ≤ 2000 := j_len ba bc xa xc ya yc q
  have T0 : Below w.heap.size w w := Below.refl _ _
  have sz0 : w.heap.size ≤ w.heap.size := Nat.le_refl _
  have RNa_0 := RNa
  have RFa_0 := RFa
  clear RNa RFa
  have RNc_0 := RNc
  have RFc_0 := RFc
  clear RNc RFc
  go_enter Try.func7, Try.ntmps7
  have hb1 : Below w.heap.size w (w.alloc (.cells #[.int .i64 (ba), .slice Na xa.length ca, .slice Fa ya.length da] 31)) := b_alloc (Below.refl _ _) _
  have T1 := b_step T0 hb1
  have sz1 := hb1.size
  have RNa_1 := RNa_0.below (hb1.mono (by omega))
  have RFa_1 := RFa_0.below (hb1.mono (by omega))
  have RNc_1 := RNc_0.below (hb1.mono (by omega))
  have RFc_1 := RFc_0.below (hb1.mono (by omega))
  clear hb1 T0 RNa_0 RFa_0 RNc_0 RFc_0
  have sz1' : w.heap.size < (w.alloc (.cells #[.int .i64 (ba), .slice Na xa.length ca, .slice Fa ya.length da] 31)).heap.size := by simp
  have Za_1 := BLM.new w (ba) (.slice Na xa.length ca) (.slice Fa ya.length da)
  have hb2 : Below (w.alloc (.cells #[.int .i64 (ba), .slice Na xa.length ca, .slice Fa ya.length da] 31)).heap.size (w.alloc (.cells #[.int .i64 (ba), .slice Na xa.length ca, .slice Fa ya.length da] 31)) ((w.alloc (.cells #[.int .i64 (ba), .slice Na xa.length ca, .slice Fa ya.length da] 31)).alloc (.cells #[.int .i64 (bc), .slice Nc xc.length cc, .slice Fc yc.length dc] 31)) := b_alloc (Below.refl _ _) _
  have T2 := b_step T1 hb2
  have sz2 := hb2.size
  have RNa_2 := RNa_1.below (hb2.mono (by omega))
  have RFa_2 := RFa_1.below (hb2.mono (by omega))
  have RNc_2 := RNc_1.below (hb2.mono (by omega))
  have RFc_2 := RFc_1.below (hb2.mono (by omega))
  have Za_2 := Za_1.below hb2 Za_1.lt
  clear hb2 T1 RNa_1 RFa_1 RNc_1 RFc_1 Za_1
  have sz2' : (w.alloc (.cells #[.int .i64 (ba), .slice Na xa.length ca, .slice Fa ya.length da] 31)).heap.size < ((w.alloc (.cells #[.int .i64 (ba), .slice Na xa.length ca, .slice Fa ya.length da] 31)).alloc (.cells #[.int .i64 (bc), .slice Nc xc.length cc, .slice Fc yc.length dc] 31)).heap.size := by simp
  have Zc_2 := BLM.new (w.alloc (.cells #[.int .i64 (ba), .slice Na xa.length ca, .slice Fa ya.length da] 31)) (bc) (.slice Nc xc.length cc) (.slice Fc yc.length dc)
  simp only [World.size_alloc] at Zc_2
  have c00 := Za_2.cell0
  have c01 := Za_2.cell1
  have c02 := Za_2.cell2
  have HZa := Lib.hid Za_2
  clear Za_2
  go_wp2_with fail
  have Za_2 := HZa.out
  clear HZa c00 c01 c02
  refine (szMachine_y ba Na Fa xa.length ya.length ca da (1048576) _ (by omega) (by omega)).mono ?_
  rintro e w1 ⟨rfl, hb⟩
  have hb3 : Below ((w.alloc (.cells #[.int .i64 (ba), .slice Na xa.length ca, .slice Fa ya.length da] 31)).alloc (.cells #[.int .i64 (bc), .slice Nc xc.length cc, .slice Fc yc.length dc] 31)).heap.size ((w.alloc (.cells #[.int .i64 (ba), .slice Na xa.length ca, .slice Fa ya.length da] 31)).alloc (.cells #[.int .i64 (bc), .slice Nc xc.length cc, .slice Fc yc.length dc] 31)) w1 := hb
  have T3 := b_step T2 hb3
  have sz3 := hb3.size
  have RNa_3 := RNa_2.below (hb3.mono (by omega))
  have RFa_3 := RFa_2.below (hb3.mono (by omega))
  have RNc_3 := RNc_2.below (hb3.mono (by omega))
  have RFc_3 := RFc_2.below (hb3.mono (by omega))
  have Za_3 := Za_2.below hb3 Za_2.lt
  have Zc_3 := Zc_2.below hb3 Zc_2.lt
  clear hb3 T2 RNa_2 RFa_2 RNc_2 RFc_2 Za_2 Zc_2
  clear hb
  have c00 := Zc_3.cell0
  have c01 := Zc_3.cell1
  have c02 := Zc_3.cell2
  have HZc := Lib.hid Zc_3
  clear Zc_3
  go_wp2_with fail
  have Zc_3 := HZc.out
  clear HZc c00 c01 c02
  refine (szMachine_y bc Nc Fc xc.length yc.length cc dc (1048576 - xa.length - ya.length) _ (by omega) (by omega)).mono ?_
  rintro e w2 ⟨rfl, hb⟩
  have hb4 : Below w1.heap.size w1 w2 := hb
  have T4 := b_step T3 hb4
  have sz4 := hb4.size
  have RNa_4 := RNa_3.below (hb4.mono (by omega))
  have RFa_4 := RFa_3.below (hb4.mono (by omega))
  have RNc_4 := RNc_3.below (hb4.mono (by omega))
  have RFc_4 := RFc_3.below (hb4.mono (by omega))
  have Za_4 := Za_3.below hb4 Za_3.lt
  have Zc_4 := Zc_3.below hb4 Zc_3.lt
  clear hb4 T3 RNa_3 RFa_3 RNc_3 RFc_3 Za_3 Zc_3
  clear hb
  have c00 := Za_4.cell0
  have c01 := Za_4.cell1
  have c02 := Za_4.cell2
  have lt0 := Za_4.lt
  have c10 := Zc_4.cell0
  have c11 := Zc_4.cell1
  have c12 := Zc_4.cell2
  have lt1 := Zc_4.lt
  have HRNa := Lib.hid RNa_4
  have HRFa := Lib.hid RFa_4
  have HRNc := Lib.hid RNc_4
  have HRFc := Lib.hid RFc_4
  have HZa := Lib.hid Za_4
  have HZc := Lib.hid Zc_4
  have HT := Lib.hid T4
  clear T4 RNa_4 RFa_4 RNc_4 RFc_4 Za_4 Zc_4
  go_upto_region 8 with fail
  go_cut [8, 9] (fun sp sb wx => ∃ (g : Nat) (N F : Option Addr) (c d : Nat), sp = .pointer (some ⟨g, 0, none⟩) ∧ sb = .bool (jQ ba bc xa xc ya.length yc.length) ∧ BM wx g (jB ba bc xa xc ya.length yc.length) (.slice N (jX ba bc xa xc ya.length yc.length).length c) (.slice F (jY ba bc xa xc ya yc q).length d) ∧ OI wx w2.heap.size N (jX ba bc xa xc ya.length yc.length) ∧ OB wx w2.heap.size F (jY ba bc xa xc ya yc q) ∧ w2.heap.size ≤ g ∧ Below w2.heap.size w2 wx)
  case first =>
    go_region_held3 (fun w' => w'.cell? ⟨w.heap.size, 0, none⟩ = some (.int .i64 ba) ∧ w'.cell? ⟨w.heap.size, 1, none⟩ = some (.slice Na xa.length ca) ∧ w'.cell? ⟨w.heap.size, 2, none⟩ = some (.slice Fa ya.length da) ∧ w'.cell? ⟨(w.heap.size + 1), 0, none⟩ = some (.int .i64 bc) ∧ w'.cell? ⟨(w.heap.size + 1), 1, none⟩ = some (.slice Nc xc.length cc) ∧ w'.cell? ⟨(w.heap.size + 1), 2, none⟩ = some (.slice Fc yc.length dc)) (first | (simp [go_sem, World.cell?_alloc_past, c00, c01, c02, c10, c11, c12, lt0, lt1]; done) | (simp [go_sem, c00, c01, c02, c10, c11, c12, World.cell?_alloc_past, lt0, lt1, lJ0, lJ1, hcJ]; done) | (simp [go_sem, c00, c01, c02, c10, c11, c12, World.cell?_alloc_past, lt0, lt1, lC0, lC1, hcC]; done) | (simp [go_sem, c00, c01, c02, c10, c11, c12, World.cell?_alloc_past, lt0, lt1, lA0, lA1, hcA]; done)) (first | (go_at_call 15; with_reducible refine (toMachine_m ba Na Fa xa ya ca da _ ?_ ?_ (by omega) (by omega)).mono ?_; exact HRNa.out.upTo (by repeat (first | exact Below.refl _ _ | refine b_alloc ?_ _ | refine b_drew ?_)) (by omega); exact HRFa.out.upTo (by repeat (first | exact Below.refl _ _ | refine b_alloc ?_ _ | refine b_drew ?_)) (by omega); rintro e wA ⟨NA', FA', rfl, hO, hP, hb⟩; have HBA : Hid (Below w2.heap.size w2 wA) := Lib.hid (b_step (by repeat (first | exact Below.refl _ _ | refine b_alloc ?_ _ | refine b_drew ?_)) hb); have hzA := hb.size; (try simp at hzA); obtain ⟨hxA, hfA, _⟩ := bcell hb; have HbA := Lib.hid hb; have HOA := Lib.hid hO; have HPA := Lib.hid hP; have hcA : ∀ b o, b < w2.heap.size → wA.cell? ⟨b, o, none⟩ = w2.cell? ⟨b, o, none⟩ := (fun b o h => HBA.out.cell (p := ⟨b, o, none⟩) h); have lA0 := Nat.lt_of_lt_of_le lt0 HBA.out.size; have lA1 := Nat.lt_of_lt_of_le lt1 HBA.out.size; (try (refine cutT (T := w2.heap.size < wA.heap.size) ?_ ?_; omega; intro yw2wA)); clear hO hP hb) | (go_at_call 15; with_reducible refine (toMachine_m bc Nc Fc xc yc cc dc _ ?_ ?_ (by omega) (by omega)).mono ?_; exact HRNc.out.upTo (by repeat (first | exact Below.refl _ _ | exact HBA.out | refine b_alloc ?_ _ | refine b_drew ?_)) (by omega); exact HRFc.out.upTo (by repeat (first | exact Below.refl _ _ | exact HBA.out | refine b_alloc ?_ _ | refine b_drew ?_)) (by omega); rintro e wC ⟨NC', FC', rfl, hO, hP, hb⟩; have HBC : Hid (Below w2.heap.size w2 wC) := Lib.hid (b_step (by repeat (first | exact Below.refl _ _ | exact HBA.out | refine b_alloc ?_ _ | refine b_drew ?_)) hb); have HAC : Hid (Below wA.heap.size wA wC) := Lib.hid (b_step (by repeat (first | exact Below.refl _ _ | refine b_alloc ?_ _ | refine b_drew ?_)) hb); have hzC := hb.size; (try simp at hzC); obtain ⟨hxC, hfC, _⟩ := bcell hb; have HbC := Lib.hid hb; have HOC := Lib.hid hO; have HPC := Lib.hid hP; have hcC : ∀ b o, b < w2.heap.size → wC.cell? ⟨b, o, none⟩ = w2.cell? ⟨b, o, none⟩ := (fun b o h => HBC.out.cell (p := ⟨b, o, none⟩) h); have lC0 := Nat.lt_of_lt_of_le lt0 HBC.out.size; have lC1 := Nat.lt_of_lt_of_le lt1 HBC.out.size; (try (refine cutT (T := w2.heap.size < wC.heap.size) ?_ ?_; omega; intro yw2wC)); (try (refine cutT (T := wA.heap.size < wC.heap.size) ?_ ?_; omega; intro ywAwC)); clear hO hP hb) | (go_at_call 21; with_reducible refine (spec_join ba bc NA' FA' NC' FC' xa xc ya yc _ _ _ _ q _ ?_ ?_ ?_ ?_ (by omega) (by omega) (by omega) (by omega)).mono ?_; exact HOA.out.reads.upTo (by repeat (first | exact Below.refl _ _ | exact HAC.out | refine b_alloc ?_ _ | refine b_drew ?_)) (Nat.le_refl _); exact HPA.out.reads.upTo (by repeat (first | exact Below.refl _ _ | exact HAC.out | refine b_alloc ?_ _ | refine b_drew ?_)) (Nat.le_refl _); exact HOC.out.reads.upTo (by repeat (first | exact Below.refl _ _ | refine b_alloc ?_ _ | refine b_drew ?_)) (Nat.le_refl _); exact HPC.out.reads.upTo (by repeat (first | exact Below.refl _ _ | refine b_alloc ?_ _ | refine b_drew ?_)) (Nat.le_refl _); intro e wJ hret; unfold RetM at hret; obtain ⟨NW, FW, cW, dW, rfl, hO, hP, hb⟩ := hret; have HBJ : Hid (Below w2.heap.size w2 wJ) := Lib.hid (b_step (by repeat (first | exact Below.refl _ _ | exact HBC.out | refine b_alloc ?_ _ | refine b_drew ?_)) hb); have hzJ := hb.size; (try simp at hzJ); obtain ⟨hxJ, hfJ, _⟩ := bcell hb; have HbJ := Lib.hid hb; have HOJ : Hid (OI wJ w2.heap.size NW (jX ba bc xa xc ya.length yc.length)) := Lib.hid (hO.lowB (by repeat (first | exact Below.refl _ _ | exact HBC.out | refine b_alloc ?_ _ | refine b_drew ?_))); have HPJ : Hid (OB wJ w2.heap.size FW (jY ba bc xa xc ya yc q)) := Lib.hid (hP.lowB (by repeat (first | exact Below.refl _ _ | exact HBC.out | refine b_alloc ?_ _ | refine b_drew ?_))); have hcJ : ∀ b o, b < w2.heap.size → wJ.cell? ⟨b, o, none⟩ = w2.cell? ⟨b, o, none⟩ := (fun b o h => HBJ.out.cell (p := ⟨b, o, none⟩) h); have lJ0 := Nat.lt_of_lt_of_le lt0 HBJ.out.size; have lJ1 := Nat.lt_of_lt_of_le lt1 HBJ.out.size; (try (refine cutT (T := w2.heap.size < wJ.heap.size) ?_ ?_; omega; intro yw2wJ)); (try (refine cutT (T := wA.heap.size < wJ.heap.size) ?_ ?_; omega; intro ywAwJ)); (try (refine cutT (T := wC.heap.size < wJ.heap.size) ?_ ?_; omega; intro ywCwJ)); clear hO hP hb))
    all_goals (go_wp2_with fail; go_meet)
    all_goals first
      | exact ⟨_, NW, FW, cW, dW, rfl, rfl, BM.new _ _ _ _, HOJ.out.keep (b_alloc (Below.refl _ _) _), HPJ.out.keep (b_alloc (Below.refl _ _) _), HBJ.out.size, b_alloc HBJ.out _⟩
      | exact ⟨_, NW, FW, cW, dW, rfl, rfl, (set3 ((BM.new wC 0 (.slice none 0 0) (.slice none 0 0)).below HbJ.out (by first | (simp; done) | omega | (simp; omega))) _ _ _).1, (set3 ((BM.new wC 0 (.slice none 0 0) (.slice none 0 0)).below HbJ.out (by first | (simp; done) | omega | (simp; omega))) _ _ _).2.1 _ _ _ HOJ.out, (set3 ((BM.new wC 0 (.slice none 0 0) (.slice none 0 0)).below HbJ.out (by first | (simp; done) | omega | (simp; omega))) _ _ _).2.2 _ _ _ HPJ.out, (by first | (simp; done) | omega | (simp; omega)), b_set3 HBJ.out (by first | (simp; done) | omega | (simp; omega))⟩
      | exact ⟨_, NW, FW, cW, dW, rfl, rfl, (set3 (((BM.new wA 0 (.slice none 0 0) (.slice none 0 0)).below HbC.out (by first | (simp; done) | omega | (simp; omega))).below HbJ.out (by first | (simp; done) | omega | (simp; omega))) _ _ _).1, (set3 (((BM.new wA 0 (.slice none 0 0) (.slice none 0 0)).below HbC.out (by first | (simp; done) | omega | (simp; omega))).below HbJ.out (by first | (simp; done) | omega | (simp; omega))) _ _ _).2.1 _ _ _ HOJ.out, (set3 (((BM.new wA 0 (.slice none 0 0) (.slice none 0 0)).below HbC.out (by first | (simp; done) | omega | (simp; omega))).below HbJ.out (by first | (simp; done) | omega | (simp; omega))) _ _ _).2.2 _ _ _ HPJ.out, (by first | (simp; done) | omega | (simp; omega)), b_set3 HBJ.out (by first | (simp; done) | omega | (simp; omega))⟩
      | exact ⟨_, NW, FW, cW, dW, rfl, rfl, (set3 ((((BM.newd w2 0 (.slice none 0 0) (.slice none 0 0)).below HbA.out (by first | (simp; done) | omega | (simp; omega))).below HbC.out (by first | (simp; done) | omega | (simp; omega))).below HbJ.out (by first | (simp; done) | omega | (simp; omega))) _ _ _).1, (set3 ((((BM.newd w2 0 (.slice none 0 0) (.slice none 0 0)).below HbA.out (by first | (simp; done) | omega | (simp; omega))).below HbC.out (by first | (simp; done) | omega | (simp; omega))).below HbJ.out (by first | (simp; done) | omega | (simp; omega))) _ _ _).2.1 _ _ _ HOJ.out, (set3 ((((BM.newd w2 0 (.slice none 0 0) (.slice none 0 0)).below HbA.out (by first | (simp; done) | omega | (simp; omega))).below HbC.out (by first | (simp; done) | omega | (simp; omega))).below HbJ.out (by first | (simp; done) | omega | (simp; omega))) _ _ _).2.2 _ _ _ HPJ.out, (by first | (simp; done) | omega | (simp; omega)), b_set3 HBJ.out (by first | (simp; done) | omega | (simp; omega))⟩
  case rest =>
  obtain ⟨gW, NW, FW, cW, dW, rfl, rfl, hM, hO, hP, hge, hb⟩ := hcut
  have RNa_4 := HRNa.out
  have RFa_4 := HRFa.out
  have RNc_4 := HRNc.out
  have RFc_4 := HRFc.out
  have Za_4 := HZa.out
  have Zc_4 := HZc.out
  have T4 := HT.out
  clear HT c00 c01 c02 c10 c11 c12 lt0 lt1 HRNa HRFa HRNc HRFc HZa HZc
  rename World => wx3
  have hb5 : Below w2.heap.size w2 wx3 := hb
  have T5 := b_step T4 hb5
  have sz5 := hb5.size
  have RNa_5 := RNa_4.below (hb5.mono (by omega))
  have RFa_5 := RFa_4.below (hb5.mono (by omega))
  have RNc_5 := RNc_4.below (hb5.mono (by omega))
  have RFc_5 := RFc_4.below (hb5.mono (by omega))
  have Za_5 := Za_4.below hb5 Za_4.lt
  have Zc_5 := Zc_4.below hb5 Zc_4.lt
  clear hb5 T4 RNa_4 RFa_4 RNc_4 RFc_4 Za_4 Zc_4
  clear hb
  have WN_5 := hO.reads
  have WF_5 := hP.reads
  have BW_5 := hM
  clear hO hP hM
  have c00 := Za_5.cell0
  have c01 := Za_5.cell1
  have c02 := Za_5.cell2
  have HZa := Lib.hid Za_5
  clear Za_5
  go_wp2_with fail
  have Za_5 := HZa.out
  clear HZa c00 c01 c02
  refine (toMachine_m ba Na Fa xa ya ca da _ (RNa_5.more (by omega)) (RFa_5.more (by omega)) (by omega) (by omega)).mono ?_
  rintro e w4 ⟨NX, FX, rfl, hO, hP, hb⟩
  have hb6 : Below wx3.heap.size wx3 w4 := hb
  have T6 := b_step T5 hb6
  have sz6 := hb6.size
  have RNa_6 := RNa_5.below (hb6.mono (by omega))
  have RFa_6 := RFa_5.below (hb6.mono (by omega))
  have RNc_6 := RNc_5.below (hb6.mono (by omega))
  have RFc_6 := RFc_5.below (hb6.mono (by omega))
  have Za_6 := Za_5.below hb6 Za_5.lt
  have Zc_6 := Zc_5.below hb6 Zc_5.lt
  have WN_6 := WN_5.below (hb6.mono (by omega))
  have WF_6 := WF_5.below (hb6.mono (by omega))
  have BW_6 := BW_5.below hb6 BW_5.lt
  clear hb6 T5 RNa_5 RFa_5 RNc_5 RFc_5 Za_5 Zc_5 WN_5 WF_5 BW_5
  clear hb
  have XN_6 := hO
  have XF_6 := hP
  have LXN := hO.lo
  have LXF := hP.lo
  clear hO hP
  have hb7 : Below w4.heap.size w4 (w4.alloc (.cells #[.int .i64 (ba), .slice NX xa.length xa.length, .slice FX ya.length ya.length] 25)) := b_alloc (Below.refl _ _) _
  have T7 := b_step T6 hb7
  have sz7 := hb7.size
  have RNa_7 := RNa_6.below (hb7.mono (by omega))
  have RFa_7 := RFa_6.below (hb7.mono (by omega))
  have RNc_7 := RNc_6.below (hb7.mono (by omega))
  have RFc_7 := RFc_6.below (hb7.mono (by omega))
  have Za_7 := Za_6.below hb7 Za_6.lt
  have Zc_7 := Zc_6.below hb7 Zc_6.lt
  have WN_7 := WN_6.below (hb7.mono (by omega))
  have WF_7 := WF_6.below (hb7.mono (by omega))
  have BW_7 := BW_6.below hb7 BW_6.lt
  have XN_7 := XN_6.keep hb7
  have XF_7 := XF_6.keep hb7
  clear hb7 T6 RNa_6 RFa_6 RNc_6 RFc_6 Za_6 Zc_6 WN_6 WF_6 BW_6 XN_6 XF_6
  have sz7' : w4.heap.size < (w4.alloc (.cells #[.int .i64 (ba), .slice NX xa.length xa.length, .slice FX ya.length ya.length] 25)).heap.size := by simp
  have BX_7 := BM.new w4 (ba) (.slice NX xa.length xa.length) (.slice FX ya.length ya.length)
  have c00 := Zc_7.cell0
  have c01 := Zc_7.cell1
  have c02 := Zc_7.cell2
  have HZc := Lib.hid Zc_7
  clear Zc_7
  go_wp2_with fail
  have Zc_7 := HZc.out
  clear HZc c00 c01 c02
  refine (toMachine_m bc Nc Fc xc yc cc dc _ (RNc_7.more (by omega)) (RFc_7.more (by omega)) (by omega) (by omega)).mono ?_
  rintro e w5 ⟨NY, FY, rfl, hO, hP, hb⟩
  have hb8 : Below (w4.alloc (.cells #[.int .i64 (ba), .slice NX xa.length xa.length, .slice FX ya.length ya.length] 25)).heap.size (w4.alloc (.cells #[.int .i64 (ba), .slice NX xa.length xa.length, .slice FX ya.length ya.length] 25)) w5 := hb
  have T8 := b_step T7 hb8
  have sz8 := hb8.size
  have RNa_8 := RNa_7.below (hb8.mono (by omega))
  have RFa_8 := RFa_7.below (hb8.mono (by omega))
  have RNc_8 := RNc_7.below (hb8.mono (by omega))
  have RFc_8 := RFc_7.below (hb8.mono (by omega))
  have Za_8 := Za_7.below hb8 Za_7.lt
  have Zc_8 := Zc_7.below hb8 Zc_7.lt
  have WN_8 := WN_7.below (hb8.mono (by omega))
  have WF_8 := WF_7.below (hb8.mono (by omega))
  have BW_8 := BW_7.below hb8 BW_7.lt
  have XN_8 := XN_7.keep hb8
  have XF_8 := XF_7.keep hb8
  have BX_8 := BX_7.below hb8 BX_7.lt
  clear hb8 T7 RNa_7 RFa_7 RNc_7 RFc_7 Za_7 Zc_7 WN_7 WF_7 BW_7 XN_7 XF_7 BX_7
  clear hb
  have YN_8 := hO
  have YF_8 := hP
  have LYN := hO.lo
  have LYF := hP.lo
  clear hO hP
  have hb9 : Below w5.heap.size w5 (w5.alloc (.cells #[.int .i64 (bc), .slice NY xc.length xc.length, .slice FY yc.length yc.length] 25)) := b_alloc (Below.refl _ _) _
  have T9 := b_step T8 hb9
  have sz9 := hb9.size
  have RNa_9 := RNa_8.below (hb9.mono (by omega))
  have RFa_9 := RFa_8.below (hb9.mono (by omega))
  have RNc_9 := RNc_8.below (hb9.mono (by omega))
  have RFc_9 := RFc_8.below (hb9.mono (by omega))
  have Za_9 := Za_8.below hb9 Za_8.lt
  have Zc_9 := Zc_8.below hb9 Zc_8.lt
  have WN_9 := WN_8.below (hb9.mono (by omega))
  have WF_9 := WF_8.below (hb9.mono (by omega))
  have BW_9 := BW_8.below hb9 BW_8.lt
  have XN_9 := XN_8.keep hb9
  have XF_9 := XF_8.keep hb9
  have BX_9 := BX_8.below hb9 BX_8.lt
  have YN_9 := YN_8.keep hb9
  have YF_9 := YF_8.keep hb9
  clear hb9 T8 RNa_8 RFa_8 RNc_8 RFc_8 Za_8 Zc_8 WN_8 WF_8 BW_8 XN_8 XF_8 BX_8 YN_8 YF_8
  have sz9' : w5.heap.size < (w5.alloc (.cells #[.int .i64 (bc), .slice NY xc.length xc.length, .slice FY yc.length yc.length] 25)).heap.size := by simp
  have BY_9 := BM.new w5 (bc) (.slice NY xc.length xc.length) (.slice FY yc.length yc.length)
  have c00 := BX_9.cell0
  have c01 := BX_9.cell1
  have c02 := BX_9.cell2
  have HBX := Lib.hid BX_9
  clear BX_9
  have c10 := BY_9.cell0
  have c11 := BY_9.cell1
  have c12 := BY_9.cell2
  have HBY := Lib.hid BY_9
  clear BY_9
  go_wp2_with fail
  have BX_9 := HBX.out
  clear HBX c00 c01 c02
  have BY_9 := HBY.out
  clear HBY c10 c11 c12
  refine (impl_join ba bc _ _ _ _ xa xc ya yc _ _ _ _ q _ XN_9.reads XF_9.reads YN_9.reads YF_9.reads (by omega) (by omega) (by omega) (by omega)).mono ?_
  rintro e w6 ⟨NG, FG, cG, dG, rfl, hO, hP, hb⟩
  have hb10 : Below (w5.alloc (.cells #[.int .i64 (bc), .slice NY xc.length xc.length, .slice FY yc.length yc.length] 25)).heap.size (w5.alloc (.cells #[.int .i64 (bc), .slice NY xc.length xc.length, .slice FY yc.length yc.length] 25)) w6 := hb
  have T10 := b_step T9 hb10
  have sz10 := hb10.size
  have RNa_10 := RNa_9.below (hb10.mono (by omega))
  have RFa_10 := RFa_9.below (hb10.mono (by omega))
  have RNc_10 := RNc_9.below (hb10.mono (by omega))
  have RFc_10 := RFc_9.below (hb10.mono (by omega))
  have Za_10 := Za_9.below hb10 Za_9.lt
  have Zc_10 := Zc_9.below hb10 Zc_9.lt
  have WN_10 := WN_9.below (hb10.mono (by omega))
  have WF_10 := WF_9.below (hb10.mono (by omega))
  have BW_10 := BW_9.below hb10 BW_9.lt
  have XN_10 := XN_9.keep hb10
  have XF_10 := XF_9.keep hb10
  have BX_10 := BX_9.below hb10 BX_9.lt
  have YN_10 := YN_9.keep hb10
  have YF_10 := YF_9.keep hb10
  have BY_10 := BY_9.below hb10 BY_9.lt
  clear hb10 T9 RNa_9 RFa_9 RNc_9 RFc_9 Za_9 Zc_9 WN_9 WF_9 BW_9 XN_9 XF_9 BX_9 YN_9 YF_9 BY_9
  clear hb
  have GN_10 := hO
  have GF_10 := hP
  have LGN := hO.lo
  have LGF := hP.lo
  clear hO hP
  have hb11 : Below w6.heap.size w6 (w6.alloc (.cells #[.int .i64 (jB ba bc xa xc ya.length yc.length), .slice NG (jX ba bc xa xc ya.length yc.length).length cG, .slice FG (jY ba bc xa xc ya yc q).length dG] 25)) := b_alloc (Below.refl _ _) _
  have T11 := b_step T10 hb11
  have sz11 := hb11.size
  have RNa_11 := RNa_10.below (hb11.mono (by omega))
  have RFa_11 := RFa_10.below (hb11.mono (by omega))
  have RNc_11 := RNc_10.below (hb11.mono (by omega))
  have RFc_11 := RFc_10.below (hb11.mono (by omega))
  have Za_11 := Za_10.below hb11 Za_10.lt
  have Zc_11 := Zc_10.below hb11 Zc_10.lt
  have WN_11 := WN_10.below (hb11.mono (by omega))
  have WF_11 := WF_10.below (hb11.mono (by omega))
  have BW_11 := BW_10.below hb11 BW_10.lt
  have XN_11 := XN_10.keep hb11
  have XF_11 := XF_10.keep hb11
  have BX_11 := BX_10.below hb11 BX_10.lt
  have YN_11 := YN_10.keep hb11
  have YF_11 := YF_10.keep hb11
  have BY_11 := BY_10.below hb11 BY_10.lt
  have GN_11 := GN_10.keep hb11
  have GF_11 := GF_10.keep hb11
  clear hb11 T10 RNa_10 RFa_10 RNc_10 RFc_10 Za_10 Zc_10 WN_10 WF_10 BW_10 XN_10 XF_10 BX_10 YN_10 YF_10 BY_10 GN_10 GF_10
  have sz11' : w6.heap.size < (w6.alloc (.cells #[.int .i64 (jB ba bc xa xc ya.length yc.length), .slice NG (jX ba bc xa xc ya.length yc.length).length cG, .slice FG (jY ba bc xa xc ya yc q).length dG] 25)).heap.size := by simp
  have BG_11 := BM.new w6 (jB ba bc xa xc ya.length yc.length) (.slice NG (jX ba bc xa xc ya.length yc.length).length cG) (.slice FG (jY ba bc xa xc ya yc q).length dG)
  have c00 := BG_11.cell0
  have c01 := BG_11.cell1
  have c02 := BG_11.cell2
  have HBG := Lib.hid BG_11
  clear BG_11
  have c10 := BW_11.cell0
  have c11 := BW_11.cell1
  have c12 := BW_11.cell2
  have HBW := Lib.hid BW_11
  clear BW_11
  go_wp2_with fail
  have BG_11 := HBG.out
  clear HBG c00 c01 c02
  have BW_11 := HBW.out
  clear HBW c10 c11 c12
  refine (eqMachine_same (jB ba bc xa xc ya.length yc.length) _ _ (jX ba bc xa xc ya.length yc.length) (jY ba bc xa xc ya yc q) _ _ _ _ _ _ _ GN_11.reads (WN_11.more (by omega)) GF_11.reads (WF_11.more (by omega)) (by omega) (by omega)).mono ?_
  rintro e w7 ⟨rfl, hb⟩
  have hb12 : Below (w6.alloc (.cells #[.int .i64 (jB ba bc xa xc ya.length yc.length), .slice NG (jX ba bc xa xc ya.length yc.length).length cG, .slice FG (jY ba bc xa xc ya yc q).length dG] 25)).heap.size (w6.alloc (.cells #[.int .i64 (jB ba bc xa xc ya.length yc.length), .slice NG (jX ba bc xa xc ya.length yc.length).length cG, .slice FG (jY ba bc xa xc ya yc q).length dG] 25)) w7 := hb
  have T12 := b_step T11 hb12
  have sz12 := hb12.size
  have RNa_12 := RNa_11.below (hb12.mono (by omega))
  have RFa_12 := RFa_11.below (hb12.mono (by omega))
  have RNc_12 := RNc_11.below (hb12.mono (by omega))
  have RFc_12 := RFc_11.below (hb12.mono (by omega))
  have Za_12 := Za_11.below hb12 Za_11.lt
  have Zc_12 := Zc_11.below hb12 Zc_11.lt
  have WN_12 := WN_11.below (hb12.mono (by omega))
  have WF_12 := WF_11.below (hb12.mono (by omega))
  have BW_12 := BW_11.below hb12 BW_11.lt
  have XN_12 := XN_11.keep hb12
  have XF_12 := XF_11.keep hb12
  have BX_12 := BX_11.below hb12 BX_11.lt
  have YN_12 := YN_11.keep hb12
  have YF_12 := YF_11.keep hb12
  have BY_12 := BY_11.below hb12 BY_11.lt
  have GN_12 := GN_11.keep hb12
  have GF_12 := GF_11.keep hb12
  have BG_12 := BG_11.below hb12 BG_11.lt
  clear hb12 T11 RNa_11 RFa_11 RNc_11 RFc_11 Za_11 Zc_11 WN_11 WF_11 BW_11 XN_11 XF_11 BX_11 YN_11 YF_11 BY_11 GN_11 GF_11 BG_11
  clear hb
  have c00 := BX_12.cell0
  have c01 := BX_12.cell1
  have c02 := BX_12.cell2
  have lt0 := BX_12.lt
  have c10 := Za_12.cell0
  have c11 := Za_12.cell1
  have c12 := Za_12.cell2
  have lt1 := Za_12.lt
  have HRNa := Lib.hid RNa_12
  have HRFa := Lib.hid RFa_12
  have HRNc := Lib.hid RNc_12
  have HRFc := Lib.hid RFc_12
  have HZa := Lib.hid Za_12
  have HZc := Lib.hid Zc_12
  have HWN := Lib.hid WN_12
  have HWF := Lib.hid WF_12
  have HBW := Lib.hid BW_12
  have HXN := Lib.hid XN_12
  have HXF := Lib.hid XF_12
  have HBX := Lib.hid BX_12
  have HYN := Lib.hid YN_12
  have HYF := Lib.hid YF_12
  have HBY := Lib.hid BY_12
  have HGN := Lib.hid GN_12
  have HGF := Lib.hid GF_12
  have HBG := Lib.hid BG_12
  have HT := Lib.hid T12
  clear T12 RNa_12 RFa_12 RNc_12 RFc_12 Za_12 Zc_12 WN_12 WF_12 BW_12 XN_12 XF_12 BX_12 YN_12 YF_12 BY_12 GN_12 GF_12 BG_12
  go_upto_region 14 with fail
  go_cut [62] (fun s wx => s = .bool false ∧ Below w7.heap.size w7 wx)
  case first =>
    go_region_held3 (fun w' => w'.cell? ⟨w4.heap.size, 0, none⟩ = some (.int .i64 ba) ∧ w'.cell? ⟨w4.heap.size, 1, none⟩ = some (.slice NX xa.length xa.length) ∧ w'.cell? ⟨w4.heap.size, 2, none⟩ = some (.slice FX ya.length ya.length) ∧ w'.cell? ⟨w.heap.size, 0, none⟩ = some (.int .i64 ba) ∧ w'.cell? ⟨w.heap.size, 1, none⟩ = some (.slice Na xa.length ca) ∧ w'.cell? ⟨w.heap.size, 2, none⟩ = some (.slice Fa ya.length da)) (simp [go_sem, *]) (first | (go_at_call 15; refine (toMachine_m ba Na Fa xa ya ca da _ ?_ ?_ (by omega) (by omega)).mono ?_; (first | exact HRNa.out.more (by omega) | exact (HRNa.out.below (below_drewN (Below.refl _ _) _)).more (by simp; omega) | exact (HRNa.out.below (Below.refl _ _).drew).more (by simp; omega)); (first | exact HRFa.out.more (by omega) | exact (HRFa.out.below (below_drewN (Below.refl _ _) _)).more (by simp; omega) | exact (HRFa.out.below (Below.refl _ _).drew).more (by simp; omega)); rintro e w1' ⟨N1', F1', rfl, hO1, hP1, hb1⟩; obtain ⟨hc1, hf1, _⟩ := bcell hb1; have hc2 : ∀ b o, b < w7.heap.size → w1'.cell? ⟨b, o, none⟩ = w7.cell? ⟨b, o, none⟩ := (fun b o h => hc1 b o h); clear hc1 hf1; have RX1 := (by first | exact Lib.hid (HXN.out.keep hb1).reads | exact Lib.hid ((HXN.out.keep (Below.refl _ _).drew).keep hb1).reads | exact Lib.hid ((HXN.out.keep (below_drewN (Below.refl _ _) _)).keep hb1).reads); have RX2 := (by first | exact Lib.hid (HXF.out.keep hb1).reads | exact Lib.hid ((HXF.out.keep (Below.refl _ _).drew).keep hb1).reads | exact Lib.hid ((HXF.out.keep (below_drewN (Below.refl _ _) _)).keep hb1).reads); have RY1 := Lib.hid hO1.reads; have RY2 := Lib.hid hP1.reads; have HB1 := Lib.hid hb1; clear hO1 hP1 hb1) | (go_at_call 10; refine (eqMachine_same ba _ _ xa ya _ _ _ _ _ _ _ RX1.out RY1.out RX2.out RY2.out (by omega) (by omega)).mono ?_; rintro e w2' ⟨rfl, hb2⟩; have hc3 : ∀ b o, b < w7.heap.size → w2'.cell? ⟨b, o, none⟩ = w1'.cell? ⟨b, o, none⟩ := (fun b o h => (bcell hb2).1 b o (Nat.lt_of_lt_of_le h HB1.out.size)); have HB2 := Lib.hid hb2; clear hb2))
    all_goals (go_wp2_with fail; go_meet)
    all_goals refine ⟨rfl, ?_⟩
    all_goals (repeat (first | exact Below.refl _ _ | refine b_drew ?_ | refine b_drewN ?_ _ | refine b_step ?_ HB2.out | refine b_step ?_ HB1.out))
  case rest =>
  obtain ⟨rfl, hb⟩ := hcut
  have RNa_12 := HRNa.out
  have RFa_12 := HRFa.out
  have RNc_12 := HRNc.out
  have RFc_12 := HRFc.out
  have Za_12 := HZa.out
  have Zc_12 := HZc.out
  have WN_12 := HWN.out
  have WF_12 := HWF.out
  have BW_12 := HBW.out
  have XN_12 := HXN.out
  have XF_12 := HXF.out
  have BX_12 := HBX.out
  have YN_12 := HYN.out
  have YF_12 := HYF.out
  have BY_12 := HBY.out
  have GN_12 := HGN.out
  have GF_12 := HGF.out
  have BG_12 := HBG.out
  have T12 := HT.out
  clear HT c00 c01 c02 c10 c11 c12 lt0 lt1 HRNa HRFa HRNc HRFc HZa HZc HWN HWF HBW HXN HXF HBX HYN HYF HBY HGN HGF HBG
  rename World => wx8
  have hb13 : Below w7.heap.size w7 wx8 := hb
  have T13 := b_step T12 hb13
  have sz13 := hb13.size
  have RNa_13 := RNa_12.below (hb13.mono (by omega))
  have RFa_13 := RFa_12.below (hb13.mono (by omega))
  have RNc_13 := RNc_12.below (hb13.mono (by omega))
  have RFc_13 := RFc_12.below (hb13.mono (by omega))
  have Za_13 := Za_12.below hb13 Za_12.lt
  have Zc_13 := Zc_12.below hb13 Zc_12.lt
  have WN_13 := WN_12.below (hb13.mono (by omega))
  have WF_13 := WF_12.below (hb13.mono (by omega))
  have BW_13 := BW_12.below hb13 BW_12.lt
  have XN_13 := XN_12.keep hb13
  have XF_13 := XF_12.keep hb13
  have BX_13 := BX_12.below hb13 BX_12.lt
  have YN_13 := YN_12.keep hb13
  have YF_13 := YF_12.keep hb13
  have BY_13 := BY_12.below hb13 BY_12.lt
  have GN_13 := GN_12.keep hb13
  have GF_13 := GF_12.keep hb13
  have BG_13 := BG_12.below hb13 BG_12.lt
  clear hb13 T12 RNa_12 RFa_12 RNc_12 RFc_12 Za_12 Zc_12 WN_12 WF_12 BW_12 XN_12 XF_12 BX_12 YN_12 YF_12 BY_12 GN_12 GF_12 BG_12
  clear hb
  have c00 := BY_13.cell0
  have c01 := BY_13.cell1
  have c02 := BY_13.cell2
  have lt0 := BY_13.lt
  have c10 := Zc_13.cell0
  have c11 := Zc_13.cell1
  have c12 := Zc_13.cell2
  have lt1 := Zc_13.lt
  have HRNa := Lib.hid RNa_13
  have HRFa := Lib.hid RFa_13
  have HRNc := Lib.hid RNc_13
  have HRFc := Lib.hid RFc_13
  have HZa := Lib.hid Za_13
  have HZc := Lib.hid Zc_13
  have HWN := Lib.hid WN_13
  have HWF := Lib.hid WF_13
  have HBW := Lib.hid BW_13
  have HXN := Lib.hid XN_13
  have HXF := Lib.hid XF_13
  have HBX := Lib.hid BX_13
  have HYN := Lib.hid YN_13
  have HYF := Lib.hid YF_13
  have HBY := Lib.hid BY_13
  have HGN := Lib.hid GN_13
  have HGF := Lib.hid GF_13
  have HBG := Lib.hid BG_13
  have HT := Lib.hid T13
  clear T13 RNa_13 RFa_13 RNc_13 RFc_13 Za_13 Zc_13 WN_13 WF_13 BW_13 XN_13 XF_13 BX_13 YN_13 YF_13 BY_13 GN_13 GF_13 BG_13
  go_upto_region 16 with fail
  go_cut [67] (fun s wx => s = .bool false ∧ Below wx8.heap.size wx8 wx)
  case first =>
    go_region_held3 (fun w' => w'.cell? ⟨w5.heap.size, 0, none⟩ = some (.int .i64 bc) ∧ w'.cell? ⟨w5.heap.size, 1, none⟩ = some (.slice NY xc.length xc.length) ∧ w'.cell? ⟨w5.heap.size, 2, none⟩ = some (.slice FY yc.length yc.length) ∧ w'.cell? ⟨(w.heap.size + 1), 0, none⟩ = some (.int .i64 bc) ∧ w'.cell? ⟨(w.heap.size + 1), 1, none⟩ = some (.slice Nc xc.length cc) ∧ w'.cell? ⟨(w.heap.size + 1), 2, none⟩ = some (.slice Fc yc.length dc)) (simp [go_sem, *]) (first | (go_at_call 15; refine (toMachine_m bc Nc Fc xc yc cc dc _ ?_ ?_ (by omega) (by omega)).mono ?_; (first | exact HRNc.out.more (by omega) | exact (HRNc.out.below (below_drewN (Below.refl _ _) _)).more (by simp; omega) | exact (HRNc.out.below (Below.refl _ _).drew).more (by simp; omega)); (first | exact HRFc.out.more (by omega) | exact (HRFc.out.below (below_drewN (Below.refl _ _) _)).more (by simp; omega) | exact (HRFc.out.below (Below.refl _ _).drew).more (by simp; omega)); rintro e w1' ⟨N1', F1', rfl, hO1, hP1, hb1⟩; obtain ⟨hc1, hf1, _⟩ := bcell hb1; have hc2 : ∀ b o, b < wx8.heap.size → w1'.cell? ⟨b, o, none⟩ = wx8.cell? ⟨b, o, none⟩ := (fun b o h => hc1 b o h); clear hc1 hf1; have RX1 := (by first | exact Lib.hid (HYN.out.keep hb1).reads | exact Lib.hid ((HYN.out.keep (Below.refl _ _).drew).keep hb1).reads | exact Lib.hid ((HYN.out.keep (below_drewN (Below.refl _ _) _)).keep hb1).reads); have RX2 := (by first | exact Lib.hid (HYF.out.keep hb1).reads | exact Lib.hid ((HYF.out.keep (Below.refl _ _).drew).keep hb1).reads | exact Lib.hid ((HYF.out.keep (below_drewN (Below.refl _ _) _)).keep hb1).reads); have RY1 := Lib.hid hO1.reads; have RY2 := Lib.hid hP1.reads; have HB1 := Lib.hid hb1; clear hO1 hP1 hb1) | (go_at_call 10; refine (eqMachine_same bc _ _ xc yc _ _ _ _ _ _ _ RX1.out RY1.out RX2.out RY2.out (by omega) (by omega)).mono ?_; rintro e w2' ⟨rfl, hb2⟩; have hc3 : ∀ b o, b < wx8.heap.size → w2'.cell? ⟨b, o, none⟩ = w1'.cell? ⟨b, o, none⟩ := (fun b o h => (bcell hb2).1 b o (Nat.lt_of_lt_of_le h HB1.out.size)); have HB2 := Lib.hid hb2; clear hb2))
    all_goals (go_wp2_with fail; go_meet)
    all_goals refine ⟨rfl, ?_⟩
    all_goals (repeat (first | exact Below.refl _ _ | refine b_drew ?_ | refine b_drewN ?_ _ | refine b_step ?_ HB2.out | refine b_step ?_ HB1.out))
  case rest =>
  obtain ⟨rfl, hb⟩ := hcut
  have RNa_13 := HRNa.out
  have RFa_13 := HRFa.out
  have RNc_13 := HRNc.out
  have RFc_13 := HRFc.out
  have Za_13 := HZa.out
  have Zc_13 := HZc.out
  have WN_13 := HWN.out
  have WF_13 := HWF.out
  have BW_13 := HBW.out
  have XN_13 := HXN.out
  have XF_13 := HXF.out
  have BX_13 := HBX.out
  have YN_13 := HYN.out
  have YF_13 := HYF.out
  have BY_13 := HBY.out
  have GN_13 := HGN.out
  have GF_13 := HGF.out
  have BG_13 := HBG.out
  have T13 := HT.out
  clear HT c00 c01 c02 c10 c11 c12 lt0 lt1 HRNa HRFa HRNc HRFc HZa HZc HWN HWF HBW HXN HXF HBX HYN HYF HBY HGN HGF HBG
  rename World => wx9
  have hb14 : Below wx8.heap.size wx8 wx9 := hb
  have T14 := b_step T13 hb14
  have sz14 := hb14.size
  have RNa_14 := RNa_13.below (hb14.mono (by omega))
  have RFa_14 := RFa_13.below (hb14.mono (by omega))
  have RNc_14 := RNc_13.below (hb14.mono (by omega))
  have RFc_14 := RFc_13.below (hb14.mono (by omega))
  have Za_14 := Za_13.below hb14 Za_13.lt
  have Zc_14 := Zc_13.below hb14 Zc_13.lt
  have WN_14 := WN_13.below (hb14.mono (by omega))
  have WF_14 := WF_13.below (hb14.mono (by omega))
  have BW_14 := BW_13.below hb14 BW_13.lt
  have XN_14 := XN_13.keep hb14
  have XF_14 := XF_13.keep hb14
  have BX_14 := BX_13.below hb14 BX_13.lt
  have YN_14 := YN_13.keep hb14
  have YF_14 := YF_13.keep hb14
  have BY_14 := BY_13.below hb14 BY_13.lt
  have GN_14 := GN_13.keep hb14
  have GF_14 := GF_13.keep hb14
  have BG_14 := BG_13.below hb14 BG_13.lt
  clear hb14 T13 RNa_13 RFa_13 RNc_13 RFc_13 Za_13 Zc_13 WN_13 WF_13 BW_13 XN_13 XF_13 BX_13 YN_13 YF_13 BY_13 GN_13 GF_13 BG_13
  clear hb
  have c00 := BX_14.cell0
  have c01 := BX_14.cell1
  have c02 := BX_14.cell2
  have HBX := Lib.hid BX_14
  clear BX_14
  go_wp2_with fail
  have BX_14 := HBX.out
  clear HBX c00 c01 c02
  refine (markMachine_m (ba) _ _ (xa) (ya) _ _ (wx3.heap.size) (1) _ XN_14 XF_14 (by omega) (by omega) (by omega)).mono ?_
  rintro e w10 ⟨rfl, hO, hP, hbel, hoi, hob, hbm, hblm, hs⟩
  have T15 := T14.trans (hbel w.heap.size (by omega) (by omega))
  have sz15 := hs
  have RNa_15 := RNa_14.below (hbel (w.heap.size) (by omega) (by omega))
  have RFa_15 := RFa_14.below (hbel (w.heap.size) (by omega) (by omega))
  have RNc_15 := RNc_14.below (hbel (w.heap.size) (by omega) (by omega))
  have RFc_15 := RFc_14.below (hbel (w.heap.size) (by omega) (by omega))
  have Za_15 := hblm _ _ _ _ Za_14
  have Zc_15 := hblm _ _ _ _ Zc_14
  have WN_15 := WN_14.below (hbel (wx3.heap.size) (by omega) (by omega))
  have WF_15 := WF_14.below (hbel (wx3.heap.size) (by omega) (by omega))
  have BW_15 := hbm _ _ _ _ BW_14
  have XN_15 := hO
  have XF_15 := hP
  have BX_15 := hbm _ _ _ _ BX_14
  have YN_15 := hoi ((w4.alloc (.cells #[.int .i64 (ba), .slice NX xa.length xa.length, .slice FX ya.length ya.length] 25)).heap.size) (LXN.more (by omega)) _ _ YN_14
  have YF_15 := hob ((w4.alloc (.cells #[.int .i64 (ba), .slice NX xa.length xa.length, .slice FX ya.length ya.length] 25)).heap.size) (LXF.more (by omega)) _ _ YF_14
  have BY_15 := hbm _ _ _ _ BY_14
  have GN_15 := hoi ((w5.alloc (.cells #[.int .i64 (bc), .slice NY xc.length xc.length, .slice FY yc.length yc.length] 25)).heap.size) (LXN.more (by omega)) _ _ GN_14
  have GF_15 := hob ((w5.alloc (.cells #[.int .i64 (bc), .slice NY xc.length xc.length, .slice FY yc.length yc.length] 25)).heap.size) (LXF.more (by omega)) _ _ GF_14
  have BG_15 := hbm _ _ _ _ BG_14
  clear hO hP hbel hoi hob hbm hblm hs T14 RNa_14 RFa_14 RNc_14 RFc_14 Za_14 Zc_14 WN_14 WF_14 BW_14 XN_14 XF_14 BX_14 YN_14 YF_14 BY_14 GN_14 GF_14 BG_14
  clear XN_15
  clear XF_15
  clear BX_15
  have c00 := BY_15.cell0
  have c01 := BY_15.cell1
  have c02 := BY_15.cell2
  have HBY := Lib.hid BY_15
  clear BY_15
  go_wp2_with fail
  have BY_15 := HBY.out
  clear HBY c00 c01 c02
  refine (markMachine_m (bc) _ _ (xc) (yc) _ _ ((w4.alloc (.cells #[.int .i64 (ba), .slice NX xa.length xa.length, .slice FX ya.length ya.length] 25)).heap.size) ((1 + xa.length + ya.length)) _ YN_15 YF_15 (by omega) (by omega) (by omega)).mono ?_
  rintro e w11 ⟨rfl, hO, hP, hbel, hoi, hob, hbm, hblm, hs⟩
  have T16 := T15.trans (hbel w.heap.size (by omega) (by omega))
  have sz16 := hs
  have RNa_16 := RNa_15.below (hbel (w.heap.size) (by omega) (by omega))
  have RFa_16 := RFa_15.below (hbel (w.heap.size) (by omega) (by omega))
  have RNc_16 := RNc_15.below (hbel (w.heap.size) (by omega) (by omega))
  have RFc_16 := RFc_15.below (hbel (w.heap.size) (by omega) (by omega))
  have Za_16 := hblm _ _ _ _ Za_15
  have Zc_16 := hblm _ _ _ _ Zc_15
  have WN_16 := WN_15.below (hbel (wx3.heap.size) (by omega) (by omega))
  have WF_16 := WF_15.below (hbel (wx3.heap.size) (by omega) (by omega))
  have BW_16 := hbm _ _ _ _ BW_15
  have YN_16 := hO
  have YF_16 := hP
  have BY_16 := hbm _ _ _ _ BY_15
  have GN_16 := hoi ((w5.alloc (.cells #[.int .i64 (bc), .slice NY xc.length xc.length, .slice FY yc.length yc.length] 25)).heap.size) (LYN.more (by omega)) _ _ GN_15
  have GF_16 := hob ((w5.alloc (.cells #[.int .i64 (bc), .slice NY xc.length xc.length, .slice FY yc.length yc.length] 25)).heap.size) (LYF.more (by omega)) _ _ GF_15
  have BG_16 := hbm _ _ _ _ BG_15
  clear hO hP hbel hoi hob hbm hblm hs T15 RNa_15 RFa_15 RNc_15 RFc_15 Za_15 Zc_15 WN_15 WF_15 BW_15 YN_15 YF_15 BY_15 GN_15 GF_15 BG_15
  clear YN_16
  clear YF_16
  clear BY_16
  have c00 := BG_16.cell0
  have c01 := BG_16.cell1
  have c02 := BG_16.cell2
  have HBG := Lib.hid BG_16
  clear BG_16
  have c10 := BW_16.cell0
  have c11 := BW_16.cell1
  have c12 := BW_16.cell2
  have HBW := Lib.hid BW_16
  clear BW_16
  go_wp2_with fail
  have BG_16 := HBG.out
  clear HBG c00 c01 c02
  have BW_16 := HBW.out
  clear HBW c10 c11 c12
  refine (eqMachine_same (jB ba bc xa xc ya.length yc.length) _ _ (jX ba bc xa xc ya.length yc.length) (jY ba bc xa xc ya yc q) _ _ _ _ _ _ _ GN_16.reads (WN_16.more (by omega)) GF_16.reads (WF_16.more (by omega)) (by omega) (by omega)).mono ?_
  rintro e w12 ⟨rfl, hb⟩
  have hb17 : Below w11.heap.size w11 w12 := hb
  have T17 := b_step T16 hb17
  have sz17 := hb17.size
  have RNa_17 := RNa_16.below (hb17.mono (by omega))
  have RFa_17 := RFa_16.below (hb17.mono (by omega))
  have RNc_17 := RNc_16.below (hb17.mono (by omega))
  have RFc_17 := RFc_16.below (hb17.mono (by omega))
  have Za_17 := Za_16.below hb17 Za_16.lt
  have Zc_17 := Zc_16.below hb17 Zc_16.lt
  have WN_17 := WN_16.below (hb17.mono (by omega))
  have WF_17 := WF_16.below (hb17.mono (by omega))
  have BW_17 := BW_16.below hb17 BW_16.lt
  have GN_17 := GN_16.keep hb17
  have GF_17 := GF_16.keep hb17
  have BG_17 := BG_16.below hb17 BG_16.lt
  clear hb17 T16 RNa_16 RFa_16 RNc_16 RFc_16 Za_16 Zc_16 WN_16 WF_16 BW_16 GN_16 GF_16 BG_16
  clear hb
  have c00 := BG_17.cell0
  have c01 := BG_17.cell1
  have c02 := BG_17.cell2
  have HBG := Lib.hid BG_17
  clear BG_17
  go_wp2_with fail
  have BG_17 := HBG.out
  clear HBG c00 c01 c02
  refine (markMachine_m (jB ba bc xa xc ya.length yc.length) _ _ (jX ba bc xa xc ya.length yc.length) (jY ba bc xa xc ya yc q) _ _ ((w5.alloc (.cells #[.int .i64 (bc), .slice NY xc.length xc.length, .slice FY yc.length yc.length] 25)).heap.size) (1) _ GN_17 GF_17 (by omega) (by omega) (by omega)).mono ?_
  rintro e w13 ⟨rfl, hO, hP, hbel, hoi, hob, hbm, hblm, hs⟩
  have T18 := T17.trans (hbel w.heap.size (by omega) (by omega))
  have sz18 := hs
  have RNa_18 := RNa_17.below (hbel (w.heap.size) (by omega) (by omega))
  have RFa_18 := RFa_17.below (hbel (w.heap.size) (by omega) (by omega))
  have RNc_18 := RNc_17.below (hbel (w.heap.size) (by omega) (by omega))
  have RFc_18 := RFc_17.below (hbel (w.heap.size) (by omega) (by omega))
  have Za_18 := hblm _ _ _ _ Za_17
  have Zc_18 := hblm _ _ _ _ Zc_17
  have WN_18 := WN_17.below (hbel (wx3.heap.size) (by omega) (by omega))
  have WF_18 := WF_17.below (hbel (wx3.heap.size) (by omega) (by omega))
  have BW_18 := hbm _ _ _ _ BW_17
  have GN_18 := hO
  have GF_18 := hP
  have BG_18 := hbm _ _ _ _ BG_17
  clear hO hP hbel hoi hob hbm hblm hs T17 RNa_17 RFa_17 RNc_17 RFc_17 Za_17 Zc_17 WN_17 WF_17 BW_17 GN_17 GF_17 BG_17
  have c00 := BG_18.cell0
  have c01 := BG_18.cell1
  have c02 := BG_18.cell2
  have HBG := Lib.hid BG_18
  clear BG_18
  go_wp2_with fail
  have BG_18 := HBG.out
  clear HBG c00 c01 c02
  refine (heldMachine_m (jB ba bc xa xc ya.length yc.length) _ _ (jX ba bc xa xc ya.length yc.length).length (jY ba bc xa xc ya yc q).length _ _ (1) _ GN_18.reads GF_18.reads (by omega) (by omega) (by omega)).mono ?_
  rintro e w14 ⟨rfl, hb⟩
  have hb19 : Below w13.heap.size w13 w14 := hb
  have T19 := b_step T18 hb19
  have sz19 := hb19.size
  have RNa_19 := RNa_18.below (hb19.mono (by omega))
  have RFa_19 := RFa_18.below (hb19.mono (by omega))
  have RNc_19 := RNc_18.below (hb19.mono (by omega))
  have RFc_19 := RFc_18.below (hb19.mono (by omega))
  have Za_19 := Za_18.below hb19 Za_18.lt
  have Zc_19 := Zc_18.below hb19 Zc_18.lt
  have WN_19 := WN_18.below (hb19.mono (by omega))
  have WF_19 := WF_18.below (hb19.mono (by omega))
  have BW_19 := BW_18.below hb19 BW_18.lt
  have GN_19 := GN_18.keep hb19
  have GF_19 := GF_18.keep hb19
  have BG_19 := BG_18.below hb19 BG_18.lt
  clear hb19 T18 RNa_18 RFa_18 RNc_18 RFc_18 Za_18 Zc_18 WN_18 WF_18 BW_18 GN_18 GF_18 BG_18
  clear hb
  have c00 := Za_19.cell0
  have c01 := Za_19.cell1
  have c02 := Za_19.cell2
  have lt0 := Za_19.lt
  have c10 := Zc_19.cell0
  have c11 := Zc_19.cell1
  have c12 := Zc_19.cell2
  have lt1 := Zc_19.lt
  have HRNa := Lib.hid RNa_19
  have HRFa := Lib.hid RFa_19
  have HRNc := Lib.hid RNc_19
  have HRFc := Lib.hid RFc_19
  have HZa := Lib.hid Za_19
  have HZc := Lib.hid Zc_19
  have HWN := Lib.hid WN_19
  have HWF := Lib.hid WF_19
  have HBW := Lib.hid BW_19
  have HGN := Lib.hid GN_19
  have HGF := Lib.hid GF_19
  have HBG := Lib.hid BG_19
  have HT := Lib.hid T19
  clear T19 RNa_19 RFa_19 RNc_19 RFc_19 Za_19 Zc_19 WN_19 WF_19 BW_19 GN_19 GF_19 BG_19
  go_upto_region 31 with fail
  go_cut [17, 18] (fun sp sb wx => ∃ (g : Nat) (N F : Option Addr) (c d : Nat), sp = .pointer (some ⟨g, 0, none⟩) ∧ sb = .bool (jQ ba bc xa xc ya.length yc.length) ∧ BM wx g (jB ba bc xa xc ya.length yc.length) (.slice N (jX ba bc xa xc ya.length yc.length).length c) (.slice F (jY ba bc xa xc ya yc q).length d) ∧ OI wx w14.heap.size N (jX ba bc xa xc ya.length yc.length) ∧ OB wx w14.heap.size F (jY ba bc xa xc ya yc q) ∧ w14.heap.size ≤ g ∧ Below w14.heap.size w14 wx)
  case first =>
    go_region_held3 (fun w' => w'.cell? ⟨w.heap.size, 0, none⟩ = some (.int .i64 ba) ∧ w'.cell? ⟨w.heap.size, 1, none⟩ = some (.slice Na xa.length ca) ∧ w'.cell? ⟨w.heap.size, 2, none⟩ = some (.slice Fa ya.length da) ∧ w'.cell? ⟨(w.heap.size + 1), 0, none⟩ = some (.int .i64 bc) ∧ w'.cell? ⟨(w.heap.size + 1), 1, none⟩ = some (.slice Nc xc.length cc) ∧ w'.cell? ⟨(w.heap.size + 1), 2, none⟩ = some (.slice Fc yc.length dc)) (first | (simp [go_sem, World.cell?_alloc_past, c00, c01, c02, c10, c11, c12, lt0, lt1]; done) | (simp [go_sem, c00, c01, c02, c10, c11, c12, World.cell?_alloc_past, lt0, lt1, lJ0, lJ1, hcJ]; done) | (simp [go_sem, c00, c01, c02, c10, c11, c12, World.cell?_alloc_past, lt0, lt1, lC0, lC1, hcC]; done) | (simp [go_sem, c00, c01, c02, c10, c11, c12, World.cell?_alloc_past, lt0, lt1, lA0, lA1, hcA]; done)) (first | (go_at_call 15; with_reducible refine (toMachine_m ba Na Fa xa ya ca da _ ?_ ?_ (by omega) (by omega)).mono ?_; exact HRNa.out.upTo (by repeat (first | exact Below.refl _ _ | refine b_alloc ?_ _ | refine b_drew ?_)) (by omega); exact HRFa.out.upTo (by repeat (first | exact Below.refl _ _ | refine b_alloc ?_ _ | refine b_drew ?_)) (by omega); rintro e wA ⟨NA', FA', rfl, hO, hP, hb⟩; have HBA : Hid (Below w14.heap.size w14 wA) := Lib.hid (b_step (by repeat (first | exact Below.refl _ _ | refine b_alloc ?_ _ | refine b_drew ?_)) hb); have hzA := hb.size; (try simp at hzA); obtain ⟨hxA, hfA, _⟩ := bcell hb; have HbA := Lib.hid hb; have HOA := Lib.hid hO; have HPA := Lib.hid hP; have hcA : ∀ b o, b < w14.heap.size → wA.cell? ⟨b, o, none⟩ = w14.cell? ⟨b, o, none⟩ := (fun b o h => HBA.out.cell (p := ⟨b, o, none⟩) h); have lA0 := Nat.lt_of_lt_of_le lt0 HBA.out.size; have lA1 := Nat.lt_of_lt_of_le lt1 HBA.out.size; (try (refine cutT (T := w14.heap.size < wA.heap.size) ?_ ?_; omega; intro yw14wA)); clear hO hP hb) | (go_at_call 15; with_reducible refine (toMachine_m bc Nc Fc xc yc cc dc _ ?_ ?_ (by omega) (by omega)).mono ?_; exact HRNc.out.upTo (by repeat (first | exact Below.refl _ _ | exact HBA.out | refine b_alloc ?_ _ | refine b_drew ?_)) (by omega); exact HRFc.out.upTo (by repeat (first | exact Below.refl _ _ | exact HBA.out | refine b_alloc ?_ _ | refine b_drew ?_)) (by omega); rintro e wC ⟨NC', FC', rfl, hO, hP, hb⟩; have HBC : Hid (Below w14.heap.size w14 wC) := Lib.hid (b_step (by repeat (first | exact Below.refl _ _ | exact HBA.out | refine b_alloc ?_ _ | refine b_drew ?_)) hb); have HAC : Hid (Below wA.heap.size wA wC) := Lib.hid (b_step (by repeat (first | exact Below.refl _ _ | refine b_alloc ?_ _ | refine b_drew ?_)) hb); have hzC := hb.size; (try simp at hzC); obtain ⟨hxC, hfC, _⟩ := bcell hb; have HbC := Lib.hid hb; have HOC := Lib.hid hO; have HPC := Lib.hid hP; have hcC : ∀ b o, b < w14.heap.size → wC.cell? ⟨b, o, none⟩ = w14.cell? ⟨b, o, none⟩ := (fun b o h => HBC.out.cell (p := ⟨b, o, none⟩) h); have lC0 := Nat.lt_of_lt_of_le lt0 HBC.out.size; have lC1 := Nat.lt_of_lt_of_le lt1 HBC.out.size; (try (refine cutT (T := w14.heap.size < wC.heap.size) ?_ ?_; omega; intro yw14wC)); (try (refine cutT (T := wA.heap.size < wC.heap.size) ?_ ?_; omega; intro ywAwC)); clear hO hP hb) | (go_at_call 22; with_reducible refine (impl_join ba bc NA' FA' NC' FC' xa xc ya yc _ _ _ _ q _ ?_ ?_ ?_ ?_ (by omega) (by omega) (by omega) (by omega)).mono ?_; exact HOA.out.reads.upTo (by repeat (first | exact Below.refl _ _ | exact HAC.out | refine b_alloc ?_ _ | refine b_drew ?_)) (Nat.le_refl _); exact HPA.out.reads.upTo (by repeat (first | exact Below.refl _ _ | exact HAC.out | refine b_alloc ?_ _ | refine b_drew ?_)) (Nat.le_refl _); exact HOC.out.reads.upTo (by repeat (first | exact Below.refl _ _ | refine b_alloc ?_ _ | refine b_drew ?_)) (Nat.le_refl _); exact HPC.out.reads.upTo (by repeat (first | exact Below.refl _ _ | refine b_alloc ?_ _ | refine b_drew ?_)) (Nat.le_refl _); intro e wJ hret; unfold RetM at hret; obtain ⟨NH, FH, cH, dH, rfl, hO, hP, hb⟩ := hret; have HBJ : Hid (Below w14.heap.size w14 wJ) := Lib.hid (b_step (by repeat (first | exact Below.refl _ _ | exact HBC.out | refine b_alloc ?_ _ | refine b_drew ?_)) hb); have hzJ := hb.size; (try simp at hzJ); obtain ⟨hxJ, hfJ, _⟩ := bcell hb; have HbJ := Lib.hid hb; have HOJ : Hid (OI wJ w14.heap.size NH (jX ba bc xa xc ya.length yc.length)) := Lib.hid (hO.lowB (by repeat (first | exact Below.refl _ _ | exact HBC.out | refine b_alloc ?_ _ | refine b_drew ?_))); have HPJ : Hid (OB wJ w14.heap.size FH (jY ba bc xa xc ya yc q)) := Lib.hid (hP.lowB (by repeat (first | exact Below.refl _ _ | exact HBC.out | refine b_alloc ?_ _ | refine b_drew ?_))); have hcJ : ∀ b o, b < w14.heap.size → wJ.cell? ⟨b, o, none⟩ = w14.cell? ⟨b, o, none⟩ := (fun b o h => HBJ.out.cell (p := ⟨b, o, none⟩) h); have lJ0 := Nat.lt_of_lt_of_le lt0 HBJ.out.size; have lJ1 := Nat.lt_of_lt_of_le lt1 HBJ.out.size; (try (refine cutT (T := w14.heap.size < wJ.heap.size) ?_ ?_; omega; intro yw14wJ)); (try (refine cutT (T := wA.heap.size < wJ.heap.size) ?_ ?_; omega; intro ywAwJ)); (try (refine cutT (T := wC.heap.size < wJ.heap.size) ?_ ?_; omega; intro ywCwJ)); clear hO hP hb))
    all_goals (go_wp2_with fail; go_meet)
    all_goals first
      | exact ⟨_, NH, FH, cH, dH, rfl, rfl, BM.new _ _ _ _, HOJ.out.keep (b_alloc (Below.refl _ _) _), HPJ.out.keep (b_alloc (Below.refl _ _) _), HBJ.out.size, b_alloc HBJ.out _⟩
      | exact ⟨_, NH, FH, cH, dH, rfl, rfl, (set3 ((BM.new wC 0 (.slice none 0 0) (.slice none 0 0)).below HbJ.out (by first | (simp; done) | omega | (simp; omega))) _ _ _).1, (set3 ((BM.new wC 0 (.slice none 0 0) (.slice none 0 0)).below HbJ.out (by first | (simp; done) | omega | (simp; omega))) _ _ _).2.1 _ _ _ HOJ.out, (set3 ((BM.new wC 0 (.slice none 0 0) (.slice none 0 0)).below HbJ.out (by first | (simp; done) | omega | (simp; omega))) _ _ _).2.2 _ _ _ HPJ.out, (by first | (simp; done) | omega | (simp; omega)), b_set3 HBJ.out (by first | (simp; done) | omega | (simp; omega))⟩
      | exact ⟨_, NH, FH, cH, dH, rfl, rfl, (set3 (((BM.new wA 0 (.slice none 0 0) (.slice none 0 0)).below HbC.out (by first | (simp; done) | omega | (simp; omega))).below HbJ.out (by first | (simp; done) | omega | (simp; omega))) _ _ _).1, (set3 (((BM.new wA 0 (.slice none 0 0) (.slice none 0 0)).below HbC.out (by first | (simp; done) | omega | (simp; omega))).below HbJ.out (by first | (simp; done) | omega | (simp; omega))) _ _ _).2.1 _ _ _ HOJ.out, (set3 (((BM.new wA 0 (.slice none 0 0) (.slice none 0 0)).below HbC.out (by first | (simp; done) | omega | (simp; omega))).below HbJ.out (by first | (simp; done) | omega | (simp; omega))) _ _ _).2.2 _ _ _ HPJ.out, (by first | (simp; done) | omega | (simp; omega)), b_set3 HBJ.out (by first | (simp; done) | omega | (simp; omega))⟩
      | exact ⟨_, NH, FH, cH, dH, rfl, rfl, (set3 ((((BM.newd w14 0 (.slice none 0 0) (.slice none 0 0)).below HbA.out (by first | (simp; done) | omega | (simp; omega))).below HbC.out (by first | (simp; done) | omega | (simp; omega))).below HbJ.out (by first | (simp; done) | omega | (simp; omega))) _ _ _).1, (set3 ((((BM.newd w14 0 (.slice none 0 0) (.slice none 0 0)).below HbA.out (by first | (simp; done) | omega | (simp; omega))).below HbC.out (by first | (simp; done) | omega | (simp; omega))).below HbJ.out (by first | (simp; done) | omega | (simp; omega))) _ _ _).2.1 _ _ _ HOJ.out, (set3 ((((BM.newd w14 0 (.slice none 0 0) (.slice none 0 0)).below HbA.out (by first | (simp; done) | omega | (simp; omega))).below HbC.out (by first | (simp; done) | omega | (simp; omega))).below HbJ.out (by first | (simp; done) | omega | (simp; omega))) _ _ _).2.2 _ _ _ HPJ.out, (by first | (simp; done) | omega | (simp; omega)), b_set3 HBJ.out (by first | (simp; done) | omega | (simp; omega))⟩
  case rest =>
  obtain ⟨gH, NH, FH, cH, dH, rfl, rfl, hM, hO, hP, hge, hb⟩ := hcut
  have RNa_19 := HRNa.out
  have RFa_19 := HRFa.out
  have RNc_19 := HRNc.out
  have RFc_19 := HRFc.out
  have Za_19 := HZa.out
  have Zc_19 := HZc.out
  have WN_19 := HWN.out
  have WF_19 := HWF.out
  have BW_19 := HBW.out
  have GN_19 := HGN.out
  have GF_19 := HGF.out
  have BG_19 := HBG.out
  have T19 := HT.out
  clear HT c00 c01 c02 c10 c11 c12 lt0 lt1 HRNa HRFa HRNc HRFc HZa HZc HWN HWF HBW HGN HGF HBG
  rename World => wx15
  have hb20 : Below w14.heap.size w14 wx15 := hb
  have T20 := b_step T19 hb20
  have sz20 := hb20.size
  have RNa_20 := RNa_19.below (hb20.mono (by omega))
  have RFa_20 := RFa_19.below (hb20.mono (by omega))
  have RNc_20 := RNc_19.below (hb20.mono (by omega))
  have RFc_20 := RFc_19.below (hb20.mono (by omega))
  have Za_20 := Za_19.below hb20 Za_19.lt
  have Zc_20 := Zc_19.below hb20 Zc_19.lt
  have WN_20 := WN_19.below (hb20.mono (by omega))
  have WF_20 := WF_19.below (hb20.mono (by omega))
  have BW_20 := BW_19.below hb20 BW_19.lt
  have GN_20 := GN_19.keep hb20
  have GF_20 := GF_19.keep hb20
  have BG_20 := BG_19.below hb20 BG_19.lt
  clear hb20 T19 RNa_19 RFa_19 RNc_19 RFc_19 Za_19 Zc_19 WN_19 WF_19 BW_19 GN_19 GF_19 BG_19
  clear hb
  have HN_20 := hO.reads
  have HF_20 := hP.reads
  have BH_20 := hM
  clear hO hP hM
  have c00 := BH_20.cell0
  have c01 := BH_20.cell1
  have c02 := BH_20.cell2
  have HBH := Lib.hid BH_20
  clear BH_20
  have c10 := BW_20.cell0
  have c11 := BW_20.cell1
  have c12 := BW_20.cell2
  have HBW := Lib.hid BW_20
  clear BW_20
  go_wp2_with fail
  have BH_20 := HBH.out
  clear HBH c00 c01 c02
  have BW_20 := HBW.out
  clear HBW c10 c11 c12
  refine (eqMachine_same (jB ba bc xa xc ya.length yc.length) _ _ (jX ba bc xa xc ya.length yc.length) (jY ba bc xa xc ya yc q) _ _ _ _ _ _ _ (HN_20.more (by omega)) (WN_20.more (by omega)) (HF_20.more (by omega)) (WF_20.more (by omega)) (by omega) (by omega)).mono ?_
  rintro e w16 ⟨rfl, hb⟩
  have hb21 : Below wx15.heap.size wx15 w16 := hb
  have T21 := b_step T20 hb21
  have sz21 := hb21.size
  have RNa_21 := RNa_20.below (hb21.mono (by omega))
  have RFa_21 := RFa_20.below (hb21.mono (by omega))
  have RNc_21 := RNc_20.below (hb21.mono (by omega))
  have RFc_21 := RFc_20.below (hb21.mono (by omega))
  have Za_21 := Za_20.below hb21 Za_20.lt
  have Zc_21 := Zc_20.below hb21 Zc_20.lt
  have WN_21 := WN_20.below (hb21.mono (by omega))
  have WF_21 := WF_20.below (hb21.mono (by omega))
  have BW_21 := BW_20.below hb21 BW_20.lt
  have GN_21 := GN_20.keep hb21
  have GF_21 := GF_20.keep hb21
  have BG_21 := BG_20.below hb21 BG_20.lt
  have HN_21 := HN_20.below (hb21.mono (by omega))
  have HF_21 := HF_20.below (hb21.mono (by omega))
  have BH_21 := BH_20.below hb21 BH_20.lt
  clear hb21 T20 RNa_20 RFa_20 RNc_20 RFc_20 Za_20 Zc_20 WN_20 WF_20 BW_20 GN_20 GF_20 BG_20 HN_20 HF_20 BH_20
  clear hb
  have c00 := BG_21.cell0
  have c01 := BG_21.cell1
  have c02 := BG_21.cell2
  have HBG := Lib.hid BG_21
  clear BG_21
  go_wp2_with fail
  have BG_21 := HBG.out
  clear HBG c00 c01 c02
  refine (heldMachine_m (jB ba bc xa xc ya.length yc.length) _ _ (jX ba bc xa xc ya.length yc.length).length (jY ba bc xa xc ya yc q).length _ _ (1) _ GN_21.reads GF_21.reads (by omega) (by omega) (by omega)).mono ?_
  rintro e w17 ⟨rfl, hb⟩
  have hb22 : Below w16.heap.size w16 w17 := hb
  have T22 := b_step T21 hb22
  have sz22 := hb22.size
  have RNa_22 := RNa_21.below (hb22.mono (by omega))
  have RFa_22 := RFa_21.below (hb22.mono (by omega))
  have RNc_22 := RNc_21.below (hb22.mono (by omega))
  have RFc_22 := RFc_21.below (hb22.mono (by omega))
  have Za_22 := Za_21.below hb22 Za_21.lt
  have Zc_22 := Zc_21.below hb22 Zc_21.lt
  have WN_22 := WN_21.below (hb22.mono (by omega))
  have WF_22 := WF_21.below (hb22.mono (by omega))
  have BW_22 := BW_21.below hb22 BW_21.lt
  have GN_22 := GN_21.keep hb22
  have GF_22 := GF_21.keep hb22
  have BG_22 := BG_21.below hb22 BG_21.lt
  have HN_22 := HN_21.below (hb22.mono (by omega))
  have HF_22 := HF_21.below (hb22.mono (by omega))
  have BH_22 := BH_21.below hb22 BH_21.lt
  clear hb22 T21 RNa_21 RFa_21 RNc_21 RFc_21 Za_21 Zc_21 WN_21 WF_21 BW_21 GN_21 GF_21 BG_21 HN_21 HF_21 BH_21
  clear hb
  go_wp2
  go_ret
  exact ⟨rfl, T22⟩

set_option maxHeartbeats 1000000 in
theorem walk_FnExactJoinMachines (w : World) (ba : Int) (_ : (Lit.int .i64 ba).wf = true) (Na : Option Addr) (xa : List Int) (ca : Nat) (RNa : RI w w.heap.size Na xa) (_ : ∀ n ∈ xa, (Lit.int .i64 n).wf = true) (hxa : xa.length ≤ 9223372036854775807) (Fa : Option Addr) (ya : List Bool) (da : Nat) (RFa : RB w w.heap.size Fa ya) (hya : ya.length ≤ 9223372036854775807) (bc : Int) (_ : (Lit.int .i64 bc).wf = true) (Nc : Option Addr) (xc : List Int) (cc : Nat) (RNc : RI w w.heap.size Nc xc) (_ : ∀ n ∈ xc, (Lit.int .i64 n).wf = true) (hxc : xc.length ≤ 9223372036854775807) (Fc : Option Addr) (yc : List Bool) (dc : Nat) (RFc : RB w w.heap.size Fc yc) (hyc : yc.length ≤ 9223372036854775807) (q : Bool) :
    Calls Try.prog 7 #[.agg #[.int .i64 ba, .slice Na xa.length ca, .slice Fa ya.length da], .agg #[.int .i64 bc, .slice Nc xc.length cc, .slice Fc yc.length dc], .bool q] w fun e w' => e = .returned (.bool true) ∧ Below w.heap.size w w' := by
  by_cases hla : xa.length + ya.length ≤ 1048576
  · skip
    by_cases hlc : xa.length + ya.length + xc.length + yc.length ≤ 1048576
    · skip
      exact walk_join w ba Na xa ca Fa ya da bc Nc xc cc Fc yc dc q RNa RFa RNc RFc hlc
    · go_enter Try.func7, Try.ntmps7
      go_wp2_with (first | (go_at_call 13; with_reducible refine (szMachine_y ba Na Fa xa.length ya.length _ _ (1048576) _ (by omega) (by omega)).mono ?_; rintro e wa ⟨rfl, hba⟩; obtain ⟨hca, _, _⟩ := bcell hba; have HBa := Lib.hid hba; clear hba) | (go_at_call 13; with_reducible refine (szMachine_n bc Nc Fc xc.length yc.length _ _ ((1048576 - xa.length - ya.length)) _ (by omega) (by omega) (by omega) (by omega) (by omega)).mono ?_; rintro e wc ⟨rfl, hbc⟩; obtain ⟨hcc, _, _⟩ := bcell hbc; have HBc := Lib.hid hbc; clear hbc))
      go_ret
      refine ⟨rfl, ?_⟩
      repeat (first | exact Below.refl _ _ | refine b_alloc ?_ _ | refine b_step ?_ HBc.out | refine b_step ?_ HBa.out)
  · go_enter Try.func7, Try.ntmps7
    go_wp2_with (first | (go_at_call 13; with_reducible refine (szMachine_n ba Na Fa xa.length ya.length _ _ (1048576) _ (by omega) (by omega) (by omega) (by omega) (by omega)).mono ?_; rintro e wa ⟨rfl, hba⟩; obtain ⟨hca, _, _⟩ := bcell hba; have HBa := Lib.hid hba; clear hba))
    go_ret
    refine ⟨rfl, ?_⟩
    repeat (first | exact Below.refl _ _ | refine b_alloc ?_ _ | refine b_step ?_ HBa.out)
end Go.Proofs.Ytoihjapbidbpdaa
