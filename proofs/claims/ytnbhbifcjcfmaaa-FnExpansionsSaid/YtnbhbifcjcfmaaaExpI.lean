/- Contract of impl.ExpansionOf. Conditions: none. -/
import Derived.Test.YtnbhbifcjcfmaaaExpR
import Derived.Test.YtnbhbifcjcfmaaaExpMap
import Derived.Test.YtnbhbifcjcfmaaaClone
import Derived.Maps.OwnSet
import Derived.Maps.OwnOps
import Derived.Deep.LoopGhost
import Derived.WalkArith
import Derived.Outline
import Derived.Deep.RegionWith
namespace Go.Proofs.Ytnbhbifcjcfmaaa
open Go.RowKit Go.Maps
set_option linter.unusedVariables false

set_option maxHeartbeats 4000000 in
theorem i_expC (p0 q b : Int) (w : World) :
    Calls Try.prog 13 #[.int .i64 p0, .int .i64 q, .int .i64 b] w (Ret2c w (exPre p0 q b) (exPer p0 q b) (exB p0 q b)) := by
  obtain ⟨i0, hi, hz0, hz1, hz2⟩ := info_parts info_int
  have hmm := @run_makeMap Try.prog
  cases hf : frB p0 q
  · have HF := Lib.hid hf
    have HX := Lib.hid (show exB p0 q b = false by rw [exB_and, hf]; rfl)
    clear hf
    go_enter Try.func13, Try.ntmps13
    go_wp2_with fail
    refine (i_frac p0 q _).mono ?_
    rw [HF.out]
    rintro e w1 ⟨rfl, rfl⟩
    go_wp2
    go_ret3
    rw [exPre_f HX.out, exPer_f HX.out, HX.out]
    exact Ret2c.nil _ _ (Below.refl _ _)
  · have HF := Lib.hid hf
    cases hb : baseB b
    · have HB := Lib.hid hb
      have HX := Lib.hid (show exB p0 q b = false by rw [exB_and, hb, Bool.and_false])
      clear hf hb
      go_enter Try.func13, Try.ntmps13
      go_wp2_with fail
      refine (i_frac p0 q _).mono ?_
      rw [HF.out]
      rintro e w1 ⟨rfl, rfl⟩
      go_wp2_with fail
      refine (i_base b _).mono ?_
      rw [HB.out]
      rintro e w1 ⟨rfl, rfl⟩
      go_wp2
      go_ret3
      rw [exPre_f HX.out, exPer_f HX.out, HX.out]
      exact Ret2c.nil _ _ (Below.refl _ _)
    · have HB := Lib.hid hb
      have hx : exB p0 q b = true := by rw [exB_and, hf, hb]; rfl
      have HX := Lib.hid hx
      obtain ⟨q1, q2, p1, p2, b1, b2⟩ := exB_iff.1 hx
      have HBD := Lib.hid (fun k => rst_bd (b := b) (q := q) (p := p0) (by omega) p1 (by omega) k)
      have HLE := Lib.hid (fun n (h : Dist b q p0 n) => h.le (by omega) p1 (by omega))
      clear hf hb hx
      go_enter Try.func13, Try.ntmps13
      go_wp2_with fail
      refine (i_frac p0 q _).mono ?_
      rw [HF.out]
      rintro e w1 ⟨rfl, rfl⟩
      go_wp2_with fail
      refine (i_base b _).mono ?_
      rw [HB.out]
      rintro e w1 ⟨rfl, rfl⟩
      go_wp2
      go_loopg [0, 10] (q.toNat + 1) (fun gk s v wr => ∃ (n : Nat) (D : DataW Unit), s = .int .i64 (rst b q p0 n) ∧ n + gk = q.toNat + 1 ∧ Hid (Dist b q p0 n) ∧ Row wr (w.heap.size + 1) v (dgl b q p0 n) ∧ wr.ownsMap Try.prog 3 (plainElem Try.prog 3) w.heap.size n D ∧ Hid (MapOf D b q p0 n) ∧ Below w.heap.size w wr)
      case atStart => exact ⟨0, .map [], rfl, by omega, Dist.zero _ _ _, Row.nil _ _, World.ownsMap_made _ _ _ _, MapOf.empty _ _ _, b_alloc (Below.refl _ _) _⟩
      case round =>
        obtain ⟨n, D, rfl, hgk, hDi, hO, hM, hMO, hW⟩ := hrel
        obtain ⟨r0, r1⟩ := HBD.out n
        have hnq := HLE.out n hDi.out
        obtain ⟨r, hr⟩ : ∃ r, r = rst b q p0 n := ⟨_, rfl⟩
        rw [← hr] at r0 r1
        rw [← hr]
        have hw0 := hW.size
        have HW := Lib.hid hW
        have HO := Lib.hid hO
        have hkey : keyOf Try.prog 3 (.int .i64 r) = some (.int .i64 r) := keyOf_int_mk Try.underlying3 (WalkArith.wf_i64 (by omega))
        have HK := Lib.hid hkey
        have HM := Lib.hid hM
        have HGK := Lib.hid hgk
        have ln := length_dgl b q p0 n
        have HLN := Lib.hid ln
        clear hW hO hkey hM hgk ln
        by_cases hrep : ∃ f, f < n ∧ rst b q p0 f = r
        · obtain ⟨f, hfn, hfr⟩ := hrep
          have hat := hMO.out.1 f hfn
          rw [hfr] at hat
          have HAT := Lib.hid hat
          have HREP := Lib.hid (show Rep b q p0 f n from ⟨hfn, hr.symm.trans hfr.symm, hDi.out⟩)
          have HFR := Lib.hid (hfr.trans hr |>.trans (show rst b q p0 n = r from hr.symm))
          clear hr hfr hat hMO hDi
          obtain ⟨Ad, cd, hsh, hOI, hlt, hc1, hc2, hc0⟩ := HO.out.own
          have hR := hOI.reads
          rw [HLN.out] at hsh hc1
          subst hsh
          have HOI := Lib.hid hOI
          have HLT := Lib.hid hlt
          have HR := Lib.hid hR
          have HC0 := Lib.hid hc0
          clear hOI hlt hR hc0 HO
          have hfq : f ≤ 1000 := by omega
          obtain ⟨g, off, hA, hg0, _⟩ := HR.out.at_ (k := f) (by rw [HLN.out]; exact hfn)
          subst hA
          have HRT := Lib.hid (show RI wr wr.heap.size (some ⟨g, off, none⟩) (dgl b q p0 f) by have := HR.out.take f; rwa [take_dgl (by omega)] at this)
          have HRD := Lib.hid (show RI wr.drew wr.drew.heap.size (some ⟨g, off + f, none⟩) ((dgl b q p0 n).drop f) from HR.out.drop f)
          have hfc : f < cd := by omega
          have hcd := hc2
          unfold maxLen at hcd
          clear hc2 hg0
          by_cases hz : r = 0
          · have HL := Lib.hid (show preN b q p0 = f ∧ perN b q p0 = 0 by have := HREP.out.lens; rw [HFR.out, if_pos hz] at this; exact this)
            have hz2 : (r == 0) = true := by simp [hz]
            subst hz
            go_wp2_with (first | (at_lookup; refine wpList_lookup_own_ok_int _ rfl _ _ 45 rfl 3 3 .i64 law3 Try.underlying45 Try.underlying3 (zero3 _) w.heap.size n D rfl HM.out _ _ rfl HK.out ?_; intro c hatc hwc; obtain rfl : c = (f : Int) := (at_inj (hatc.symm.trans HAT.out.1)); rw [HAT.out.2]; clear hatc hwc))
            refine (i_cloneR _ (dgl b q p0 f) f _ _ (length_dgl _ _ _ _) HRT.out (by rw [length_dgl]; omega)).mono ?_
            rintro e w1 ⟨v1, rfl, hO1, hb1⟩
            have HW1 := Lib.hid (b_step HW.out hb1)
            obtain ⟨A1, cc1, hv1, hOI1, hlt1, _⟩ := hO1.own
            subst hv1
            have HO1 := Lib.hid hOI1
            have HLT1 := Lib.hid hlt1
            clear hO1 hb1 hOI1 hlt1
            go_wp2
            go_ret3
            rw [exPre_t HX.out, exPer_t HX.out, HX.out]
            have e1 : preL b q p0 = dgl b q p0 f := by unfold preL; rw [HL.out.1]
            have e2 : perL b q p0 = [] := List.eq_nil_of_length_eq_zero (by rw [length_perL, HL.out.2])
            rw [e1, e2]
            exact ⟨A1, cc1, none, 0, w1.heap.size, rfl, HO1.out.more hw0, HLT1.out, .inl rfl, HW1.out.size, Nat.le_refl _, HW1.out, Nat.le_refl _, by unfold maxLen; omega⟩
          · have HL := Lib.hid (show preN b q p0 = f ∧ perN b q p0 = n - f by have := HREP.out.lens; rw [HFR.out, if_neg hz] at this; exact this)
            have hz2 : (r == 0) = false := by simp [hz]
            clear hz
            go_wp2_with (first | (at_lookup; refine wpList_lookup_own_ok_int _ rfl _ _ 45 rfl 3 3 .i64 law3 Try.underlying45 Try.underlying3 (zero3 _) w.heap.size n D rfl HM.out _ _ rfl HK.out ?_; intro c hatc hwc; obtain rfl : c = (f : Int) := (at_inj (hatc.symm.trans HAT.out.1)); rw [HAT.out.2]; clear hatc hwc))
            have hldf : (dgl b q p0 f).length = f := length_dgl _ _ _ _
            have hldr : ((dgl b q p0 n).drop f).length = n - f := by rw [List.length_drop, length_dgl]
            have HL1 := Lib.hid hldf
            have HL2 := Lib.hid hldr
            have HL3 := Lib.hid (show ((dgl b q p0 n).drop f).length ≤ 4294967296 by rw [hldr]; omega)
            have HC1 := Lib.hid (i_cloneR (some ⟨g, off, none⟩) (dgl b q p0 f) f cd wr.drew hldf HRT.out (by rw [hldf]; omega))
            clear hldf hldr
            have HL4 := Lib.hid (show preL b q p0 = dgl b q p0 f ∧ perL b q p0 = (dgl b q p0 n).drop f by
              refine ⟨by unfold preL; rw [HL.out.1], ?_⟩
              unfold perL; rw [HL.out.1, HL.out.2, show f + (n - f) = n by omega])
            go_region_with (first | (go_at_call 40; have t1 := HC1.out; (with_reducible refine t1.mono ?_); clear t1; rintro e w1 ⟨v1, rfl, hO1, hb1⟩; have HO1 := Lib.hid hO1; have HB1 := Lib.hid hb1; clear hO1 hb1) | (go_at_call 40; have t1 := i_cloneR (some ⟨g, off + f, none⟩) ((dgl b q p0 n).drop f) (n - f) (cd - f) w1 HL2.out ((HRD.out.below HB1.out).more HB1.out.size) HL3.out; (with_reducible refine t1.mono ?_); clear t1; rintro e w2 ⟨v2, rfl, hO2, hb2⟩; have HO2 := Lib.hid hO2; have HB2 := Lib.hid hb2; clear hO2 hb2))
            all_goals
              go_wp2
              go_ret3
              rw [exPre_t HX.out, exPer_t HX.out, HX.out, HL4.out.1, HL4.out.2]
              exact Ret2c.of (b_drew HW.out) HO1.out HB1.out HO2.out HB2.out
        · have HNR := Lib.hid (fun j (hj : j < n) (e : rst b q p0 j = r) => hrep ⟨j, hj, e⟩)
          have HHAS := Lib.hid (hMO.out.2 r fun i hi e => hrep ⟨i, hi, e⟩)
          have HMO1 := Lib.hid (show MapOf (D.put (.int .i64 r) (.lit (.int .i64 (n : Int)))) b q p0 (n + 1) by
            have := hMO.out.put HM.out.isMap (law3_key _) (fun j hj e => hrep ⟨j, hj, e.trans hr.symm⟩)
            rwa [← hr] at this)
          have HDI1 := Lib.hid (hDi.out.succ fun j hj e => hrep ⟨j, hj, e.trans hr.symm⟩)
          have HRS := Lib.hid (show rst b q p0 (n + 1) = r * b % q by rw [rst_succ, ← hr])
          have HDS := Lib.hid (show dgl b q p0 (n + 1) = dgl b q p0 n ++ [r * b / q] by rw [dgl_succ, ← hr])
          obtain ⟨Ad, cd, hsh, _⟩ := HO.out.own
          have hll := HLN.out
          have m0 : 0 ≤ r * b := Int.mul_nonneg r0 (by omega)
          have m1 : r * b ≤ 1000 * 16 := Int.mul_le_mul (by omega) (by omega) (by omega) (by omega)
          have d0 : 0 ≤ r * b / q := Int.ediv_nonneg m0 (by omega)
          clear hr hrep hMO hDi
          rw [hll] at hsh
          subst hsh
          have hO := HO.out
          have hln : n ≤ 1000 := by omega
          have hle : (dgl b q p0 n).length ≤ 1000 := by rw [hll]; exact hln
          clear hll
          go_wp2_with (first | (at_lookup; refine wpList_lookup_own_ok_int _ rfl _ _ 45 rfl 3 3 .i64 law3 Try.underlying45 Try.underlying3 (zero3 _) w.heap.size n D rfl HM.out _ _ rfl HK.out ?_; intro c hatc hwc; rw [HHAS.out]; clear hatc hwc) | (at_mapUpdate; refine wpList_mapUpdate_own _ rfl _ _ _ 45 rfl 3 3 law3 Try.underlying45 _ w.heap.size n _ rfl HM.out (by unfold maxLen; omega) _ _ _ rfl rfl HK.out _ [] (plainElem_int Try.underlying3 (WalkArith.wf_i64 (by omega))) ?_; intro wm hown1 hgrow1; have hO1 := Row.kept hO hgrow1 (Nat.lt_succ_self _); have HMM := Lib.hid (And.intro (hown1.alloc (.cells #[.int .i64 (r * b / q)] 3)) True.intro); have HW1 := Lib.hid (HW.out.grown hgrow1 HW.out.size (fun j hj => by injection hj with hj; subst hj; exact Nat.le_refl _)); have hwm := HW1.out.size; clear hown1 hgrow1) | (at_builtin; refine wpList_append_own _ rfl _ _ 24 rfl (w.heap.size + 1) 3 i0 (.int .i64 0) 1 8 Try.underlying24 hi hz0 hz1 hz2 rfl (by decide) _ _ _ rfl (World.ownsRow.alloc hO1 _) ⟨wm.heap.size, 0, none⟩ 1 1 [.int .i64 (r * b / q)] rfl rfl (cell_one_new _ _ _) ?c1_1 ?c1_2 ?c1_3 ?c1_4 ?_))
          case c1_1 => first | rfl | (intro u hu; simp at hu; subst hu; rfl)
          case c1_2 => unfold maxLen; omega
          case c1_3 => omega
          case c1_4 => first | omega | (simp; omega)
          intro v1 w2 hown1 hgrow1 _
          have HO2 := Lib.hid (Row.app hown1)
          have HM2 := Lib.hid (HMM.out.1.kept hgrow1 (fun e => by have := (World.ownsRow.lt hO1 w.heap.size e.symm).1; omega))
          have HW2 := Lib.hid ((b_alloc HW1.out _).grown hgrow1 (b_alloc HW1.out _).size fun k hk => Nat.le_of_succ_le (World.ownsRow.lt hO1 k hk).1)
          clear hown1 hgrow1 hO1 hO HO HW HM
          go_wp2
          go_roundg (gk - 1)
          case measure => have := HGK.out; omega
          case rel => exact ⟨n + 1, _, by rw [HRS.out], by have := HGK.out; omega, HDI1.out, by rw [HDS.out]; exact HO2.out, HM2.out, HMO1.out, HW2.out⟩
theorem i_exp (p0 q b : Int) (w : World) :
    Calls Try.prog 13 #[.int .i64 p0, .int .i64 q, .int .i64 b] w (Ret2 w (exPre p0 q b) (exPer p0 q b) (exB p0 q b)) := (i_expC p0 q b w).mono fun _ _ h => h.plain
end Go.Proofs.Ytnbhbifcjcfmaaa
