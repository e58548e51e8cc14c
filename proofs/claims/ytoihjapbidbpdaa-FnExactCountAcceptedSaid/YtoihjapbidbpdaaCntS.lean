/- Contract of spec.CountAccepted. Conditions: lengths of at most 2^21. -/
import Derived.Test.YtoihjapbidbpdaaCntI
namespace Go.Proofs.Ytoihjapbidbpdaa
open Go.RowKit
set_option linter.unusedVariables false
set_option maxHeartbeats 2000000 in
theorem spec_count_t (bb kk : Nat) (N F : Option Addr) (xs : List Int) (ys : List Bool) (c d : Nat) (w : World) (hN : RI w w.heap.size N xs) (hF : RB w w.heap.size F ys) (hl : xs.length ≤ 2097152) (hm : ys.length ≤ 2097152) (hmk : mok ((bb : Nat) : Int) xs ys.length = true) (hk : kk ≤ 9) :
    Calls Try.prog 19 #[.agg #[.int .i64 (bb : Nat), .slice N xs.length c, .slice F ys.length d], .int .i64 (kk : Nat)] w fun e w' => e = .returned (.int .i64 (cntK (waysK xs bb ys.length kk) ys ys.length)) ∧ Below w.heap.size w w' := by
  obtain ⟨h1, h2, h3, h4, h5, h6⟩ := mok_iff.1 hmk
  have hx : xs.length = ys.length * bb := by rw [Int.mul_comm] at h5; exact_mod_cast h5
  have hall := allB_iff.1 h6
  have hrange : ∀ s t, s < ys.length → t < bb → s * bb + t < xs.length ∧ ∃ pn : Nat, xs.getD (s * bb + t) 0 = (pn : Int) ∧ pn < ys.length := by
    intro s t hs ht
    have : (s + 1) * bb ≤ ys.length * bb := Nat.mul_le_mul_right _ (by omega)
    rw [Nat.add_mul, Nat.one_mul] at this
    have hlt : s * bb + t < xs.length := by omega
    refine ⟨hlt, ?_⟩
    have := hall (xs.getD (s * bb + t) 0) (by rw [List.getD_eq_getElem?_getD, List.getElem?_eq_getElem hlt]; exact List.getElem_mem hlt)
    exact ⟨(xs.getD (s * bb + t) 0).toNat, by omega, by omega⟩
  have hb10 : bb ≤ 10 := by omega
  have hnn : ys.length ≤ 144 := by omega
  have hn1 : 1 ≤ ys.length := by omega
  have hxl : xs.length ≤ 1440 := by
    have : ys.length * bb ≤ 144 * 10 := Nat.mul_le_mul hnn hb10
    omega
  have HR := Lib.hid hrange
  have HX := Lib.hid hx
  clear hrange hx h1 h2 h3 h4 h5 h6 hall
  have T0 := b_alloc (Below.refl w.heap.size w) (.cells #[.int .i64 ((bb : Nat) : Int), .slice N xs.length c, .slice F ys.length d] 25)
  have M0 := BM.new w ((bb : Nat) : Int) (.slice N xs.length c) (.slice F ys.length d)
  have HM := Lib.hid M0
  have HT := Lib.hid T0
  have HN := Lib.hid hN
  have HF := Lib.hid hF
  clear T0 M0 hN hF
  have hmkr := run_make_row' (P := Try.prog) 22 3 (.int .i64 0) 8 Try.underlying22 info_int rfl .i64 .i64 ys.length (by omega) (by omega)
  have FR : Fill (madeCells #[.int .i64 0] ys.length) 0 ys.length (List.replicate ys.length 0) := by
    intro j hj
    simp [madeCells, hj, Nat.mod_one]
  have f0 : (madeCells #[.int .i64 0] ys.length)[0]? = some (.int .i64 0) := by
    have := FR 0 (by omega)
    simpa [show 0 < ys.length by omega] using this
  go_enter Try.func19, Try.ntmps19
  go_wp2_with (first | (go_at_call 14; refine (spec_mok _ _ _ xs _ _ _ _ ((HN.out.below HT.out).more HT.out.size) (by omega) (by omega)).mono ?_; rintro e w1 ⟨rfl, hb⟩; rw [hmk]; have M1 := HM.out.below hb (by simp); have HT1 := Lib.hid (HT.out.trans (hb.mono HT.out.size)); have hz1 : w.heap.size < w1.heap.size := (by have := hb.size; simp at this; omega); have m0 := M1.cell0; have m1 := M1.cell1; have m2 := M1.cell2; have HM1 := Lib.hid M1; clear hb M1) | (go_at_call 23; refine (s_in_t _ _ _ _ ?_ ?_).mono ?_; omega; omega; rintro e w1 ⟨rfl, rfl⟩) | (go_at_call 23; refine (s_in_f _ _ _ _ ?_).mono ?_; omega; rintro e w1 ⟨rfl, rfl⟩))
  go_loopw [6, 5] (fun i v wr => ∃ (j g : Nat) (cs : Array Value), j ≤ kk ∧ i = .int .i64 j ∧ v = .slice (some ⟨g, 0, none⟩) ys.length ys.length ∧ w.heap.size < g ∧ BI wr g cs ∧ cs.size = ys.length ∧ Fill cs 0 ys.length (waysK xs bb ys.length j) ∧ BM wr w.heap.size ((bb : Nat) : Int) (.slice N xs.length c) (.slice F ys.length d) ∧ Below w.heap.size w wr) (fun i _ _ => kk - (intOf i).toNat)
  case atStart =>
    refine ⟨0, _, (madeCells #[.int .i64 0] ys.length).setIfInBounds 0 (.int .i64 1), Nat.zero_le _, rfl, rfl, ?_, ?_, ?_, ?_, ?_, ?_⟩
    · omega
    · first | exact (BI.new _ _).set_ 0 _ | exact BI.new _ _
    · simp [madeCells]
    · exact FR.put (by omega) (by simp [madeCells]) (by simp) 1
    · first | exact (HM1.out.below (b_alloc (Below.refl _ _) _) (by omega)).setx (by simp; omega) _ | exact HM1.out.below (b_alloc (Below.refl _ _) _) (by omega)
    · first | exact b_set (b_alloc HT1.out _) (by simp; omega) _ | exact b_alloc HT1.out _
  case round =>
    obtain ⟨j, g, cs, hj, rfl, rfl, hg, hB, hS, hFl, hBM, hT⟩ := hrel
    rename World => wa
    clear HM1 HT1 m0 m1 m2 HT HM
    have HB := Lib.hid hB
    have HS := Lib.hid hS
    have HFl := Lib.hid hFl
    have HBM := Lib.hid hBM
    have HT := Lib.hid hT
    have hzT := hT.size
    have hgl := hB.lt
    clear hB hS hFl hBM hT
    by_cases hlt : j < kk
    · go_wp2_with fail
      go_loopw [39] (fun i wr2 => ∃ (s : Nat) (cs2 : Array Value), s ≤ ys.length ∧ i = .int .i64 s ∧ BI wr2 g cs ∧ BI wr2 wa.heap.size cs2 ∧ cs2.size = ys.length ∧ Fill cs2 0 ys.length (stepW xs bb ys.length (waysK xs bb ys.length j) s) ∧ BM wr2 w.heap.size ((bb : Nat) : Int) (.slice N xs.length c) (.slice F ys.length d) ∧ Below w.heap.size w wr2) (fun i _ => ys.length - (intOf i).toNat)
      case atStart =>
        exact ⟨0, _, Nat.zero_le _, rfl, HB.out.below (b_alloc (Below.refl _ _) _) hgl, BI.new _ _, by simp [madeCells], FR, HBM.out.below (b_alloc (Below.refl _ _) _) HBM.out.lt, b_alloc HT.out _⟩
      case round =>
        obtain ⟨s, cs2, hs', rfl, h1, h2, h3, h4, h5, h6⟩ := hrel
        rename World => wb
        have H1 := Lib.hid h1
        have H2 := Lib.hid h2
        have HS2 := Lib.hid h3
        have HF2 := Lib.hid h4
        clear HBM HT hzT
        have HBM := Lib.hid h5
        have HT := Lib.hid h6
        have hzT := h6.size
        clear h1 h2 h3 h4 h5 h6
        by_cases hs : s < ys.length
        · obtain ⟨q, hq⟩ : ∃ q, q = (waysK xs bb ys.length j).getD s 0 := ⟨_, rfl⟩
          have c1 : wb.cell? ⟨g, s, none⟩ = some (.int .i64 q) := by rw [H1.out.cell, hq]; simpa using HFl.out s hs
          have m0 := HBM.out.cell0
          have HQv := Lib.hid hq
          clear hq
          go_wp2_with fail
          clear c1 m0
          go_loopw [10] (fun i wr3 => ∃ (t : Nat) (cs3 : Array Value), t ≤ bb ∧ i = .int .i64 t ∧ BI wr3 g cs ∧ BI wr3 wa.heap.size cs3 ∧ cs3.size = ys.length ∧ Fill cs3 0 ys.length (rowW xs (waysK xs bb ys.length j) bb s (stepW xs bb ys.length (waysK xs bb ys.length j) s) t) ∧ BM wr3 w.heap.size ((bb : Nat) : Int) (.slice N xs.length c) (.slice F ys.length d) ∧ Below w.heap.size w wr3) (fun i _ => bb - (intOf i).toNat)
          case atStart => exact ⟨0, _, Nat.zero_le _, rfl, H1.out, H2.out, HS2.out, HF2.out, HBM.out, HT.out⟩
          case round =>
            obtain ⟨t, cs3, ht', rfl, h1, h2, h3, h4, h5, h6⟩ := hrel
            rename World => wc
            have HNE := Lib.hid (show wa.heap.size ≠ g by omega)
            have HG := Lib.hid (show w.heap.size < wa.heap.size by omega)
            clear H1 H2 HS2 HBM HT hzT
            have H1 := Lib.hid h1
            have H3 := Lib.hid h2
            have HS3 := Lib.hid h3
            have HF3 := Lib.hid h4
            have HBM := Lib.hid h5
            have HT := Lib.hid h6
            have hzT := h6.size
            clear h1 h2 h3 h4 h5 h6
            by_cases ht : t < bb
            · obtain ⟨hlt2, pn, hpe, hpn⟩ := HR.out s t hs ht
              have HLT := Lib.hid hlt2
              obtain ⟨p, hp⟩ : ∃ p, p = xs.getD (s * bb + t) 0 := ⟨_, rfl⟩
              have HPv := Lib.hid hp
              rw [← hp] at hpe
              have HPn := Lib.hid hpe
              subst hpe
              clear hp hlt2
              obtain ⟨y, hy⟩ : ∃ y, y = (rowW xs (waysK xs bb ys.length j) bb s (stepW xs bb ys.length (waysK xs bb ys.length j) s) t).getD pn 0 := ⟨_, rfl⟩
              have HC := Lib.hid (show cs3[pn]? = some (.int .i64 y) by rw [hy]; simpa using HF3.out pn hpn)
              have HY := Lib.hid hy
              clear hy
              obtain ⟨z, hz⟩ : ∃ z, IntKind.i64.wrap (y + q) = z := ⟨_, rfl⟩
              have HZ := Lib.hid hz
              obtain ⟨gN, offN, hA, hbN, hcN⟩ := (HN.out.below HT.out).at_ HLT.out
              subst hA
              rw [← HPv.out] at hcN
              have e1 : (s : Int) * (bb : Int) = ((s * bb : Nat) : Int) := (Int.natCast_mul s bb).symm
              have hq1 := HLT.out
              obtain ⟨q1, hq1'⟩ : ∃ q1, q1 = s * bb := ⟨_, rfl⟩
              rw [← hq1'] at e1 hq1 hcN
              clear hq1'
              have c3 := (H3.out.cell pn).trans HC.out
              have f3 := H3.out.frozen pn
              have m0 := HBM.out.cell0
              have m1 := HBM.out.cell1
              go_wp2_with fail
              go_roundw
              case rel => exact ⟨t + 1, _, by omega, by go_num, H1.out.setg HNE.out pn _, H3.out.set_ pn _, by simp [HS3.out], by rw [rowW, ← HPv.out, Int.toNat_natCast, addAt, ← HQv.out, ← HY.out, HZ.out]; exact HF3.out.put hpn HS3.out (by rw [len_rowW, len_stepW]) _, HBM.out.setx (by have := HG.out; simp; omega) _, b_set HT.out (by have := HG.out; simp; omega) _⟩
              case measure => simp [intOf]; omega
            · obtain rfl : t = bb := by omega
              have m0 := HBM.out.cell0
              go_wp2_with fail
              go_roundw
              case rel => exact ⟨s + 1, _, by omega, by go_num, H1.out, H3.out, HS3.out, by rw [stepW]; exact HF3.out, HBM.out, HT.out⟩
              case measure => simp [intOf]; omega
        · obtain rfl : s = ys.length := by omega
          go_wp2_with fail
          go_roundw
          case rel => exact ⟨j + 1, wa.heap.size, _, by omega, by go_num, rfl, by omega, H2.out, HS2.out, by rw [waysK]; exact HF2.out, HBM.out, HT.out⟩
          case measure => simp [intOf]; omega
    · obtain rfl : j = kk := by omega
      go_wp2_with fail
      go_loopw [73, 12] (fun i v wr2 => ∃ (s : Nat), s ≤ ys.length ∧ i = .int .i64 s ∧ v = .int .i64 (cntK (waysK xs bb ys.length j) ys s) ∧ wr2 = wa) (fun i _ _ => ys.length - (intOf i).toNat)
      case atStart => exact ⟨0, Nat.zero_le _, rfl, rfl, rfl⟩
      case round =>
        obtain ⟨s, hs', rfl, rfl, rfl⟩ := hrel
        rename World => wa
        by_cases hs : s < ys.length
        · obtain ⟨q, hq⟩ : ∃ q, q = (waysK xs bb ys.length j).getD s 0 := ⟨_, rfl⟩
          have c1 : wa.cell? ⟨g, s, none⟩ = some (.int .i64 q) := by rw [HB.out.cell, hq]; simpa using HFl.out s hs
          have m2 := HBM.out.cell2
          obtain ⟨gF, offF, hA, hbF, hcF⟩ := (HF.out.below HT.out).at_ hs
          subst hA
          obtain ⟨f, hf⟩ : ∃ f, f = ys.getD s false := ⟨_, rfl⟩
          rw [← hf] at hcF
          obtain ⟨a, ha⟩ : ∃ a, a = cntK (waysK xs bb ys.length j) ys s := ⟨_, rfl⟩
          rw [← ha]
          obtain ⟨z, hz⟩ : ∃ z, IntKind.i64.wrap (a + q) = z := ⟨_, rfl⟩
          have HQv := Lib.hid hq
          have HFv := Lib.hid hf
          have HA := Lib.hid ha
          have HZ := Lib.hid hz
          clear hq hf ha
          cases f
          · go_wp2_with fail
            go_roundw
            case rel => exact ⟨s + 1, by omega, by go_num, by rw [cntK, ← HFv.out, HA.out]; rfl, by first | rfl | trivial⟩
            case measure => simp [intOf]; omega
          · go_wp2_with fail
            go_roundw
            case rel => exact ⟨s + 1, by omega, by go_num, by rw [cntK, ← HFv.out, ← HA.out, ← HQv.out, HZ.out]; rfl, by first | rfl | trivial⟩
            case measure => simp [intOf]; omega
        · obtain rfl : s = ys.length := by omega
          go_wp2
          go_ret
          exact ⟨rfl, HT.out⟩

set_option maxHeartbeats 1000000 in
theorem spec_count (b : Int) (N F : Option Addr) (xs : List Int) (ys : List Bool) (c d : Nat) (k : Int) (w : World) (hN : RI w w.heap.size N xs) (hF : RB w w.heap.size F ys) (hl : xs.length ≤ 2097152) (hm : ys.length ≤ 2097152) :
    Calls Try.prog 19 #[.agg #[.int .i64 b, .slice N xs.length c, .slice F ys.length d], .int .i64 k] w fun e w' => e = .returned (.int .i64 (countR b xs ys k)) ∧ Below w.heap.size w w' := by
  by_cases hg : mok b xs ys.length = true ∧ 0 ≤ k ∧ k ≤ 9
  · rw [countR_t hg]
    obtain ⟨hmk, hk0, hk9⟩ := hg
    have h1 := (mok_iff.1 hmk).1
    obtain ⟨bb, rfl⟩ := Int.eq_ofNat_of_zero_le (show 0 ≤ b by omega)
    obtain ⟨kk, rfl⟩ := Int.eq_ofNat_of_zero_le hk0
    exact spec_count_t bb kk N F xs ys c d w hN hF hl hm hmk (by omega)
  · rw [countR_f hg]
    have T0 := b_alloc (Below.refl w.heap.size w) (.cells #[.int .i64 b, .slice N xs.length c, .slice F ys.length d] 25)
    have M0 := BM.new w b (.slice N xs.length c) (.slice F ys.length d)
    have HM := Lib.hid M0
    have HT := Lib.hid T0
    have HN := Lib.hid hN
    have HF := Lib.hid hF
    clear T0 M0 hN hF
    by_cases hmk : mok b xs ys.length = true
    · have hk : k < 0 ∨ 9 < k := by
        by_cases h0 : k < 0
        · exact .inl h0
        · exact .inr (by by_cases h9 : 9 < k; exact h9; exact absurd ⟨hmk, by omega, by omega⟩ hg)
      clear hg
      go_enter Try.func19, Try.ntmps19
      go_wp2_with (first | (go_at_call 14; refine (spec_mok _ _ _ xs _ _ _ _ ((HN.out.below HT.out).more HT.out.size) (by omega) (by omega)).mono ?_; rintro e w1 ⟨rfl, hb⟩; rw [hmk]; have M1 := HM.out.below hb (by simp); have HT1 := Lib.hid (HT.out.trans (hb.mono HT.out.size)); have hz1 : w.heap.size < w1.heap.size := (by have := hb.size; simp at this; omega); have m0 := M1.cell0; have m1 := M1.cell1; have m2 := M1.cell2; have HM1 := Lib.hid M1; clear hb M1) | (go_at_call 23; refine (s_in_t _ _ _ _ ?_ ?_).mono ?_; omega; omega; rintro e w1 ⟨rfl, rfl⟩) | (go_at_call 23; refine (s_in_f _ _ _ _ ?_).mono ?_; omega; rintro e w1 ⟨rfl, rfl⟩))
      go_ret
      exact ⟨rfl, HT1.out⟩
    · have hmk : mok b xs ys.length = false := by simpa using hmk
      clear hg
      go_enter Try.func19, Try.ntmps19
      go_wp2_with (first | (go_at_call 14; refine (spec_mok _ _ _ xs _ _ _ _ ((HN.out.below HT.out).more HT.out.size) (by omega) (by omega)).mono ?_; rintro e w1 ⟨rfl, hb⟩; rw [hmk]; have M1 := HM.out.below hb (by simp); have HT1 := Lib.hid (HT.out.trans (hb.mono HT.out.size)); have hz1 : w.heap.size < w1.heap.size := (by have := hb.size; simp at this; omega); have m0 := M1.cell0; have m1 := M1.cell1; have m2 := M1.cell2; have HM1 := Lib.hid M1; clear hb M1) | (go_at_call 23; refine (s_in_t _ _ _ _ ?_ ?_).mono ?_; omega; omega; rintro e w1 ⟨rfl, rfl⟩) | (go_at_call 23; refine (s_in_f _ _ _ _ ?_).mono ?_; omega; rintro e w1 ⟨rfl, rfl⟩))
      go_ret
      exact ⟨rfl, HT1.out⟩
end Go.Proofs.Ytoihjapbidbpdaa
