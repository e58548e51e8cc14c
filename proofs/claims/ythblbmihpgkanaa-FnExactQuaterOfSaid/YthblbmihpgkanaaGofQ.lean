/- Contract of QuaterOf (reference). Conditions: lengths of at most 2^20. -/
import Derived.Test.YthblbmihpgkanaaGofT
import Derived.Deep.LoopGhost
import Derived.Outline
import Derived.RegionTactic
import Derived.StillTailTactics
namespace Go.Proofs.Ythblbmihpgkanaa
open Go.RowKit
set_option linter.unusedVariables false

set_option maxHeartbeats 4000000 in
theorem s_QuaterOf (A : Option Addr) (xs : List Int) (c : Nat) (w : World) (hR : RI w w.heap.size A xs) (hlx : xs.length ≤ 1048576) :
    Calls Try.prog 37 #[.slice A xs.length c] w (GoR 3 0 2 xs w) := by
  by_cases h40 : xs.length ≤ 40
  · rcases Nat.eq_zero_or_pos xs.length with h0 | hp
    · have HEND := Lib.hid (show endsP xs from .inl (List.eq_nil_of_length_eq_zero h0))
      have HR0 := Lib.hid hR
      have hz0 : decide ((0 : Int) < xs.length) = false := decide_eq_false (by omega)
      have hl0 : xs.length ≤ 0 := by omega
      clear hR h0
      go_enter Try.func37, Try.ntmps37
      go_wp2_with fail
      refine (s_turn _ xs c _ ((HR0.out.below (b_alloc (b_alloc (Below.refl w.heap.size w) (.cells #[.int .i64 0, .int .i64 0] 25)) (.cells #[.int .i64 0, .int .i64 0] 25))).more (by simp; omega)) (by omega)).mono ?_
      rintro e w1 ⟨A2, c2, rfl, hO, hb1⟩
      have K0a := (BG.new0 w).alloc (.cells #[.int .i64 0, .int .i64 0] 25)
      have K0 := K0a.below hb1 K0a.lt
      have K1a := BG.new_at (w.alloc (.cells #[.int .i64 0, .int .i64 0] 25)) (w.heap.size + 1) (by simp) 0 0
      have K1 := K1a.below hb1 K1a.lt
      have HT1 := Lib.hid (b_step (b_alloc (b_alloc (Below.refl _ _) _) _) hb1)
      have hO1 := hO.more1 (B := w.heap.size + 2) (by simp)
      have HO1 := Lib.hid hO1
      have HK0 := Lib.hid K0
      have HK1 := Lib.hid K1
      have hlr : xs.reverse.length = xs.length := List.length_reverse
      clear hb1 hO K0a K0 K1a K1 hO1
      rw [hlr]
      clear hlr
      go_wp2
      go_loopw [29] (fun i wr => ∃ j : Nat, j ≤ xs.length ∧ i = .int .i64 j ∧ BG wr w.heap.size 0 0 ∧ BG wr (w.heap.size + 1) (gv 0 2 (xs.drop (xs.length - j))).1 (gv 0 2 (xs.drop (xs.length - j))).2 ∧ OI wr (w.heap.size + 2) A2 xs.reverse ∧ Hid (∀ i, xs.length - j ≤ i → i < xs.length → 0 ≤ xs.getD i 0 ∧ xs.getD i 0 ≤ 3) ∧ gB (gv 0 2 (xs.drop (xs.length - j))) j ∧ Below w.heap.size w wr) (fun i _ => xs.length - (intOf i).toNat)
      case atStart => exact ⟨0, Nat.zero_le _, rfl, HK0.out, by rw [Nat.sub_zero, List.drop_of_length_le (Nat.le_refl _)]; exact HK1.out, HO1.out, fun i h1 h2 => by omega, by rw [Nat.sub_zero, List.drop_of_length_le (Nat.le_refl _)]; exact gB_zero _, HT1.out⟩
      case round =>
        obtain ⟨j, hj, rfl, hK0, hK1, hOI, hAll, hGB, hW⟩ := hrel
        have HK0 := Lib.hid hK0
        have HW := Lib.hid hW
        have HOI := Lib.hid hOI
        clear hK0 hW hOI
        by_cases hlt : j < xs.length
        · exact absurd hlt (by omega)
        · obtain rfl : j = xs.length := by omega
          rw [Nat.sub_self, List.drop_zero] at hK1 hGB
          have HEP := Lib.hid (show EndP 3 xs from ⟨h40, HEND.out, allB_of fun i hi => hAll.out i (by omega) hi⟩)
          obtain ⟨z, hz⟩ : ∃ z, z = gv 0 2 xs := ⟨_, rfl⟩
          rw [← hz] at hK1 hGB
          have HZ := Lib.hid hz
          obtain ⟨X, Y⟩ := z
          dsimp only at hK1
          have c0 := hK1.cell0
          have c1 := hK1.cell1
          have fz1 := hK1.frozen
          have lt1 := hK1.lt
          have HK1 := Lib.hid hK1
          clear hz hK1 hGB hAll
          by_cases hg : gok X Y
          · have HP := Lib.hid (show GoP 3 0 2 xs from ⟨HEP.out, by rw [← HZ.out]; exact hg⟩)
            obtain ⟨h1, h2, h3, h4⟩ := hg
            go_wp2_with fail
            refine (spec_gok_ok X Y _ h1 h2 h3 h4).mono ?_
            rintro e w3 ⟨rfl, d1, rfl⟩
            have L1 := HK1.out.alloc (.cells d1 25)
            have L0 := HK0.out.alloc (.cells d1 25)
            clear c0 c1 fz1 lt1
            have c0 := L1.cell0
            have c1 := L1.cell1
            have r0 := L0.cell0
            have r1 := L0.cell1
            have fz0 := L0.frozen
            have lt0 := L0.lt
            have e0 := ((L0.set0 X).set1 Y).cell0
            have e1 := ((L0.set0 X).set1 Y).cell1
            have HXX := Lib.hid (show (gv 0 2 xs).1 = X by rw [← HZ.out])
            have HYY := Lib.hid (show (gv 0 2 xs).2 = Y by rw [← HZ.out])
            clear L1 L0
            go_wp2
            refine bodyPost_ret (v := .tuple #[.agg #[.int .i64 X, .int .i64 Y], .bool true]) (by simp [results, Try.results37, go_sem, e0, e1]) rfl ?_
            have hh := GoR.yes HP.out (w := w) (b_set (b_set (b_alloc HW.out (.cells d1 25)) (p := ⟨w.heap.size, 0, none⟩) (Nat.le_refl _) (.int .i64 X)) (p := ⟨w.heap.size, 1, none⟩) (Nat.le_refl _) (.int .i64 Y))
            rw [HXX.out, HYY.out] at hh
            exact hh
          · have HNO := Lib.hid (show ¬ GoP 3 0 2 xs from fun hh => hg (by have := hh.2; rw [← HZ.out] at this; exact this))
            have HG := Lib.hid hg
            clear hg
            go_wp2_with fail
            refine (spec_gok_bad X Y _ HG.out).mono ?_
            rintro e w3 ⟨rfl, d1, rfl⟩
            have L0 := HK0.out.alloc (.cells d1 25)
            clear c0 c1 fz1 lt1
            have r0 := L0.cell0
            have r1 := L0.cell1
            have fz0 := L0.frozen
            have lt0 := L0.lt
            have e0 := ((L0.set0 0).set1 0).cell0
            have e1 := ((L0.set0 0).set1 0).cell1
            clear L0
            go_wp2
            exact bodyPost_ret (v := .tuple #[.agg #[.int .i64 0, .int .i64 0], .bool false]) (by simp [results, Try.results37, go_sem, e0, e1]) rfl (GoR.no HNO.out (b_set (b_set (b_alloc HW.out _) (Nat.le_refl _) _) (Nat.le_refl _) _))
    · obtain ⟨b, off, hA, hb, hcl⟩ := hR.at_ (k := xs.length - 1) (by omega)
      subst hA
      obtain ⟨dl, hdl⟩ : ∃ d, d = xs.getD (xs.length - 1) 0 := ⟨_, rfl⟩
      rw [← hdl] at hcl
      have ee : ((xs.length - 1 : Nat) : Int) = (xs.length : Int) - 1 := by omega
      have HR0 := Lib.hid hR
      have t1 : ((xs.length : Int) - 1).toNat = xs.length - 1 := by omega
      have t2 : 0 ≤ (xs.length : Int) - 1 := by omega
      clear hR
      by_cases h0 : dl = 0
      · have HNO := Lib.hid (show ¬ GoP 3 0 2 xs from fun hh => by
          rcases hh.1.2.1 with e | e
          · subst e; simp at hp
          · exact e (by rw [← hdl]; exact h0))
        have hz : (dl == 0) = true := by simp [h0]
        clear h0 hdl ee
        go_enter Try.func37, Try.ntmps37
        go_wp2
        exact bodyPost_ret (v := .tuple #[.agg #[.int .i64 0, .int .i64 0], .bool false]) (by simp [results, Try.results37, go_sem]) rfl (GoR.no HNO.out (b_alloc (Below.refl _ _) _))
      · have HEND := Lib.hid (show endsP xs from .inr (by rw [← hdl]; exact h0))
        have hz : (dl == 0) = false := by simp [h0]
        clear h0 hdl ee
        go_enter Try.func37, Try.ntmps37
        go_wp2_with fail
        refine (s_turn _ xs c _ ((HR0.out.below (b_alloc (b_alloc (Below.refl w.heap.size w) (.cells #[.int .i64 0, .int .i64 0] 25)) (.cells #[.int .i64 0, .int .i64 0] 25))).more (by simp; omega)) (by omega)).mono ?_
        rintro e w1 ⟨A2, c2, rfl, hO, hb1⟩
        have K0a := (BG.new0 w).alloc (.cells #[.int .i64 0, .int .i64 0] 25)
        have K0 := K0a.below hb1 K0a.lt
        have K1a := BG.new_at (w.alloc (.cells #[.int .i64 0, .int .i64 0] 25)) (w.heap.size + 1) (by simp) 0 0
        have K1 := K1a.below hb1 K1a.lt
        have HT1 := Lib.hid (b_step (b_alloc (b_alloc (Below.refl _ _) _) _) hb1)
        have hO1 := hO.more1 (B := w.heap.size + 2) (by simp)
        have HO1 := Lib.hid hO1
        have HK0 := Lib.hid K0
        have HK1 := Lib.hid K1
        have hlr : xs.reverse.length = xs.length := List.length_reverse
        clear hb1 hO K0a K0 K1a K1 hO1
        rw [hlr]
        clear hlr
        go_wp2
        go_loopw [29] (fun i wr => ∃ j : Nat, j ≤ xs.length ∧ i = .int .i64 j ∧ BG wr w.heap.size 0 0 ∧ BG wr (w.heap.size + 1) (gv 0 2 (xs.drop (xs.length - j))).1 (gv 0 2 (xs.drop (xs.length - j))).2 ∧ OI wr (w.heap.size + 2) A2 xs.reverse ∧ Hid (∀ i, xs.length - j ≤ i → i < xs.length → 0 ≤ xs.getD i 0 ∧ xs.getD i 0 ≤ 3) ∧ gB (gv 0 2 (xs.drop (xs.length - j))) j ∧ Below w.heap.size w wr) (fun i _ => xs.length - (intOf i).toNat)
        case atStart => exact ⟨0, Nat.zero_le _, rfl, HK0.out, by rw [Nat.sub_zero, List.drop_of_length_le (Nat.le_refl _)]; exact HK1.out, HO1.out, fun i h1 h2 => by omega, by rw [Nat.sub_zero, List.drop_of_length_le (Nat.le_refl _)]; exact gB_zero _, HT1.out⟩
        case round =>
          obtain ⟨j, hj, rfl, hK0, hK1, hOI, hAll, hGB, hW⟩ := hrel
          have HK0 := Lib.hid hK0
          have HW := Lib.hid hW
          have HOI := Lib.hid hOI
          clear hK0 hW hOI
          by_cases hlt : j < xs.length
          · obtain ⟨q, hq⟩ : ∃ q, q + (j + 1) = xs.length := ⟨xs.length - (j + 1), by omega⟩
            have hrd := HOI.out.reads
            obtain ⟨b0, off, hA, hb0, hc⟩ := hrd.at_ (k := j) (by rw [List.length_reverse]; exact hlt)
            rw [rev_getD hq] at hc
            obtain ⟨d, hd⟩ : ∃ d, d = xs.getD q 0 := ⟨_, rfl⟩
            rw [← hd] at hc
            subst hA
            have e1 : xs.length - j = q + 1 := by omega
            have HST := Lib.hid (gv_drop 0 2 (xs := xs) (q := q) (by omega))
            rw [e1] at hK1 hGB hAll
            rw [← hd] at HST
            obtain ⟨z, hz⟩ : ∃ z, z = gv 0 2 (xs.drop (q + 1)) := ⟨_, rfl⟩
            rw [← hz] at hK1 hGB HST
            have hbd := hGB.bd (by omega)
            have HFAR := Lib.hid (fun (hf : Far z) (hx : ∀ x ∈ xs, 0 ≤ x ∧ x ≤ 3) => Far.all hx (q + 1) (by omega) (by rw [← hz]; exact hf))
            have HGB := Lib.hid hGB
            have HQ := Lib.hid hq
            have HDD := Lib.hid hd
            obtain ⟨x, y⟩ := z
            dsimp only at hbd hK1
            obtain ⟨x1, x2, y1, y2⟩ := hbd
            have c0 := hK1.cell0
            have c1 := hK1.cell1
            have fz1 := hK1.frozen
            have lt1 := hK1.lt
            have r0 := HK0.out.cell0
            have r1 := HK0.out.cell1
            have fz0 := HK0.out.frozen
            have lt0 := HK0.out.lt
            have e0 := ((HK0.out.set0 0).set1 0).cell0
            have e1 := ((HK0.out.set0 0).set1 0).cell1
            have HK1 := Lib.hid hK1
            clear hq hz hd hK1 hGB hrd
            by_cases hdg : 0 ≤ d ∧ d ≤ 3
            · obtain ⟨d0, d1⟩ := hdg
              by_cases hx : -10000000 ≤ x ∧ x ≤ 10000000
              · obtain ⟨x3, x4⟩ := hx
                by_cases hy : -10000000 ≤ y ∧ y ≤ 10000000
                · obtain ⟨y3, y4⟩ := hy
                  go_wp2_with (first | (go_at_call 39; refine (s_in_t _ _ _ _ ?_ ?_).mono ?_; omega; omega; rintro e w1 ⟨rfl, rfl⟩) | (go_at_call 39; refine (s_in_f _ _ _ _ ?_).mono ?_; omega; rintro e w1 ⟨rfl, rfl⟩))
                  go_roundw
                  case rel => exact ⟨j + 1, by omega, by go_num, (HK0.out.other (by omega)).other (by omega), by rw [show xs.length - (j + 1) = q by have := HQ.out; omega, HST.out]; exact BG.eq ((HK1.out.set0 _).set1 _) (by unfold stp; dsimp only; omega) (by unfold stp; dsimp only; omega), (HOI.out.set (by simp) _).set (by simp) _, fun i h1 h2 => by
                    by_cases e : i = q
                    · subst e; rw [← HDD.out]; exact ⟨d0, d1⟩
                    · exact hAll.out i (by have := HQ.out; omega) h2, by rw [show xs.length - (j + 1) = q by have := HQ.out; omega, HST.out]; exact gB_two HGB.out d0 (by omega), b_set (b_set HW.out (by simp) _) (by simp) _⟩
                  case measure => simp [intOf]; omega
                · have hy' : y < -10000000 ∨ 10000000 < y := by omega
                  clear hy
                  have HNO := Lib.hid (show ¬ GoP 3 0 2 xs from fun hh => (HFAR.out (by unfold Far; dsimp only; omega) (hh.1.dig (by omega))).bad hh.2)
                  clear HFAR
                  go_wp2_with (first | (go_at_call 39; refine (s_in_t _ _ _ _ ?_ ?_).mono ?_; omega; omega; rintro e w1 ⟨rfl, rfl⟩) | (go_at_call 39; refine (s_in_f _ _ _ _ ?_).mono ?_; omega; rintro e w1 ⟨rfl, rfl⟩))
                  exact bodyPost_ret (v := .tuple #[.agg #[.int .i64 0, .int .i64 0], .bool false]) (by simp [results, Try.results37, go_sem, e0, e1]) rfl (GoR.no HNO.out (b_set (b_set HW.out (Nat.le_refl _) _) (Nat.le_refl _) _))
              · have hx' : x < -10000000 ∨ 10000000 < x := by omega
                clear hx
                have HNO := Lib.hid (show ¬ GoP 3 0 2 xs from fun hh => (HFAR.out (by unfold Far; dsimp only; omega) (hh.1.dig (by omega))).bad hh.2)
                clear HFAR
                go_wp2_with (first | (go_at_call 39; refine (s_in_t _ _ _ _ ?_ ?_).mono ?_; omega; omega; rintro e w1 ⟨rfl, rfl⟩) | (go_at_call 39; refine (s_in_f _ _ _ _ ?_).mono ?_; omega; rintro e w1 ⟨rfl, rfl⟩))
                exact bodyPost_ret (v := .tuple #[.agg #[.int .i64 0, .int .i64 0], .bool false]) (by simp [results, Try.results37, go_sem, e0, e1]) rfl (GoR.no HNO.out (b_set (b_set HW.out (Nat.le_refl _) _) (Nat.le_refl _) _))
            · have hdg' : d < 0 ∨ 3 < d := by omega
              have HNO := Lib.hid (show ¬ GoP 3 0 2 xs from fun hh => hdg (by rw [HDD.out]; exact allB_iff.1 hh.1.2.2 _ (getD_mem (by have := HQ.out; omega))))
              clear hdg
              go_wp2_with (first | (go_at_call 39; refine (s_in_t _ _ _ _ ?_ ?_).mono ?_; omega; omega; rintro e w1 ⟨rfl, rfl⟩) | (go_at_call 39; refine (s_in_f _ _ _ _ ?_).mono ?_; omega; rintro e w1 ⟨rfl, rfl⟩))
              exact bodyPost_ret (v := .tuple #[.agg #[.int .i64 0, .int .i64 0], .bool false]) (by simp [results, Try.results37, go_sem, e0, e1]) rfl (GoR.no HNO.out (b_set (b_set HW.out (Nat.le_refl _) _) (Nat.le_refl _) _))
          · obtain rfl : j = xs.length := by omega
            rw [Nat.sub_self, List.drop_zero] at hK1 hGB
            have HEP := Lib.hid (show EndP 3 xs from ⟨h40, HEND.out, allB_of fun i hi => hAll.out i (by omega) hi⟩)
            obtain ⟨z, hz⟩ : ∃ z, z = gv 0 2 xs := ⟨_, rfl⟩
            rw [← hz] at hK1 hGB
            have HZ := Lib.hid hz
            obtain ⟨X, Y⟩ := z
            dsimp only at hK1
            have c0 := hK1.cell0
            have c1 := hK1.cell1
            have fz1 := hK1.frozen
            have lt1 := hK1.lt
            have HK1 := Lib.hid hK1
            clear hz hK1 hGB hAll
            by_cases hg : gok X Y
            · have HP := Lib.hid (show GoP 3 0 2 xs from ⟨HEP.out, by rw [← HZ.out]; exact hg⟩)
              obtain ⟨h1, h2, h3, h4⟩ := hg
              go_wp2_with fail
              refine (spec_gok_ok X Y _ h1 h2 h3 h4).mono ?_
              rintro e w3 ⟨rfl, d1, rfl⟩
              have L1 := HK1.out.alloc (.cells d1 25)
              have L0 := HK0.out.alloc (.cells d1 25)
              clear c0 c1 fz1 lt1
              have c0 := L1.cell0
              have c1 := L1.cell1
              have r0 := L0.cell0
              have r1 := L0.cell1
              have fz0 := L0.frozen
              have lt0 := L0.lt
              have e0 := ((L0.set0 X).set1 Y).cell0
              have e1 := ((L0.set0 X).set1 Y).cell1
              have HXX := Lib.hid (show (gv 0 2 xs).1 = X by rw [← HZ.out])
              have HYY := Lib.hid (show (gv 0 2 xs).2 = Y by rw [← HZ.out])
              clear L1 L0
              go_wp2
              refine bodyPost_ret (v := .tuple #[.agg #[.int .i64 X, .int .i64 Y], .bool true]) (by simp [results, Try.results37, go_sem, e0, e1]) rfl ?_
              have hh := GoR.yes HP.out (w := w) (b_set (b_set (b_alloc HW.out (.cells d1 25)) (p := ⟨w.heap.size, 0, none⟩) (Nat.le_refl _) (.int .i64 X)) (p := ⟨w.heap.size, 1, none⟩) (Nat.le_refl _) (.int .i64 Y))
              rw [HXX.out, HYY.out] at hh
              exact hh
            · have HNO := Lib.hid (show ¬ GoP 3 0 2 xs from fun hh => hg (by have := hh.2; rw [← HZ.out] at this; exact this))
              have HG := Lib.hid hg
              clear hg
              go_wp2_with fail
              refine (spec_gok_bad X Y _ HG.out).mono ?_
              rintro e w3 ⟨rfl, d1, rfl⟩
              have L0 := HK0.out.alloc (.cells d1 25)
              clear c0 c1 fz1 lt1
              have r0 := L0.cell0
              have r1 := L0.cell1
              have fz0 := L0.frozen
              have lt0 := L0.lt
              have e0 := ((L0.set0 0).set1 0).cell0
              have e1 := ((L0.set0 0).set1 0).cell1
              clear L0
              go_wp2
              exact bodyPost_ret (v := .tuple #[.agg #[.int .i64 0, .int .i64 0], .bool false]) (by simp [results, Try.results37, go_sem, e0, e1]) rfl (GoR.no HNO.out (b_set (b_set (b_alloc HW.out _) (Nat.le_refl _) _) (Nat.le_refl _) _))
  · have HNO := Lib.hid (show ¬ GoP 3 0 2 xs from fun hh => h40 hh.1.1)
    clear hR
    go_enter Try.func37, Try.ntmps37
    go_wp2
    exact bodyPost_ret (v := .tuple #[.agg #[.int .i64 0, .int .i64 0], .bool false]) (by simp [results, Try.results37, go_sem]) rfl (GoR.no HNO.out (b_alloc (Below.refl _ _) _))
end Go.Proofs.Ythblbmihpgkanaa
