/- Contract of spec.WithoutDigit. Conditions: none. -/
import Derived.Test.YtoihjapbidbpdaaWoI
namespace Go.Proofs.Ytoihjapbidbpdaa
open Go.RowKit
set_option linter.unusedVariables false

/-- A number is appended to the row of the machine in block G; block R, the block of bools and what is old stay. -/
theorem wo_step {w wb wm wn : World} {B R G F : Nat} {b b0 : Int} {vN vF vR1 vR2 v1 : Value} {l : List Int} {x : Int} {cF : Array Value}
    (hGB : G < B) (hRB : R < B) (hR : w.heap.size ≤ R) (hG : w.heap.size ≤ G) (hne : G ≠ R) (hF : w.heap.size ≤ F) (hFB : F < B) (hFG : F ≠ G) (h1 : BM wb G b vN vF) (h2 : BM wb R b0 vR1 vR2) (h3 : Row wb B vN l) (h4 : BB wb F cF) (hT : Below w.heap.size w wb)
    (hm : Below wb.heap.size wb wm) (hg : wm.grownBy wn vN.ownBlock) (ho : wn.ownsRow B 3 1 v1 (l.length + 1) (l.map (Value.int .i64) ++ [.int .i64 x])) :
    BM (wn.setCell ⟨G, 1, none⟩ v1) G b v1 vF ∧ BM (wn.setCell ⟨G, 1, none⟩ v1) R b0 vR1 vR2 ∧
      Row (wn.setCell ⟨G, 1, none⟩ v1) B v1 (l ++ [x]) ∧ BB (wn.setCell ⟨G, 1, none⟩ v1) F cF ∧ Below w.heap.size w (wn.setCell ⟨G, 1, none⟩ v1) := by
  have g1 := (h1.below hm h1.lt).grown hg (h3.lo hGB)
  have g2 := (h2.below hm h2.lt).grown hg (h3.lo hRB)
  have hb := h4.below hm h4.lt
  have g4 : BB wn F cF := (hg.block F hb.lt (h3.lo hFB)).trans hb
  have hTm : Below w.heap.size w wm := b_step hT hm
  have hTn : Below w.heap.size w wn := hTm.grown hg hTm.size fun k hk => by have := (World.ownsRow.lt h3 k hk).1; omega
  exact ⟨g1.set1 _, g2.setx (by simp; omega) _, (Row.app ho).setx hGB _, g4.setx (by simp; omega) _, b_set hTn hG _⟩

set_option maxHeartbeats 2000000 in
theorem spec_wo_t (bb dd : Nat) (w : World) (h1 : 2 ≤ bb) (h2 : bb ≤ 10) (h3 : dd < bb) :
    Calls Try.prog 17 #[.int .i64 (bb : Nat), .int .i64 (dd : Nat)] w (RetM w (bb : Nat) (woN bb dd) woF true) := by
  obtain ⟨i0, hi, hz0, hz1, hz2⟩ := info_parts info_int
  go_enter Try.func17, Try.ntmps17
  go_wp2_with (first | (go_at_call 23; refine (s_in_t _ _ _ _ ?_ ?_).mono ?_; omega; omega; rintro e w1 ⟨rfl, rfl⟩) | (go_at_call 23; refine (s_in_f _ _ _ _ ?_).mono ?_; omega; rintro e w1 ⟨rfl, rfl⟩))
  go_loopw [7] (fun i wr => ∃ (s : Nat) (vN : Value), s ≤ 2 ∧ i = .int .i64 s ∧ BM wr (w.heap.size + 1 + 1) (bb : Nat) vN (.slice (some ⟨w.heap.size + 1, 0, none⟩) 2 2) ∧ BM wr w.heap.size 0 (.slice none 0 0) (.slice none 0 0) ∧ Row wr (w.heap.size + 1 + 1 + 1) vN ((List.range (s * bb)).map (woE bb dd)) ∧ BB wr (w.heap.size + 1) #[.bool true, .bool false] ∧ Below w.heap.size w wr) (fun i _ => 2 - (intOf i).toNat)
  case atStart =>
    refine ⟨0, .slice none 0 0, by omega, rfl, ?_, ?_, by simpa using Row.nil _ _, ?_, ?_⟩
    · simpa only [World.size_alloc] using BM.new ((w.alloc (.cells #[.int .i64 0, .slice none 0 0, .slice none 0 0] 25)).alloc (.cells #[.bool true, .bool false] 4)) (bb : Nat) (.slice none 0 0) (.slice (some ⟨w.heap.size + 1, 0, none⟩) 2 2)
    · exact ((BM.new w _ _ _).below (b_alloc (Below.refl _ _) _) (by simp)).below (b_alloc (Below.refl _ _) _) (by first | (simp; done) | (simp; omega))
    · have h := BB.new (w.alloc (.cells #[.int .i64 0, .slice none 0 0, .slice none 0 0] 25)) #[.bool true, .bool false]
      simp only [World.size_alloc] at h
      exact h.below (b_alloc (Below.refl _ _) _) (by simp)
    · exact b_alloc (b_alloc (b_alloc (Below.refl _ _) _) _) _
  case round =>
    obtain ⟨s, vN, hs', rfl, g1, g2, g3, g4, g5⟩ := hrel
    rename World => wa
    have H1 := Lib.hid g1
    have H2 := Lib.hid g2
    have H3 := Lib.hid g3
    have H4 := Lib.hid g4
    have HT := Lib.hid g5
    have hz := g5.size
    clear g1 g2 g3 g4 g5
    by_cases hs : s < 2
    · have hs2 : (s : Int) < 2 := by omega
      go_wp2_with fail
      go_loopw [8] (fun i wr2 => ∃ (t : Nat) (vN2 : Value), t ≤ bb ∧ i = .int .i64 t ∧ BM wr2 (w.heap.size + 1 + 1) (bb : Nat) vN2 (.slice (some ⟨w.heap.size + 1, 0, none⟩) 2 2) ∧ BM wr2 w.heap.size 0 (.slice none 0 0) (.slice none 0 0) ∧ Row wr2 (w.heap.size + 1 + 1 + 1) vN2 ((List.range (s * bb + t)).map (woE bb dd)) ∧ BB wr2 (w.heap.size + 1) #[.bool true, .bool false] ∧ Below w.heap.size w wr2) (fun i _ => bb - (intOf i).toNat)
      case atStart => exact ⟨0, vN, Nat.zero_le _, rfl, H1.out, H2.out, H3.out, H4.out, HT.out⟩
      case round =>
        obtain ⟨t, vN2, ht', rfl, g1, g2, g3, g4, g5⟩ := hrel
        rename World => wb
        clear H1 H2 H3 H4 HT hz
        have H1 := Lib.hid g1
        have H2 := Lib.hid g2
        have H3 := Lib.hid g3
        have H4 := Lib.hid g4
        have HT := Lib.hid g5
        have hz := g5.size
        have hw0 : w.heap.size + 1 + 1 < wb.heap.size := g1.lt
        clear g1 g2 g3 g4 g5
        by_cases ht : t < bb
        · have m0 := H1.out.cell0
          have m1 := H1.out.cell1
          have f1 := H1.out.frozen 1
          have p0 : s * bb ≤ 2 * 10 := Nat.mul_le_mul (by omega) h2
          have hl : ((List.range (s * bb + t)).map (woE bb dd)).length ≤ 1000 := by simp; omega
          obtain ⟨L, hL⟩ : ∃ L, L = (List.range (s * bb + t)).map (woE bb dd) := ⟨_, rfl⟩
          have H3 : Hid (Row wb (w.heap.size + 1 + 1 + 1) vN2 L) := Lib.hid (by rw [hL]; exact H3.out)
          rw [← hL] at hl
          have HL := Lib.hid hL
          clear hL p0
          by_cases hs1 : s = 1
          · have q1 : ((s : Int) == 1) = true := by simp; omega
            have S1 := Lib.hid hs1
            clear hs1
            go_wp2_with (first | (at_builtin; refine wpList_append_own _ rfl _ _ 22 rfl (w.heap.size + 1 + 1 + 1) 3 i0 (.int .i64 0) 1 8 Try.underlying22 hi hz0 hz1 hz2 rfl (by decide) _ _ _ rfl (World.ownsRow.alloc H3.out _) ⟨wb.heap.size, 0, none⟩ 1 1 [.int .i64 1] rfl rfl (cell_one_new _ _ _) ?c1 ?c2 ?c3 ?c4 ?_))
            case c1 => first | rfl | (intro u hu; simp at hu; subst hu; rfl)
            case c2 => unfold maxLen; omega
            case c3 => omega
            case c4 => first | omega | (simp; omega)
            intro v1 wn hown1 hgrow _
            obtain ⟨A1, C1, hv1⟩ := (Row.app hown1).shape
            obtain ⟨n1, hn1⟩ : ∃ n1, n1 = (L ++ [(1 : Int)]).length := ⟨_, rfl⟩
            rw [← hn1] at hv1
            subst hv1
            have B1 : BM wn (w.heap.size + 1 + 1) (bb : Nat) vN2 (.slice (some ⟨w.heap.size + 1, 0, none⟩) 2 2) := (hgrow.block _ (H1.out.below (b_alloc (Below.refl wb.heap.size wb) (.cells #[.int .i64 1] 3)) H1.out.lt).lt (H3.out.lo (Nat.lt_succ_self _))).trans (H1.out.below (b_alloc (Below.refl wb.heap.size wb) (.cells #[.int .i64 1] 3)) H1.out.lt)
            have s1 := B1.cell1
            have s2 := B1.frozen 1
            have hz3 := hz
            obtain ⟨k1, k2, k3, k4, k5⟩ := wo_step (by omega) (by omega) (Nat.le_refl _) (by omega) (by omega) (by omega) (by omega) (by omega) H1.out H2.out H3.out H4.out HT.out (b_alloc (Below.refl _ _) _) hgrow hown1
            have K1 := Lib.hid k1
            have K2 := Lib.hid k2
            have K3 := Lib.hid k3
            have K4 := Lib.hid k4
            have K5 := Lib.hid k5
            clear k1 k2 k3 k4 k5 hown1 hgrow B1 m0 m1 f1 hn1
            go_wp2_with fail
            go_roundw
            case rel => exact ⟨t + 1, _, by omega, by go_num, K1.out, K2.out, by have k := K3.out; rw [HL.out] at k; rw [← Nat.add_assoc, List.range_succ, List.map_append]; have e : woE bb dd (s * bb + t) = 1 := (by unfold woE; rw [if_pos (.inr (by rw [S1.out]; omega))]); simpa [e] using k, K4.out, K5.out⟩
            case measure => simp [intOf]; omega
          · have hs0 : s = 0 := by omega
            have q1 : ((s : Int) == 1) = false := by simp; omega
            have S0 := Lib.hid hs0
            clear hs0 hs1
            by_cases hd : t = dd
            · have q2 : ((t : Int) == (dd : Int)) = true := by simp; omega
              have D1 := Lib.hid hd
              clear hd
              go_wp2_with (first | (at_builtin; refine wpList_append_own _ rfl _ _ 22 rfl (w.heap.size + 1 + 1 + 1) 3 i0 (.int .i64 0) 1 8 Try.underlying22 hi hz0 hz1 hz2 rfl (by decide) _ _ _ rfl (World.ownsRow.alloc H3.out _) ⟨wb.heap.size, 0, none⟩ 1 1 [.int .i64 1] rfl rfl (cell_one_new _ _ _) ?c1 ?c2 ?c3 ?c4 ?_))
              case c1 => first | rfl | (intro u hu; simp at hu; subst hu; rfl)
              case c2 => unfold maxLen; omega
              case c3 => omega
              case c4 => first | omega | (simp; omega)
              intro v1 wn hown1 hgrow _
              obtain ⟨A1, C1, hv1⟩ := (Row.app hown1).shape
              obtain ⟨n1, hn1⟩ : ∃ n1, n1 = (L ++ [(1 : Int)]).length := ⟨_, rfl⟩
              rw [← hn1] at hv1
              subst hv1
              have B1 : BM wn (w.heap.size + 1 + 1) (bb : Nat) vN2 (.slice (some ⟨w.heap.size + 1, 0, none⟩) 2 2) := (hgrow.block _ (H1.out.below (b_alloc (Below.refl wb.heap.size wb) (.cells #[.int .i64 1] 3)) H1.out.lt).lt (H3.out.lo (Nat.lt_succ_self _))).trans (H1.out.below (b_alloc (Below.refl wb.heap.size wb) (.cells #[.int .i64 1] 3)) H1.out.lt)
              have s1 := B1.cell1
              have s2 := B1.frozen 1
              have hz3 := hz
              obtain ⟨k1, k2, k3, k4, k5⟩ := wo_step (by omega) (by omega) (Nat.le_refl _) (by omega) (by omega) (by omega) (by omega) (by omega) H1.out H2.out H3.out H4.out HT.out (b_alloc (Below.refl _ _) _) hgrow hown1
              have K1 := Lib.hid k1
              have K2 := Lib.hid k2
              have K3 := Lib.hid k3
              have K4 := Lib.hid k4
              have K5 := Lib.hid k5
              clear k1 k2 k3 k4 k5 hown1 hgrow B1 m0 m1 f1 hn1
              go_wp2_with fail
              go_roundw
              case rel => exact ⟨t + 1, _, by omega, by go_num, K1.out, K2.out, by have k := K3.out; rw [HL.out] at k; rw [← Nat.add_assoc, List.range_succ, List.map_append]; have e : woE bb dd (s * bb + t) = 1 := (by unfold woE; rw [if_pos (.inl (by rw [S0.out]; have := D1.out; omega))]); simpa [e] using k, K4.out, K5.out⟩
              case measure => simp [intOf]; omega
            · have q2 : ((t : Int) == (dd : Int)) = false := by simp; omega
              have D0 := Lib.hid hd
              clear hd
              go_wp2_with (first | (at_builtin; refine wpList_append_own _ rfl _ _ 22 rfl (w.heap.size + 1 + 1 + 1) 3 i0 (.int .i64 0) 1 8 Try.underlying22 hi hz0 hz1 hz2 rfl (by decide) _ _ _ rfl (World.ownsRow.alloc H3.out _) ⟨wb.heap.size, 0, none⟩ 1 1 [.int .i64 0] rfl rfl (cell_one_new _ _ _) ?c1 ?c2 ?c3 ?c4 ?_))
              case c1 => first | rfl | (intro u hu; simp at hu; subst hu; rfl)
              case c2 => unfold maxLen; omega
              case c3 => omega
              case c4 => first | omega | (simp; omega)
              intro v1 wn hown1 hgrow _
              obtain ⟨A1, C1, hv1⟩ := (Row.app hown1).shape
              obtain ⟨n1, hn1⟩ : ∃ n1, n1 = (L ++ [(0 : Int)]).length := ⟨_, rfl⟩
              rw [← hn1] at hv1
              subst hv1
              have B1 : BM wn (w.heap.size + 1 + 1) (bb : Nat) vN2 (.slice (some ⟨w.heap.size + 1, 0, none⟩) 2 2) := (hgrow.block _ (H1.out.below (b_alloc (Below.refl wb.heap.size wb) (.cells #[.int .i64 0] 3)) H1.out.lt).lt (H3.out.lo (Nat.lt_succ_self _))).trans (H1.out.below (b_alloc (Below.refl wb.heap.size wb) (.cells #[.int .i64 0] 3)) H1.out.lt)
              have s1 := B1.cell1
              have s2 := B1.frozen 1
              have hz3 := hz
              obtain ⟨k1, k2, k3, k4, k5⟩ := wo_step (by omega) (by omega) (Nat.le_refl _) (by omega) (by omega) (by omega) (by omega) (by omega) H1.out H2.out H3.out H4.out HT.out (b_alloc (Below.refl _ _) _) hgrow hown1
              have K1 := Lib.hid k1
              have K2 := Lib.hid k2
              have K3 := Lib.hid k3
              have K4 := Lib.hid k4
              have K5 := Lib.hid k5
              clear k1 k2 k3 k4 k5 hown1 hgrow B1 m0 m1 f1 hn1
              go_wp2_with fail
              go_roundw
              case rel => exact ⟨t + 1, _, by omega, by go_num, K1.out, K2.out, by have k := K3.out; rw [HL.out] at k; rw [← Nat.add_assoc, List.range_succ, List.map_append]; have e : woE bb dd (s * bb + t) = 0 := (by unfold woE; rw [if_neg (by rw [S0.out]; have := D0.out; omega)]); simpa [e] using k, K4.out, K5.out⟩
              case measure => simp [intOf]; omega
        · obtain rfl : bb = t := by omega
          go_wp2_with fail
          go_roundw
          case rel => exact ⟨s + 1, _, by omega, by go_num, H1.out, H2.out, by simpa [Nat.add_mul] using H3.out, H4.out, HT.out⟩
          case measure => simp [intOf]; omega
    · obtain rfl : s = 2 := by omega
      obtain ⟨A1, C1, e1⟩ := H3.out.shape
      have hl : ((List.range (2 * bb)).map (woE bb dd)).length = 2 * bb := by simp
      rw [hl] at e1
      subst e1
      have m0 := H1.out.cell0
      have m1 := H1.out.cell1
      have m2 := H1.out.cell2
      have r0 := H2.out.cell0
      have r1 := H2.out.cell1
      have r2 := H2.out.cell2
      have f0 := fun i => H2.out.frozen i
      have HL := Lib.hid hl
      clear hl
      go_wp2_with fail
      have M1 := ((H2.out.set0 (bb : Nat)).set1 (.slice A1 (2 * bb) C1)).set2 (.slice (some ⟨w.heap.size + 1, 0, none⟩) 2 2)
      have f0 := M1.cell0
      have f1 := M1.cell1
      have f2 := M1.cell2
      have hO : OI wa (w.heap.size + 1) A1 (woN bb dd) := (OI.of_own (n := 2 * bb) (by have h := Row.mono (B := w.heap.size + 1) H3.out (by omega); unfold Row at h; rw [HL.out] at h; exact h)).2
      have hP : OB wa (w.heap.size + 1) (some ⟨w.heap.size + 1, 0, none⟩) woF := .inr ⟨_, 0, _, rfl, Nat.le_refl _, H4.out, by
        intro j hj
        have hj : j < 2 := hj
        match j, hj with
        | 0, _ => rfl
        | 1, _ => rfl⟩
      refine bodyPost_ret (v := .tuple #[.agg #[.int .i64 (bb : Nat), .slice A1 (2 * bb) C1, .slice (some ⟨w.heap.size + 1, 0, none⟩) 2 2], .bool true]) (by simp [results, Try.results17, go_sem, f0, f1, f2]) rfl ⟨_, _, _, _, by rw [show (woN bb dd).length = 2 * bb from HL.out]; rfl, ?_, ?_, ?_⟩
      · exact (((hO.set_ (by simp) _).set_ (by simp) _).set_ (by simp) _).low (by omega)
      · exact (((hP.set_ (by simp) _).set_ (by simp) _).set_ (by simp) _).low (by omega)
      · exact b_set (b_set (b_set HT.out (by simp) _) (by simp) _) (by simp) _

set_option maxHeartbeats 1000000 in
theorem spec_wob (b d : Int) (w : World) (h : b < 2 ∨ 10 < b) :
    Calls Try.prog 17 #[.int .i64 b, .int .i64 d] w (RetM w 0 [] [] false) := by
  go_enter Try.func17, Try.ntmps17
  go_wp2_with (first | (go_at_call 23; refine (s_in_t _ _ _ _ ?_ ?_).mono ?_; omega; omega; rintro e w1 ⟨rfl, rfl⟩) | (go_at_call 23; refine (s_in_f _ _ _ _ ?_).mono ?_; omega; rintro e w1 ⟨rfl, rfl⟩))
  have M1 := BM.new w 0 (.slice none 0 0) (.slice none 0 0)
  exact bodyPost_ret (v := .tuple #[.agg #[.int .i64 0, .slice none 0 0, .slice none 0 0], .bool false]) (by simp [results, Try.results17, go_sem]) rfl ⟨none, none, 0, 0, rfl, .inl rfl, .inl rfl, by repeat (first | exact Below.refl _ _ | refine b_alloc ?_ _ | refine b_set ?_ (by simp) _)⟩

set_option maxHeartbeats 1000000 in
theorem spec_wod (b d : Int) (h1 : 2 ≤ b) (h2 : b ≤ 10) (w : World) (h : d < 0 ∨ b - 1 < d) :
    Calls Try.prog 17 #[.int .i64 b, .int .i64 d] w (RetM w 0 [] [] false) := by
  go_enter Try.func17, Try.ntmps17
  go_wp2_with (first | (go_at_call 23; refine (s_in_t _ _ _ _ ?_ ?_).mono ?_; omega; omega; rintro e w1 ⟨rfl, rfl⟩) | (go_at_call 23; refine (s_in_f _ _ _ _ ?_).mono ?_; omega; rintro e w1 ⟨rfl, rfl⟩))
  have M1 := BM.new w 0 (.slice none 0 0) (.slice none 0 0)
  exact bodyPost_ret (v := .tuple #[.agg #[.int .i64 0, .slice none 0 0, .slice none 0 0], .bool false]) (by simp [results, Try.results17, go_sem]) rfl ⟨none, none, 0, 0, rfl, .inl rfl, .inl rfl, by repeat (first | exact Below.refl _ _ | refine b_alloc ?_ _ | refine b_set ?_ (by simp) _)⟩

theorem spec_wo (b d : Int) (w : World) : Calls Try.prog 17 #[.int .i64 b, .int .i64 d] w (RetM w (woB b d) (woX b d) (woY b d) (woQ b d)) := by
  by_cases h1 : 2 ≤ b ∧ b ≤ 10
  · by_cases h2 : 0 ≤ d ∧ d ≤ b - 1
    · obtain ⟨bb, rfl⟩ := Int.eq_ofNat_of_zero_le (show 0 ≤ b by omega)
      obtain ⟨dd, rfl⟩ := Int.eq_ofNat_of_zero_le (show 0 ≤ d by omega)
      have hg : woG (bb : Nat) (dd : Nat) := ⟨h1.1, h1.2, h2.1, h2.2⟩
      unfold woB woX woY woQ
      rw [if_pos hg, if_pos hg, if_pos hg, decide_eq_true hg]
      simpa using spec_wo_t bb dd w (by omega) (by omega) (by omega)
    · have hg : ¬ woG b d := fun h => h2 ⟨h.2.2.1, h.2.2.2⟩
      unfold woB woX woY woQ
      rw [if_neg hg, if_neg hg, if_neg hg, decide_eq_false hg]
      exact spec_wod b d h1.1 h1.2 w (by omega)
  · have hg : ¬ woG b d := fun h => h1 ⟨h.1, h.2.1⟩
    unfold woB woX woY woQ
    rw [if_neg hg, if_neg hg, if_neg hg, decide_eq_false hg]
    exact spec_wob b d w (by omega)
end Go.Proofs.Ytoihjapbidbpdaa
