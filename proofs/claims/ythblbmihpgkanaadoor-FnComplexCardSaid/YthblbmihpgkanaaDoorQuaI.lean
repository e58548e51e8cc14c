/- Contract of impl.QuaterDigits. Conditions: none. -/
import Derived.Test.YthblbmihpgkanaaDoorQuaM
import Derived.Test.YthblbmihpgkanaaDoorGaussDig
import Derived.Test.YthblbmihpgkanaaDoorRetLB
import Derived.Deep.LoopGhost
import Derived.WalkSmall
import Derived.Outline
namespace Go.Proofs.YthblbmihpgkanaaDoor
open Go.RowKit
set_option linter.unusedVariables false

set_option maxHeartbeats 4000000 in
theorem i_qdig (x0 y0 : Int) (w : World) :
    Calls Tryd.prog 13 #[.agg #[.int .i64 x0, .int .i64 y0]] w (RetLB w (qdR x0 y0) (qB x0 y0)) := by
  obtain ⟨i0, hi, hz0, hz1, hz2⟩ := info_parts info_int
  by_cases hg : gok x0 y0
  · by_cases hev : y0 % 2 = 0
    · have hq : QP x0 y0 := ⟨hg, hev⟩
      obtain ⟨h1, h2, h3, h4⟩ := hg
      have HB0 := Lib.hid (qB_t hq)
      have HR := Lib.hid (show qdR x0 y0 = qdL x0 y0 by unfold qdR; rw [HB0.out]; rfl)
      have hnu : qnu x0 (y0 / 2) < 500000 := qnu_bd h1 h2 (by omega) (by omega)
      have hz : (y0.tmod 2 != 0) = false := by simp [tmod2.2 hev]
      have HE := Lib.hid hev
      clear hq hev
      go_enter Tryd.func13, Tryd.ntmps13
      go_wp2_with fail
      refine (impl_gok_ok x0 y0 _ h1 h2 h3 h4).mono ?_
      rintro e w1 ⟨rfl, c1, rfl⟩
      go_wp2_with fail
      go_loopg [4] 500000 (fun gk o wr => ∃ (x y : Int) (l : List Int), BG wr w.heap.size x y ∧ Hid (y % 2 = 0) ∧ qnu x (y / 2) < gk ∧ qnu x (y / 2) ≤ 500000 ∧ l.length + gk = 500000 ∧ Hid (qdL x0 y0 = l ++ qds gk x y) ∧ Row wr (w.heap.size + 1) o l ∧ Below w.heap.size w wr)
      case atStart => exact ⟨x0, y0, [], ((BG.new w x0 y0).alloc _), HE.out, hnu, by omega, rfl, rfl, Row.nil _ _, b_alloc (b_alloc (Below.refl _ _) _) _⟩
      case round =>
        obtain ⟨x, y, l, hB, hE, hn, hph, hll, hD, hO, hW⟩ := hrel
        have c0 := hB.cell0
        have c1' := hB.cell1
        have fz := hB.frozen
        have lt := hB.lt
        have p1 : x.natAbs ≤ 300000 := by unfold qnu cq at hph; omega
        have p2 : y.natAbs ≤ 600000 := by have := hE.out; unfold qnu cq at hph; omega
        have HB := Lib.hid hB
        have HW := Lib.hid hW
        have HO := Lib.hid hO
        clear hB hW hO
        by_cases h0 : x = 0 ∧ y = 0
        · obtain ⟨rfl, rfl⟩ := h0
          go_wp2
          go_ret2
          rw [HR.out, HB0.out]
          exact RetLB.of (HO.out.mono (Nat.le_succ _)) HW.out (by rw [hD.out, qds_zero, List.append_nil])
        · have hs := qnu_step (x := x) (v := y / 2) (by have := hE.out; omega)
          have HGS := Lib.hid (qds_gk (k := gk) (by omega) h0)
          have HS := Lib.hid (show qnu (y.tdiv 2) (qdY x / 2) < gk - 1 ∧ qnu (y.tdiv 2) (qdY x / 2) ≤ 500000 by
            rw [qdY_two, tdiv2 hE.out, show 2 * ngS x / 2 = ngS x by omega]; omega)
          have HEV := Lib.hid (show qdY x % 2 = 0 by rw [qdY_two]; omega)
          have HN := Lib.hid hn
          have HLL := Lib.hid hll
          have hl2 : l.length ≤ 500000 := by omega
          clear hs hn hph hll
          obtain ⟨d, hd⟩ : ∃ d, d = x % 4 := ⟨_, rfl⟩
          have d0 : 0 ≤ d := by omega
          have d1 : d ≤ 3 := by omega
          have HDD := Lib.hid hd
          clear hd
          by_cases hx : x = 0
          · subst hx
            go_wp2_with fail
            refine (i_mod 0 4 _ (by omega) (by omega)).mono ?_
            rw [← HDD.out]
            rintro e w1 ⟨rfl, rfl⟩
            have hO := HO.out
            have nb : ((0 - d).tdiv 2).natAbs ≤ (0 - d).natAbs := by rw [Int.natAbs_tdiv]; exact Nat.div_le_self _ _
            have b1 : -300004 ≤ (0 - d).tdiv 2 := by omega
            have b2 : (0 - d).tdiv 2 ≤ 300004 := by omega
            clear nb
            go_wp2_with (first | (at_builtin; refine wpList_append_own _ rfl _ _ 26 rfl (w.heap.size + 1) 3 i0 (.int .i64 0) 1 8 Tryd.underlying26 hi hz0 hz1 hz2 rfl (by decide) _ _ _ rfl (World.ownsRow.alloc hO _) ⟨wr.heap.size, 0, none⟩ 1 1 [.int .i64 d] rfl rfl (cell_one_new _ _ _) ?c3_1 ?c3_2 ?c3_3 ?c3_4 ?_))
            case c3_1 => first | rfl | (intro u hu; simp at hu; subst hu; rfl)
            case c3_2 => unfold maxLen; omega
            case c3_3 => omega
            case c3_4 => first | omega | (simp; omega)
            intro v1 w2 hown1 hgrow1 _
            have HB2 := Lib.hid (HB.out.grow hO hgrow1)
            have HO2 := Lib.hid (Row.app hown1)
            have HW2 := Lib.hid ((b_alloc HW.out _).grown hgrow1 (b_alloc HW.out _).size fun k hk => Nat.le_of_succ_le (World.ownsRow.lt hO k hk).1)
            clear hown1 hgrow1 hO HO HW HB c0 c1' fz lt
            have c0 := HB2.out.cell0
            have c1' := HB2.out.cell1
            have fz := HB2.out.frozen
            have lt := HB2.out.lt
            go_wp2
            go_roundg (gk - 1)
            case measure => have := HN.out; omega
            case rel => exact ⟨y.tdiv 2, qdY 0, l ++ [d], BG.eq ((HB2.out.set0 _).set1 _) rfl (by rw [qdY, ← HDD.out]; rw [show -(0 - d) = d by omega]; exact (Int.tdiv_eq_ediv_of_nonneg d0).symm), HEV.out, HS.out.1, HS.out.2, by have := HLL.out; have := HN.out; simp; omega, by unfold Hid; rw [hD.out, List.append_assoc, HDD.out, HGS.out]; rfl, (HO2.out.set 0 _).set 1 _, b_set (b_set HW2.out (Nat.le_refl _) _) (Nat.le_refl _) _⟩
          · skip
            go_wp2_with fail
            refine (i_mod x 4 _ (by omega) (by omega)).mono ?_
            rw [← HDD.out]
            rintro e w1 ⟨rfl, rfl⟩
            have hO := HO.out
            have nb : ((x - d).tdiv 2).natAbs ≤ (x - d).natAbs := by rw [Int.natAbs_tdiv]; exact Nat.div_le_self _ _
            have b1 : -300004 ≤ (x - d).tdiv 2 := by omega
            have b2 : (x - d).tdiv 2 ≤ 300004 := by omega
            clear nb
            go_wp2_with (first | (at_builtin; refine wpList_append_own _ rfl _ _ 26 rfl (w.heap.size + 1) 3 i0 (.int .i64 0) 1 8 Tryd.underlying26 hi hz0 hz1 hz2 rfl (by decide) _ _ _ rfl (World.ownsRow.alloc hO _) ⟨wr.heap.size, 0, none⟩ 1 1 [.int .i64 d] rfl rfl (cell_one_new _ _ _) ?c4_1 ?c4_2 ?c4_3 ?c4_4 ?_))
            case c4_1 => first | rfl | (intro u hu; simp at hu; subst hu; rfl)
            case c4_2 => unfold maxLen; omega
            case c4_3 => omega
            case c4_4 => first | omega | (simp; omega)
            intro v1 w2 hown1 hgrow1 _
            have HB2 := Lib.hid (HB.out.grow hO hgrow1)
            have HO2 := Lib.hid (Row.app hown1)
            have HW2 := Lib.hid ((b_alloc HW.out _).grown hgrow1 (b_alloc HW.out _).size fun k hk => Nat.le_of_succ_le (World.ownsRow.lt hO k hk).1)
            clear hown1 hgrow1 hO HO HW HB c0 c1' fz lt
            have c0 := HB2.out.cell0
            have c1' := HB2.out.cell1
            have fz := HB2.out.frozen
            have lt := HB2.out.lt
            go_wp2
            go_roundg (gk - 1)
            case measure => have := HN.out; omega
            case rel => exact ⟨y.tdiv 2, qdY x, l ++ [d], BG.eq ((HB2.out.set0 _).set1 _) rfl (by rw [qdY, ← HDD.out]; exact (Int.neg_tdiv ..).symm), HEV.out, HS.out.1, HS.out.2, by have := HLL.out; have := HN.out; simp; omega, by unfold Hid; rw [hD.out, List.append_assoc, HDD.out, HGS.out]; rfl, (HO2.out.set 0 _).set 1 _, b_set (b_set HW2.out (Nat.le_refl _) _) (Nat.le_refl _) _⟩
    · have HB0 := Lib.hid (qB_f (x := x0) (y := y0) fun hh => hev hh.2)
      have HR := Lib.hid (show qdR x0 y0 = [] by unfold qdR; rw [HB0.out]; rfl)
      have hz : (y0.tmod 2 != 0) = true := by simp [tmod2, hev]
      obtain ⟨h1, h2, h3, h4⟩ := hg
      clear hev
      go_enter Tryd.func13, Tryd.ntmps13
      go_wp2_with fail
      refine (impl_gok_ok x0 y0 _ h1 h2 h3 h4).mono ?_
      rintro e w1 ⟨rfl, c1, rfl⟩
      go_wp2
      go_ret2
      rw [HR.out, HB0.out]
      exact RetLB.nil _ _ (b_alloc (b_alloc (Below.refl _ _) _) _)
  · have HB0 := Lib.hid (qB_f (x := x0) (y := y0) fun hh => hg hh.1)
    have HR := Lib.hid (show qdR x0 y0 = [] by unfold qdR; rw [HB0.out]; rfl)
    have HG := Lib.hid hg
    clear hg
    go_enter Tryd.func13, Tryd.ntmps13
    go_wp2_with fail
    refine (impl_gok_bad x0 y0 _ HG.out).mono ?_
    rintro e w1 ⟨rfl, c1, rfl⟩
    go_wp2
    go_ret2
    rw [HR.out, HB0.out]
    exact RetLB.nil _ _ (b_alloc (b_alloc (Below.refl _ _) _) _)
end Go.Proofs.YthblbmihpgkanaaDoor
