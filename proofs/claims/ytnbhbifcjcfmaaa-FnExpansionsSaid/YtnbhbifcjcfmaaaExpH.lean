/- Contracts of HasHalves. Conditions: none. -/
import Derived.Test.YtnbhbifcjcfmaaaExpI
import Derived.Test.YtnbhbifcjcfmaaaExpS
import Derived.Maps.OwnSet
import Derived.Maps.OwnOps
import Derived.Deep.LoopGhost
import Derived.WalkArith
import Derived.Outline
import Derived.Deep.RegionWith
import Derived.Deep.QuietTactic
import Derived.BigQuiet
namespace Go.Proofs.Ytnbhbifcjcfmaaa
open Go.RowKit
set_option linter.unusedVariables false

/-- Whether the two halves of the period add up to b - 1. -/
def HhP (b : Int) (L : List Int) : Prop := L.length ≠ 0 ∧ L.length % 2 = 0 ∧ ∀ k, k < L.length / 2 → L.getD k 0 + L.getD (L.length / 2 + k) 0 = b - 1
noncomputable def hhB (b : Int) (L : List Int) : Bool := @decide (HhP b L) (Classical.propDecidable _)
theorem hhB_t {b : Int} {L : List Int} (h : HhP b L) : hhB b L = true := by unfold hhB; exact @decide_eq_true _ (Classical.propDecidable _) h
theorem hhB_f {b : Int} {L : List Int} (h : ¬ HhP b L) : hhB b L = false := by unfold hhB; exact @decide_eq_false _ (Classical.propDecidable _) h
theorem dig_bd {b q p : Int} (hq : 0 < q) (h0 : 0 ≤ p) (h1 : p < q) (hb : 2 ≤ b) (n j : Nat) (hj : j < n) : 0 ≤ (dgl b q p n).getD j 0 ∧ (dgl b q p n).getD j 0 ≤ b - 1 := by
  rw [getD_dgl hj]
  obtain ⟨r0, r1⟩ := rst_bd (b := b) hq h0 h1 j
  have e1 : rst b q p j * b < b * q := by rw [Int.mul_comm]; exact Int.mul_lt_mul_of_pos_left r1 (by omega)
  have e2 : rst b q p j * b / q < b := Int.ediv_lt_of_lt_mul hq e1
  exact ⟨Int.ediv_nonneg (Int.mul_nonneg r0 (by omega)) (by omega), by omega⟩
theorem per_bd (p q b : Int) (h : exB p q b = true) (j : Nat) (hj : j < (exPer p q b).length) : 0 ≤ (exPer p q b).getD j 0 ∧ (exPer p q b).getD j 0 ≤ b - 1 := by
  obtain ⟨q1, q2, p1, p2, b1, b2⟩ := exB_iff.1 h
  rw [exPer_t h] at hj ⊢
  rw [length_perL] at hj
  have e : (perL b q p).getD j 0 = (dgl b q p (preN b q p + perN b q p)).getD (preN b q p + j) 0 := by
    unfold perL
    rw [List.getD_eq_getElem?_getD, List.getElem?_drop, List.getD_eq_getElem?_getD]
  rw [e]
  exact dig_bd (by omega) p1 (by omega) b1 _ _ (by omega)

set_option maxHeartbeats 2000000 in
theorem i_HasHalves (p q b : Int) (w : World) : Calls Try.prog 22 #[.int .i64 p, .int .i64 q, .int .i64 b] w fun e w' => e = .returned (.bool (hhB b (exPer p q b))) ∧ Below w.heap.size w w' := by
  cases hx : exB p q b
  · have HX := Lib.hid hx
    have he := exPer_f hx
    have HV := Lib.hid (show hhB b (exPer p q b) = false from hhB_f fun hh => hh.1 (by rw [he]; rfl))
    have HE := Lib.hid he
    clear hx he
    go_enter Try.func22, Try.ntmps22
    go_wp2_with fail
    refine (i_exp p q b _).mono ?_
    rw [HX.out, HE.out]
    rintro e w1 ⟨A1, c1, A2, c2, B, rfl, _, _, hO2, _, _, hb⟩
    go_wp2
    go_ret
    exact ⟨by rw [HV.out]; rfl, hb⟩
  · have HX := Lib.hid hx
    have HPB := Lib.hid (per_bd p q b hx)
    obtain ⟨_, _, _, _, b1, b2⟩ := exB_iff.1 hx
    have hle := (ex_len p q b).2
    clear hx
    go_enter Try.func22, Try.ntmps22
    go_wp2_with fail
    refine (i_expC p q b _).mono ?_
    rw [HX.out]
    rintro e w1 ⟨A1, c1, A2, c2, B, rfl, _, _, hO2, _, _, hb, hc1, hc2⟩
    unfold maxLen at hc2
    have hR := hO2.reads
    have HB := Lib.hid hb
    clear hb
    obtain ⟨L, hL⟩ : ∃ L, L = exPer p q b := ⟨_, rfl⟩
    rw [← hL] at HPB hle hR hc1 ⊢
    have HL := Lib.hid hL
    clear hL hO2
    by_cases h0 : L.length = 0
    · have HV := Lib.hid (hhB_f (b := b) (L := L) fun hh => hh.1 h0)
      rw [h0]
      clear h0
      go_wp2
      go_ret
      exact ⟨by rw [← HL.out, HV.out]; rfl, HB.out⟩
    · by_cases h1 : L.length % 2 = 1
      · have HV := Lib.hid (hhB_f (b := b) (L := L) fun hh => by have := hh.2.1; omega)
        obtain ⟨h, hh⟩ : ∃ h, L.length = 2 * h + 1 := ⟨L.length / 2, by omega⟩
        rw [hh]
        have hh3 : h ≤ 1000 := by omega
        have hz : (((2 * h + 1 : Nat) : Int) == 0) = false := by (try simp) <;> omega
        have hz3 : (2 * (h : Int) + 1 == 0) = false := by (try simp) <;> omega
        have hz4 : ((2 * (h : Int) + 1) % 2 == 1) = true := by (try simp) <;> omega
        clear h0 h1 hh
        go_wp2
        go_ret
        exact ⟨by rw [← HL.out, HV.out]; rfl, HB.out⟩
      · obtain ⟨h, hh⟩ : ∃ h, L.length = 2 * h := ⟨L.length / 2, by omega⟩
        have hd2 : L.length / 2 = h := by omega
        have HVT := Lib.hid (fun (hall : ∀ j, j < h → L.getD j 0 + L.getD (h + j) 0 = b - 1) => hhB_t (b := b) (L := L) ⟨h0, by omega, by rw [hd2]; exact hall⟩)
        have HVF := Lib.hid (fun j (hj : j < h) (hne : L.getD j 0 + L.getD (h + j) 0 ≠ b - 1) => hhB_f (b := b) (L := L) fun hhp => hne (by have := hhp.2.2 j (by rw [hd2]; exact hj); rw [hd2] at this; exact this))
        have hh0 : 0 < h := by omega
        have hh3 : h ≤ 1000 := by omega
        have HH := Lib.hid hh
        have HRR := Lib.hid hR
        rw [hh]
        rw [hh] at hc1
        have hz : (2 * (h : Int) == 0) = false := by (try simp) <;> omega
        clear h0 h1 hh hd2 hR
        go_wp2
        go_loop [37] (fun i => ∃ k : Nat, k ≤ h ∧ i = .int .i64 k ∧ Hid (∀ j, j < k → L.getD j 0 + L.getD (h + j) 0 = b - 1)) (fun i => h - (intOf i).toNat)
        case atStart => exact ⟨0, Nat.zero_le _, rfl, (fun j hj => by omega)⟩
        case round =>
          obtain ⟨k, hk, rfl, hall⟩ := hrel
          by_cases hlt : k < h
          · obtain ⟨g, off, hA, hg, hca⟩ := HRR.out.at_ (k := k) (by rw [HH.out]; omega)
            obtain ⟨g', off', hA', hg', hcb⟩ := HRR.out.at_ (k := h + k) (by rw [HH.out]; omega)
            have hsame := hA.symm.trans hA'
            injection hsame with hsame
            injection hsame with e1 e2
            subst e1 e2
            subst hA
            obtain ⟨x, hx⟩ : ∃ x, x = L.getD k 0 := ⟨_, rfl⟩
            obtain ⟨y, hy⟩ : ∃ y, y = L.getD (h + k) 0 := ⟨_, rfl⟩
            rw [← hx] at hca
            rw [← hy] at hcb
            have HX2 := Lib.hid hx
            have HY2 := Lib.hid hy
            obtain ⟨x1, x2⟩ := HPB.out k (by rw [HH.out]; omega)
            obtain ⟨y1, y2⟩ := HPB.out (h + k) (by rw [HH.out]; omega)
            rw [← hx] at x1 x2
            rw [← hy] at y1 y2
            have hcb' := hcb
            rw [show off + (h + k) = off + (k + h) by omega] at hcb'
            have hHA := Lib.hid hA'
            clear hx hy hA'
            by_cases hs : x + y = b - 1
            · have hq : (x + y != b - 1) = false := by simp [hs]
              have HS := Lib.hid hs
              clear hs
              go_wp2
              go_round
              case rel => exact ⟨k + 1, by omega, by go_num, (fun j hj => by
                by_cases e : j = k
                · subst e; rw [← HX2.out, ← HY2.out]; exact HS.out
                · exact hall.out j (by omega))⟩
              case measure => simp [intOf]; omega
            · have hq : (x + y != b - 1) = true := by simp [hs]
              have HF := Lib.hid (HVF.out k hlt (by rw [← HX2.out, ← HY2.out]; exact hs))
              clear hs
              go_wp2
              go_ret
              exact ⟨by rw [← HL.out, HF.out]; rfl, HB.out⟩
          · obtain rfl : k = h := by omega
            have HV := Lib.hid (HVT.out hall.out)
            go_wp2
            go_ret
            exact ⟨by rw [← HL.out, HV.out]; rfl, HB.out⟩

set_option maxHeartbeats 2000000 in
theorem s_HasHalves (p q b : Int) (w : World) : Calls Try.prog 30 #[.int .i64 p, .int .i64 q, .int .i64 b] w fun e w' => e = .returned (.bool (hhB b (exPer p q b))) ∧ Below w.heap.size w w' := by
  cases hx : exB p q b
  · have HX := Lib.hid hx
    have he := exPer_f hx
    have HV := Lib.hid (show hhB b (exPer p q b) = false from hhB_f fun hh => hh.1 (by rw [he]; rfl))
    have HE := Lib.hid he
    clear hx he
    go_enter Try.func30, Try.ntmps30
    go_wp2_with fail
    refine (s_exp p q b _).mono ?_
    rw [HX.out, HE.out]
    rintro e w1 ⟨A1, c1, A2, c2, rfl, _, hR2, hb⟩
    go_wp2
    go_ret
    exact ⟨by rw [HV.out]; rfl, hb⟩
  · have HX := Lib.hid hx
    have HPB := Lib.hid (per_bd p q b hx)
    obtain ⟨_, _, _, _, b1, b2⟩ := exB_iff.1 hx
    have hle := (ex_len p q b).2
    clear hx
    go_enter Try.func30, Try.ntmps30
    go_wp2_with fail
    refine (s_exp p q b _).mono ?_
    rw [HX.out]
    rintro e w1 ⟨A1, c1, A2, c2, rfl, _, hR2, hb⟩
    have hR := hR2
    have HB := Lib.hid hb
    clear hb
    obtain ⟨L, hL⟩ : ∃ L, L = exPer p q b := ⟨_, rfl⟩
    rw [← hL] at HPB hle hR ⊢
    have HL := Lib.hid hL
    clear hL hR2
    by_cases h0 : L.length = 0
    · have HV := Lib.hid (hhB_f (b := b) (L := L) fun hh => hh.1 h0)
      rw [h0]
      clear h0
      go_wp2
      go_ret
      exact ⟨by rw [← HL.out, HV.out]; rfl, HB.out⟩
    · by_cases h1 : L.length % 2 = 1
      · have HV := Lib.hid (hhB_f (b := b) (L := L) fun hh => by have := hh.2.1; omega)
        obtain ⟨h, hh⟩ : ∃ h, L.length = 2 * h + 1 := ⟨L.length / 2, by omega⟩
        rw [hh]
        have hh3 : h ≤ 1000 := by omega
        have hz : (((2 * h + 1 : Nat) : Int) == 0) = false := by (try simp) <;> omega
        have hz3 : (2 * (h : Int) + 1 == 0) = false := by (try simp) <;> omega
        have hz4 : ((2 * (h : Int) + 1) % 2 == 1) = true := by (try simp) <;> omega
        clear h0 h1 hh
        go_wp2
        go_ret
        exact ⟨by rw [← HL.out, HV.out]; rfl, HB.out⟩
      · obtain ⟨h, hh⟩ : ∃ h, L.length = 2 * h := ⟨L.length / 2, by omega⟩
        have hd2 : L.length / 2 = h := by omega
        have HVT := Lib.hid (fun (hall : ∀ j, j < h → L.getD j 0 + L.getD (h + j) 0 = b - 1) => hhB_t (b := b) (L := L) ⟨h0, by omega, by rw [hd2]; exact hall⟩)
        have HVF := Lib.hid (fun j (hj : j < h) (hne : L.getD j 0 + L.getD (h + j) 0 ≠ b - 1) => hhB_f (b := b) (L := L) fun hhp => hne (by have := hhp.2.2 j (by rw [hd2]; exact hj); rw [hd2] at this; exact this))
        have hh0 : 0 < h := by omega
        have hh3 : h ≤ 1000 := by omega
        have HH := Lib.hid hh
        have HRR := Lib.hid hR
        rw [hh]
        have hz : (2 * (h : Int) == 0) = false := by (try simp) <;> omega
        clear h0 h1 hh hd2 hR
        go_wp2
        go_loopw [11] (fun i wr => ∃ k : Nat, k ≤ h ∧ i = .int .i64 k ∧ Hid (∀ j, j < k → L.getD j 0 + L.getD (h + j) 0 = b - 1) ∧ ∃ n, wr = w1.drewN n) (fun i _ => h - (intOf i).toNat)
        case atStart => exact ⟨0, Nat.zero_le _, rfl, (fun j hj => by omega), 0, rfl⟩
        case round =>
          obtain ⟨k, hk, rfl, hall, n, rfl⟩ := hrel
          by_cases hlt : k < h
          · obtain ⟨g, off, hA, hg, hca⟩ := HRR.out.at_ (k := k) (by rw [HH.out]; omega)
            obtain ⟨g', off', hA', hg', hcb⟩ := HRR.out.at_ (k := h + k) (by rw [HH.out]; omega)
            have hsame := hA.symm.trans hA'
            injection hsame with hsame
            injection hsame with e1 e2
            subst e1 e2
            subst hA
            obtain ⟨x, hx⟩ : ∃ x, x = L.getD k 0 := ⟨_, rfl⟩
            obtain ⟨y, hy⟩ : ∃ y, y = L.getD (h + k) 0 := ⟨_, rfl⟩
            rw [← hx] at hca
            rw [← hy] at hcb
            have HX2 := Lib.hid hx
            have HY2 := Lib.hid hy
            obtain ⟨x1, x2⟩ := HPB.out k (by rw [HH.out]; omega)
            obtain ⟨y1, y2⟩ := HPB.out (h + k) (by rw [HH.out]; omega)
            rw [← hx] at x1 x2
            rw [← hy] at y1 y2
            have hcb' := hcb
            rw [show off + (h + k) = off + (k + h) by omega] at hcb'
            have hHA := Lib.hid hA'
            clear hx hy hA'
            by_cases hs : x + y = b - 1
            · have hq : (x + y != b - 1) = false := by simp [hs]
              have HS := Lib.hid hs
              clear hs
              go_wp2
              go_quiet (fail)
              go_wp2
              go_roundw
              case rel => exact ⟨k + 1, by omega, by go_num, (fun j hj => by
                by_cases e : j = k
                · subst e; rw [← HX2.out, ← HY2.out]; exact HS.out
                · exact hall.out j (by omega)), _, rfl⟩
              case measure => simp [intOf]; omega
            · have hq : (x + y != b - 1) = true := by simp [hs]
              have HF := Lib.hid (HVF.out k hlt (by rw [← HX2.out, ← HY2.out]; exact hs))
              clear hs
              go_wp2
              go_quiet (fail)
              go_wp2
              go_ret
              exact ⟨by rw [← HL.out, HF.out]; rfl, below_drewN (below_drewN HB.out _) _⟩
          · obtain rfl : k = h := by omega
            have HV := Lib.hid (HVT.out hall.out)
            go_wp2
            go_ret
            exact ⟨by rw [← HL.out, HV.out]; rfl, below_drewN HB.out _⟩
end Go.Proofs.Ytnbhbifcjcfmaaa
