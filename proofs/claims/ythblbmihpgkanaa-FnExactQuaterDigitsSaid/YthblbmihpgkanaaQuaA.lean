/- Contracts of l04Digits at base 4 and l03At. Conditions: numbers of at most 10^5. -/
import Derived.Test.YthblbmihpgkanaaQuaM
import Derived.Deep.LoopGhost
import Derived.WalkSmall
import Derived.Outline
namespace Go.Proofs.Ythblbmihpgkanaa
open Go.RowKit
set_option linter.unusedVariables false

set_option maxHeartbeats 2000000 in
theorem s_l04 (n0 : Int) (w : World) (h1 : -100000 ≤ n0) (h2 : n0 ≤ 100000) :
    Calls Try.prog 48 #[.int .i64 n0, .int .i64 4] w (RetL w (ngs 300000 n0)) := by
  obtain ⟨i0, hi, hz0, hz1, hz2⟩ := info_parts info_int
  have hc0 : cq n0 ≤ 100002 := by unfold cq; split <;> omega
  go_enter Try.func48, Try.ntmps48
  go_wp2
  go_loopw [0, 5] (fun m o wr => ∃ (n : Int) (f : Nat) (l : List Int), m = .int .i64 n ∧ cq n < f ∧ l.length + f = 300000 ∧ cq n ≤ 100002 ∧ Hid (ngs 300000 n0 = l ++ ngs f n) ∧ Row wr w.heap.size o l ∧ Below w.heap.size w wr) (fun m _ _ => cq (intOf m))
  case atStart => exact ⟨n0, 300000, [], rfl, by omega, rfl, hc0, rfl, Row.made w, b_alloc (Below.refl _ _) _⟩
  case round =>
    obtain ⟨n, f, l, rfl, hf, hll, hcn, hD, hO, hW⟩ := hrel
    have hw0 := hW.size
    have HW := Lib.hid hW
    have HO := Lib.hid hO
    clear hW hO
    have nb : n.natAbs ≤ 100002 := by unfold cq at hcn; omega
    by_cases h0 : n = 0
    · subst h0
      go_wp2
      go_ret
      exact RetL.of HO.out HW.out (by rw [hD.out, ngs_zero, List.append_nil])
    · have hz : (n != 0) = true := by simp [h0]
      have hq2 : (n == 0) = false := by simp [h0]
      have t4 := tmod4 n
      obtain ⟨t, ht⟩ : ∃ t, n.tmod 4 = t := ⟨_, rfl⟩
      have HGS := Lib.hid (ngs_gk (k := f) (by omega) h0)
      have HCS := Lib.hid (show cq (ngS n) < f - 1 ∧ cq (ngS n) ≤ 100002 by have := cq_step h0; omega)
      have HM := Lib.hid (cq_step h0)
      have HLL := Lib.hid (show (l.length + 1) + (f - 1) = 300000 by omega)
      have HNS := Lib.hid (ngS_tdiv n)
      have hl2 : l.length ≤ 300000 := by omega
      obtain ⟨d, hd⟩ : ∃ d, d = n % 4 := ⟨_, rfl⟩
      have HD2 := Lib.hid hd
      have d0 : 0 ≤ d := by omega
      have d1 : d ≤ 3 := by omega
      rw [← hd, ht] at t4
      clear hd h0 hf hll hcn
      by_cases hneg : t < 0
      · have e4 : t + 4 = d := t4.1 (by omega)
        have t5 : -4 < t := t4.2.2.1
        clear t4
        have hO := HO.out
        go_wp2_with (first | (at_builtin; refine wpList_append_own _ rfl _ _ 34 rfl w.heap.size 3 i0 (.int .i64 0) 1 8 Try.underlying34 hi hz0 hz1 hz2 rfl (by decide) _ _ _ rfl (World.ownsRow.alloc hO _) ⟨wr.heap.size, 0, none⟩ 1 1 [.int .i64 d] rfl rfl (cell_one_new _ _ _) ?c1_1 ?c1_2 ?c1_3 ?c1_4 ?_))
        case c1_1 => first | rfl | (intro u hu; simp at hu; subst hu; rfl)
        case c1_2 => unfold maxLen; omega
        case c1_3 => omega
        case c1_4 => first | omega | (simp; omega)
        intro v1 w1 hown1 hgrow1 _
        have HO1 := Lib.hid (Row.app hown1)
        have HW1 := Lib.hid (Row.grow hO HW.out hgrow1)
        clear hown1 hgrow1 hO HO HW
        go_wp2
        go_roundw
        case rel => exact ⟨ngS n, f - 1, l ++ [d], by rw [← HNS.out, ← HD2.out], HCS.out.1, by have := HLL.out; simp; omega, HCS.out.2, by unfold Hid; rw [hD.out, HGS.out, ← HD2.out]; simp, HO1.out, HW1.out⟩
        case measure => have := HM.out; rw [← HNS.out, ← HD2.out] at this; exact this
      · have e4 : t = d := t4.2.1 (by omega)
        have t5 : -4 < t := t4.2.2.1
        clear t4
        subst e4
        have hO := HO.out
        go_wp2_with (first | (at_builtin; refine wpList_append_own _ rfl _ _ 34 rfl w.heap.size 3 i0 (.int .i64 0) 1 8 Try.underlying34 hi hz0 hz1 hz2 rfl (by decide) _ _ _ rfl (World.ownsRow.alloc hO _) ⟨wr.heap.size, 0, none⟩ 1 1 [.int .i64 t] rfl rfl (cell_one_new _ _ _) ?c2_1 ?c2_2 ?c2_3 ?c2_4 ?_))
        case c2_1 => first | rfl | (intro u hu; simp at hu; subst hu; rfl)
        case c2_2 => unfold maxLen; omega
        case c2_3 => omega
        case c2_4 => first | omega | (simp; omega)
        intro v1 w1 hown1 hgrow1 _
        have HO1 := Lib.hid (Row.app hown1)
        have HW1 := Lib.hid (Row.grow hO HW.out hgrow1)
        clear hown1 hgrow1 hO HO HW
        go_wp2
        go_roundw
        case rel => exact ⟨ngS n, f - 1, l ++ [t], by rw [← HNS.out, ← HD2.out], HCS.out.1, by have := HLL.out; simp; omega, HCS.out.2, by unfold Hid; rw [hD.out, HGS.out, ← HD2.out]; simp, HO1.out, HW1.out⟩
        case measure => have := HM.out; rw [← HNS.out, ← HD2.out] at this; exact this

theorem s_at (A : Option Addr) (xs : List Int) (c k : Nat) (w : World) (hR : RI w w.heap.size A xs) (hl : xs.length ≤ 4294967296) (hk : k ≤ 4294967296) :
    Calls Try.prog 49 #[.slice A xs.length c, .int .i64 k] w fun e w' => e = .returned (.int .i64 (xs.getD k 0)) ∧ w = w' := by
  by_cases h : k < xs.length
  · obtain ⟨b, off, hA, hb, hc⟩ := hR.at_ h
    subst hA
    clear hR
    obtain ⟨d, hd⟩ : ∃ d, d = xs.getD k 0 := ⟨_, rfl⟩
    rw [← hd] at hc ⊢
    clear hd
    go_enter Try.func49, Try.ntmps49
    go_wp2
    go_ret
    exact ⟨rfl, rfl⟩
  · have e : xs.getD k 0 = 0 := by rw [List.getD_eq_getElem?_getD, List.getElem?_eq_none (by omega)]; rfl
    rw [e]
    clear e hR
    go_enter Try.func49, Try.ntmps49
    go_wp2
    go_ret
    exact ⟨rfl, rfl⟩
end Go.Proofs.Ythblbmihpgkanaa
