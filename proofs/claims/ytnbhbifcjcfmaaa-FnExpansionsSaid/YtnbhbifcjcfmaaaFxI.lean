/- Contracts of Gcd, OrderOf, PointDigits and spec.MakeBase for the law FnExpansions. Conditions: bases 2 to 16, denominators up to 60. -/
import Derived.Test.YtnbhbifcjcfmaaaFxM
import Derived.Test.YtnbhbifcjcfmaaaExpI
import Derived.Test.YtnbhbifcjcfmaaaGcd
import Derived.Test.YtnbhbifcjcfmaaaNum
import Derived.WalkArith
import Derived.Deep.QuietTactic
namespace Go.Proofs.Ytnbhbifcjcfmaaa
open Go.RowKit
set_option linter.unusedVariables false

/-- A base is drawn. -/
theorem base_any (A : Option Addr) (zs : List Int) (c n : Nat) (w : World) (hR : RY w w.heap.size A zs) (hl : zs.length ≤ 1048576) (hn : n ≤ 1000) : Calls Try.prog 11 #[.slice A zs.length c, .int .i64 n] w (NumR w 2 16) := by
  go_enter Try.func11, Try.ntmps11
  go_wp2_with fail
  refine (law_new A zs c n _ hR hl hn).mono ?_
  rintro e w1 ⟨g, rfl, hg, hC, hB⟩
  go_wp2_with fail
  refine (below_any g 15 _ hC (by omega) (by omega)).mono ?_
  rintro e w2 ⟨x, rfl, x0, x1, hC2, hO2⟩
  have T2 := hB.trans (hO2.below hg hB.size)
  go_wp2
  go_ret
  exact ⟨_, rfl, by omega, by omega, T2⟩
theorem i_Gcd (a b : Nat) (w : World) (ha : a ≤ 1000) (hb : b ≤ 1000) :
    Calls Try.prog 14 #[.int .i64 a, .int .i64 b] w fun e w' => e = .returned (.int .i64 (Nat.gcd a b : Nat)) ∧ Below w.heap.size w w' := by
  go_enter Try.func14, Try.ntmps14
  go_wp2_with (first | (go_at_call 41; refine (i_in_t _ _ _ _ ?_ ?_).mono ?_; omega; omega; rintro e w1 ⟨rfl, rfl⟩) | (go_at_call 41; refine (i_in_f _ _ _ _ ?_).mono ?_; omega; rintro e w1 ⟨rfl, rfl⟩) | (go_at_call 42; refine (i_gcd a b _ (by omega) (by omega) (by omega) (by omega)).mono ?_; rintro e w' ⟨rfl, hb⟩))
  go_ret
  exact ⟨rfl, hb⟩
theorem ord_z (b u r k : Nat) : ordN b u 0 r k = 0 := rfl
theorem ord_s (b u t r k : Nat) : ordN b u (t + 1) r k = bif Nat.beq r 1 then k else ordN b u t (r * b % u) (k + 1) := rfl
set_option maxHeartbeats 1000000 in
theorem i_ord (b u K : Nat) (w : World) (b1 : 2 ≤ b) (b2 : b ≤ 16) (u1 : 2 ≤ u) (u2 : u ≤ 60) (hg : Nat.gcd u b ≤ 1) (hK : ordN b u 62 (b % u) 1 = K) (hK1 : 1 ≤ K) (hK2 : K ≤ 1000) :
    Calls Try.prog 18 #[.int .i64 b, .int .i64 u] w fun e w' => e = .returned (.int .i64 K) ∧ Below w.heap.size w w' := by
  have hg2 : ((Nat.gcd b u : Nat) : Int) ≤ 1 := by rw [Nat.gcd_comm]; omega
  have HG := Lib.hid hg2
  have HB := Lib.hid (show baseB (b : Int) = true from decide_eq_true ⟨by omega, by omega⟩)
  have HK := Lib.hid hK
  have hz : (((u : Nat) : Int) == 0) = false := by simp; omega
  have hz2 : ¬ (((u : Nat) : Int) = 0) := by omega
  clear hK hg
  go_enter Try.func18, Try.ntmps18
  go_wp2_with fail
  refine (i_base b _).mono ?_
  rw [HB.out]
  rintro e w1 ⟨rfl, rfl⟩
  go_wp2_with (first | (go_at_call 41; refine (i_in_t _ _ _ _ ?_ ?_).mono ?_; omega; omega; rintro e w1 ⟨rfl, rfl⟩) | (go_at_call 41; refine (i_in_f _ _ _ _ ?_).mono ?_; omega; rintro e w1 ⟨rfl, rfl⟩) | (go_at_call 42; refine (i_gcd b u _ (by omega) (by omega) (by omega) (by omega)).mono ?_; rw [Int.gcd_natCast_natCast]; rintro e w2 ⟨rfl, hB⟩))
  have HW := Lib.hid hB
  have HMOD := Lib.hid (show ((b : Int) % (u : Int)) = ((b % u : Nat) : Int) from (Int.natCast_emod ..).symm)
  clear hB
  go_loop [5, 6] (fun k r => ∃ (t k' r' : Nat), k = .int .i64 k' ∧ r = .int .i64 r' ∧ t ≤ 62 ∧ k' + t = 63 ∧ r' < u ∧ Hid (ordN b u t r' k' = K)) (fun k _ => 63 - (intOf k).toNat)
  case atStart => exact ⟨62, 1, b % u, rfl, by first | rfl | rw [HMOD.out], by omega, rfl, Nat.mod_lt _ (by omega), HK.out⟩
  case round =>
    obtain ⟨t, k, r, rfl, rfl, ht, hkt, hr, hH⟩ := hrel
    rcases t with _ | t
    · exfalso; have := hH.out; rw [ord_z] at this; omega
    · by_cases hr1 : r = 1
      · subst hr1
        have e := hH.out
        rw [ord_s] at e
        have e2 : k = K := e
        subst e2
        clear e hH HK
        go_wp2
        go_ret
        exact ⟨rfl, HW.out⟩
      · have e := hH.out
        have hb : Nat.beq r 1 = false := by
          cases h : Nat.beq r 1 with
          | true => exact absurd (beq_t h) hr1
          | false => rfl
        rw [ord_s, hb] at e
        have e2 : ordN b u t (r * b % u) (k + 1) = K := e
        have HE := Lib.hid e2
        have hne : (((r : Nat) : Int) != 1) = true := by simp; omega
        have hne2 : ¬ (((r : Nat) : Int) = 1) := by omega
        have m0 : (0 : Int) ≤ (r : Int) * (b : Int) := Int.mul_nonneg (by omega) (by omega)
        have m1 : (r : Int) * (b : Int) ≤ 60 * 16 := Int.mul_le_mul (by omega) (by omega) (by omega) (by omega)
        have HM := Lib.hid (show (r : Int) * (b : Int) % (u : Int) = ((r * b % u : Nat) : Int) by rw [Int.natCast_emod, Int.natCast_mul])
        have HL := Lib.hid (Nat.mod_lt (r * b) (show 0 < u by omega))
        clear e e2 hH hb HK
        go_wp2
        go_round
        case rel => exact ⟨t, k + 1, r * b % u, by go_num, by rw [HM.out], by omega, by omega, HL.out, HE.out⟩
        case measure => simp [intOf]; omega

set_option maxHeartbeats 2000000 in
theorem i_pdig (p0 q b : Int) (k : Nat) (w : World) (q1 : 1 ≤ q) (q2 : q ≤ 1000) (p1 : 0 ≤ p0) (p2 : p0 ≤ q - 1) (b1 : 2 ≤ b) (b2 : b ≤ 16) (hk : k ≤ 40) :
    Calls Try.prog 20 #[.int .i64 p0, .int .i64 q, .int .i64 b, .int .i64 k] w fun e w' => ∃ v, e = .returned v ∧ Row w' w.heap.size v (dgl b q p0 k) ∧ Below w.heap.size w w' := by
  obtain ⟨i0, hi, hz0, hz1, hz2⟩ := info_parts info_int
  have HF := Lib.hid (show frB p0 q = true from decide_eq_true ⟨q1, q2, p1, p2⟩)
  have HB := Lib.hid (show baseB b = true from decide_eq_true ⟨b1, b2⟩)
  have HBD := Lib.hid (fun k => rst_bd (b := b) (q := q) (p := p0) (by omega) p1 (by omega) k)
  go_enter Try.func20, Try.ntmps20
  go_wp2_with fail
  refine (i_frac p0 q _).mono ?_
  rw [HF.out]
  rintro e w1 ⟨rfl, rfl⟩
  go_wp2_with fail
  refine (i_base b _).mono ?_
  rw [HB.out]
  rintro e w1 ⟨rfl, rfl⟩
  go_wp2_with (first | (go_at_call 41; refine (i_in_t _ _ _ _ ?_ ?_).mono ?_; omega; omega; rintro e w1 ⟨rfl, rfl⟩) | (go_at_call 41; refine (i_in_f _ _ _ _ ?_).mono ?_; omega; rintro e w1 ⟨rfl, rfl⟩))
  go_loopw [0, 9, 25] (fun m o i wr => ∃ j : Nat, j ≤ k ∧ i = .int .i64 j ∧ m = .int .i64 (rst b q p0 j) ∧ Row wr w.heap.size o (dgl b q p0 j) ∧ Below w.heap.size w wr) (fun _ _ i _ => k - (intOf i).toNat)
  case atStart => exact ⟨0, Nat.zero_le _, rfl, rfl, Row.nil _ _, Below.refl _ _⟩
  case round =>
    obtain ⟨j, hj, rfl, rfl, hO, hW⟩ := hrel
    by_cases hlt : j < k
    · obtain ⟨r0, r1⟩ := HBD.out j
      obtain ⟨r, hr⟩ : ∃ r, r = rst b q p0 j := ⟨_, rfl⟩
      have HRS := Lib.hid (show rst b q p0 (j + 1) = r * b % q by rw [rst_succ, ← hr])
      have HDS := Lib.hid (show dgl b q p0 (j + 1) = dgl b q p0 j ++ [r * b / q] by rw [dgl_succ, ← hr])
      rw [← hr] at r0 r1
      rw [← hr]
      have m0 : 0 ≤ r * b := Int.mul_nonneg r0 (by omega)
      have m1 : r * b ≤ 1000 * 16 := Int.mul_le_mul (by omega) (by omega) (by omega) (by omega)
      have hle : (dgl b q p0 j).length ≤ 1000 := by rw [length_dgl]; omega
      have hw0 := hW.size
      have HW := Lib.hid hW
      clear hW hr
      go_wp2_with (first | (at_builtin; refine wpList_append_own _ rfl _ _ 24 rfl w.heap.size 3 i0 (.int .i64 0) 1 8 Try.underlying24 hi hz0 hz1 hz2 rfl (by decide) _ _ _ rfl (World.ownsRow.alloc hO _) ⟨wr.heap.size, 0, none⟩ 1 1 [.int .i64 (r * b / q)] rfl rfl (cell_one_new _ _ _) ?c4_1 ?c4_2 ?c4_3 ?c4_4 ?_))
      case c4_1 => first | rfl | (intro u hu; simp at hu; subst hu; rfl)
      case c4_2 => unfold maxLen; omega
      case c4_3 => omega
      case c4_4 => first | omega | (simp; omega)
      intro v1 w1 hown1 hgrow1 _
      have HO := Lib.hid (Row.app hown1)
      have HW1 := Lib.hid (Row.grow hO HW.out hgrow1)
      clear hown1 hgrow1 hO HW
      go_wp2
      go_roundw
      case rel => exact ⟨j + 1, by omega, by go_num, by rw [HRS.out], by rw [HDS.out]; exact HO.out, HW1.out⟩
      case measure => simp [intOf]; omega
    · obtain rfl : j = k := by omega
      go_wp2
      go_ret
      exact ⟨_, rfl, hO, hW⟩
end Go.Proofs.Ytnbhbifcjcfmaaa
