/- Contracts of l14Digits and ExpansionOf (reference). Conditions: none. -/
import Derived.Test.YtnbhbifcjcfmaaaExpN
import Derived.Maps.OwnSet
import Derived.Maps.OwnOps
import Derived.Deep.LoopGhost
import Derived.WalkArith
import Derived.Outline
import Derived.Deep.RegionWith
import Derived.Deep.QuietTactic
import Derived.BigQuiet
namespace Go.Proofs.Ytnbhbifcjcfmaaa
open Go.RowKit
set_option linter.unusedVariables false

set_option maxHeartbeats 2000000 in
theorem s_digs (p0 q b : Int) (k : Nat) (w : World) (q1 : 1 ≤ q) (q2 : q ≤ 1000) (p1 : 0 ≤ p0) (p2 : p0 ≤ q - 1) (b1 : 2 ≤ b) (b2 : b ≤ 16) (hk : k ≤ 1000) :
    Calls Try.prog 51 #[.int .i64 p0, .int .i64 q, .int .i64 b, .int .i64 k] w fun e w' => ∃ v, e = .returned v ∧ Row w' w.heap.size v (dgl b q p0 k) ∧ Below w.heap.size w w' := by
  obtain ⟨i0, hi, hz0, hz1, hz2⟩ := info_parts info_int
  have HBD := Lib.hid (fun k => rst_bd (b := b) (q := q) (p := p0) (by omega) p1 (by omega) k)
  go_enter Try.func51, Try.ntmps51
  go_wp2
  go_loopw [0, 9, 10] (fun m o i wr => ∃ j : Nat, j ≤ k ∧ i = .int .i64 j ∧ m = .int .i64 (rst b q p0 j) ∧ Row wr w.heap.size o (dgl b q p0 j) ∧ Below w.heap.size w wr) (fun _ _ i _ => k - (intOf i).toNat)
  case atStart => exact ⟨0, Nat.zero_le _, rfl, rfl, Row.made w, b_alloc (Below.refl _ _) _⟩
  case round =>
    obtain ⟨j, hj, rfl, rfl, hO, hW⟩ := hrel
    by_cases hlt : j < k
    · obtain ⟨r0, r1⟩ := HBD.out j
      obtain ⟨r, hr⟩ : ∃ r, r = rst b q p0 j := ⟨_, rfl⟩
      have HRS := Lib.hid (show rst b q p0 (j + 1) = r * b % q by rw [rst_succ, ← hr])
      have HDS := Lib.hid (show dgl b q p0 (j + 1) = dgl b q p0 j ++ [r * b / q] by rw [dgl_succ, ← hr])
      rw [← hr] at r0 r1
      rw [← hr]
      have m0 : 0 ≤ r * b := Int.mul_nonneg r0 (by omega)
      have m1 : r * b ≤ 1000 * 16 := Int.mul_le_mul (by omega) (by omega) (by omega) (by omega)
      have hle : (dgl b q p0 j).length ≤ 1000 := by rw [length_dgl]; omega
      have hw0 := hW.size
      have HW := Lib.hid hW
      clear hW hr
      go_wp2_with (first | (at_builtin; refine wpList_append_own _ rfl _ _ 24 rfl w.heap.size 3 i0 (.int .i64 0) 1 8 Try.underlying24 hi hz0 hz1 hz2 rfl (by decide) _ _ _ rfl (World.ownsRow.alloc hO _) ⟨wr.heap.size, 0, none⟩ 1 1 [.int .i64 (r * b / q)] rfl rfl (cell_one_new _ _ _) ?c4_1 ?c4_2 ?c4_3 ?c4_4 ?_))
      case c4_1 => first | rfl | (intro u hu; simp at hu; subst hu; rfl)
      case c4_2 => unfold maxLen; omega
      case c4_3 => omega
      case c4_4 => first | omega | (simp; omega)
      intro v1 w1 hown1 hgrow1 _
      have HO := Lib.hid (Row.app hown1)
      have HW1 := Lib.hid (Row.grow hO HW.out hgrow1)
      clear hown1 hgrow1 hO HW
      go_wp2
      go_roundw
      case rel => exact ⟨j + 1, by omega, by go_num, by rw [HRS.out], by rw [HDS.out]; exact HO.out, HW1.out⟩
      case measure => simp [intOf]; omega
    · obtain rfl : j = k := by omega
      go_wp2
      go_ret
      exact ⟨_, rfl, hO, hW⟩
theorem s_digsI (p0 q b K : Int) (k : Nat) (w : World) (hK : K = (k : Int)) (q1 : 1 ≤ q) (q2 : q ≤ 1000) (p1 : 0 ≤ p0) (p2 : p0 ≤ q - 1) (b1 : 2 ≤ b) (b2 : b ≤ 16) (hk : k ≤ 1000) :
    Calls Try.prog 51 #[.int .i64 p0, .int .i64 q, .int .i64 b, .int .i64 K] w fun e w' => ∃ v, e = .returned v ∧ Row w' w.heap.size v (dgl b q p0 k) ∧ Below w.heap.size w w' := by
  subst hK; exact s_digs p0 q b k w q1 q2 p1 p2 b1 b2 hk
theorem ret_slices {g n o o1 m m1 c c1 : Nat} {t : Bool} {A : Option Addr} {k : Nat} (h1 : o = o1) (h2 : m = m1) (h3 : c = c1) :
    Ending.returned (.tuple #[.slice A n k, .slice (some ⟨g, o, none⟩) m c, .bool t]) = .returned (.tuple #[.slice A n k, .slice (some ⟨g, o1, none⟩) m1 c1, .bool t]) := by subst h1 h2 h3; rfl
/-- Two lists that read in the world that is left, and a Bool. -/
def Rd2 (w : World) (xs ys : List Int) (t : Bool) (e : Ending) (w' : World) : Prop :=
  ∃ A1 c1 A2 c2, e = .returned (.tuple #[.slice A1 xs.length c1, .slice A2 ys.length c2, .bool t]) ∧ RI w' w'.heap.size A1 xs ∧ RI w' w'.heap.size A2 ys ∧ Below w.heap.size w w'
set_option maxHeartbeats 2000000 in
theorem s_exp (p q b : Int) (w : World) :
    Calls Try.prog 31 #[.int .i64 p, .int .i64 q, .int .i64 b] w (Rd2 w (exPre p q b) (exPer p q b) (exB p q b)) := by
  cases hx : exB p q b
  · have HX := Lib.hid hx
    clear hx
    go_enter Try.func31, Try.ntmps31
    go_wp2_with fail
    refine (s_exok p q b _).mono ?_
    rw [HX.out]
    rintro e w1 ⟨rfl, rfl⟩
    go_wp2
    go_ret3
    rw [exPre_f HX.out, exPer_f HX.out]
    exact ⟨none, 0, none, 0, rfl, .inl rfl, .inl rfl, Below.refl _ _⟩
  · have HX := Lib.hid hx
    obtain ⟨q1, q2, p1, p2, b1, b2⟩ := exB_iff.1 hx
    obtain ⟨Q, rfl⟩ := Int.eq_ofNat_of_zero_le (show 0 ≤ q by omega)
    have hrb := rep_bd (b := b) (q := (Q : Int)) (p := p) (by omega) p1 (by omega)
    rw [Int.toNat_natCast] at hrb
    obtain ⟨n, hn⟩ : ∃ n, n = preN b Q p := ⟨_, rfl⟩
    obtain ⟨m, hm⟩ : ∃ m, m = perN b Q p := ⟨_, rfl⟩
    have HPE := Lib.hid (show exPre p Q b = (dgl b Q p (n + m)).take n ∧ exPer p Q b = (dgl b Q p (n + m)).drop n by
      rw [exPre_t hx, exPer_t hx]; unfold preL perL; rw [← hn, ← hm]; exact ⟨(take_dgl (by omega)).symm, rfl⟩)
    have HN := Lib.hid hn
    have HM := Lib.hid hm
    rw [← hn, ← hm] at hrb
    clear hx hn hm
    go_enter Try.func31, Try.ntmps31
    go_wp2_with fail
    refine (s_exok p Q b _).mono ?_
    rw [HX.out]
    rintro e w1 ⟨rfl, rfl⟩
    go_wp2_with fail
    refine (s_lens p b Q _ (by omega) (by omega) p1 p2 b1 b2).mono ?_
    rw [← HN.out, ← HM.out]
    rintro e w1 ⟨rfl, hb1⟩
    have HT1 := Lib.hid hb1
    clear hb1
    go_wp2_with fail
    refine (s_digsI p Q b ((n : Int) + m) (n + m) _ (by omega) (by omega) (by omega) p1 p2 b1 b2 (by omega)).mono ?_
    rintro e w2 ⟨v, rfl, hO, hb2⟩
    have HT2 := Lib.hid (b_step HT1.out hb2)
    have hln := length_dgl b Q p (n + m)
    have l1 : ((dgl b Q p (n + m)).take n).length = n := by rw [List.length_take, hln]; omega
    have l2 : ((dgl b Q p (n + m)).drop n).length = m := by rw [List.length_drop, hln]; omega
    have HL1 := Lib.hid l1
    have HL2 := Lib.hid l2
    have HLN := Lib.hid hln
    rcases hO.2 with ⟨hv, h0⟩ | ⟨g, c, cur, hv, hB, hh, hc1, hc2, _⟩
    · rw [hln] at h0
      subst hv
      obtain rfl : n = 0 := by omega
      obtain rfl : m = 0 := by omega
      clear hb2 hO h0 hln l1 l2
      go_wp2
      go_quiet (fail)
      go_wp2
      go_ret3
      rw [HPE.out.1, HPE.out.2]
      exact ⟨none, 0, none, 0, rfl, .inl rfl, .inl rfl, below_drewN HT2.out _⟩
    · rw [hln] at hv hc1
      subst hv
      have hO2 := hO
      rw [Row, hln] at hO2
      have HR := Lib.hid ((OI.of_own (n := n + m) (xs := dgl b Q p (n + m)) hO2).2.reads)
      unfold maxLen at hc2
      clear hb2 hO hO2 hln l1 l2 hB hh
      by_cases hcn : n = c
      · subst hcn
        obtain rfl : m = 0 := by omega
        go_wp2
        go_quiet (fail)
        go_wp2
        go_ret3
        rw [HPE.out.1, HPE.out.2]
        refine ⟨some ⟨g, 0, none⟩, n, some ⟨g, 0, none⟩, 0, ?_, HR.out.take n, .inl (List.eq_nil_of_length_eq_zero HL2.out), below_drewN HT2.out _⟩
        rw [HL1.out, HL2.out]
        first | rfl | trace_state
      · have hcl : n < c := by omega
        go_wp2
        go_quiet (fail)
        go_wp2
        go_ret3
        rw [HPE.out.1, HPE.out.2]
        refine ⟨some ⟨g, 0, none⟩, c, some ⟨g, 0 + n, none⟩, c - n, ?_, HR.out.take n, HR.out.drop n, below_drewN HT2.out _⟩
        rw [HL1.out, HL2.out]
        exact ret_slices (by omega) (by omega) (by omega)
end Go.Proofs.Ytnbhbifcjcfmaaa
