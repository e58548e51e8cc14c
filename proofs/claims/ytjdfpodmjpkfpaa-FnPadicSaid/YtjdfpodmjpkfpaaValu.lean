/- Contracts of ValuationOf (program and reference) and the law's walk. Conditions: none. -/
import Derived.Test.YtjdfpodmjpkfpaaPrime
import Derived.Test.YtjdfpodmjpkfpaaIn
namespace Go.Proofs.Ytjdfpodmjpkfpaa
open Go.RowKit
set_option linter.unusedVariables false

/-- How often p divides n; f bounds the number of steps. -/
def vl (p : Int) : Nat → Int → Nat
  | 0, _ => 0
  | f + 1, n => if n.tmod p = 0 then vl p f (n.tdiv p) + 1 else 0
theorem vl_yes {p : Int} {f : Nat} {n : Int} (h : n.tmod p = 0) : vl p (f + 1) n = vl p f (n.tdiv p) + 1 := by simp only [vl, if_pos h]
theorem vl_no {p : Int} {f : Nat} {n : Int} (h : ¬ n.tmod p = 0) : vl p (f + 1) n = 0 := by simp only [vl, if_neg h]
theorem tdiv_step {p n : Int} (hp : 2 ≤ p) (h : n.tmod p = 0) (h0 : n ≠ 0) : n.tdiv p ≠ 0 ∧ 2 * (n.tdiv p).natAbs ≤ n.natAbs := by
  have e : n.tdiv p * p = n := by
    have := Int.mul_tdiv_add_tmod n p
    rw [h, Int.add_zero, Int.mul_comm] at this
    exact this
  refine ⟨fun hz => h0 (by rw [← e, hz]; simp), ?_⟩
  have e2 : (n.tdiv p).natAbs * p.natAbs = n.natAbs := by rw [← Int.natAbs_mul, e]
  have : (n.tdiv p).natAbs * 2 ≤ (n.tdiv p).natAbs * p.natAbs := Nat.mul_le_mul_left _ (by omega)
  omega
/-- What ValuationOf is asked. -/
def ValP (n p : Int) : Prop := primeB p = true ∧ n ≠ 0 ∧ -1000000000000 ≤ n ∧ n ≤ 1000000000000
noncomputable def valR (n p : Int) : Int := @ite Int (ValP n p) (Classical.propDecidable _) (vl p 64 n : Nat) (-1)
theorem valR_t {n p : Int} (h : ValP n p) : valR n p = (vl p 64 n : Nat) := by unfold valR; rw [if_pos h]
theorem valR_f {n p : Int} (h : ¬ ValP n p) : valR n p = -1 := by unfold valR; rw [if_neg h]

set_option maxHeartbeats 1000000 in
theorem s_valu (n p : Int) (w : World) :
    Calls Try.prog 14 #[.int .i64 n, .int .i64 p] w fun e w' => e = .returned (.int .i64 (valR n p)) ∧ Below w.heap.size w w' := by
  cases hp : primeB p
  · have HPR := Lib.hid hp
    have HV := Lib.hid (valR_f (n := n) (p := p) fun hh => by rw [hh.1] at hp; cases hp)
    clear hp
    go_enter Try.func14, Try.ntmps14
    go_wp2_with fail
    refine (s_prime p _).mono ?_
    rw [HPR.out]
    rintro e w1 ⟨rfl, rfl⟩
    go_wp2
    go_ret
    exact ⟨by rw [HV.out]; rfl, Below.refl _ _⟩
  · have HPR := Lib.hid hp
    obtain ⟨p1, p2⟩ := primeB_bd hp
    by_cases h0 : n = 0
    · have HV := Lib.hid (valR_f (n := n) (p := p) fun hh => hh.2.1 h0)
      have hz : (n == 0) = true := by simp [h0]
      clear hp h0
      go_enter Try.func14, Try.ntmps14
      go_wp2_with fail
      refine (s_prime p _).mono ?_
      rw [HPR.out]
      rintro e w1 ⟨rfl, rfl⟩
      go_wp2
      go_ret
      exact ⟨by rw [HV.out]; rfl, Below.refl _ _⟩
    · have hz : (n == 0) = false := by simp [h0]
      by_cases hr : -1000000000000 ≤ n ∧ n ≤ 1000000000000
      · have HV := Lib.hid (valR_t (n := n) (p := p) ⟨hp, h0, hr.1, hr.2⟩)
        obtain ⟨r1, r2⟩ := hr
        have H0 := Lib.hid h0
        clear hp h0
        go_enter Try.func14, Try.ntmps14
        go_wp2_with fail
        refine (s_prime p _).mono ?_
        rw [HPR.out]
        rintro e w1 ⟨rfl, rfl⟩
        go_wp2_with (first | (go_at_call 43; refine (s_in_t _ _ _ _ ?_ ?_).mono ?_; omega; omega; rintro e w1 ⟨rfl, rfl⟩) | (go_at_call 43; refine (s_in_f _ _ _ _ ?_).mono ?_; omega; rintro e w1 ⟨rfl, rfl⟩))
        go_loop [0, 5] (fun m y => ∃ (q : Int) (c f : Nat), m = .int .i64 q ∧ y = .int .i64 (c : Int) ∧ c + f = 64 ∧ Hid (q ≠ 0) ∧ q.natAbs ≤ n.natAbs ∧ q.natAbs < 2 ^ f ∧ Hid (vl p 64 n = c + vl p f q)) (fun m _ => (intOf m).natAbs)
        case atStart => exact ⟨n, 0, 64, rfl, rfl, by omega, H0.out, Nat.le_refl _, by omega, by unfold Hid; simp⟩
        case round =>
          obtain ⟨q, c, f, rfl, rfl, hcf, hq0, hqn, hqf, hD⟩ := hrel
          cases f with
          | zero => exact absurd (show q = 0 by simp at hqf; omega) hq0.out
          | succ f =>
            have HF := Lib.hid hqf
            have hc64 : c ≤ 64 := by omega
            have HCF := Lib.hid hcf
            clear hqf hcf
            by_cases ht : q.tmod p = 0
            · obtain ⟨t1, t2⟩ := tdiv_step p1 ht hq0.out
              have HY := Lib.hid (vl_yes (f := f) ht)
              have hb : (q.tmod p == 0) = true := by simp [ht]
              have HT1 := Lib.hid t1
              have b1 : -1000000000000 ≤ q.tdiv p := by omega
              have b2 : q.tdiv p ≤ 1000000000000 := by omega
              have b3 : (q.tdiv p).natAbs < q.natAbs := by have := hq0.out; omega
              clear ht t1
              go_wp2
              go_round
              case rel => exact ⟨q.tdiv p, c + 1, f, rfl, by go_num, by have := HCF.out; omega, HT1.out, by omega, by have := HF.out; rw [Nat.pow_succ] at this; omega, by unfold Hid; rw [hD.out, HY.out]; omega⟩
              case measure => simpa [intOf] using b3
            · have HN := Lib.hid (vl_no (f := f) ht)
              have hb : (q.tmod p == 0) = false := by simp [ht]
              have hb2 : ¬ q.tmod p = 0 := ht
              clear ht
              go_wp2
              go_ret
              exact ⟨by rw [HV.out, hD.out, HN.out]; rfl, Below.refl _ _⟩
      · have HV := Lib.hid (valR_f (n := n) (p := p) fun hh => hr ⟨hh.2.2.1, hh.2.2.2⟩)
        have hr' : n < -1000000000000 ∨ 1000000000000 < n := by omega
        clear hp hr h0
        go_enter Try.func14, Try.ntmps14
        go_wp2_with fail
        refine (s_prime p _).mono ?_
        rw [HPR.out]
        rintro e w1 ⟨rfl, rfl⟩
        go_wp2_with (first | (go_at_call 43; refine (s_in_t _ _ _ _ ?_ ?_).mono ?_; omega; omega; rintro e w1 ⟨rfl, rfl⟩) | (go_at_call 43; refine (s_in_f _ _ _ _ ?_).mono ?_; omega; rintro e w1 ⟨rfl, rfl⟩))
        go_ret
        exact ⟨by rw [HV.out]; rfl, Below.refl _ _⟩

set_option maxHeartbeats 1000000 in
theorem i_valu (n p : Int) (w : World) :
    Calls Try.prog 15 #[.int .i64 n, .int .i64 p] w fun e w' => e = .returned (.int .i64 (valR n p)) ∧ Below w.heap.size w w' := by
  cases hp : primeB p
  · have HPR := Lib.hid hp
    have HV := Lib.hid (valR_f (n := n) (p := p) fun hh => by rw [hh.1] at hp; cases hp)
    clear hp
    go_enter Try.func15, Try.ntmps15
    go_wp2_with fail
    refine (i_prime p _).mono ?_
    rw [HPR.out]
    rintro e w1 ⟨rfl, hb1⟩
    go_wp2
    go_ret
    exact ⟨by rw [HV.out]; rfl, hb1⟩
  · have HPR := Lib.hid hp
    obtain ⟨p1, p2⟩ := primeB_bd hp
    by_cases h0 : n = 0
    · have HV := Lib.hid (valR_f (n := n) (p := p) fun hh => hh.2.1 h0)
      have hz : (n == 0) = true := by simp [h0]
      clear hp h0
      go_enter Try.func15, Try.ntmps15
      go_wp2_with fail
      refine (i_prime p _).mono ?_
      rw [HPR.out]
      rintro e w1 ⟨rfl, hb1⟩
      go_wp2
      go_ret
      exact ⟨by rw [HV.out]; rfl, hb1⟩
    · have hz : (n == 0) = false := by simp [h0]
      by_cases hr : -1000000000000 ≤ n ∧ n ≤ 1000000000000
      · have HV := Lib.hid (valR_t (n := n) (p := p) ⟨hp, h0, hr.1, hr.2⟩)
        obtain ⟨r1, r2⟩ := hr
        have H0 := Lib.hid h0
        clear hp h0
        go_enter Try.func15, Try.ntmps15
        go_wp2_with fail
        refine (i_prime p _).mono ?_
        rw [HPR.out]
        rintro e w1 ⟨rfl, hb1⟩
        go_wp2_with (first | (go_at_call 45; refine (i_in_t _ _ _ _ ?_ ?_).mono ?_; omega; omega; rintro e w1 ⟨rfl, rfl⟩) | (go_at_call 45; refine (i_in_f _ _ _ _ ?_).mono ?_; omega; rintro e w1 ⟨rfl, rfl⟩))
        go_loop [0, 5] (fun m y => ∃ (q : Int) (c f : Nat), m = .int .i64 q ∧ y = .int .i64 (c : Int) ∧ c + f = 64 ∧ Hid (q ≠ 0) ∧ q.natAbs ≤ n.natAbs ∧ q.natAbs < 2 ^ f ∧ Hid (vl p 64 n = c + vl p f q)) (fun m _ => (intOf m).natAbs)
        case atStart => exact ⟨n, 0, 64, rfl, rfl, by omega, H0.out, Nat.le_refl _, by omega, by unfold Hid; simp⟩
        case round =>
          obtain ⟨q, c, f, rfl, rfl, hcf, hq0, hqn, hqf, hD⟩ := hrel
          cases f with
          | zero => exact absurd (show q = 0 by simp at hqf; omega) hq0.out
          | succ f =>
            have HF := Lib.hid hqf
            have hc64 : c ≤ 64 := by omega
            have HCF := Lib.hid hcf
            clear hqf hcf
            by_cases ht : q.tmod p = 0
            · obtain ⟨t1, t2⟩ := tdiv_step p1 ht hq0.out
              have HY := Lib.hid (vl_yes (f := f) ht)
              have hb : (q.tmod p == 0) = true := by simp [ht]
              have HT1 := Lib.hid t1
              have b1 : -1000000000000 ≤ q.tdiv p := by omega
              have b2 : q.tdiv p ≤ 1000000000000 := by omega
              have b3 : (q.tdiv p).natAbs < q.natAbs := by have := hq0.out; omega
              clear ht t1
              go_wp2
              go_round
              case rel => exact ⟨q.tdiv p, c + 1, f, rfl, by go_num, by have := HCF.out; omega, HT1.out, by omega, by have := HF.out; rw [Nat.pow_succ] at this; omega, by unfold Hid; rw [hD.out, HY.out]; omega⟩
              case measure => simpa [intOf] using b3
            · have HN := Lib.hid (vl_no (f := f) ht)
              have hb : (q.tmod p == 0) = false := by simp [ht]
              have hb2 : ¬ q.tmod p = 0 := ht
              clear ht
              go_wp2
              go_ret
              exact ⟨by rw [HV.out, hD.out, HN.out]; rfl, hb1⟩
      · have HV := Lib.hid (valR_f (n := n) (p := p) fun hh => hr ⟨hh.2.2.1, hh.2.2.2⟩)
        have hr' : n < -1000000000000 ∨ 1000000000000 < n := by omega
        clear hp hr h0
        go_enter Try.func15, Try.ntmps15
        go_wp2_with fail
        refine (i_prime p _).mono ?_
        rw [HPR.out]
        rintro e w1 ⟨rfl, hb1⟩
        go_wp2_with (first | (go_at_call 45; refine (i_in_t _ _ _ _ ?_ ?_).mono ?_; omega; omega; rintro e w1 ⟨rfl, rfl⟩) | (go_at_call 45; refine (i_in_f _ _ _ _ ?_).mono ?_; omega; rintro e w1 ⟨rfl, rfl⟩))
        go_ret
        exact ⟨by rw [HV.out]; rfl, hb1⟩

theorem walk_valu (n : Int) (_ : (Lit.int .i64 n).wf = true) (p : Int) (_ : (Lit.int .i64 p).wf = true) (w : World) :
    Calls Try.prog 3 #[.int .i64 n, .int .i64 p] w fun e w' => e = .returned (.bool true) ∧ Below w.heap.size w w' := by
  go_enter Try.func3, Try.ntmps3
  go_wp2_with fail
  refine (s_valu n p _).mono ?_
  rintro e w1 ⟨rfl, hb1⟩
  go_wp2_with fail
  refine (i_valu n p _).mono ?_
  rintro e w2 ⟨rfl, hb2⟩
  have T2 := b_step (b_step (Below.refl _ _) hb1) hb2
  clear hb1 hb2
  go_wp2
  go_ret
  exact ⟨rfl, T2⟩
end Go.Proofs.Ytjdfpodmjpkfpaa
