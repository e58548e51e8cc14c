/- Plain law of FnPadic: lists of k digits are the remainders modulo p^k, roots and fractions are found. Conditions: none. -/
import Derived.Test.YtjdfpodmjpkfpaaPadRat
import Derived.Test.YtjdfpodmjpkfpaaPadRoot
import Derived.Test.YtjdfpodmjpkfpaaPadInv
import Derived.Test.YtjdfpodmjpkfpaaPadDig
import Derived.Test.YtjdfpodmjpkfpaaPadNeg
import Derived.Test.YtjdfpodmjpkfpaaPadAdd
import Derived.Test.YtjdfpodmjpkfpaaPadTimes
import Derived.Test.YtjdfpodmjpkfpaaValu
namespace Go.Proofs.Ytjdfpodmjpkfpaa
set_option linter.unusedVariables false

/-! Plain law of FnPadic: lists of k digits are the remainders modulo p^k. -/
theorem plc_in {p : Int} (hp : 2 ≤ p) : ∀ (k : Nat) (n : Int), ∀ x ∈ plc p k n, 0 ≤ x ∧ x ≤ p - 1
  | 0, _, x, h => by simp [plc] at h
  | k + 1, n, x, h => by
    have h' : x ∈ n % p :: plc p k (n / p) := h
    rw [List.mem_cons] at h'
    rcases h' with rfl | h'
    · have := Int.emod_nonneg n (show p ≠ 0 by omega)
      have := Int.emod_lt_of_pos n (show 0 < p by omega)
      omega
    · exact plc_in hp k _ x h'
theorem val_plc {p : Int} (hp : 2 ≤ p) : ∀ (k : Nat) (n : Int), val p (plc p k n) = n % p ^ k
  | 0, n => by simp [plc, val, Int.emod_one]
  | k + 1, n => by
    have e : val p (plc p (k + 1) n) = val p (plc p k (n / p)) * p + n % p := rfl
    rw [e, val_plc hp k]
    have hq : 0 < p ^ k := Int.pow_pos (by omega)
    have h1 := Int.mul_ediv_add_emod n p
    have h2 := Int.mul_ediv_add_emod (n / p) (p ^ k)
    have h3 := Int.emod_nonneg n (show p ≠ 0 by omega)
    have h4 := Int.emod_lt_of_pos n (show 0 < p by omega)
    have h5 := Int.emod_nonneg (n / p) (show p ^ k ≠ 0 by omega)
    have h6 := Int.emod_lt_of_pos (n / p) hq
    symm
    rw [Int.emod_eq_iff (by rw [Int.pow_succ]; exact Int.ne_of_gt (Int.mul_pos hq (by omega)))]
    refine ⟨?_, ?_, ?_⟩
    · have := Int.mul_nonneg h5 (show 0 ≤ p by omega); omega
    · rw [Int.pow_succ, Int.natAbs_of_nonneg]
      · have : (n / p % p ^ k) * p ≤ (p ^ k - 1) * p := Int.mul_le_mul_of_nonneg_right (by omega) (by omega)
        rw [Int.sub_mul] at this
        omega
      · exact Int.le_of_lt (Int.mul_pos hq (by omega))
    · refine ⟨-(n / p / p ^ k), ?_⟩
      rw [Int.pow_succ]
      grind
theorem plc_pad {p : Int} (hp : primeB p = true) {k : Nat} (h1 : 1 ≤ k) (h8 : k ≤ 8) (n : Int) : PadP p (plc p k n) :=
  ⟨hp, by rw [length_plc]; exact h1, by rw [length_plc]; exact h8, allB_iff.2 (plc_in (primeB_bd hp).1 k n)⟩
theorem plc_congr {p : Int} (hp : 2 ≤ p) {k : Nat} {m n : Int} (h : m % p ^ k = n % p ^ k) : plc p k m = plc p k n := by rw [← plc_mod hp k m, h, plc_mod hp k n]
theorem addR_t {p : Int} {xs ys : List Int} (h : TwoP p xs ys) : addR p xs ys = plc p xs.length (val p xs + val p ys) := by
  unfold addR; rw [if_pos (twoB_t h), plc_mod (primeB_bd h.1.1).1]
theorem timesR_t {p : Int} {xs ys : List Int} (h : TwoP p xs ys) : timesR p xs ys = plc p xs.length (val p xs * val p ys) := by
  unfold timesR; rw [if_pos (twoB_t h), plc_mod (primeB_bd h.1.1).1]
theorem negR_t {p : Int} {xs : List Int} (h : PadP p xs) : negR p xs = plc p xs.length (-(val p xs)) := by
  unfold negR; rw [if_pos (padB_t h), plc_mod (primeB_bd h.1).1]
/-- k digits of p. -/
def KP (p : Int) (k : Nat) (xs : List Int) : Prop := PadP p xs ∧ xs.length = k
theorem KP.two {p : Int} {k : Nat} {xs ys : List Int} (h : KP p k xs) (g : KP p k ys) : TwoP p xs ys := ⟨h.1, g.1, h.2.trans g.2.symm⟩
theorem KP.plc {p : Int} {k : Nat} {xs : List Int} (h : KP p k xs) (n : Int) : KP p k (plc p k n) := ⟨plc_pad h.1.1 (h.2 ▸ h.1.2.1) (h.2 ▸ h.1.2.2.1) n, length_plc _ _ _⟩
theorem KP.add {p : Int} {k : Nat} {xs ys : List Int} (h : KP p k xs) (g : KP p k ys) : addR p xs ys = Go.Proofs.Ytjdfpodmjpkfpaa.plc p k (val p xs + val p ys) := by rw [addR_t (h.two g), h.2]
theorem KP.times {p : Int} {k : Nat} {xs ys : List Int} (h : KP p k xs) (g : KP p k ys) : timesR p xs ys = Go.Proofs.Ytjdfpodmjpkfpaa.plc p k (val p xs * val p ys) := by rw [timesR_t (h.two g), h.2]
theorem KP.neg {p : Int} {k : Nat} {xs : List Int} (h : KP p k xs) : negR p xs = Go.Proofs.Ytjdfpodmjpkfpaa.plc p k (-(val p xs)) := by rw [negR_t h.1, h.2]
theorem KP.p2 {p : Int} {k : Nat} {xs : List Int} (h : KP p k xs) : 2 ≤ p := (primeB_bd h.1.1).1
theorem pad_ring {p : Int} {k : Nat} {a b c : List Int} (ha : KP p k a) (hb : KP p k b) (hc : KP p k c) : timesR p (addR p a b) c = addR p (timesR p a c) (timesR p b c) := by
  rw [ha.add hb, ha.times hc, hb.times hc, (ha.plc _).times hc, (ha.plc _).add (ha.plc _), val_plc ha.p2, val_plc ha.p2, val_plc ha.p2]
  refine plc_congr ha.p2 ?_
  rw [Int.mul_emod, Int.emod_emod, ← Int.mul_emod, Int.add_mul, ← Int.add_emod]
theorem plc_zero (p : Int) : ∀ k, plc p k 0 = List.replicate k 0
  | 0 => rfl
  | k + 1 => by
    have := plc_zero p k
    show (0 : Int) % p :: plc p k (0 / p) = _
    rw [Int.zero_emod, Int.zero_ediv, this, List.replicate_succ]
theorem pad_neg {p : Int} {k : Nat} {a : List Int} (ha : KP p k a) : addR p a (negR p a) = List.replicate k 0 := by
  rw [ha.neg, ha.add (ha.plc _), val_plc ha.p2, ← plc_zero p]
  refine plc_congr ha.p2 ?_
  rw [Int.add_emod, Int.emod_emod, ← Int.add_emod, Int.add_right_neg]
theorem sum_rep (k : Nat) (x : Int) : (List.replicate k x).sum = k * x := by
  induction k with
  | zero => simp
  | succ k ih => rw [List.replicate_succ, List.sum_cons, ih, Int.natCast_succ, Int.add_mul]; omega
theorem val_rep (p : Int) : ∀ k, val p (List.replicate k 0) = 0
  | 0 => rfl
  | k + 1 => by
    have := val_rep p k
    have e : val p (List.replicate (k + 1) 0) = val p (List.replicate k 0) * p + 0 := rfl
    rw [e, this]; simp
theorem pow_two {p : Int} (hp : 2 ≤ p) {k : Nat} (hk : 1 ≤ k) : 2 ≤ p ^ k := by
  obtain ⟨j, rfl⟩ : ∃ j, k = j + 1 := ⟨k - 1, by omega⟩
  rw [Int.pow_succ]
  have h : 1 ≤ p ^ j := Int.pow_pos (by omega)
  have := Int.mul_le_mul h hp (by omega) (by omega)
  omega
theorem pad_rep {p : Int} {k : Nat} {a : List Int} (ha : KP p k a) : KP p k (List.replicate k 0) := by rw [← plc_zero p]; exact ha.plc 0
theorem emod_unit {p : Int} {k : Nat} (hk : 1 ≤ k) (n : Int) : n % p ^ k % p = n % p := by
  obtain ⟨j, rfl⟩ : ∃ j, k = j + 1 := ⟨k - 1, by omega⟩
  exact Int.emod_emod_of_dvd n ⟨p ^ j, by rw [Int.pow_succ, Int.mul_comm]⟩
theorem KP.k1 {p : Int} {k : Nat} {xs : List Int} (h : KP p k xs) : 1 ≤ k := h.2 ▸ h.1.2.1
theorem KP.k8 {p : Int} {k : Nat} {xs : List Int} (h : KP p k xs) : k ≤ 8 := h.2 ▸ h.1.2.2.1
theorem KP.bd {p : Int} {k : Nat} {xs : List Int} (h : KP p k xs) : 0 ≤ val p xs ∧ val p xs < p ^ k := by
  have := val_pow h.p2 xs (allB_iff.1 h.1.2.2.2)
  rw [h.2] at this
  omega
theorem KP.id {p : Int} {k : Nat} {xs : List Int} (h : KP p k xs) : val p xs % p ^ k = val p xs := Int.emod_eq_of_lt h.bd.1 h.bd.2
theorem pad_inv {p : Int} {k : Nat} {a : List Int} (ha : KP p k a) (h0 : a.getD 0 0 ≠ 0) : KP p k (invR p a) ∧ padV p (timesR p a (invR p a)) = 1 := by
  have hpi : PiP p a := ⟨ha.1, h0⟩
  have e : invR p a = plc p k (inv (val p a) (p ^ k)) := by unfold invR; rw [if_pos (piB_t hpi), ha.2]
  have hm := pow_two ha.p2 ha.k1
  have hu : val p a % p ≠ 0 := by rw [val_mod ha.1]; exact h0
  obtain ⟨i1, i2, i3⟩ := inv_ok (a := val p a) (m := p ^ k) (by omega) (gcd_pow ha.1.1 hu k)
  rw [e]
  refine ⟨ha.plc _, ?_⟩
  rw [ha.times (ha.plc _), padV_t (ha.plc _).1, val_plc ha.p2, val_plc ha.p2, Int.emod_eq_of_lt i1 i2, i3, Int.emod_eq_of_lt (by omega) (by omega)]
/-! The root. -/
theorem fdR_some {t : Int → Bool} : ∀ (f : Nat) (d e : Int), d ≤ e → e < d + f → t e = true → ∃ z, fdR t f d = z ∧ d ≤ z ∧ z ≤ e ∧ t z = true
  | 0, d, e, h1, h2, _ => absurd h2 (by simp; omega)
  | f + 1, d, e, h1, h2, h3 => by
    by_cases ht : t d = true
    · exact ⟨d, by simp [fdR, ht], by omega, by omega, ht⟩
    · have hne : d ≠ e := by rintro rfl; exact ht h3
      obtain ⟨z, a, b, c, d'⟩ := fdR_some f (d + 1) e (by omega) (by omega) h3
      exact ⟨z, by simp [fdR, ht, a], by omega, c, d'⟩
theorem root_next {p : Int} (hp : primeB p = true) (h2 : p ≠ 2) {n x m : Int} (hm : ∃ c, m = p * c) (hm1 : 1 ≤ m) (hx : x % p ≠ 0) (hsq : (x * x - n) % m = 0) : ∃ d, 0 ≤ d ∧ d < p ∧ rootT p n x m d = true := by
  obtain ⟨p1, p2⟩ := primeB_bd hp
  obtain ⟨c, hc⟩ := hm
  obtain ⟨t, ht⟩ := Int.dvd_of_emod_eq_zero hsq
  have h2x : (2 * x) % p ≠ 0 := by
    intro h
    obtain ⟨q, hq⟩ := Int.dvd_of_emod_eq_zero h
    rw [primeB_iff] at hp
    rcases hp with rfl | rfl | rfl | rfl | rfl | rfl
    · exact h2 rfl
    all_goals omega
  obtain ⟨i1, i2, i3⟩ := inv_ok (a := 2 * x) (m := p) (by omega) (gcd_small hp h2x)
  rw [Int.emod_eq_of_lt (by omega : (0 : Int) ≤ 1) (by omega)] at i3
  refine ⟨(-t * inv (2 * x) p) % p, Int.emod_nonneg _ (by omega), Int.emod_lt_of_pos _ (by omega), ?_⟩
  unfold rootT
  rw [decide_eq_true_eq]
  obtain ⟨d, hd⟩ : ∃ d, d = (-t * inv (2 * x) p) % p := ⟨_, rfl⟩
  rw [← hd]
  have hk : ∃ u, t + 2 * x * d = p * u := by
    have e1 := Int.mul_ediv_add_emod (-t * inv (2 * x) p) p
    have e2 := Int.mul_ediv_add_emod (2 * x * inv (2 * x) p) p
    rw [i3] at e2
    rw [← hd] at e1
    refine ⟨-t * (2 * x * inv (2 * x) p / p) - 2 * x * (-t * inv (2 * x) p / p), ?_⟩
    grind
  obtain ⟨u, hu⟩ := hk
  refine Int.emod_eq_zero_of_dvd ⟨u + d * d * c, ?_⟩
  grind
theorem root_first {p : Int} (hp : primeB p = true) {n v : Int} (hv : n % p = (v * v) % p) (hv0 : v % p ≠ 0) : ∃ d, 0 < d ∧ 2 * d ≤ p ∧ d < p ∧ rootT p n 0 1 d = true := by
  obtain ⟨p1, p2⟩ := primeB_bd hp
  have e1 := Int.mul_ediv_add_emod v p
  have e2 := Int.mul_ediv_add_emod n p
  have e3 := Int.mul_ediv_add_emod (v * v) p
  have r0 := Int.emod_nonneg v (show p ≠ 0 by omega)
  have r1 := Int.emod_lt_of_pos v (show 0 < p by omega)
  have key : ∀ d, (∃ q, d * d - v * v = p * q) → rootT p n 0 1 d = true := by
    rintro d ⟨q, hq⟩
    unfold rootT
    rw [decide_eq_true_eq, Int.one_mul, Int.mul_one, Int.zero_add]
    refine Int.emod_eq_zero_of_dvd ⟨q + v * v / p - n / p, ?_⟩
    rw [hv] at e2
    grind
  obtain ⟨a, ha⟩ : ∃ a, a = v % p := ⟨_, rfl⟩
  obtain ⟨b, hb⟩ : ∃ b, b = v / p := ⟨_, rfl⟩
  rw [← ha, ← hb] at e1
  rw [← ha] at r0 r1 hv0
  by_cases h : 2 * a ≤ p
  · exact ⟨a, by omega, h, r1, key a ⟨-(b * (p * b + 2 * a)), by rw [← e1]; grind⟩⟩
  · exact ⟨p - a, by omega, by omega, by omega, key (p - a) ⟨p - 2 * a - b * (p * b + 2 * a), by rw [← e1]; grind⟩⟩
theorem roots_some {p : Int} (hp : primeB p = true) (h2 : p ≠ 2) {n : Int} : ∀ (k j : Nat) (x : Int), 1 ≤ j → x % p ≠ 0 → 0 ≤ x → x < p ^ j → (x * x - n) % p ^ j = 0 →
    ∃ y, rootsR p n k x (p ^ j) = some y ∧ 0 ≤ y ∧ y < p ^ (j + k) ∧ (y * y - n) % p ^ (j + k) = 0 ∧ y % p = x % p
  | 0, j, x, _, _, h0, h1, hq => ⟨x, rfl, h0, h1, hq, rfl⟩
  | k + 1, j, x, hj, hx, h0, h1, hq => by
    obtain ⟨p1, p2⟩ := primeB_bd hp
    obtain ⟨c, hc⟩ : ∃ c, p ^ j = p * c := by
      obtain ⟨i, rfl⟩ : ∃ i, j = i + 1 := ⟨j - 1, by omega⟩
      exact ⟨p ^ i, by rw [Int.pow_succ, Int.mul_comm]⟩
    have hm1 : 1 ≤ p ^ j := Int.pow_pos (by omega)
    obtain ⟨d, d0, d1, dt⟩ := root_next hp h2 (n := n) ⟨c, hc⟩ hm1 hx hq
    obtain ⟨z, hz, z0, z1, zt⟩ := fdR_some (t := rootT p n x (p ^ j)) p.toNat 0 d d0 (by omega) dt
    have hxz : (x + z * p ^ j) % p = x % p := by
      rw [hc, show x + z * (p * c) = x + p * (z * c) by grind, Int.add_mul_emod_self_left]
    have hzm : 0 ≤ z * p ^ j := Int.mul_nonneg z0 (by omega)
    have hzm2 : z * p ^ j ≤ (p - 1) * p ^ j := Int.mul_le_mul_of_nonneg_right (by omega) (by omega)
    have ep : p ^ (j + 1) = p * p ^ j := by rw [Int.pow_succ, Int.mul_comm]
    rw [Int.sub_mul, Int.one_mul, ← ep] at hzm2
    unfold rootT at zt
    rw [decide_eq_true_eq, ← Int.pow_succ] at zt
    obtain ⟨y, hy, y0, y1, y2, y3⟩ := roots_some hp h2 (n := n) k (j + 1) (x + z * p ^ j) (by omega) (by rw [hxz]; exact hx) (by omega) (by omega) zt
    refine ⟨y, ?_, y0, by rw [← Nat.add_assoc, Nat.add_right_comm]; exact y1, by rw [← Nat.add_assoc, Nat.add_right_comm]; exact y2, y3.trans hxz⟩
    rw [rootsR_some hz (by omega), ← Int.pow_succ]
    exact hy
theorem plc_head {p : Int} {k : Nat} (hk : 1 ≤ k) (n : Int) : (plc p k n).getD 0 0 = n % p := by
  obtain ⟨j, rfl⟩ : ∃ j, k = j + 1 := ⟨k - 1, by omega⟩
  rfl
theorem pad_root {p : Int} {k : Nat} {a : List Int} (ha : KP p k a) (h0 : a.getD 0 0 ≠ 0) (h2 : p ≠ 2) :
    rootB p (timesR p a a) = true ∧ KP p k (rootR p (timesR p a a)) ∧ 2 * (rootR p (timesR p a a)).getD 0 0 ≤ p ∧ timesR p (rootR p (timesR p a a)) (rootR p (timesR p a a)) = timesR p a a := by
  obtain ⟨p1, p2⟩ := primeB_bd ha.1.1
  have hu : val p a % p ≠ 0 := by rw [val_mod ha.1]; exact h0
  have hm := pow_two ha.p2 ha.k1
  obtain ⟨v, hv⟩ : ∃ v, v = val p a := ⟨_, rfl⟩
  have hq := ha.plc (v * v)
  have e0 : timesR p a a = plc p k (v * v) := by rw [ha.times ha, hv]
  rw [← hv] at hu
  have hn : (v * v) % p ^ k % p = (v * v) % p := emod_unit ha.k1 _
  have hvv : (v * v) % p ≠ 0 := by
    intro h
    have hme := Int.mul_emod v v p
    rw [h] at hme
    obtain ⟨r, hr⟩ : ∃ r, r = v % p := ⟨_, rfl⟩
    rw [← hr] at hme hu
    have r0 : 0 ≤ r := by rw [hr]; exact Int.emod_nonneg v (by omega)
    have r1 : r < p := by rw [hr]; exact Int.emod_lt_of_pos v (by omega)
    have hp := ha.1.1
    rw [primeB_iff] at hp
    have h12 : r = 1 ∨ r = 2 ∨ r = 3 ∨ r = 4 ∨ r = 5 ∨ r = 6 ∨ r = 7 ∨ r = 8 ∨ r = 9 ∨ r = 10 ∨ r = 11 ∨ r = 12 := by omega
    rcases hp with rfl | rfl | rfl | rfl | rfl | rfl <;> rcases h12 with rfl | rfl | rfl | rfl | rfl | rfl | rfl | rfl | rfl | rfl | rfl | rfl <;> omega
  have hpr : PrP p (plc p k (v * v)) := ⟨hq.1, h2, by rw [plc_head ha.k1]; exact hvv⟩
  have hval : val p (plc p k (v * v)) = (v * v) % p ^ k := val_plc p1 k _
  obtain ⟨d, d0, d1, d2, dt⟩ := root_first ha.1.1 (n := (v * v) % p ^ k) hn hu
  obtain ⟨z, hz, z0, z1, zt⟩ := fdR_some (t := rootT p ((v * v) % p ^ k) 0 1) p.toNat 0 d (by omega) (by omega) dt
  have hz0 : z % p ≠ 0 := by
    rw [Int.emod_eq_of_lt z0 (by omega)]
    rintro rfl
    unfold rootT at zt
    rw [decide_eq_true_eq] at zt
    simp at zt
    exact hvv (by rw [← hn]; exact Int.emod_eq_zero_of_dvd (Int.dvd_neg.1 (Int.dvd_of_emod_eq_zero zt)))
  obtain ⟨j, hj⟩ : ∃ j, k = j + 1 := ⟨k - 1, by have := ha.k1; omega⟩
  have hs1 : (z * z - (v * v) % p ^ k) % p ^ 1 = 0 := by
    unfold rootT at zt
    rw [decide_eq_true_eq] at zt
    rw [Int.pow_one]
    simpa using zt
  obtain ⟨y, hy, y0, y1, y2, y3⟩ := roots_some ha.1.1 h2 (n := (v * v) % p ^ k) j 1 z (by omega) hz0 z0 (by rw [Int.pow_one]; omega) hs1
  have ho : rootO p (plc p k (v * v)) = some y := by
    rw [rootO_t hpr, hval, length_plc]
    rw [Int.pow_one] at hy
    rw [← hy]
    conv => lhs; rw [hj]
    rw [rootsR_some (d := z) (by rw [← hj]; exact hz) (by omega)]
    simp [← hj]
  rw [e0, (root_some ho).1, (root_some ho).2, length_plc]
  have hkj : 1 + j = k := by omega
  rw [hkj] at y1 y2
  refine ⟨rfl, ha.plc y, ?_, ?_⟩
  · rw [plc_head ha.k1, y3, Int.emod_eq_of_lt z0 (by omega)]; omega
  · rw [(ha.plc y).times (ha.plc y), val_plc p1, Int.emod_eq_of_lt y0 y1]
    refine plc_congr p1 ?_
    obtain ⟨c, hc⟩ := Int.dvd_of_emod_eq_zero y2
    have := Int.mul_ediv_add_emod (v * v) (p ^ k)
    rw [show y * y = v * v + p ^ k * (c - v * v / p ^ k) by grind, Int.add_mul_emod_self_left]
theorem pad_root2 {xs : List Int} : rootB 2 xs = false ∧ rootR 2 xs = [] := by
  have h := root_none (rootO_f (p := 2) (xs := xs) (fun h => h.2.1 rfl))
  exact ⟨h.2, h.1⟩
/-! Digits of fractions, and the fraction with given digits. -/
theorem pd_t {p k a c : Int} (h : PdP p k a c) : pdR p k a c = plc p k.toNat (a * inv (c % p ^ k.toNat) (p ^ k.toNat)) := by
  unfold pdR
  rw [if_pos (pdB_t h)]
  refine plc_congr (primeB_bd h.1).1 ?_
  rw [Int.emod_emod, Int.mul_emod, Int.emod_emod, ← Int.mul_emod]
/-- x is a over c modulo m. -/
def Over (m c x a : Int) : Prop := (c * x - a) % m = 0
theorem PdP.unit {p k a c : Int} (h : PdP p k a c) : c % p ≠ 0 := tmod_ne.1 h.2.2.2.2.2.2.2
theorem pd_over {p k a c : Int} (h : PdP p k a c) : Over (p ^ k.toNat) c (val p (pdR p k a c)) a := by
  obtain ⟨p1, p2⟩ := primeB_bd h.1
  obtain ⟨i1, i2, i3⟩ := inv_ok (a := c % p ^ k.toNat) (m := p ^ k.toNat) (Int.pow_pos (by omega)) (gcd_mod_pow h.1 h.unit _)
  rw [pd_t h, val_plc p1]
  generalize inv (c % p ^ k.toNat) (p ^ k.toNat) = v at *
  generalize p ^ k.toNat = m at *
  unfold Over
  have e1 := Int.mul_ediv_add_emod (a * v) m
  have e2 := Int.mul_ediv_add_emod c m
  have e3 := Int.mul_ediv_add_emod (c % m * v) m
  have e4 := Int.mul_ediv_add_emod 1 m
  rw [i3] at e3
  refine Int.emod_eq_zero_of_dvd ⟨a * (c % m * v / m) + a * v * (c / m) - c * (a * v / m) - a * (1 / m), ?_⟩
  grind
/-- Over a unit there is one such remainder. -/
theorem over_one {p : Int} (hp : primeB p = true) {k : Nat} {c x y a : Int} (hc : c % p ≠ 0) (hx : Over (p ^ k) c x a) (hy : Over (p ^ k) c y a) : x % p ^ k = y % p ^ k := by
  obtain ⟨p1, p2⟩ := primeB_bd hp
  obtain ⟨i1, i2, i3⟩ := inv_ok (a := c) (m := p ^ k) (Int.pow_pos (by omega)) (gcd_pow hp hc k)
  generalize inv c (p ^ k) = v at *
  generalize p ^ k = m at *
  obtain ⟨s, hs⟩ := Int.dvd_of_emod_eq_zero hx
  obtain ⟨t, ht⟩ := Int.dvd_of_emod_eq_zero hy
  have e3 := Int.mul_ediv_add_emod (c * v) m
  have e4 := Int.mul_ediv_add_emod 1 m
  rw [i3] at e3
  refine Int.emod_eq_emod_iff_emod_sub_eq_zero.2 (Int.emod_eq_zero_of_dvd ⟨v * (s - t) - (x - y) * (c * v / m) + (x - y) * (1 / m), ?_⟩)
  grind
theorem pd_kp {p : Int} {k : Nat} (hp : primeB p = true) (h1 : 1 ≤ k) (h8 : k ≤ 8) {a c : Int} (h : PdP p k a c) : KP p k (pdR p k a c) := by
  rw [pd_t h, Int.toNat_natCast]
  exact ⟨plc_pad hp h1 h8 _, length_plc _ _ _⟩
theorem kp_ext {p : Int} {k : Nat} {xs ys : List Int} (h : KP p k xs) (g : KP p k ys) (e : val p xs = val p ys) : xs = ys := by
  have key : ∀ {zs : List Int}, (∀ x ∈ zs, 0 ≤ x ∧ x ≤ p - 1) → plc p zs.length (val p zs) = zs := by
    intro zs
    induction zs with
    | nil => intro _; rfl
    | cons z zs ih =>
      intro hz
      obtain ⟨z1, z2⟩ := hz z (by simp)
      have e : val p (z :: zs) = val p zs * p + z := rfl
      have hp : p ≠ 0 := by omega
      show val p (z :: zs) % p :: plc p zs.length (val p (z :: zs) / p) = z :: zs
      rw [e, Int.add_comm, Int.add_mul_emod_self_right, Int.add_mul_ediv_right _ _ hp, Int.emod_eq_of_lt z1 (by omega), Int.ediv_eq_zero_of_lt z1 (by omega), Int.zero_add, ih fun x hx => hz x (by simp [hx])]
  have a := key (allB_iff.1 h.1.2.2.2)
  have b := key (allB_iff.1 g.1.2.2.2)
  rw [h.2] at a
  rw [g.2] at b
  rw [← a, ← b, e]
theorem KP.plc_val {p : Int} {k : Nat} {xs : List Int} (h : KP p k xs) : Go.Proofs.Ytjdfpodmjpkfpaa.plc p k (val p xs) = xs := kp_ext (h.plc _) h (by rw [val_plc h.p2, h.id])
/-- A quotient times its divisor. -/
theorem pd_times {p : Int} {k : Nat} {d f g : List Int} {a c : Int} (hd : KP p k d) (hf : KP p k f) (hg : KP p k g) (od : Over (p ^ k) c (val p d) a) (of : Over (p ^ k) 1 (val p f) c) (og : Over (p ^ k) 1 (val p g) a) : timesR p d f = g := by
  rw [hd.times hf, ← hg.plc_val]
  refine plc_congr hd.p2 (Int.emod_eq_emod_iff_emod_sub_eq_zero.2 ?_)
  obtain ⟨s, hs⟩ := Int.dvd_of_emod_eq_zero od
  obtain ⟨t, ht⟩ := Int.dvd_of_emod_eq_zero of
  obtain ⟨u, hu⟩ := Int.dvd_of_emod_eq_zero og
  refine Int.emod_eq_zero_of_dvd ⟨s + t * val p d - u, ?_⟩
  grind
theorem inn_some {t : Int → Bool} : ∀ (f : Nat) (d e : Int), d ≤ e → e < d + f → t e = true → ∃ z, inn t f d = some z ∧ d ≤ z ∧ z ≤ e ∧ t z = true
  | 0, d, e, h1, h2, _ => absurd h2 (by simp; omega)
  | f + 1, d, e, h1, h2, h3 => by
    by_cases ht : t d = true
    · exact ⟨d, by simp [inn, ht], by omega, by omega, ht⟩
    · have hne : d ≠ e := by rintro rfl; exact ht h3
      obtain ⟨z, a, b, c, d'⟩ := inn_some f (d + 1) e (by omega) (by omega) h3
      exact ⟨z, by simp [inn, ht, a], by omega, c, d'⟩
theorem inn_prop {t : Int → Bool} : ∀ (f : Nat) (d z : Int), inn t f d = some z → d ≤ z ∧ z < d + f ∧ t z = true
  | 0, d, z, h => by simp [inn] at h
  | f + 1, d, z, h => by
    by_cases ht : t d = true
    · simp [inn, ht] at h; subst h; exact ⟨by omega, by omega, ht⟩
    · simp [inn, ht] at h
      obtain ⟨q1, q2, q3⟩ := inn_prop f (d + 1) z h
      exact ⟨by omega, by omega, q3⟩
theorem outr_ex {t : Int → Int → Bool} {cnt : Nat} {lo : Int} : ∀ (f : Nat) (c c0 a0 : Int), c ≤ c0 → c0 < c + f → lo ≤ a0 → a0 < lo + cnt → t c0 a0 = true →
    ∃ a e, outr t cnt lo f c = some (a, e) ∧ lo ≤ a ∧ a < lo + cnt ∧ c ≤ e ∧ e ≤ c0 ∧ t e a = true
  | 0, c, c0, a0, h1, h2, _, _, _ => absurd h2 (by simp; omega)
  | f + 1, c, c0, a0, h1, h2, h3, h4, h5 => by
    cases hi : inn (t c) cnt lo with
    | some a =>
      obtain ⟨i1, i2, i3⟩ := inn_prop _ _ _ hi
      exact ⟨a, c, by simp [outr, hi], i1, i2, by omega, h1, i3⟩
    | none =>
      have hne : c ≠ c0 := by
        rintro rfl
        obtain ⟨z, hz, _⟩ := inn_some cnt lo a0 h3 h4 h5
        rw [hi] at hz
        cases hz
      obtain ⟨a, e, x1, x2, x3, x4, x5, x6⟩ := outr_ex f (c + 1) c0 a0 (by omega) (by omega) h3 h4 h5
      exact ⟨a, e, by simp [outr, hi, x1], x2, x3, by omega, x5, x6⟩
theorem rat_found {p : Int} {k : Nat} {d : List Int} {a c : Int} (hd : KP p k d) (hc : c % p ≠ 0) (hc1 : 1 ≤ c) (hc2 : c ≤ 20) (ha1 : -20 ≤ a) (ha2 : a ≤ 20) (ho : Over (p ^ k) c (val p d) a) :
    rF (ratO p d 20) = true ∧ PdP p k (rA (ratO p d 20)) (rC (ratO p d 20)) ∧ pdR p k (rA (ratO p d 20)) (rC (ratO p d 20)) = d := by
  have hp := hd.1.1
  obtain ⟨p1, p2⟩ := primeB_bd hp
  have hk := hd.k8
  have hk1 := hd.k1
  have hpq : PqP p d 20 := ⟨hd.1, by omega, by omega⟩
  -- the fraction in lowest terms
  have hg0 : 0 < Int.gcd a c := Int.gcd_pos_of_ne_zero_right _ (by omega)
  obtain ⟨c', hc'⟩ : (Int.gcd a c : Int) ∣ c := Int.gcd_dvd_right ..
  obtain ⟨a', ha'⟩ : (Int.gcd a c : Int) ∣ a := Int.gcd_dvd_left ..
  obtain ⟨g, hg⟩ : ∃ g, g = Int.gcd a c := ⟨_, rfl⟩
  have hco : Int.gcd a' c' = 1 := by
    have h := Int.gcd_ediv_gcd_ediv_gcd (i := a) (j := c) hg0
    rw [← hg] at ha' hc' hg0
    rw [← hg] at h
    rw [ha', hc', Int.mul_ediv_cancel_left _ (by omega), Int.mul_ediv_cancel_left _ (by omega)] at h
    exact h
  rw [← hg] at ha' hc' hg0
  have hgp : (g : Int) % p ≠ 0 := by
    intro h
    obtain ⟨z, hz⟩ := Int.dvd_of_emod_eq_zero h
    exact hc (Int.emod_eq_zero_of_dvd ⟨z * c', by rw [hc', hz]; grind⟩)
  have hcp : c' % p ≠ 0 := by
    intro h
    obtain ⟨z, hz⟩ := Int.dvd_of_emod_eq_zero h
    exact hc (Int.emod_eq_zero_of_dvd ⟨g * z, by rw [hc', hz]; grind⟩)
  have hg1 : (1 : Int) ≤ g := by omega
  have hc1' : 1 ≤ c' := by
    rcases Int.lt_or_le 0 c' with h | h
    · omega
    · have := Int.mul_nonneg (show 0 ≤ (g : Int) by omega) (show 0 ≤ -c' by omega)
      rw [Int.mul_neg, ← hc'] at this
      omega
  have hcle : c' ≤ c := by
    have := Int.mul_nonneg (show 0 ≤ (g : Int) - 1 by omega) (show 0 ≤ c' by omega)
    rw [Int.sub_mul, ← hc'] at this
    omega
  have hale : -20 ≤ a' ∧ a' ≤ 20 := by
    have e : a.natAbs = g * a'.natAbs := by rw [ha', Int.natAbs_mul, Int.natAbs_natCast]
    have : a'.natAbs ≤ g * a'.natAbs := Nat.le_mul_of_pos_left _ hg0
    omega
  have hov : Over (p ^ k) c' (val p d) a' := by
    have h1 : Over (p ^ k) g (c' * val p d) a := by
      unfold Over at ho ⊢
      rw [← ho, hc']
      congr 1
      grind
    have h2 : Over (p ^ k) g a' a := by
      unfold Over
      rw [← ha', Int.sub_self, Int.zero_emod]
    have h3 := over_one hp hgp h1 h2
    unfold Over
    rw [Int.sub_emod, h3, ← Int.sub_emod, Int.sub_self, Int.zero_emod]
  obtain ⟨x, e, ho', x1, x2, e1, e2, ht⟩ := outr_ex (t := ratT p (val p d) (p ^ k)) (cnt := 41) (lo := -20) 20 1 c' a' hc1' (by omega) (by omega) (by omega) (decide_eq_true ⟨hcp, by rw [hco]; rfl, hov⟩)
  have hr : ratO p d 20 = some (x, e) := by
    rw [ratO_t hpq, hd.2]
    exact ho'
  unfold ratT at ht
  rw [decide_eq_true_eq] at ht
  obtain ⟨t1, t2, t3⟩ := ht
  rw [hr]
  show true = true ∧ PdP p k x e ∧ pdR p k x e = d
  have hpd : PdP p k x e := ⟨hp, by omega, by omega, by omega, by omega, by omega, by omega, tmod_ne.2 t1⟩
  refine ⟨rfl, hpd, ?_⟩
  have ho2 := pd_over hpd
  rw [Int.toNat_natCast] at ho2
  have hkp := pd_kp hp hk1 hk hpd
  have := over_one hp t1 ho2 t3
  rw [hkp.id, hd.id] at this
  exact kp_ext hkp hd this
theorem plc_minus {p : Int} (hp : 2 ≤ p) : ∀ k, plc p k (-1) = List.replicate k (p - 1)
  | 0 => rfl
  | k + 1 => by
    have e1 : (-1 : Int) % p = p - 1 := by
      rw [show (-1 : Int) = (p - 1) + p * (-1) by omega, Int.add_mul_emod_self_left, Int.emod_eq_of_lt (by omega) (by omega)]
    have e2 : (-1 : Int) / p = -1 := by
      have h := Int.mul_ediv_add_emod (-1) p
      rw [e1] at h
      have h2 : p * ((-1) / p + 1) = 0 := by rw [Int.mul_add]; omega
      rcases Int.mul_eq_zero.1 h2 with h | h <;> omega
    show (-1 : Int) % p :: plc p k (-1 / p) = _
    rw [e1, e2, plc_minus hp k, List.replicate_succ]
theorem pd_last {p : Int} {k : Nat} (hp : primeB p = true) (h1 : 1 ≤ k) (h8 : k ≤ 8) (h : PdP p k (-1) 1) : pdR p k (-1) 1 = List.replicate k (p - 1) := by
  obtain ⟨p1, p2⟩ := primeB_bd hp
  have hkp := pd_kp hp h1 h8 h
  have ho := pd_over h
  rw [Int.toNat_natCast] at ho
  rw [← plc_minus p1, ← hkp.plc_val]
  refine plc_congr p1 ?_
  exact over_one hp h.unit ho (by unfold Over; simp)
theorem pd_one {p : Int} {k : Nat} (hp : primeB p = true) (h1 : 1 ≤ k) (h8 : k ≤ 8) {a c : Int} (ha1 : -1000000 ≤ a) (ha2 : a ≤ 1000000) (hc1 : -1000000 ≤ c) (hc2 : c ≤ 1000000) (hc : c % p ≠ 0) : PdP p k a c :=
  ⟨hp, by omega, by omega, ha1, ha2, hc1, hc2, tmod_ne.2 hc⟩
theorem valu_cube {p : Int} (hp : primeB p = true) : valR (p * p * p) p = 3 := by
  have h : ValP (p * p * p) p := by
    refine ⟨hp, ?_⟩
    rw [primeB_iff] at hp
    rcases hp with rfl | rfl | rfl | rfl | rfl | rfl <;> omega
  rw [valR_t h]
  rw [primeB_iff] at hp
  rcases hp with rfl | rfl | rfl | rfl | rfl | rfl <;> decide
theorem valu_zero (p : Int) : valR 0 p = -1 := valR_f fun h => h.2.1 rfl
end Go.Proofs.Ytjdfpodmjpkfpaa
