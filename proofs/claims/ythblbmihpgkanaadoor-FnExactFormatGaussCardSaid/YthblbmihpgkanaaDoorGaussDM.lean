/- Plain words of GaussDigits and QuaterDigits: digits in the bases -1 + i and 2i, measures, lengths. Conditions: none. -/
import Derived.Test.YthblbmihpgkanaaDoorBase
namespace Go.Proofs.YthblbmihpgkanaaDoor
set_option linter.unusedVariables false

/-! Base -1 + i. -/
def gdX (x y : Int) : Int := (y - (x - (x + y) % 2)).tdiv 2
def gdY (x y : Int) : Int := (-(x - (x + y) % 2) - y).tdiv 2
theorem tdiv2 {a : Int} (h : a % 2 = 0) : a.tdiv 2 = a / 2 := Int.tdiv_eq_ediv_of_dvd (Int.dvd_of_emod_eq_zero h)
theorem gdX_eq (x y : Int) : gdX x y = (y - (x - (x + y) % 2)) / 2 := tdiv2 (by omega)
theorem gdY_eq (x y : Int) : gdY x y = (-(x - (x + y) % 2) - y) / 2 := tdiv2 (by omega)
/-- The digits of x + iy in base -1 + i, at most f. -/
def gds : Nat → Int → Int → List Int
  | 0, _, _ => []
  | f + 1, x, y => if x = 0 ∧ y = 0 then [] else (x + y) % 2 :: gds f (gdX x y) (gdY x y)
theorem gds_zero {f : Nat} : gds f 0 0 = [] := by cases f <;> simp [gds]
theorem gds_step {f : Nat} {x y : Int} (h : ¬ (x = 0 ∧ y = 0)) : gds (f + 1) x y = (x + y) % 2 :: gds f (gdX x y) (gdY x y) := by rw [gds, if_neg h]
theorem length_gds : ∀ (f : Nat) (x y : Int), (gds f x y).length ≤ f
  | 0, _, _ => by simp [gds]
  | f + 1, x, y => by
    unfold gds
    split
    · simp
    · simpa using length_gds f _ _
def phi (x y : Int) : Nat := max (2 * x.natAbs + y.natAbs) (x.natAbs + 2 * y.natAbs)
/-- A number that every digit lowers. -/
def nu (x y : Int) : Nat := if phi x y ≤ 8 then (gds 20 x y).length else phi x y + 30
theorem nu_table : ∀ i, i < 9 → ∀ j, j < 9 → phi ((i : Nat) - 4 : Int) ((j : Nat) - 4 : Int) ≤ 8 → ¬ (((i : Nat) - 4 : Int) = 0 ∧ ((j : Nat) - 4 : Int) = 0) →
    (gds 20 (gdX ((i : Nat) - 4 : Int) ((j : Nat) - 4 : Int)) (gdY ((i : Nat) - 4 : Int) ((j : Nat) - 4 : Int))).length < (gds 20 ((i : Nat) - 4 : Int) ((j : Nat) - 4 : Int)).length := by decide +kernel
theorem gd_bd (x y : Int) : (gdX x y).natAbs ≤ x.natAbs + y.natAbs + 1 ∧ (gdY x y).natAbs ≤ x.natAbs + y.natAbs + 1 := by
  rw [gdX_eq, gdY_eq]; omega
theorem phi_two {X Y s t : Int} (h1 : 2 * X = t - s) (h2 : 2 * Y = -s - t) : 2 * (2 * X.natAbs + Y.natAbs) ≤ max (3 * s.natAbs + t.natAbs) (s.natAbs + 3 * t.natAbs) := by
  rcases Int.natAbs_eq X with a | a <;> rcases Int.natAbs_eq Y with b | b <;> omega
theorem phi_two' {X Y s t : Int} (h1 : 2 * X = t - s) (h2 : 2 * Y = -s - t) : 2 * (X.natAbs + 2 * Y.natAbs) ≤ max (3 * s.natAbs + t.natAbs) (s.natAbs + 3 * t.natAbs) := by
  rcases Int.natAbs_eq X with a | a <;> rcases Int.natAbs_eq Y with b | b <;> omega
theorem phi_step (x y : Int) : (8 < phi x y → phi (gdX x y) (gdY x y) < phi x y) ∧ (phi x y ≤ 8 → phi (gdX x y) (gdY x y) ≤ 8) := by
  have e1 : 2 * gdX x y = y - (x - (x + y) % 2) := by rw [gdX_eq]; omega
  have e2 : 2 * gdY x y = -(x - (x + y) % 2) - y := by rw [gdY_eq]; omega
  have p1 := phi_two e1 e2
  have p2 := phi_two' e1 e2
  have h0 : (x - (x + y) % 2).natAbs ≤ x.natAbs + 1 := by omega
  unfold phi
  generalize (x - (x + y) % 2).natAbs = p at *
  generalize x.natAbs = a at *
  generalize y.natAbs = q at *
  generalize (gdX x y).natAbs = A at *
  generalize (gdY x y).natAbs = B at *
  clear e1 e2
  constructor <;> intro h <;> omega
theorem nu_step {x y : Int} (h : ¬ (x = 0 ∧ y = 0)) : nu (gdX x y) (gdY x y) < nu x y := by
  obtain ⟨h1, h2⟩ := phi_step x y
  by_cases hs : phi x y ≤ 8
  · have h3 := h2 hs
    unfold nu
    rw [if_pos h3, if_pos hs]
    have a1 : x.natAbs ≤ 4 ∧ y.natAbs ≤ 4 := by unfold phi at hs; omega
    have := nu_table (x + 4).toNat (by omega) (y + 4).toNat (by omega)
    rw [show (((x + 4).toNat : Nat) : Int) - 4 = x by omega, show (((y + 4).toNat : Nat) : Int) - 4 = y by omega] at this
    exact this hs h
  · have h3 := h1 (by omega)
    unfold nu
    rw [if_neg hs]
    split
    · have := length_gds 20 (gdX x y) (gdY x y); omega
    · omega
theorem nu_bd {x y : Int} (h1 : -100000 ≤ x) (h2 : x ≤ 100000) (h3 : -100000 ≤ y) (h4 : y ≤ 100000) : nu x y < 400000 := by
  unfold nu
  split
  · have := length_gds 20 x y; omega
  · unfold phi; omega
/-- The digits that GaussDigits gives. -/
def gdL (x y : Int) : List Int := gds 400000 x y
theorem length_gdL (x y : Int) : (gdL x y).length ≤ 400000 := length_gds _ _ _

/-! Base 2i. -/
def qdY (x : Int) : Int := (-(x - x % 4)).tdiv 2
theorem qdY_eq (x : Int) : qdY x = (-(x - x % 4)) / 2 := tdiv2 (by omega)
def qds : Nat → Int → Int → List Int
  | 0, _, _ => []
  | f + 1, x, y => if x = 0 ∧ y = 0 then [] else x % 4 :: qds f (y.tdiv 2) (qdY x)
theorem qds_zero {f : Nat} : qds f 0 0 = [] := by cases f <;> simp [qds]
theorem qds_step {f : Nat} {x y : Int} (h : ¬ (x = 0 ∧ y = 0)) : qds (f + 1) x y = x % 4 :: qds f (y.tdiv 2) (qdY x) := by rw [qds, if_neg h]
theorem length_qds : ∀ (f : Nat) (x y : Int), (qds f x y).length ≤ f
  | 0, _, _ => by simp [qds]
  | f + 1, x, y => by
    unfold qds
    split
    · simp
    · simpa using length_qds f _ _
/-- Half of a step. -/
def ngS (n : Int) : Int := -(n / 4)
theorem qdY_two (x : Int) : qdY x = 2 * ngS x := by rw [qdY_eq]; unfold ngS; omega
theorem two_tdiv (v : Int) : (2 * v).tdiv 2 = v := by rw [tdiv2 (by omega)]; omega
def cq (n : Int) : Nat := n.natAbs + (if n < 0 then 2 else 0)
theorem cq_step {n : Int} (h : n ≠ 0) : cq (ngS n) < cq n := by unfold cq ngS; split <;> split <;> omega
theorem cq_zero : cq 0 = 0 := rfl
/-- A number that every digit lowers, at the second part 2v. -/
def qnu (x v : Int) : Nat := 2 * (cq x + cq v) + (if x = 0 then 1 else 0)
theorem qnu_step {x v : Int} (h : ¬ (x = 0 ∧ v = 0)) : qnu v (ngS x) < qnu x v := by
  unfold qnu
  by_cases hx : x = 0
  · subst hx
    have hv : v ≠ 0 := fun e => h ⟨rfl, e⟩
    rw [if_neg hv, if_pos rfl]
    have : ngS 0 = 0 := rfl
    rw [this, cq_zero]; omega
  · have := cq_step hx
    rw [if_neg hx]
    split <;> omega
theorem qnu_bd {x v : Int} (h1 : -100000 ≤ x) (h2 : x ≤ 100000) (h3 : -100000 ≤ v) (h4 : v ≤ 100000) : qnu x v < 500000 := by
  unfold qnu cq; split <;> split <;> split <;> omega
/-- The digits that QuaterDigits gives. -/
def qdL (x y : Int) : List Int := qds 500000 x y
theorem length_qdL (x y : Int) : (qdL x y).length ≤ 500000 := length_qds _ _ _
theorem qds2_step {f : Nat} {x v : Int} (h : ¬ (x = 0 ∧ v = 0)) : qds (f + 1) x (2 * v) = x % 4 :: qds f v (2 * ngS x) := by
  rw [qds_step (by omega), two_tdiv, qdY_two]
theorem qds_nil {f : Nat} {x v : Int} (hf : 0 < f) : qds f x (2 * v) = [] ↔ x = 0 ∧ v = 0 := by
  obtain ⟨f, rfl⟩ : ∃ q, f = q + 1 := ⟨f - 1, by omega⟩
  constructor
  · intro h
    apply Classical.byContradiction
    intro hn
    rw [qds2_step hn] at h
    cases h
  · rintro ⟨rfl, rfl⟩
    exact qds_zero

/-! Base -4; two lists laid into each other; zeros at the end go. -/
def ngs : Nat → Int → List Int
  | 0, _ => []
  | f + 1, n => if n = 0 then [] else n % 4 :: ngs f (ngS n)
theorem ngs_zero {f : Nat} : ngs f 0 = [] := by cases f <;> simp [ngs]
theorem ngs_step {f : Nat} {n : Int} (h : n ≠ 0) : ngs (f + 1) n = n % 4 :: ngs f (ngS n) := by rw [ngs, if_neg h]
theorem length_ngs : ∀ (f : Nat) (n : Int), (ngs f n).length ≤ f
  | 0, _ => by simp [ngs]
  | f + 1, n => by
    unfold ngs
    split
    · simp
    · simpa using length_ngs f _
def zl : List Int → List Int → List Int
  | [], ys => ys.flatMap fun y => [0, y]
  | x :: xs, ys => x :: ys.headD 0 :: zl xs ys.tail
theorem zl_nil : zl [] [] = [] := rfl
theorem zl_left (y : Int) (ys : List Int) : zl [] (y :: ys) = 0 :: y :: zl [] ys := rfl
theorem zl_right (x : Int) (xs : List Int) : zl (x :: xs) [] = x :: 0 :: zl xs [] := rfl
theorem zl_both (x y : Int) (xs ys : List Int) : zl (x :: xs) (y :: ys) = x :: y :: zl xs ys := rfl
theorem zl_ngs {f : Nat} {a v : Int} (h : ¬ (a = 0 ∧ v = 0)) : zl (ngs (f + 1) a) (ngs (f + 1) v) = a % 4 :: v % 4 :: zl (ngs f (ngS a)) (ngs f (ngS v)) := by
  by_cases ha : a = 0
  · subst ha
    have hv : v ≠ 0 := fun e => h ⟨rfl, e⟩
    rw [ngs_zero, ngs_step hv, show ngS 0 = 0 from rfl, ngs_zero, zl_left]; rfl
  · by_cases hv : v = 0
    · subst hv
      rw [ngs_zero, ngs_step ha, show ngS 0 = 0 from rfl, ngs_zero, zl_right]; rfl
    · rw [ngs_step ha, ngs_step hv, zl_both]
def tr : List Int → List Int
  | [] => []
  | x :: l => if tr l = [] ∧ x = 0 then [] else x :: tr l
theorem zl_trim : ∀ (f : Nat) (a v : Int) (g : Nat), cq a + cq v < f → qnu a v < g → tr (zl (ngs f a) (ngs f v)) = qds g a (2 * v)
  | 0, _, _, _, h, _ => absurd h (by omega)
  | f + 1, a, v, g, hf, hg => by
    by_cases h0 : a = 0 ∧ v = 0
    · obtain ⟨rfl, rfl⟩ := h0
      rw [ngs_zero, Int.mul_zero, qds_zero, zl_nil]; rfl
    · have hq := qnu_step h0
      obtain ⟨g, rfl⟩ : ∃ q, g = q + 1 := ⟨g - 1, by omega⟩
      rw [zl_ngs h0, qds2_step h0]
      have hc : cq (ngS a) + cq (ngS v) < f := by
        have e0 : cq (ngS 0) = 0 := rfl
        by_cases ha : a = 0
        · subst ha
          have := cq_step (n := v) (fun e => h0 ⟨rfl, e⟩)
          rw [e0]; rw [cq_zero] at hf; omega
        · have h1 := cq_step ha
          by_cases hv : v = 0
          · subst hv
            rw [e0]; rw [cq_zero] at hf; omega
          · have h2 := cq_step hv; omega
      by_cases h1 : v = 0 ∧ ngS a = 0
      · obtain ⟨rfl, h1⟩ := h1
        have ha : a % 4 ≠ 0 := by unfold ngS at h1; omega
        have : zl (ngs f (ngS a)) (ngs f (ngS 0)) = [] := by rw [h1, show ngS 0 = 0 from rfl, ngs_zero, zl_nil]
        rw [this, h1, Int.mul_zero, qds_zero]
        simp [tr, ha]
      · have hq2 := qnu_step h1
        obtain ⟨g, rfl⟩ : ∃ q, g = q + 1 := ⟨g - 1, by omega⟩
        have ih := zl_trim f (ngS a) (ngS v) g hc (by omega)
        rw [qds2_step h1]
        have hz : tr (v % 4 :: zl (ngs f (ngS a)) (ngs f (ngS v))) = v % 4 :: qds g (ngS a) (2 * ngS v) := by
          rw [tr, ih, if_neg]
          rw [qds_nil (by omega)]
          rintro ⟨⟨p1, p2⟩, p3⟩
          exact h1 ⟨by unfold ngS at p2; omega, p1⟩
        rw [tr, hz, if_neg (by simp)]
theorem tr_len : ∀ l : List Int, (tr l).length ≤ l.length
  | [] => Nat.le_refl _
  | x :: l => by unfold tr; split <;> simp [tr_len l]
/-- What is laid into each other, k pairs of it. -/
theorem zl_drop {xs ys : List Int} {k : Nat} (h : k < xs.length ∨ k < ys.length) : zl (xs.drop k) (ys.drop k) = xs.getD k 0 :: ys.getD k 0 :: zl (xs.drop (k + 1)) (ys.drop (k + 1)) := by
  by_cases hx : k < xs.length
  · rw [List.drop_eq_getElem_cons hx]
    by_cases hy : k < ys.length
    · rw [List.drop_eq_getElem_cons hy, zl_both]; simp [hx, hy]
    · rw [List.drop_of_length_le (by omega : ys.length ≤ k), List.drop_of_length_le (by omega : ys.length ≤ k + 1), zl_right]
      simp [hx, List.getElem?_eq_none (by omega : ys.length ≤ k)]
  · have hy : k < ys.length := by omega
    rw [List.drop_eq_getElem_cons hy, List.drop_of_length_le (by omega : xs.length ≤ k), List.drop_of_length_le (by omega : xs.length ≤ k + 1), zl_left]
    simp [hy, List.getElem?_eq_none (by omega : xs.length ≤ k)]
theorem zl_end {xs ys : List Int} {k : Nat} (h1 : xs.length ≤ k) (h2 : ys.length ≤ k) : zl (xs.drop k) (ys.drop k) = [] := by
  rw [List.drop_of_length_le h1, List.drop_of_length_le h2, zl_nil]
theorem length_zl : ∀ xs ys : List Int, (zl xs ys).length ≤ 2 * (xs.length + ys.length)
  | [], [] => Nat.le_refl _
  | [], y :: ys => by have := length_zl [] ys; rw [zl_left]; simp only [List.length_cons, List.length_nil] at *; omega
  | x :: xs, ys => by
    have := length_zl xs ys.tail
    have e : zl (x :: xs) ys = x :: ys.headD 0 :: zl xs ys.tail := rfl
    rw [e]; simp only [List.length_cons, List.length_tail] at *; omega
end Go.Proofs.YthblbmihpgkanaaDoor
