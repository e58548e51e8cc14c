/- Plain words of FnComplex: the digits of small complex numbers give them back, the quotient leaves at most half a norm. Conditions: parts from -30 to 30. -/
import Derived.Test.YthblbmihpgkanaaDoorGaussDig
import Derived.Test.YthblbmihpgkanaaDoorGofJ
import Derived.Test.YthblbmihpgkanaaDoorQuaI
import Derived.Test.YthblbmihpgkanaaDoorGaussNear
namespace Go.Proofs.YthblbmihpgkanaaDoor
set_option linter.unusedVariables false

theorem gds_fuel : ∀ (n : Nat) (x y : Int), (gds n x y).length < n → ∀ f, n ≤ f → gds f x y = gds n x y
  | 0, _, _, h, _, _ => by omega
  | n + 1, x, y, h, f, hf => by
    obtain ⟨k, rfl⟩ : ∃ k, f = k + 1 := ⟨f - 1, by omega⟩
    by_cases hz : x = 0 ∧ y = 0
    · obtain ⟨rfl, rfl⟩ := hz; rw [gds_zero, gds_zero]
    · rw [gds_step hz] at h ⊢
      rw [gds_step hz, gds_fuel n _ _ (by simpa using h) k (by omega)]
theorem qds_fuel : ∀ (n : Nat) (x y : Int), (qds n x y).length < n → ∀ f, n ≤ f → qds f x y = qds n x y
  | 0, _, _, h, _, _ => by omega
  | n + 1, x, y, h, f, hf => by
    obtain ⟨k, rfl⟩ : ∃ k, f = k + 1 := ⟨f - 1, by omega⟩
    by_cases hz : x = 0 ∧ y = 0
    · obtain ⟨rfl, rfl⟩ := hz; rw [qds_zero, qds_zero]
    · rw [qds_step hz] at h ⊢
      rw [qds_step hz, qds_fuel n _ _ (by simpa using h) k (by omega)]
/-- What is checked of one list of digits. -/
def digOk (m u v : Int) (l : List Int) (x y : Int) : Prop := l.length < 40 ∧ gv u v l = (x, y) ∧ allB 0 m l = true ∧ (l = [] ∨ l.getD (l.length - 1) 0 ≠ 0)
instance (m u v : Int) (l : List Int) (x y : Int) : Decidable (digOk m u v l x y) := by unfold digOk; infer_instance
set_option maxRecDepth 100000 in
set_option maxHeartbeats 0 in
theorem gds_all : ∀ i, i < 61 → ∀ j, j < 61 → digOk 1 (-1) 1 (gds 40 ((i : Nat) - 30 : Int) ((j : Nat) - 30 : Int)) ((i : Nat) - 30 : Int) ((j : Nat) - 30 : Int) := by decide +kernel
set_option maxRecDepth 100000 in
set_option maxHeartbeats 0 in
theorem qds_all : ∀ i, i < 61 → ∀ j, j < 31 → digOk 3 0 2 (qds 40 ((i : Nat) - 30 : Int) (2 * (j : Nat) - 30 : Int)) ((i : Nat) - 30 : Int) (2 * (j : Nat) - 30 : Int) := by decide +kernel
theorem digOk.goP {m u v x y : Int} {l : List Int} (h : digOk m u v l x y) (h1 : -30 ≤ x) (h2 : x ≤ 30) (h3 : -30 ≤ y) (h4 : y ≤ 30) : GoP m u v l ∧ goX m u v l = x ∧ goY m u v l = y ∧ goB m u v l = true ∧ l.length ≤ 40 ∧ (∀ d ∈ l, 0 ≤ d ∧ d ≤ m) ∧ (l = [] → x = 0 ∧ y = 0) := by
  obtain ⟨a1, a2, a3, a4⟩ := h
  have hp : GoP m u v l := ⟨⟨by omega, a4, a3⟩, by rw [a2]; unfold gok; dsimp only; omega⟩
  refine ⟨hp, by unfold goX; rw [goB_t hp, a2]; rfl, by unfold goY; rw [goB_t hp, a2]; rfl, goB_t hp, by omega, allB_iff.1 a3, ?_⟩
  rintro rfl
  have : ((0 : Int), (0 : Int)) = (x, y) := a2
  injection this with e1 e2
  exact ⟨e1.symm, e2.symm⟩
theorem gdR_small {x y : Int} (h1 : -30 ≤ x) (h2 : x ≤ 30) (h3 : -30 ≤ y) (h4 : y ≤ 30) : digOk 1 (-1) 1 (gdR x y) x y := by
  have h := gds_all (x + 30).toNat (by omega) (y + 30).toNat (by omega)
  rw [show (((x + 30).toNat : Nat) : Int) - 30 = x by omega, show (((y + 30).toNat : Nat) : Int) - 30 = y by omega] at h
  rw [gdR_t (by unfold gok; omega)]
  unfold gdL
  rw [gds_fuel 40 x y h.1 400000 (by omega)]
  exact h
theorem qdR_small {x y : Int} (h1 : -30 ≤ x) (h2 : x ≤ 30) (h3 : -30 ≤ y) (h4 : y ≤ 30) (hy : y % 2 = 0) : digOk 3 0 2 (qdR x y) x y ∧ qB x y = true := by
  have h := qds_all (x + 30).toNat (by omega) ((y + 30) / 2).toNat (by omega)
  rw [show (((x + 30).toNat : Nat) : Int) - 30 = x by omega, show 2 * (((((y + 30) / 2).toNat : Nat) : Int)) - 30 = y by omega] at h
  have hq : qB x y = true := qB_t ⟨by unfold gok; omega, hy⟩
  unfold qdR qdL
  rw [if_pos hq, qds_fuel 40 x y h.1 500000 (by omega)]
  exact ⟨h, hq⟩
theorem sq_le {t n : Int} (h : t * t ≤ 900) : -30 ≤ t ∧ t ≤ 30 := by
  constructor
  · apply Classical.byContradiction
    intro hn
    have : 31 * 31 ≤ (-t) * (-t) := Int.mul_le_mul (by omega) (by omega) (by omega) (by omega)
    rw [Int.neg_mul_neg] at this
    omega
  · apply Classical.byContradiction
    intro hn
    have : 31 * 31 ≤ t * t := Int.mul_le_mul (by omega) (by omega) (by omega) (by omega)
    omega
theorem sq30 {t : Int} (h1 : -30 ≤ t) (h2 : t ≤ 30) : 0 ≤ t * t ∧ t * t ≤ 900 := by
  refine ⟨sq_nn t, ?_⟩
  have e : (t * t).natAbs ≤ 30 * 30 := by rw [Int.natAbs_mul]; exact Nat.mul_le_mul (by omega) (by omega)
  omega
theorem mul30 {x u : Int} (h1 : -30 ≤ x) (h2 : x ≤ 30) (h3 : -30 ≤ u) (h4 : u ≤ 30) : -900 ≤ x * u ∧ x * u ≤ 900 := by
  have e : (x * u).natAbs ≤ 30 * 30 := by rw [Int.natAbs_mul]; exact Nat.mul_le_mul (by omega) (by omega)
  omega
/-- Quotient and rest of small complex numbers. -/
theorem div_facts (x y u v X Y n q1 q2 : Int) (h1 : -30 ≤ x) (h2 : x ≤ 30) (h3 : -30 ≤ y) (h4 : y ≤ 30) (g1 : -30 ≤ u) (g2 : u ≤ 30) (g3 : -30 ≤ v) (g4 : v ≤ 30) (hn : n = u * u + v * v) (n0 : 1 ≤ n)
    (hX : X = x * u - y * -v) (hY : Y = x * -v + y * u) (e1 : q1 = (2 * X + n) / (2 * n)) (e2 : q2 = (2 * Y + n) / (2 * n)) (r1 r2 : Int) (hr1 : r1 = x - (q1 * u - q2 * v)) (hr2 : r2 = y - (q1 * v + q2 * u)) :
    (-100000 ≤ q1 ∧ q1 ≤ 100000) ∧ (-100000 ≤ q2 ∧ q2 ≤ 100000) ∧ (-30 ≤ r1 ∧ r1 ≤ 30) ∧ (-30 ≤ r2 ∧ r2 ≤ 30) ∧ 2 * (r1 * r1 + r2 * r2) ≤ u * u + v * v := by
  have b := sq30 g1 g2
  have c := sq30 g3 g4
  obtain ⟨s1, s2, s3, s4⟩ := div_small x y u v X Y n q1 q2 (by omega) (by omega) (by omega) (by omega) hn n0 (by omega) hX hY e1 e2
  rw [Int.mul_neg] at hX hY
  have c1 := near_half X n n0
  have c2 := near_half Y n n0
  rw [← e1] at c1
  rw [← e2] at c2
  have id := div_id x y u v q1 q2
  rw [← hn, show x * u + y * v = X by omega, show y * u - x * v = Y by omega, ← hr1, ← hr2] at id
  have R := div_half _ n _ _ n0 id c1.1 c1.2 c2.1 c2.2
  have t1 := sq_nn r1
  have t2 := sq_nn r2
  refine ⟨s1, s2, sq_le (n := 0) (by omega), sq_le (n := 0) (by omega), by omega⟩
end Go.Proofs.YthblbmihpgkanaaDoor
