/- Plain words of GaussOf and QuaterOf: the value of digits in the bases -1 + i and 2i. Conditions: none. -/
import Derived.Test.YthblbmihpgkanaaDoorGauss
import Derived.Test.YthblbmihpgkanaaDoorAllIn
import Derived.Test.YthblbmihpgkanaaDoorValW
namespace Go.Proofs.YthblbmihpgkanaaDoor
set_option linter.unusedVariables false

/-- One step: (x, y) times u + iv, plus d. -/
def stp (u v d : Int) (z : Int × Int) : Int × Int := (z.1 * u - z.2 * v + d, z.1 * v + z.2 * u)
/-- The value of digits, the lowest first, in base u + iv. -/
def gv (u v : Int) : List Int → Int × Int
  | [] => (0, 0)
  | d :: l => stp u v d (gv u v l)
theorem gv_drop (u v : Int) {xs : List Int} {q : Nat} (h : q < xs.length) : gv u v (xs.drop q) = stp u v (xs.getD q 0) (gv u v (xs.drop (q + 1))) := by
  rw [List.drop_eq_getElem_cons h]
  simp [gv, h]
/-- A bound that every step doubles. -/
def gB (z : Int × Int) (n : Nat) : Prop := -(2 ^ n : Int) * 4 + 4 ≤ z.1 ∧ z.1 ≤ 2 ^ n * 4 - 4 ∧ -(2 ^ n : Int) * 4 + 4 ≤ z.2 ∧ z.2 ≤ 2 ^ n * 4 - 4
theorem gB_zero (n : Nat) : gB (0, 0) n := by
  have : (0 : Int) < 2 ^ n := Int.pow_pos (by omega)
  unfold gB; refine ⟨?_, ?_, ?_, ?_⟩ <;> simp only [] <;> omega
theorem pow40 {n : Nat} (h : n ≤ 40) : (1 : Int) ≤ 2 ^ n ∧ (2 ^ n : Int) ≤ 1099511627776 := by
  have h1 : 2 ^ n ≤ 2 ^ 40 := Nat.pow_le_pow_right (by omega) h
  have h2 : 0 < 2 ^ n := Nat.pow_pos (by omega)
  have h3 : (2 : Nat) ^ 40 = 1099511627776 := by decide
  have e : ((2 ^ n : Nat) : Int) = 2 ^ n := by simp
  omega
theorem gB_one {z : Int × Int} {n : Nat} {d : Int} (h : gB z n) (d0 : 0 ≤ d) (d1 : d ≤ 3) : gB (stp (-1) 1 d z) (n + 1) := by
  unfold gB stp at *
  rw [Int.pow_succ]
  obtain ⟨x, y⟩ := z
  dsimp only at *
  obtain ⟨h1, h2, h3, h4⟩ := h
  generalize (2 ^ n : Int) = P at *
  refine ⟨?_, ?_, ?_, ?_⟩ <;> omega
theorem gB_two {z : Int × Int} {n : Nat} {d : Int} (h : gB z n) (d0 : 0 ≤ d) (d1 : d ≤ 3) : gB (stp 0 2 d z) (n + 1) := by
  unfold gB stp at *
  rw [Int.pow_succ]
  obtain ⟨x, y⟩ := z
  dsimp only at *
  obtain ⟨h1, h2, h3, h4⟩ := h
  generalize (2 ^ n : Int) = P at *
  refine ⟨?_, ?_, ?_, ?_⟩ <;> omega
theorem gB.bd {z : Int × Int} {n : Nat} (h : gB z n) (hn : n ≤ 40) : -4398046511104 ≤ z.1 ∧ z.1 ≤ 4398046511104 ∧ -4398046511104 ≤ z.2 ∧ z.2 ≤ 4398046511104 := by
  obtain ⟨p1, p2⟩ := pow40 hn
  obtain ⟨h1, h2, h3, h4⟩ := h
  omega
theorem gv_one : ∀ {l : List Int}, (∀ x ∈ l, 0 ≤ x ∧ x ≤ 3) → gB (gv (-1) 1 l) l.length
  | [], _ => gB_zero _
  | d :: l, h => gB_one (gv_one fun x hx => h x (by simp [hx])) (h d (by simp)).1 (h d (by simp)).2
theorem gv_two : ∀ {l : List Int}, (∀ x ∈ l, 0 ≤ x ∧ x ≤ 3) → gB (gv 0 2 l) l.length
  | [], _ => gB_zero _
  | d :: l, h => gB_two (gv_two fun x hx => h x (by simp [hx])) (h d (by simp)).1 (h d (by simp)).2
/-- Beyond the range base 2i does not come back. -/
def Far (z : Int × Int) : Prop := z.1 < -10000000 ∨ 10000000 < z.1 ∨ z.2 < -10000000 ∨ 10000000 < z.2
theorem Far.step {z : Int × Int} {d : Int} (h : Far z) (d0 : 0 ≤ d) (d1 : d ≤ 3) : Far (stp 0 2 d z) := by
  unfold Far stp at *
  obtain ⟨x, y⟩ := z
  dsimp only at *
  omega
theorem Far.all {xs : List Int} (h : ∀ x ∈ xs, 0 ≤ x ∧ x ≤ 3) : ∀ (q : Nat), q ≤ xs.length → Far (gv 0 2 (xs.drop q)) → Far (gv 0 2 xs)
  | 0, _, hf => by simpa using hf
  | q + 1, hq, hf => Far.all h q (by omega) (by
      rw [gv_drop 0 2 (by omega)]
      have := h _ (getD_mem (show q < xs.length by omega))
      exact hf.step this.1 this.2)
theorem Far.bad {z : Int × Int} (h : Far z) : ¬ gok z.1 z.2 := by
  unfold Far at h; unfold gok; omega
/-- Valid digits. -/
def EndP (m : Int) (xs : List Int) : Prop := xs.length ≤ 40 ∧ (xs = [] ∨ xs.getD (xs.length - 1) 0 ≠ 0) ∧ allB 0 m xs = true
/-- What GaussOf and QuaterOf give. -/
def GoP (m u v : Int) (xs : List Int) : Prop := EndP m xs ∧ gok (gv u v xs).1 (gv u v xs).2
noncomputable def goB (m u v : Int) (xs : List Int) : Bool := @decide (GoP m u v xs) (Classical.propDecidable _)
theorem goB_t {m u v : Int} {xs : List Int} (h : GoP m u v xs) : goB m u v xs = true := by unfold goB; exact @decide_eq_true _ (Classical.propDecidable _) h
theorem goB_f {m u v : Int} {xs : List Int} (h : ¬ GoP m u v xs) : goB m u v xs = false := by unfold goB; exact @decide_eq_false _ (Classical.propDecidable _) h
noncomputable def goX (m u v : Int) (xs : List Int) : Int := if goB m u v xs then (gv u v xs).1 else 0
noncomputable def goY (m u v : Int) (xs : List Int) : Int := if goB m u v xs then (gv u v xs).2 else 0
end Go.Proofs.YthblbmihpgkanaaDoor
