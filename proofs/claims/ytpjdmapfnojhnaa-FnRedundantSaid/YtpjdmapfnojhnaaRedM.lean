/- Plain law of FnRedundant: the sum has the value of the sum, its digits are in range, and digits below the last do not depend on the last. Conditions: none. -/
import Derived.Test.YtpjdmapfnojhnaaPlain
import Derived.Test.YtpjdmapfnojhnaaDigOk
namespace Go.Proofs.Ytpjdmapfnojhnaa
set_option linter.unusedVariables false

theorem getD_past (xs : List Int) {k : Nat} (h : xs.length ≤ k) : xs.getD k 0 = 0 := by rw [List.getD_eq_getElem?_getD, List.getElem?_eq_none h]; rfl
theorem val_append (b : Int) (x : Int) : ∀ l : List Int, val b (l ++ [x]) = val b l + x * b ^ l.length
  | [] => by simp [val]
  | a :: l => by
    have h := val_append b x l
    have e1 : val b (a :: l ++ [x]) = val b (l ++ [x]) * b + a := rfl
    have e2 : val b (a :: l) = val b l * b + a := rfl
    rw [e1, e2, h, List.length_cons, Int.pow_succ]
    grind
def pv (b : Int) (f : Nat → Int) : Nat → Int
  | 0 => 0
  | n + 1 => pv b f n + f n * b ^ n
theorem val_map (b : Int) (f : Nat → Int) : ∀ n, val b ((List.range n).map f) = pv b f n
  | 0 => rfl
  | n + 1 => by
    rw [List.range_succ, List.map_append, List.map_cons, List.map_nil, val_append, val_map b f n]
    simp [pv]
theorem list_map (xs : List Int) : (List.range xs.length).map (fun k => xs.getD k 0) = xs := by
  apply List.ext_getElem
  · simp
  · intro i h1 h2
    simp [List.getElem?_eq_getElem h2]
theorem pv_more (b : Int) (xs : List Int) : ∀ d, pv b (fun k => xs.getD k 0) (xs.length + d) = val b xs
  | 0 => by rw [Nat.add_zero, ← val_map, list_map]
  | d + 1 => by
    show pv b (fun k => xs.getD k 0) (xs.length + d) + xs.getD (xs.length + d) 0 * b ^ (xs.length + d) = _
    rw [pv_more b xs d, getD_past xs (by omega)]
    simp
theorem pv_val (b : Int) (xs : List Int) {m : Nat} (h : xs.length ≤ m) : pv b (fun k => xs.getD k 0) m = val b xs := by
  obtain ⟨d, rfl⟩ : ∃ d, m = xs.length + d := ⟨m - xs.length, by omega⟩
  exact pv_more b xs d
theorem pv_dgt (b : Int) (a c : List Int) : ∀ n, pv b (dgt b a c) n + tr b a c n * b ^ n = pv b (fun k => a.getD k 0) n + pv b (fun k => c.getD k 0) n
  | 0 => by simp [pv, tr]
  | n + 1 => by
    have h := pv_dgt b a c n
    have e : tr b a c (n + 1) = nx b (sm a c n) := rfl
    have e2 : dgt b a c n = sm a c n - b * nx b (sm a c n) + tr b a c n := rfl
    have e3 : sm a c n = a.getD n 0 + c.getD n 0 := rfl
    simp only [pv]
    rw [e, e2, Int.pow_succ]
    generalize nx b (sm a c n) = z at *
    grind
theorem val_addL (b : Int) (a c : List Int) : val b (addL b a c) = val b a + val b c := by
  have h := pv_dgt b a c (big a c)
  rw [pv_val b a (by unfold big; omega), pv_val b c (by unfold big; omega)] at h
  unfold addL
  split
  · rename_i h0
    rw [List.append_nil, rows, val_map]
    rw [h0] at h
    simpa using h
  · rw [val_append, length_rows, rows, val_map]
    exact h
theorem red_getD {b : Int} {xs : List Int} (hb : 1 ≤ b) (h : ∀ x ∈ xs, -(b - 1) ≤ x ∧ x ≤ b - 1) (k : Nat) : -(b - 1) ≤ xs.getD k 0 ∧ xs.getD k 0 ≤ b - 1 := by
  by_cases hk : k < xs.length
  · exact h _ (getD_mem hk)
  · rw [getD_past xs (by omega)]; omega
theorem dgt_bd {b : Int} {a c : List Int} (hb : 3 ≤ b) (ha : ∀ x ∈ a, -(b - 1) ≤ x ∧ x ≤ b - 1) (hc : ∀ x ∈ c, -(b - 1) ≤ x ∧ x ≤ b - 1) (k : Nat) : -(b - 1) ≤ dgt b a c k ∧ dgt b a c k ≤ b - 1 := by
  have h1 := red_getD (by omega) ha k
  have h2 := red_getD (by omega) hc k
  have h3 := tr_bd b a c k
  have e3 : sm a c k = a.getD k 0 + c.getD k 0 := rfl
  unfold dgt nx
  split
  · omega
  · split <;> omega
theorem addL_in {b : Int} {a c : List Int} (hb : 3 ≤ b) (ha : ∀ x ∈ a, -(b - 1) ≤ x ∧ x ≤ b - 1) (hc : ∀ x ∈ c, -(b - 1) ≤ x ∧ x ≤ b - 1) : ∀ x ∈ addL b a c, -(b - 1) ≤ x ∧ x ≤ b - 1 := by
  intro x hx
  unfold addL at hx
  rw [List.mem_append] at hx
  rcases hx with hx | hx
  · unfold rows at hx
    rw [List.mem_map] at hx
    obtain ⟨k, _, rfl⟩ := hx
    exact dgt_bd hb ha hc k
  · have h3 := tr_bd b a c (big a c)
    split at hx
    · simp at hx
    · simp at hx; subst hx; omega
theorem addL_len (b : Int) (a c : List Int) : big a c ≤ (addL b a c).length ∧ (addL b a c).length ≤ big a c + 1 := by
  unfold addL
  rw [List.length_append, length_rows]
  split <;> simp
theorem addL_red {b : Int} {a c : List Int} (ha : RedP b a) (hc : RedP b c) (hl : a.length ≤ 11) (hm : c.length ≤ 11) : RedP b (addL b a c) :=
  ⟨ha.1, ha.2.1, by have := (addL_len b a c).2; unfold big at this; omega, allB_iff.2 (addL_in ha.1 (allB_iff.1 ha.2.2.2) (allB_iff.1 hc.2.2.2))⟩
theorem addL_getD (b : Int) (a c : List Int) {i : Nat} (h : i < big a c) : (addL b a c).getD i 0 = dgt b a c i := by
  unfold addL
  rw [List.getD_eq_getElem?_getD, List.getElem?_append_left (by rw [length_rows]; exact h)]
  simp [rows, h]
/-- The list with its last number replaced by 0. -/
def zap (xs : List Int) : List Int := xs.set (xs.length - 1) 0
theorem length_zap (xs : List Int) : (zap xs).length = xs.length := by simp [zap]
theorem zap_getD (xs : List Int) {i : Nat} (h : i < xs.length - 1) : (zap xs).getD i 0 = xs.getD i 0 := by
  unfold zap
  rw [List.getD_eq_getElem?_getD, List.getElem?_set_ne (by omega), List.getD_eq_getElem?_getD]
theorem zap_red {b : Int} {xs : List Int} (h : RedP b xs) : RedP b (zap xs) := by
  refine ⟨h.1, h.2.1, by rw [length_zap]; exact h.2.2.1, allB_iff.2 fun x hx => ?_⟩
  have := h.1
  rcases List.mem_or_eq_of_mem_set hx with hx | rfl
  · exact allB_iff.1 h.2.2.2 x hx
  · omega
theorem dgt_zap (b : Int) (xs c : List Int) {i : Nat} (h : i < xs.length - 1) : dgt b (zap xs) c i = dgt b xs c i := by
  have e : sm (zap xs) c i = sm xs c i := by unfold sm; rw [zap_getD xs h]
  have e2 : tr b (zap xs) c i = tr b xs c i := by
    cases i with
    | zero => rfl
    | succ k =>
      show nx b (sm (zap xs) c k) = nx b (sm xs c k)
      have : sm (zap xs) c k = sm xs c k := by unfold sm; rw [zap_getD xs (by omega)]
      rw [this]
  unfold dgt
  rw [e, e2]
theorem zap_digit (b : Int) (xs c : List Int) {i : Nat} (h : i < xs.length - 1) : (addL b (zap xs) c).getD i 0 = (addL b xs c).getD i 0 := by
  rw [addL_getD _ _ _ (by unfold big; rw [length_zap]; omega), addL_getD _ _ _ (by unfold big; omega), dgt_zap _ _ _ h]
theorem dg_len {b : Int} (hb : 2 ≤ b) : ∀ (q f : Nat) (m : Int), m < b ^ q → (dg b f m).length ≤ q
  | 0, f, m, h => by
    have : ¬ 0 < m := by simp at h; omega
    cases f <;> simp [dg, this]
  | q + 1, 0, m, h => by simp [dg]
  | q + 1, f + 1, m, h => by
    by_cases h0 : 0 < m
    · rw [dg_pos h0, List.length_cons]
      have := dg_len hb q f (m / b) (Int.ediv_lt_of_lt_mul (by omega) (by rw [← Int.pow_succ]; exact h))
      omega
    · simp [dg, h0]
theorem dg_in {b : Int} (hb : 2 ≤ b) : ∀ (f : Nat) (m : Int), ∀ x ∈ dg b f m, 0 ≤ x ∧ x ≤ b - 1
  | 0, _, x, h => by simp [dg] at h
  | f + 1, m, x, h => by
    by_cases h0 : 0 < m
    · rw [dg_pos h0, List.mem_cons] at h
      rcases h with rfl | h
      · have := Int.emod_nonneg m (show b ≠ 0 by omega)
        have := Int.emod_lt_of_pos m (show 0 < b by omega)
        omega
      · exact dg_in hb f _ x h
    · simp [dg, h0] at h
theorem dg_end {b : Int} (hb : 2 ≤ b) : ∀ (f : Nat) (m : Int), m < b ^ f → EndP (dg b f m)
  | 0, _, _ => .inl rfl
  | f + 1, m, h => by
    by_cases h0 : 0 < m
    · have hq : m / b < b ^ f := Int.ediv_lt_of_lt_mul (by omega) (by rw [← Int.pow_succ]; exact h)
      rw [dg_pos h0]
      right
      rcases dg_end hb f (m / b) hq with hl | hl
      · have hz : ¬ 0 < m / b := by
          intro hp
          cases f with
          | zero => simp at hq; omega
          | succ f => rw [dg_pos hp] at hl; simp at hl
        have h1 : 0 ≤ m / b := Int.ediv_nonneg (by omega) (by omega)
        have h2 := Int.mul_ediv_add_emod m b
        have h3 : m / b = 0 := by omega
        rw [h3] at h2
        rw [List.length_cons, hl]
        simp
        omega
      · rw [List.length_cons]
        have hp : 0 < (dg b f (m / b)).length := by
          rcases Nat.eq_zero_or_pos (dg b f (m / b)).length with h | h
          · rw [List.eq_nil_of_length_eq_zero h] at hl; simp at hl
          · exact h
        obtain ⟨k, hk⟩ : ∃ k, (dg b f (m / b)).length = k + 1 := ⟨_, (Nat.sub_add_cancel hp).symm⟩
        rw [hk] at hl ⊢
        simpa using hl
    · simp [dg, h0, EndP]
theorem pow_ge (b : Int) (hb : 2 ≤ b) : ∀ n : Nat, (2 : Int) ^ n ≤ b ^ n
  | 0 => by simp
  | n + 1 => by
    have h := pow_ge b hb n
    rw [Int.pow_succ, Int.pow_succ]
    exact Int.mul_le_mul h hb (by omega) (Int.le_trans (Int.le_of_lt (Int.pow_pos (by omega))) h)
theorem digs_ok {b m : Int} (hb : 2 ≤ b) (hb2 : b ≤ 16) (hm : m < 1152921504606846976) : DigP b (digs b m) := by
  have h60 := pow_ge b hb 60
  have h64 := pow_ge b hb 64
  have e60 : (2 : Int) ^ 60 = 1152921504606846976 := by decide
  have e64 : (2 : Int) ^ 64 = 18446744073709551616 := by decide
  exact ⟨hb, hb2, dg_len hb 60 64 m (by omega), allB_iff.2 (dg_in hb 64 m), dg_end hb 64 m (by omega)⟩
theorem val_bd6 {b : Int} (hb : b.natAbs ≤ 16) {xs : List Int} (hl : xs.length ≤ 6) (h : ∀ x ∈ xs, x.natAbs ≤ 15) : (val b xs).natAbs ≤ 16777215 := by
  have h1 := val_bd hb xs h
  have h2 : 16 ^ xs.length ≤ 16 ^ 6 := Nat.pow_le_pow_right (by omega) hl
  have h3 : 16 ^ 6 = 16777216 := by decide
  omega
end Go.Proofs.Ytpjdmapfnojhnaa
