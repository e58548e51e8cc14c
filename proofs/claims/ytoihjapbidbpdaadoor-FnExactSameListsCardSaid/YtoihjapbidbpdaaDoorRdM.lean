/- Partition refinement by first occurrences, as plain functions of lists. Conditions: none. -/
import Derived.Lib.Hide
namespace Go.Proofs.YtoihjapbidbpdaaDoor
set_option linter.unusedVariables false
theorem nodup_inj {α : Type} {l : List α} (h : l.Nodup) {i j : Nat} (hi : i < l.length) (hj : j < l.length) (e : l[i] = l[j]) : i = j := by
  have hp := List.pairwise_iff_getElem.1 h
  apply Classical.byContradiction
  intro hne
  rcases Nat.lt_or_gt_of_ne hne with hlt | hlt
  · exact hp i j hi hj hlt e
  · exact hp j i hj hi hlt e.symm
/-- The state that follows s with d, as a number. -/
def nxt (xs : List Int) (bb s d : Nat) : Nat := (xs.getD (s * bb + d) 0).toNat
/-- What a state is told apart by: its own class and those of the states that follow. -/
def sgn (xs : List Int) (bb : Nat) (cl : List Nat) (s : Nat) : List Nat := cl.getD s 0 :: (List.range bb).map fun d => cl.getD (nxt xs bb s d) 0
/-- The signatures seen among the first k states, and the numbers given. -/
def nrd (xs : List Int) (bb : Nat) (cl : List Nat) : Nat → List (List Nat) × List Nat
  | 0 => ([], [])
  | k + 1 =>
    if sgn xs bb cl k ∈ (nrd xs bb cl k).1 then ((nrd xs bb cl k).1, (nrd xs bb cl k).2 ++ [(nrd xs bb cl k).1.idxOf (sgn xs bb cl k)])
    else ((nrd xs bb cl k).1 ++ [sgn xs bb cl k], (nrd xs bb cl k).2 ++ [(nrd xs bb cl k).1.length])
section
variable (xs : List Int) (bb : Nat) (cl : List Nat)
theorem nrd_old {k : Nat} (h : sgn xs bb cl k ∈ (nrd xs bb cl k).1) : nrd xs bb cl (k + 1) = ((nrd xs bb cl k).1, (nrd xs bb cl k).2 ++ [(nrd xs bb cl k).1.idxOf (sgn xs bb cl k)]) := by
  rw [nrd, if_pos h]
theorem nrd_new {k : Nat} (h : ¬ sgn xs bb cl k ∈ (nrd xs bb cl k).1) : nrd xs bb cl (k + 1) = ((nrd xs bb cl k).1 ++ [sgn xs bb cl k], (nrd xs bb cl k).2 ++ [(nrd xs bb cl k).1.length]) := by
  rw [nrd, if_neg h]
theorem nrd_len (k : Nat) : (nrd xs bb cl k).2.length = k := by
  induction k with
  | zero => rfl
  | succ k ih => by_cases h : sgn xs bb cl k ∈ (nrd xs bb cl k).1 <;> simp [nrd_old, nrd_new, h, ih]
theorem nrd_le (k : Nat) : (nrd xs bb cl k).1.length ≤ k := by
  induction k with
  | zero => exact Nat.le_refl _
  | succ k ih => by_cases h : sgn xs bb cl k ∈ (nrd xs bb cl k).1 <;> simp [nrd_old, nrd_new, h] <;> omega
/-- What the numbers say: number r's signature stands at its place. -/
theorem nrd_at (k : Nat) : ∀ r, r < k → (nrd xs bb cl k).2.getD r 0 < (nrd xs bb cl k).1.length ∧ (nrd xs bb cl k).1[(nrd xs bb cl k).2.getD r 0]? = some (sgn xs bb cl r) := by
  induction k with
  | zero => intro r hr; omega
  | succ k ih =>
    intro r hr
    have hlen := nrd_len xs bb cl k
    by_cases h : sgn xs bb cl k ∈ (nrd xs bb cl k).1
    · rw [nrd_old xs bb cl h]
      dsimp only
      by_cases e : r = k
      · subst e
        have e1 : ((nrd xs bb cl r).2 ++ [(nrd xs bb cl r).1.idxOf (sgn xs bb cl r)]).getD r 0 = (nrd xs bb cl r).1.idxOf (sgn xs bb cl r) := by
          rw [List.getD_eq_getElem?_getD, List.getElem?_append_right (by omega), hlen]; simp
        rw [e1]
        have := List.idxOf_lt_length_of_mem h
        exact ⟨this, by rw [List.getElem?_eq_getElem this, List.getElem_idxOf]⟩
      · have e1 : ((nrd xs bb cl k).2 ++ [(nrd xs bb cl k).1.idxOf (sgn xs bb cl k)]).getD r 0 = (nrd xs bb cl k).2.getD r 0 := by
          rw [List.getD_eq_getElem?_getD, List.getElem?_append_left (by omega), ← List.getD_eq_getElem?_getD]
        rw [e1]
        exact ih r (by omega)
    · rw [nrd_new xs bb cl h]
      dsimp only
      rw [List.length_append, List.length_singleton]
      by_cases e : r = k
      · subst e
        have e1 : ((nrd xs bb cl r).2 ++ [(nrd xs bb cl r).1.length]).getD r 0 = (nrd xs bb cl r).1.length := by
          rw [List.getD_eq_getElem?_getD, List.getElem?_append_right (by omega), hlen]; simp
        rw [e1]
        exact ⟨by omega, by rw [List.getElem?_append_right (by omega)]; simp⟩
      · have e1 : ((nrd xs bb cl k).2 ++ [(nrd xs bb cl k).1.length]).getD r 0 = (nrd xs bb cl k).2.getD r 0 := by
          rw [List.getD_eq_getElem?_getD, List.getElem?_append_left (by omega), ← List.getD_eq_getElem?_getD]
        rw [e1]
        obtain ⟨a, b⟩ := ih r (by omega)
        exact ⟨by omega, by rw [List.getElem?_append_left (by omega)]; exact b⟩
/-- The signatures seen are all different. -/
theorem nrd_nodup (k : Nat) : (nrd xs bb cl k).1.Nodup := by
  induction k with
  | zero => exact List.nodup_nil
  | succ k ih =>
    by_cases h : sgn xs bb cl k ∈ (nrd xs bb cl k).1
    · rw [nrd_old xs bb cl h]; exact ih
    · rw [nrd_new xs bb cl h]
      exact List.nodup_append.2 ⟨ih, by simp, by intro a ha b hb; simp at hb; subst hb; intro e; subst e; exact h ha⟩
theorem nrd_mem (k : Nat) (g : List Nat) : g ∈ (nrd xs bb cl k).1 ↔ ∃ r, r < k ∧ sgn xs bb cl r = g := by
  induction k with
  | zero => simp [nrd]
  | succ k ih =>
    by_cases h : sgn xs bb cl k ∈ (nrd xs bb cl k).1
    · rw [nrd_old xs bb cl h]
      dsimp only
      rw [ih]
      constructor
      · rintro ⟨r, hr, e⟩; exact ⟨r, by omega, e⟩
      · rintro ⟨r, hr, e⟩
        by_cases e2 : r = k
        · subst e2; rw [e] at h; exact ih.1 h
        · exact ⟨r, by omega, e⟩
    · rw [nrd_new xs bb cl h]
      dsimp only
      rw [List.mem_append, ih]
      constructor
      · rintro (⟨r, hr, e⟩ | e)
        · exact ⟨r, by omega, e⟩
        · simp at e; exact ⟨k, by omega, e.symm⟩
      · rintro ⟨r, hr, e⟩
        by_cases e2 : r = k
        · subst e2; exact .inr (by simp [e])
        · exact .inl ⟨r, by omega, e⟩
/-- A later number of states keeps what has been given. -/
theorem nrd_getD (k m r : Nat) (hr : r < k) (hk : k ≤ m) : (nrd xs bb cl m).2.getD r 0 = (nrd xs bb cl k).2.getD r 0 := by
  induction m with
  | zero => omega
  | succ m ih =>
    by_cases e : k = m + 1
    · subst e; rfl
    · have hlen := nrd_len xs bb cl m
      rw [← ih (by omega)]
      by_cases h : sgn xs bb cl m ∈ (nrd xs bb cl m).1
      · rw [nrd_old xs bb cl h]; dsimp only
        rw [List.getD_eq_getElem?_getD, List.getElem?_append_left (by omega), ← List.getD_eq_getElem?_getD]
      · rw [nrd_new xs bb cl h]; dsimp only
        rw [List.getD_eq_getElem?_getD, List.getElem?_append_left (by omega), ← List.getD_eq_getElem?_getD]
/-- Equal numbers are equal signatures. -/
theorem nrd_eq (k r t : Nat) (hr : r < k) (ht : t < k) : (nrd xs bb cl k).2.getD r 0 = (nrd xs bb cl k).2.getD t 0 ↔ sgn xs bb cl r = sgn xs bb cl t := by
  obtain ⟨a1, a2⟩ := nrd_at xs bb cl k r hr
  obtain ⟨b1, b2⟩ := nrd_at xs bb cl k t ht
  constructor
  · intro e; rw [e] at a2; exact Option.some.inj (a2.symm.trans b2)
  · intro e
    rw [e, List.getElem?_eq_getElem a1] at a2
    rw [List.getElem?_eq_getElem b1] at b2
    have := (nrd_nodup xs bb cl k)
    have e2 : (nrd xs bb cl k).1[(nrd xs bb cl k).2.getD r 0] = (nrd xs bb cl k).1[(nrd xs bb cl k).2.getD t 0] := by rw [Option.some.inj a2, Option.some.inj b2]
    exact nodup_inj this _ _ e2
end
/-- One round over n states. -/
def stp (xs : List Int) (bb n : Nat) (cl : List Nat) : List Nat := (nrd xs bb cl n).2
def cnt (xs : List Int) (bb n : Nat) (cl : List Nat) : Nat := (nrd xs bb cl n).1.length
def stpK (xs : List Int) (bb n : Nat) (cl : List Nat) : Nat → List Nat
  | 0 => cl
  | k + 1 => stp xs bb n (stpK xs bb n cl k)
theorem sgn_head (xs : List Int) (bb : Nat) (cl : List Nat) (s : Nat) : (sgn xs bb cl s).head? = some (cl.getD s 0) := rfl
/-- The next round's count is not smaller, and as long as it is the same, its numbers are the same. -/
theorem round_two (xs : List Int) (bb n : Nat) (cl : List Nat) (k : Nat) (hk : k ≤ n) :
    (nrd xs bb cl k).1.length ≤ (nrd xs bb (stp xs bb n cl) k).1.length ∧
    ((nrd xs bb cl k).1.length = (nrd xs bb (stp xs bb n cl) k).1.length → ∀ r, r < k → (nrd xs bb (stp xs bb n cl) k).2.getD r 0 = (stp xs bb n cl).getD r 0) := by
  induction k with
  | zero => exact ⟨Nat.le_refl _, fun _ r hr => by omega⟩
  | succ k ih =>
    obtain ⟨i1, i2⟩ := ih (by omega)
    have hN : ∀ r, r < k → (stp xs bb n cl).getD r 0 = (nrd xs bb cl k).2.getD r 0 := fun r hr => nrd_getD xs bb cl k n r hr (by omega)
    have hNk : (stp xs bb n cl).getD k 0 = (nrd xs bb cl (k + 1)).2.getD k 0 := nrd_getD xs bb cl (k + 1) n k (by omega) hk
    have hlen := nrd_len xs bb cl k
    have hlen' := nrd_len xs bb (stp xs bb n cl) k
    -- a new signature before is a new one now
    have new : ¬ sgn xs bb cl k ∈ (nrd xs bb cl k).1 → ¬ sgn xs bb (stp xs bb n cl) k ∈ (nrd xs bb (stp xs bb n cl) k).1 := by
      intro h h'
      obtain ⟨r, hr, e⟩ := (nrd_mem _ _ _ _ _).1 h'
      have e1 : (stp xs bb n cl).getD r 0 = (stp xs bb n cl).getD k 0 := by
        have := congrArg List.head? e
        rw [sgn_head, sgn_head] at this
        exact Option.some.inj this
      have e2 := (nrd_eq xs bb cl n r k (by omega) (by omega)).1 e1
      exact h ((nrd_mem _ _ _ _ _).2 ⟨r, hr, e2⟩)
    by_cases h : sgn xs bb cl k ∈ (nrd xs bb cl k).1
    · rw [nrd_old xs bb cl h] at hNk ⊢
      dsimp only at hNk ⊢
      by_cases h' : sgn xs bb (stp xs bb n cl) k ∈ (nrd xs bb (stp xs bb n cl) k).1
      · rw [nrd_old xs bb (stp xs bb n cl) h']
        dsimp only
        refine ⟨i1, fun hl r hr => ?_⟩
        by_cases e : r = k
        · subst e
          rw [List.getD_eq_getElem?_getD, List.getElem?_append_right (by omega), hlen']
          simp only [Nat.sub_self, List.getElem?_cons_zero, Option.getD_some]
          -- the place's own state
          obtain ⟨t, ht, et⟩ := (nrd_mem _ _ _ _ _).1 h'
          have a := nrd_at xs bb (stp xs bb n cl) r t ht
          rw [et] at a
          have hi := List.idxOf_lt_length_of_mem h'
          have b : (nrd xs bb (stp xs bb n cl) r).1[(nrd xs bb (stp xs bb n cl) r).1.idxOf (sgn xs bb (stp xs bb n cl) r)] = sgn xs bb (stp xs bb n cl) r := List.getElem_idxOf hi
          have a2 := a.2
          rw [List.getElem?_eq_getElem a.1] at a2
          have e3 : (nrd xs bb (stp xs bb n cl) r).1.idxOf (sgn xs bb (stp xs bb n cl) r) = (nrd xs bb (stp xs bb n cl) r).2.getD t 0 :=
            nodup_inj (nrd_nodup xs bb (stp xs bb n cl) r) hi a.1 (b.trans (Option.some.inj a2).symm)
          rw [e3, i2 hl t ht]
          have := congrArg List.head? et
          rw [sgn_head, sgn_head] at this
          exact Option.some.inj this
        · rw [List.getD_eq_getElem?_getD, List.getElem?_append_left (by omega), ← List.getD_eq_getElem?_getD]
          exact i2 hl r (by omega)
      · rw [nrd_new xs bb (stp xs bb n cl) h']
        dsimp only
        rw [List.length_append, List.length_singleton]
        exact ⟨by omega, fun hl => by omega⟩
    · have h' := new h
      rw [nrd_new xs bb cl h] at hNk ⊢
      rw [nrd_new xs bb (stp xs bb n cl) h']
      dsimp only at hNk ⊢
      rw [List.length_append, List.length_singleton, List.length_append, List.length_singleton]
      refine ⟨by omega, fun hl r hr => ?_⟩
      by_cases e : r = k
      · subst e
        rw [hNk]
        rw [List.getD_eq_getElem?_getD, List.getD_eq_getElem?_getD, List.getElem?_append_right (by omega), List.getElem?_append_right (by omega), hlen, hlen']
        simp only [Nat.sub_self, List.getElem?_cons_zero, Option.getD_some]
        omega
      · rw [List.getD_eq_getElem?_getD, List.getElem?_append_left (by omega), ← List.getD_eq_getElem?_getD]
        exact i2 (by omega) r (by omega)
theorem list_ext0 {l m : List Nat} (h : l.length = m.length) (hg : ∀ r, r < l.length → l.getD r 0 = m.getD r 0) : l = m := by
  apply List.ext_getElem h
  intro i h1 h2
  have := hg i h1
  rw [List.getD_eq_getElem?_getD, List.getD_eq_getElem?_getD, List.getElem?_eq_getElem h1, List.getElem?_eq_getElem h2] at this
  exact this
theorem len_stp (xs : List Int) (bb n : Nat) (cl : List Nat) : (stp xs bb n cl).length = n := nrd_len xs bb cl n
theorem cnt_le (xs : List Int) (bb n : Nat) (cl : List Nat) : cnt xs bb n cl ≤ n := nrd_le xs bb cl n
theorem cnt_mono (xs : List Int) (bb n : Nat) (cl : List Nat) : cnt xs bb n cl ≤ cnt xs bb n (stp xs bb n cl) := (round_two xs bb n cl n (Nat.le_refl _)).1
theorem stp_fix {xs : List Int} {bb n : Nat} {cl : List Nat} (h : cnt xs bb n (stp xs bb n cl) = cnt xs bb n cl) : stp xs bb n (stp xs bb n cl) = stp xs bb n cl :=
  list_ext0 (by rw [len_stp, len_stp]) fun r hr => (round_two xs bb n cl n (Nat.le_refl _)).2 h.symm r (by rw [len_stp] at hr; exact hr)
theorem cnt_pos (xs : List Int) (bb n : Nat) (cl : List Nat) (hn : 1 ≤ n) : 1 ≤ cnt xs bb n cl := by
  have := (nrd_at xs bb cl n 0 (by omega)).1
  unfold cnt; omega
theorem stpK_fix {xs : List Int} {bb n : Nat} {cl : List Nat} {j : Nat} (h : stp xs bb n (stpK xs bb n cl j) = stpK xs bb n cl j) : ∀ m, j ≤ m → stpK xs bb n cl m = stpK xs bb n cl j := by
  intro m hm
  induction m with
  | zero => have : j = 0 := by omega
            subst this; rfl
  | succ m ih =>
    by_cases e : j = m + 1
    · subst e; rfl
    · rw [stpK, ih (by omega), h]
/-- The rule by which the rounds stop gives what n rounds give. -/
theorem stop_rule {xs : List Int} {bb n : Nat} {cl : List Nat} {j : Nat} (hj : j + 1 ≤ cnt xs bb n (stpK xs bb n cl j)) (hc : cnt xs bb n (stpK xs bb n cl (j + 1)) = cnt xs bb n (stpK xs bb n cl j)) :
    stpK xs bb n cl (j + 2) = stpK xs bb n cl n := by
  have hf : stp xs bb n (stpK xs bb n cl (j + 1)) = stpK xs bb n cl (j + 1) := stp_fix (cl := stpK xs bb n cl j) hc
  have := cnt_le xs bb n (stpK xs bb n cl j)
  rw [stpK_fix hf n (by omega), stpK_fix hf (j + 2) (by omega)]
theorem go_on {xs : List Int} {bb n : Nat} {cl : List Nat} {j : Nat} (hj : j + 1 ≤ cnt xs bb n (stpK xs bb n cl j)) (hc : ¬ cnt xs bb n (stpK xs bb n cl (j + 1)) = cnt xs bb n (stpK xs bb n cl j)) :
    j + 2 ≤ cnt xs bb n (stpK xs bb n cl (j + 1)) := by
  have := cnt_mono xs bb n (stpK xs bb n cl j)
  have e : stpK xs bb n cl (j + 1) = stp xs bb n (stpK xs bb n cl j) := rfl
  rw [e] at hc ⊢
  omega
/-- The numbers after a round lie below the count. -/
theorem stp_lt (xs : List Int) (bb n : Nat) (cl : List Nat) (r : Nat) (hr : r < n) : (stp xs bb n cl).getD r 0 < n := by
  have := (nrd_at xs bb cl n r hr).1
  have := nrd_le xs bb cl n
  unfold stp; omega
end Go.Proofs.YtoihjapbidbpdaaDoor
