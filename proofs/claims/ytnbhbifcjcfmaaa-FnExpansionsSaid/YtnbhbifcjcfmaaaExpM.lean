/- Plain words of expansions: the rests of a division, their first repetition, the digits. Conditions: none. -/
import Derived.Test.YtnbhbifcjcfmaaaBase
namespace Go.Proofs.Ytnbhbifcjcfmaaa
set_option linter.unusedVariables false

/-- The rest after k digits. -/
def rst (b q : Int) : Int → Nat → Int
  | p, 0 => p
  | p, k + 1 => rst b q (p * b % q) k
theorem rst_succ (b q : Int) : ∀ (k : Nat) (p : Int), rst b q p (k + 1) = rst b q p k * b % q
  | 0, _ => rfl
  | k + 1, p => by rw [rst, rst_succ b q k]; rfl
/-- The first n rests. -/
def rsl (b q p : Int) (n : Nat) : List Int := (List.range n).map (rst b q p)
/-- The digits behind the point. -/
def dgl (b q p : Int) (n : Nat) : List Int := (List.range n).map fun k => rst b q p k * b / q
theorem length_rsl (b q p : Int) (n : Nat) : (rsl b q p n).length = n := by simp [rsl]
theorem length_dgl (b q p : Int) (n : Nat) : (dgl b q p n).length = n := by simp [dgl]
theorem rsl_succ (b q p : Int) (n : Nat) : rsl b q p (n + 1) = rsl b q p n ++ [rst b q p n] := by simp [rsl, List.range_succ]
theorem dgl_succ (b q p : Int) (n : Nat) : dgl b q p (n + 1) = dgl b q p n ++ [rst b q p n * b / q] := by simp [dgl, List.range_succ]
theorem getD_rsl {b q p : Int} {n j : Nat} (h : j < n) : (rsl b q p n).getD j 0 = rst b q p j := by
  simp [rsl, h]
theorem getD_dgl {b q p : Int} {n j : Nat} (h : j < n) : (dgl b q p n).getD j 0 = rst b q p j * b / q := by
  simp [dgl, h]
theorem take_dgl {b q p : Int} {n m : Nat} (h : m ≤ n) : (dgl b q p n).take m = dgl b q p m := by
  simp only [dgl, ← List.map_take, List.take_range]; rw [Nat.min_eq_left h]
theorem rst_bd {b q p : Int} (hq : 0 < q) (h0 : 0 ≤ p) (h1 : p < q) : ∀ k, 0 ≤ rst b q p k ∧ rst b q p k < q
  | 0 => ⟨h0, h1⟩
  | k + 1 => by rw [rst_succ]; exact ⟨Int.emod_nonneg _ (by omega), Int.emod_lt_of_pos _ hq⟩
theorem rst_zero {b q p : Int} {i : Nat} (h : rst b q p i = 0) : ∀ k, rst b q p (i + k) = 0
  | 0 => h
  | k + 1 => by rw [← Nat.add_assoc, rst_succ, rst_zero h k]; simp

/-! A list without repetition of numbers below q is no longer than q. -/
theorem nodup_len : ∀ (q : Nat) (l : List Int), l.Nodup → (∀ x ∈ l, 0 ≤ x ∧ x < q) → l.length ≤ q
  | 0, l, _, h => by
    cases l with
    | nil => simp
    | cons x l => have := h x (by simp); omega
  | q + 1, l, hn, h => by
    by_cases hm : (q : Int) ∈ l
    · have h1 := List.length_erase_of_mem hm
      have h2 := nodup_len q (l.erase q) (hn.erase _) fun x hx => by
        have h3 := h x (List.mem_of_mem_erase hx)
        have h4 : x ≠ q := fun e => by subst e; exact (List.Nodup.not_mem_erase hn) hx
        omega
      omega
    · have := nodup_len q l hn fun x hx => by
        have h3 := h x hx
        have h4 : x ≠ q := fun e => hm (e ▸ hx)
        omega
      omega

/-- The rests before n differ. -/
def Dist (b q p : Int) (n : Nat) : Prop := ∀ i, i < n → ∀ j, j < i → rst b q p i ≠ rst b q p j
theorem Dist.nodup {b q p : Int} {n : Nat} (h : Dist b q p n) : (rsl b q p n).Nodup := by
  rw [List.nodup_iff_pairwise_ne] 
  unfold rsl
  rw [List.pairwise_map]
  refine List.Pairwise.imp_of_mem ?_ List.pairwise_lt_range
  intro i j hi hj hij e
  exact h j (by simpa using hj) i hij e.symm
theorem Dist.le {b q p : Int} {n : Nat} (h : Dist b q p n) (hq : 0 < q) (h0 : 0 ≤ p) (h1 : p < q) : n ≤ q.toNat := by
  have := nodup_len q.toNat _ h.nodup fun x hx => by
    simp [rsl] at hx
    obtain ⟨k, _, rfl⟩ := hx
    have := rst_bd (b := b) hq h0 h1 k
    omega
  rw [length_rsl] at this
  exact this
theorem Dist.succ {b q p : Int} {n : Nat} (h : Dist b q p n) (hn : ∀ j, j < n → rst b q p j ≠ rst b q p n) : Dist b q p (n + 1) := by
  intro i hi j hj
  by_cases e : i = n
  · subst e; exact fun he => hn j hj he.symm
  · exact h i (by omega) j hj
theorem Dist.zero (b q p : Int) : Dist b q p 0 := fun i hi => by omega

/-- The first repetition: rest n is rest f, and the rests before n differ. -/
def Rep (b q p : Int) (f n : Nat) : Prop := f < n ∧ rst b q p n = rst b q p f ∧ Dist b q p n
theorem Rep.uniq {b q p : Int} {f n g m : Nat} (h : Rep b q p f n) (k : Rep b q p g m) : f = g ∧ n = m := by
  have hnm : n = m := by
    rcases Nat.lt_trichotomy n m with hl | e | hl
    · exact absurd h.2.1 (k.2.2 n hl f h.1)
    · exact e
    · exact absurd k.2.1 (h.2.2 m hl g k.1)
  subst hnm
  refine ⟨?_, rfl⟩
  rcases Nat.lt_trichotomy f g with hl | e | hl
  · exact absurd (h.2.1.symm.trans k.2.1).symm (h.2.2 g k.1 f hl)
  · exact e
  · exact absurd (h.2.1.symm.trans k.2.1) (h.2.2 f h.1 g hl)
theorem Rep.exists {b q p : Int} (hq : 0 < q) (h0 : 0 ≤ p) (h1 : p < q) : ∃ f n, Rep b q p f n := by
  apply Classical.byContradiction
  intro hn
  have hd : ∀ n, Dist b q p n := by
    intro n
    induction n with
    | zero => exact Dist.zero _ _ _
    | succ n ih => exact ih.succ fun j hj he => hn ⟨j, n, hj, he.symm, ih⟩
  have := (hd (q.toNat + 1)).le hq h0 h1
  omega
/-- The lengths of preperiod and period (f, n - f), or (f, 0) where the rest is 0. -/
noncomputable def repF (b q p : Int) : Nat := @dite _ (∃ f n, Rep b q p f n) (Classical.propDecidable _) (fun h => Classical.choose h) (fun _ => 0)
noncomputable def repN (b q p : Int) : Nat := @dite _ (∃ f n, Rep b q p f n) (Classical.propDecidable _) (fun h => Classical.choose (Classical.choose_spec h)) (fun _ => 0)
theorem Rep.eq {b q p : Int} {f n : Nat} (h : Rep b q p f n) : repF b q p = f ∧ repN b q p = n := by
  have hx : ∃ f n, Rep b q p f n := ⟨f, n, h⟩
  have hs := Classical.choose_spec (Classical.choose_spec hx)
  have := hs.uniq h
  unfold repF repN
  rw [dif_pos hx, dif_pos hx]
  exact this
noncomputable def preN (b q p : Int) : Nat := repF b q p
noncomputable def perN (b q p : Int) : Nat := if rst b q p (repF b q p) = 0 then 0 else repN b q p - repF b q p
/-- The preperiod and the period. -/
noncomputable def preL (b q p : Int) : List Int := dgl b q p (preN b q p)
noncomputable def perL (b q p : Int) : List Int := (dgl b q p (preN b q p + perN b q p)).drop (preN b q p)
theorem length_preL (b q p : Int) : (preL b q p).length = preN b q p := length_dgl _ _ _ _
theorem length_perL (b q p : Int) : (perL b q p).length = perN b q p := by unfold perL; rw [List.length_drop, length_dgl]; omega
theorem Rep.lens {b q p : Int} {f n : Nat} (h : Rep b q p f n) : preN b q p = f ∧ perN b q p = if rst b q p f = 0 then 0 else n - f := by
  obtain ⟨e1, e2⟩ := h.eq
  unfold preN perN
  rw [e1, e2]
  exact ⟨rfl, rfl⟩
/-- Where the rest is 0 first. -/
theorem Rep.of_zero {b q p : Int} {n : Nat} (h : Dist b q p (n + 1)) (hz : rst b q p n = 0) : Rep b q p n (n + 1) :=
  ⟨by omega, by have := rst_zero hz 1; rw [this, hz], h⟩
theorem rep_bd {b q p : Int} (hq : 0 < q) (h0 : 0 ≤ p) (h1 : p < q) : preN b q p + perN b q p ≤ q.toNat := by
  obtain ⟨f, n, h⟩ := Rep.exists (b := b) hq h0 h1
  obtain ⟨e1, e2⟩ := h.lens
  have := h.2.2.le hq h0 h1
  have := h.1
  rw [e1, e2]
  split <;> omega
end Go.Proofs.Ytnbhbifcjcfmaaa
