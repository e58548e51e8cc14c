/- The reduced machine, as plain functions of lists. Conditions: none. -/
import Derived.Test.YtoihjapbidbpdaaDoorThree
namespace Go.Proofs.YtoihjapbidbpdaaDoor
set_option linter.unusedVariables false
/-- One step: state i of those reached goes on with d. -/
def bst (xs : List Int) (bb : Nat) (cl : List Nat) (i d : Nat) (P : List Nat × List Nat) : List Nat × List Nat :=
  if cl.getD (nxt xs bb (P.1.getD i 0) d) 0 ∈ P.1.map (fun s => cl.getD s 0) then (P.1, P.2 ++ [(P.1.map (fun s => cl.getD s 0)).idxOf (cl.getD (nxt xs bb (P.1.getD i 0) d) 0)])
  else (P.1 ++ [nxt xs bb (P.1.getD i 0) d], P.2 ++ [P.1.length])
def bin (xs : List Int) (bb : Nat) (cl : List Nat) (i : Nat) (P : List Nat × List Nat) : Nat → List Nat × List Nat
  | 0 => P
  | d + 1 => bst xs bb cl i d (bin xs bb cl i P d)
def bou (xs : List Int) (bb : Nat) (cl : List Nat) : Nat → List Nat × List Nat
  | 0 => ([0], [])
  | i + 1 => bin xs bb cl i (bou xs bb cl i) bb
/-- How many states are reached. -/
def bend (xs : List Int) (bb : Nat) (cl : List Nat) : Nat → Nat → Nat
  | 0, i => i
  | f + 1, i => if i < (bou xs bb cl i).1.length then bend xs bb cl f (i + 1) else i
theorem bend_go {xs : List Int} {bb : Nat} {cl : List Nat} {f i : Nat} (h : i < (bou xs bb cl i).1.length) : bend xs bb cl (f + 1) i = bend xs bb cl f (i + 1) := by rw [bend, if_pos h]
theorem bend_stop {xs : List Int} {bb : Nat} {cl : List Nat} {f i : Nat} (h : ¬ i < (bou xs bb cl i).1.length) : bend xs bb cl f i = i := by
  cases f with
  | zero => rfl
  | succ f => rw [bend, if_neg h]
/-- What holds of the states reached: their classes are two by two different, they are states. -/
structure BOK (cl : List Nat) (n : Nat) (T : List Nat) : Prop where
  nd : (T.map fun s => cl.getD s 0).Nodup
  lt : ∀ s ∈ T, s < n
  ne : 1 ≤ T.length
theorem BOK.start (cl : List Nat) {n : Nat} (hn : 1 ≤ n) : BOK cl n [0] := ⟨by simp, by simp; omega, by simp⟩
theorem bst_old {xs : List Int} {bb : Nat} {cl : List Nat} {i d : Nat} {P : List Nat × List Nat} (h : cl.getD (nxt xs bb (P.1.getD i 0) d) 0 ∈ P.1.map (fun s => cl.getD s 0)) : bst xs bb cl i d P = (P.1, P.2 ++ [(P.1.map (fun s => cl.getD s 0)).idxOf (cl.getD (nxt xs bb (P.1.getD i 0) d) 0)]) := by rw [bst, if_pos h]
theorem bst_new {xs : List Int} {bb : Nat} {cl : List Nat} {i d : Nat} {P : List Nat × List Nat} (h : ¬ cl.getD (nxt xs bb (P.1.getD i 0) d) 0 ∈ P.1.map (fun s => cl.getD s 0)) : bst xs bb cl i d P = (P.1 ++ [nxt xs bb (P.1.getD i 0) d], P.2 ++ [P.1.length]) := by rw [bst, if_neg h]
theorem BOK.bst {xs : List Int} {bb : Nat} {cl : List Nat} {n i d : Nat} {P : List Nat × List Nat} (h : BOK cl n P.1) (hM : MC xs bb n) (hi : i < P.1.length) (hd : d < bb) : BOK cl n (bst xs bb cl i d P).1 := by
  have hs : P.1.getD i 0 < n := h.lt _ (by rw [List.getD_eq_getElem?_getD, List.getElem?_eq_getElem hi]; exact List.getElem_mem _)
  have ht := (hM.at_ hs hd).2
  by_cases hm : cl.getD (nxt xs bb (P.1.getD i 0) d) 0 ∈ P.1.map (fun s => cl.getD s 0)
  · rw [bst_old hm]; exact h
  · rw [bst_new hm]
    refine ⟨?_, fun s hs => ?_, by simp⟩
    · rw [List.map_append, List.map_cons, List.map_nil]
      exact List.nodup_append.2 ⟨h.nd, by simp, by intro a ha b hb; simp at hb; subst hb; intro e; subst e; exact hm ha⟩
    · rcases List.mem_append.1 hs with h1 | h1
      · exact h.lt s h1
      · have : s = nxt xs bb (P.1.getD i 0) d := by simpa using h1
        rw [this]; exact ht
theorem bst_len {xs : List Int} {bb : Nat} {cl : List Nat} {i d : Nat} {P : List Nat × List Nat} : P.1.length ≤ (bst xs bb cl i d P).1.length ∧ (bst xs bb cl i d P).2.length = P.2.length + 1 := by
  by_cases hm : cl.getD (nxt xs bb (P.1.getD i 0) d) 0 ∈ P.1.map (fun s => cl.getD s 0)
  · rw [bst_old hm]; exact ⟨Nat.le_refl _, by simp⟩
  · rw [bst_new hm]; exact ⟨by simp, by simp⟩
theorem bin_len {xs : List Int} {bb : Nat} {cl : List Nat} {i : Nat} {P : List Nat × List Nat} : ∀ d, P.1.length ≤ (bin xs bb cl i P d).1.length ∧ (bin xs bb cl i P d).2.length = P.2.length + d
  | 0 => ⟨Nat.le_refl _, rfl⟩
  | d + 1 => by
    obtain ⟨a, b⟩ := bin_len (xs := xs) (bb := bb) (cl := cl) (i := i) (P := P) d
    obtain ⟨c, e⟩ := bst_len (xs := xs) (bb := bb) (cl := cl) (i := i) (d := d) (P := bin xs bb cl i P d)
    exact ⟨Nat.le_trans a c, by rw [bin, e, b]; omega⟩
theorem BOK.bin {xs : List Int} {bb : Nat} {cl : List Nat} {n i : Nat} {P : List Nat × List Nat} (h : BOK cl n P.1) (hM : MC xs bb n) (hi : i < P.1.length) : ∀ d, d ≤ bb → BOK cl n (bin xs bb cl i P d).1
  | 0, _ => h
  | d + 1, hd => (BOK.bin h hM hi d (by omega)).bst hM (Nat.lt_of_lt_of_le hi (bin_len d).1) (by omega)
theorem bou_len (xs : List Int) (bb : Nat) (cl : List Nat) : ∀ i, (bou xs bb cl i).2.length = i * bb
  | 0 => by simp [bou]
  | i + 1 => by rw [bou, (bin_len bb).2, bou_len xs bb cl i, Nat.add_mul, Nat.one_mul]
theorem pig : ∀ (n : Nat) (l : List Nat), l.Nodup → (∀ x ∈ l, x < n) → l.length ≤ n
  | 0, l, _, h => by
    cases l with
    | nil => exact Nat.le_refl _
    | cons a l => exact absurd (h a (List.mem_cons_self ..)) (by omega)
  | n + 1, l, hd, h => by
    by_cases hm : n ∈ l
    · have h1 := pig n (l.erase n) (hd.erase n) (fun x hx => by
        have h2 := (hd.mem_erase_iff).1 hx
        have := h x h2.2
        have := h2.1
        omega)
      rw [List.length_erase_of_mem hm] at h1
      omega
    · have := pig n l hd (fun x hx => by
        have := h x hx
        have : x ≠ n := fun e => hm (e ▸ hx)
        omega)
      omega
theorem BOK.len {cl : List Nat} {n : Nat} {T : List Nat} (h : BOK cl n T) (hcl : ∀ s, s < n → cl.getD s 0 < n) : T.length ≤ n := by
  have := pig n _ h.nd (fun x hx => by
    obtain ⟨s, hs, e⟩ := List.mem_map.1 hx
    rw [← e]; exact hcl s (h.lt s hs))
  simpa using this
theorem BOK.bou {xs : List Int} {bb n : Nat} {cl : List Nat} (hM : MC xs bb n) : ∀ i, (∀ q, q < i → q < (bou xs bb cl q).1.length) → BOK cl n (bou xs bb cl i).1
  | 0, _ => BOK.start cl hM.n1
  | i + 1, h => (BOK.bou hM i (fun q hq => h q (by omega))).bin hM (h i (by omega)) bb (Nat.le_refl _)
/-- The class's number where it stands among the states' classes. -/
theorem idx_nd {l : List Nat} (h : l.Nodup) {u c : Nat} (hu : u < l.length) (e : l.getD u 0 = c) : c ∈ l ∧ l.idxOf c = u := by
  have e1 : l[u]? = some c := by rw [List.getD_eq_getElem?_getD, List.getElem?_eq_getElem hu] at e; rw [List.getElem?_eq_getElem hu]; exact congrArg some e
  refine idx_at e1 fun v hv e2 => ?_
  have hvl : v < l.length := by omega
  rw [List.getElem?_eq_getElem hvl] at e2
  rw [List.getElem?_eq_getElem hu] at e1
  have := nodup_inj h hvl hu ((Option.some.inj e2).trans (Option.some.inj e1).symm)
  omega
/-- The reduced machine's lists. -/
def redI (xs : List Int) (bb n : Nat) (cl : List Nat) : Nat := bend xs bb cl (n + 1) 0
def redN (xs : List Int) (bb n : Nat) (cl : List Nat) : List Nat := (bou xs bb cl (redI xs bb n cl)).2
def redF (xs : List Int) (bb n : Nat) (cl : List Nat) (ys : List Bool) : List Bool := ((bou xs bb cl (redI xs bb n cl)).1.take (redI xs bb n cl)).map fun s => ys.getD s false
end Go.Proofs.YtoihjapbidbpdaaDoor
