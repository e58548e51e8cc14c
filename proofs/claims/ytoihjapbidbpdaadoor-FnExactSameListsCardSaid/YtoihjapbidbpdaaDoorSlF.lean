/- The search of the reference SameLists, as plain functions of lists. Conditions: none. -/
import Derived.Test.YtoihjapbidbpdaaDoorSlM
namespace Go.Proofs.YtoihjapbidbpdaaDoor
set_option linter.unusedVariables false
/-- The pair's number. -/
def cod (xa xc : List Int) (bb nc s u d : Nat) : Nat := nxt xa bb s d * nc + nxt xc bb u d
def sst (xa xc : List Int) (bb nc s u d : Nat) (L : List Nat) : List Nat := if cod xa xc bb nc s u d ∈ L then L else L ++ [cod xa xc bb nc s u d]
def sin (xa xc : List Int) (bb nc s u : Nat) (L : List Nat) : Nat → List Nat
  | 0 => L
  | d + 1 => sst xa xc bb nc s u d (sin xa xc bb nc s u L d)
def sou (xa xc : List Int) (bb nc : Nat) : Nat → List Nat
  | 0 => [0]
  | i + 1 => sin xa xc bb nc ((sou xa xc bb nc i).getD i 0 / nc) ((sou xa xc bb nc i).getD i 0 % nc) (sou xa xc bb nc i) bb
structure LOK (xa xc : List Int) (bb na nc : Nat) (L : List Nat) : Prop where
  nd : L.Nodup
  rch : ∀ x ∈ L, Rch xa xc bb (x / nc) (x % nc)
  zero : 0 ∈ L
section
variable {xa xc : List Int} {bb na nc : Nat}
theorem LOK.lt (hA : MC xa bb na) (hC : MC xc bb nc) {L : List Nat} (h : LOK xa xc bb na nc L) : ∀ x ∈ L, x < na * nc := fun x hx => (Nat.div_lt_iff_lt_mul (by have := hC.n1; omega)).1 ((h.rch x hx).lt hA hC).1
theorem LOK.len (hA : MC xa bb na) (hC : MC xc bb nc) {L : List Nat} (h : LOK xa xc bb na nc L) : L.length ≤ na * nc := pig _ _ h.nd (h.lt hA hC)
theorem LOK.start (hC : MC xc bb nc) : LOK xa xc bb na nc [0] := ⟨by simp, fun x hx => by
  obtain rfl : x = 0 := by simpa using hx
  rw [Nat.zero_div, Nat.zero_mod]; exact .start, by simp⟩
theorem cod_parts {s u d : Nat} (h : nxt xc bb u d < nc) : cod xa xc bb nc s u d / nc = nxt xa bb s d ∧ cod xa xc bb nc s u d % nc = nxt xc bb u d := by
  unfold cod
  rw [Nat.mul_comm]
  exact ⟨by rw [Nat.mul_add_div (by omega), Nat.div_eq_of_lt h, Nat.add_zero], by rw [Nat.mul_add_mod, Nat.mod_eq_of_lt h]⟩
theorem LOK.sst (hA : MC xa bb na) (hC : MC xc bb nc) {L : List Nat} {s u d : Nat} (h : LOK xa xc bb na nc L) (hr : Rch xa xc bb s u) (hd : d < bb) : LOK xa xc bb na nc (sst xa xc bb nc s u d L) := by
  unfold Go.Proofs.YtoihjapbidbpdaaDoor.sst
  by_cases hm : cod xa xc bb nc s u d ∈ L
  · rw [if_pos hm]; exact h
  · rw [if_neg hm]
    obtain ⟨e1, e2⟩ := cod_parts (xa := xa) (s := s) (hC.at_ (hr.lt hA hC).2 hd).2
    refine ⟨List.nodup_append.2 ⟨h.nd, by simp, by intro a ha b hb; simp at hb; subst hb; intro e; subst e; exact hm ha⟩, fun x hx => ?_, List.mem_append_left _ h.zero⟩
    rcases List.mem_append.1 hx with g | g
    · exact h.rch x g
    · obtain rfl : x = cod xa xc bb nc s u d := by simpa using g
      rw [e1, e2]; exact .step hr hd
theorem LOK.sin (hA : MC xa bb na) (hC : MC xc bb nc) {L : List Nat} {s u : Nat} (h : LOK xa xc bb na nc L) (hr : Rch xa xc bb s u) : ∀ d, d ≤ bb → LOK xa xc bb na nc (sin xa xc bb nc s u L d)
  | 0, _ => h
  | d + 1, hd => (LOK.sin hA hC h hr d (by omega)).sst hA hC hr (by omega)
theorem sst_pre {s u d : Nat} {L : List Nat} : ∃ M, sst xa xc bb nc s u d L = L ++ M := by
  unfold sst
  by_cases hm : cod xa xc bb nc s u d ∈ L
  · rw [if_pos hm]; exact ⟨[], by simp⟩
  · rw [if_neg hm]; exact ⟨_, rfl⟩
theorem sst_mem {s u d : Nat} {L : List Nat} : cod xa xc bb nc s u d ∈ sst xa xc bb nc s u d L := by
  unfold sst
  by_cases hm : cod xa xc bb nc s u d ∈ L
  · rw [if_pos hm]; exact hm
  · rw [if_neg hm]; simp
theorem sin_pre {s u : Nat} {L : List Nat} : ∀ d, ∃ M, sin xa xc bb nc s u L d = L ++ M
  | 0 => ⟨[], by simp [sin]⟩
  | d + 1 => by
    obtain ⟨M, e⟩ := sin_pre d
    obtain ⟨M2, e2⟩ := sst_pre (xa := xa) (xc := xc) (bb := bb) (nc := nc) (s := s) (u := u) (d := d) (L := sin xa xc bb nc s u L d)
    exact ⟨M ++ M2, by rw [sin, e2, e, List.append_assoc]⟩
theorem sin_mem {s u t : Nat} {L : List Nat} : ∀ d, t < d → cod xa xc bb nc s u t ∈ sin xa xc bb nc s u L d
  | 0, h => by omega
  | d + 1, h => by
    rw [sin]
    by_cases e : t = d
    · subst e; exact sst_mem
    · obtain ⟨M2, e2⟩ := sst_pre (xa := xa) (xc := xc) (bb := bb) (nc := nc) (s := s) (u := u) (d := d) (L := sin xa xc bb nc s u L d)
      rw [e2]; exact List.mem_append_left _ (sin_mem d (by omega))
theorem sou_pre {i : Nat} : ∀ k, ∃ M, sou xa xc bb nc (i + k) = sou xa xc bb nc i ++ M
  | 0 => ⟨[], by simp⟩
  | k + 1 => by
    obtain ⟨M, e⟩ := sou_pre k
    obtain ⟨M2, e2⟩ := sin_pre (xa := xa) (xc := xc) (bb := bb) (nc := nc) (s := (sou xa xc bb nc (i + k)).getD (i + k) 0 / nc) (u := (sou xa xc bb nc (i + k)).getD (i + k) 0 % nc) (L := sou xa xc bb nc (i + k)) bb
    exact ⟨M ++ M2, by rw [← Nat.add_assoc, sou, e2, e, List.append_assoc]⟩
theorem getD_left {l m : List Nat} {q : Nat} (h : q < l.length) : (l ++ m).getD q 0 = l.getD q 0 := by
  rw [List.getD_eq_getElem?_getD, List.getElem?_append_left h, ← List.getD_eq_getElem?_getD]
theorem mem_at {l : List Nat} {q : Nat} (h : q < l.length) : l.getD q 0 ∈ l := by
  rw [List.getD_eq_getElem?_getD, List.getElem?_eq_getElem h]; exact List.getElem_mem _
theorem at_mem {l : List Nat} {x : Nat} (h : x ∈ l) : ∃ q, q < l.length ∧ l.getD q 0 = x := by
  obtain ⟨q, hq, e⟩ := List.getElem_of_mem h
  exact ⟨q, hq, by rw [List.getD_eq_getElem?_getD, List.getElem?_eq_getElem hq]; exact e⟩
/-- What has been seen to agree when i pairs have been gone through. -/
def SO (xa xc : List Int) (ya yc : List Bool) (bb nc i : Nat) : Prop := ∀ q, q < i → q < (sou xa xc bb nc q).length ∧ ya.getD ((sou xa xc bb nc q).getD q 0 / nc) false = yc.getD ((sou xa xc bb nc q).getD q 0 % nc) false
theorem SO.ok (hA : MC xa bb na) (hC : MC xc bb nc) {ya yc : List Bool} : ∀ i, SO xa xc ya yc bb nc i → LOK xa xc bb na nc (sou xa xc bb nc i)
  | 0, _ => LOK.start hC
  | i + 1, h => by
    have h0 := SO.ok hA hC i (fun q hq => h q (by omega))
    rw [sou]
    exact h0.sin hA hC (h0.rch _ (mem_at (h i (by omega)).1)) bb (Nat.le_refl _)
theorem SO.le (hA : MC xa bb na) (hC : MC xc bb nc) {ya yc : List Bool} {i : Nat} (h : SO xa xc ya yc bb nc i) : i ≤ (sou xa xc bb nc i).length := by
  cases i with
  | zero => exact Nat.zero_le _
  | succ i =>
    obtain ⟨M, e⟩ := sou_pre (xa := xa) (xc := xc) (bb := bb) (nc := nc) (i := i) 1
    rw [e, List.length_append]
    have := (h i (by omega)).1
    omega
theorem SO.all (hA : MC xa bb na) (hC : MC xc bb nc) {ya yc : List Bool} {i : Nat} (h : SO xa xc ya yc bb nc i) (hs : ¬ i < (sou xa xc bb nc i).length) : ∀ s u, Rch xa xc bb s u → ya.getD s false = yc.getD u false := by
  have hnc := hC.n1
  have back : ∀ s u, Rch xa xc bb s u → s * nc + u ∈ sou xa xc bb nc i → ∃ q, q < i ∧ (sou xa xc bb nc q).getD q 0 / nc = s ∧ (sou xa xc bb nc q).getD q 0 % nc = u := by
    intro s u hr hm
    obtain ⟨q, hq, e⟩ := at_mem hm
    have hqi : q < i := by omega
    obtain ⟨M, em⟩ := sou_pre (xa := xa) (xc := xc) (bb := bb) (nc := nc) (i := q) (i - q)
    rw [show q + (i - q) = i by omega] at em
    rw [em, getD_left (h q hqi).1] at e
    have hu := (hr.lt hA hC).2
    refine ⟨q, hqi, ?_, ?_⟩ <;> rw [e]
    · rw [Nat.mul_comm, Nat.mul_add_div (by omega), Nat.div_eq_of_lt hu, Nat.add_zero]
    · rw [Nat.mul_comm, Nat.mul_add_mod, Nat.mod_eq_of_lt hu]
  have all : ∀ s u, Rch xa xc bb s u → s * nc + u ∈ sou xa xc bb nc i := by
    intro s u hr
    induction hr with
    | start => rw [Nat.zero_mul]; exact (SO.ok hA hC i h).zero
    | @step s u d hr hd ih =>
      obtain ⟨q, hq, e1, e2⟩ := back s u hr ih
      have hm : cod xa xc bb nc s u d ∈ sou xa xc bb nc (q + 1) := by rw [sou, e1, e2]; exact sin_mem bb hd
      obtain ⟨M, em⟩ := sou_pre (xa := xa) (xc := xc) (bb := bb) (nc := nc) (i := q + 1) (i - (q + 1))
      rw [show q + 1 + (i - (q + 1)) = i by omega] at em
      rw [em]
      exact List.mem_append_left _ hm
  intro s u hr
  obtain ⟨q, hq, e1, e2⟩ := back s u hr (all s u hr)
  have := (h q hq).2
  rw [e1, e2] at this
  exact this
end
/-- The answer. -/
noncomputable def slQ (bb : Nat) (xa xc : List Int) (ya yc : List Bool) : Bool := @decide (∀ s u, Rch xa xc bb s u → ya.getD s false = yc.getD u false) (Classical.propDecidable _)
theorem slQ_t {bb : Nat} {xa xc : List Int} {ya yc : List Bool} (h : ∀ s u, Rch xa xc bb s u → ya.getD s false = yc.getD u false) : slQ bb xa xc ya yc = true := @decide_eq_true _ (Classical.propDecidable _) h
theorem slQ_f {bb : Nat} {xa xc : List Int} {ya yc : List Bool} {s u : Nat} (hr : Rch xa xc bb s u) (h : ya.getD s false ≠ yc.getD u false) : slQ bb xa xc ya yc = false := @decide_eq_false _ (Classical.propDecidable _) fun g => h (g s u hr)
theorem slQ_red {bb : Nat} {xa xc : List Int} {ya yc : List Bool} (hA : MC xa bb ya.length) (hC : MC xc bb yc.length) (q : Bool) (hq : q = true ↔ (redN xa bb ya.length (clF xa bb ya) = redN xc bb yc.length (clF xc bb yc) ∧ redF xa bb ya.length (clF xa bb ya) ya = redF xc bb yc.length (clF xc bb yc) yc)) : q = slQ bb xa xc ya yc := by
  have h := (hq.trans (same_iff hA hC))
  cases q with
  | true => exact (slQ_t (h.1 rfl)).symm
  | false => exact (@decide_eq_false _ (Classical.propDecidable _) (fun g => absurd (h.2 g) (by decide))).symm
/-- What the marks say. -/
def Seen (cs : Array Value) (m : Nat) (L : List Nat) : Prop := cs.size = m ∧ ∀ x, x < m → cs[x]? = some (.bool (decide (x ∈ L)))
theorem Seen.put {cs : Array Value} {m : Nat} {L : List Nat} {y : Nat} (h : Seen cs m L) (hy : y < m) : Seen (cs.setIfInBounds y (.bool true)) m (L ++ [y]) := by
  refine ⟨by simp [h.1], fun x hx => ?_⟩
  rw [Array.getElem?_setIfInBounds]
  by_cases e : y = x
  · subst e
    rw [if_pos rfl, if_pos (by rw [h.1]; exact hx)]
    simp
  · rw [if_neg e, h.2 x hx]
    have : (x ∈ L ++ [y]) ↔ x ∈ L := by simp; exact fun g => absurd g.symm e
    simp [this]
end Go.Proofs.YtoihjapbidbpdaaDoor
