/- The lines of a text: the split by one byte, as a plain function of lists; strings.Split's own words are it. Conditions: none. -/
import Derived.Lib.SplitLaws
import Derived.Lib.IndexBytes
import Derived.Lib.Hide
namespace Go.Proofs.YtobbbaagoiejeaaDoor
open Go.Lib
set_option linter.unusedVariables false
def ba (l : List UInt8) : ByteArray := ⟨l.toArray⟩
def spA : List UInt8 → List UInt8 → List (List UInt8)
  | acc, [] => [acc]
  | acc, c :: l => if c = 10 then acc :: spA [] l else spA (acc ++ [c]) l
/-- The pieces of a text between the bytes 10. -/
def pcs (s : ByteArray) : List ByteArray := (spA [] s.data.toList).map ba
theorem ba_data (s : ByteArray) : ba s.data.toList = s := by cases s; rfl
theorem ba_of {s : ByteArray} {l : List UInt8} (h : s.data.toList = l) : s = ba l := by rw [← h, ba_data]
/-- What has been cut off when the first i bytes have been read. -/
def Cutp (s : ByteArray) (fr i : Nat) (L : List ByteArray) : Prop :=
  fr ≤ i ∧ i ≤ s.size ∧ L.length ≤ i ∧ pcs s = L ++ (spA ((s.data.toList.drop fr).take (i - fr)) (s.data.toList.drop i)).map ba
theorem Cutp.start (s : ByteArray) : Cutp s 0 0 [] := ⟨Nat.le_refl _, Nat.zero_le _, Nat.le_refl _, by simp [pcs]⟩
theorem len_eq (s : ByteArray) : s.data.toList.length = s.size := rfl
theorem drop_at (s : ByteArray) (i : Nat) (hi : i < s.size) : s.data.toList.drop i = s[i] :: s.data.toList.drop (i + 1) := by
  rw [List.drop_eq_getElem_cons (by exact hi)]; rfl
theorem Cutp.hit {s : ByteArray} {fr i : Nat} {L : List ByteArray} (h : Cutp s fr i L) (hi : i < s.size) (hc : s[i] = 10) : Cutp s (i + 1) (i + 1) (L ++ [s.extract fr i]) := by
  obtain ⟨h1, h2, h3, h4⟩ := h
  refine ⟨Nat.le_refl _, hi, by simp; omega, ?_⟩
  rw [h4, drop_at s i hi, spA, if_pos hc]
  have e : s.extract fr i = ba ((s.data.toList.drop fr).take (i - fr)) := ba_of (extract_data s fr i)
  simp [e]
theorem Cutp.miss {s : ByteArray} {fr i : Nat} {L : List ByteArray} (h : Cutp s fr i L) (hi : i < s.size) (hc : s[i] ≠ 10) : Cutp s fr (i + 1) L := by
  obtain ⟨h1, h2, h3, h4⟩ := h
  refine ⟨by omega, hi, by omega, ?_⟩
  rw [h4, drop_at s i hi, spA, if_neg hc]
  congr 3
  rw [show i + 1 - fr = (i - fr) + 1 by omega, List.take_add_one, List.getElem?_drop, show fr + (i - fr) = i by omega]
  have : s.data.toList[i]? = some s[i] := List.getElem?_eq_getElem (l := s.data.toList) (by exact hi)
  rw [this]; rfl
theorem Cutp.fin {s : ByteArray} {fr : Nat} {L : List ByteArray} (h : Cutp s fr s.size L) : pcs s = L ++ [s.extract fr s.size] := by
  obtain ⟨h1, h2, h3, h4⟩ := h
  have hd : s.data.toList.drop s.size = [] := List.drop_eq_nil_of_le (by rw [len_eq]; omega)
  rw [h4, hd]
  have e : s.extract fr s.size = ba ((s.data.toList.drop fr).take (s.size - fr)) := ba_of (extract_data s fr s.size)
  rw [e]; rfl
/-! strings.Split at one byte. -/
theorem spA_no (acc l : List UInt8) (h : ∀ x ∈ l, x ≠ 10) : spA acc l = [acc ++ l] := by
  induction l generalizing acc with
  | nil => simp [spA]
  | cons c l ih => rw [spA, if_neg (h c (List.mem_cons_self ..)), ih _ (fun x hx => h x (List.mem_cons_of_mem _ hx))]; simp
theorem spA_at (acc l : List UInt8) (r : List UInt8) (h : ∀ x ∈ l, x ≠ 10) : spA acc (l ++ 10 :: r) = (acc ++ l) :: spA [] r := by
  induction l generalizing acc with
  | nil => simp [spA]
  | cons c l ih => rw [List.cons_append, spA, if_neg (h c (List.mem_cons_self ..)), ih _ (fun x hx => h x (List.mem_cons_of_mem _ hx))]; simp
theorem indexByte_miss (l : List UInt8) (h : indexByte l 10 = -1) : ∀ x ∈ l, x ≠ 10 := by
  induction l with
  | nil => simp
  | cons c l ih =>
    unfold indexByte at h
    by_cases hc : (c == 10) = true
    · rw [if_pos hc] at h; omega
    · rw [if_neg hc] at h
      by_cases hm : (indexByte l 10 == -1) = true
      · intro x hx
        rcases List.mem_cons.1 hx with rfl | hx
        · simpa using hc
        · exact ih (by simpa using hm) x hx
      · rw [if_neg hm] at h
        have := indexByte_ge l 10
        omega
theorem indexByte_hit (l : List UInt8) (i : Nat) (h : indexByte l 10 = i) : ∃ a r, l = a ++ 10 :: r ∧ a.length = i ∧ ∀ x ∈ a, x ≠ 10 := by
  induction l generalizing i with
  | nil => unfold indexByte at h; omega
  | cons c l ih =>
    unfold indexByte at h
    by_cases hc : (c == 10) = true
    · rw [if_pos hc] at h
      have : c = 10 := by simpa using hc
      exact ⟨[], l, by simp [this], by simp; omega, by simp⟩
    · rw [if_neg hc] at h
      by_cases hm : (indexByte l 10 == -1) = true
      · rw [if_pos hm] at h; omega
      · rw [if_neg hm] at h
        have g := indexByte_ge l 10
        have hm' : indexByte l 10 ≠ -1 := by simpa using hm
        obtain ⟨a, r, e, hl, ha⟩ := ih (i - 1) (by omega)
        refine ⟨c :: a, r, by rw [e]; rfl, by simp; omega, fun x hx => ?_⟩
        rcases List.mem_cons.1 hx with rfl | hx
        · simpa using hc
        · exact ha x hx
def nl : ByteArray := ⟨#[10]⟩
theorem index_nl (s : ByteArray) : indexB s nl = indexByte s.data.toList 10 := Lib.one s nl rfl
theorem splitB_nl : ∀ (k : Nat) (s : ByteArray), countB s nl = k → splitB nl 0 k s = pcs s
  | 0, s, h => by
    by_cases hm : indexB s nl = -1
    · rw [index_nl] at hm
      unfold pcs
      rw [spA_no _ _ (indexByte_miss _ hm)]
      simp [splitB, ba_data]
    · rcases indexB_cases s nl with h1 | ⟨i, h1, h2⟩
      · exact absurd h1 hm
      · rw [countB_hit s nl i (by decide) h1] at h; omega
  | k + 1, s, h => by
    rcases indexB_cases s nl with h1 | ⟨i, h1, h2⟩
    · rw [countB_miss s nl h1] at h; omega
    · rw [splitB_hit nl 0 k s i h1]
      rw [countB_hit s nl i (by decide) h1] at h
      rw [splitB_nl k _ (by omega)]
      rw [index_nl] at h1
      obtain ⟨a, r, e, hl, ha⟩ := indexByte_hit _ i h1
      unfold pcs
      rw [e, spA_at _ _ _ ha]
      have e1 : s.extract 0 (i + 0) = ba a := ba_of (by rw [extract_data, e]; simp [← hl])
      have e2 : (s.extract (i + nl.size) s.size).data.toList = r := by
        rw [extract_data, e, show i + nl.size = a.length + 1 by rw [hl]; rfl]
        have : s.size = a.length + 1 + r.length := by rw [← len_eq, e]; simp; omega
        rw [this, List.take_of_length_le (by simp)]
        simp
      rw [e1, e2]
      rfl
theorem pcs_ne (s : ByteArray) : pcs s ≠ [] := by
  intro h
  have := splitB_all nl (by decide) 0 _ s rfl
  rw [splitB_nl _ s rfl, h] at this
  simp at this
theorem pcs_length (s : ByteArray) : (pcs s).length = countB s nl + 1 := by rw [← splitB_nl _ s rfl]; exact splitB_all nl (by decide) 0 _ s rfl
theorem pcs_le (s : ByteArray) : (pcs s).length ≤ s.size + 1 := by rw [pcs_length]; have := countB_le nl (by decide) _ s (Nat.le_refl _); omega
/-- The lines: the pieces without an empty last one. -/
def lnsOf (l : List ByteArray) : List ByteArray := if (l.getD (l.length - 1) ByteArray.empty).toList.isEmpty = true then l.take (l.length - 1) else l
theorem lns_t {l : List ByteArray} {m : Nat} (hl : l.length = m + 1) (h : (l.getD m ByteArray.empty).toList.isEmpty = true) : lnsOf l = l.take m := by
  unfold lnsOf; rw [hl, show m + 1 - 1 = m by omega, if_pos h]
theorem lns_f {l : List ByteArray} {m : Nat} (hl : l.length = m + 1) (h : (l.getD m ByteArray.empty).toList.isEmpty = false) : lnsOf l = l := by
  unfold lnsOf; rw [hl, show m + 1 - 1 = m by omega, if_neg (by rw [h]; decide)]
theorem lns_le (s : ByteArray) : (lnsOf (pcs s)).length ≤ s.size + 1 := by
  have := pcs_le s
  unfold lnsOf
  split
  · rw [List.length_take]; omega
  · exact this
end Go.Proofs.YtobbbaagoiejeaaDoor
