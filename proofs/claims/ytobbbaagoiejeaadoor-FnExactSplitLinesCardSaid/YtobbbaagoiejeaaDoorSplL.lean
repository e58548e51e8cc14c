/- The contracts of SplitLines. Conditions: texts of at most 2^32 bytes; internal/bytealg.MaxLen holds some number. -/
import Derived.Test.YtobbbaagoiejeaaDoorSplS
import Derived.Test.YtobbbaagoiejeaaDoorShelf
namespace Go.Proofs.YtobbbaagoiejeaaDoor
open Go.RowKit
set_option linter.unusedVariables false
theorem OT.take {w : World} {B : Nat} {A : Option Addr} {xs : List ByteArray} (h : OT w B A xs) (k : Nat) : OT w B A (xs.take k) := by
  rcases h with h | ⟨g, off, cs, hA, hB, hc, hf⟩
  · exact .inl (by simp [h])
  · refine .inr ⟨g, off, cs, hA, hB, hc, fun j hj => ?_⟩
    rw [List.length_take] at hj
    rw [hf j (by omega), List.getD_eq_getElem?_getD, List.getD_eq_getElem?_getD, List.getElem?_take, if_pos (by omega)]
theorem OT.at0 {w : World} {B g : Nat} {xs : List ByteArray} (h : OT w B (some ⟨g, 0, none⟩) xs) {k : Nat} (hk : k < xs.length) : w.cell? ⟨g, k, none⟩ = some (.string (xs.getD k ByteArray.empty)) := by
  rcases h with h | ⟨g', off, cs, hA, hB, hc, hf⟩
  · rw [h] at hk; simp at hk
  · injection hA with hA
    injection hA with e1 e2
    subst e1 e2
    have := hf k hk
    rw [Nat.zero_add] at this
    rw [hc.cell]; exact this
theorem OT.new (w : World) (xs : List ByteArray) : OT (w.alloc (.cells (xs.map Value.string).toArray 9)) w.heap.size (some ⟨w.heap.size, 0, none⟩) xs :=
  .inr ⟨_, 0, _, rfl, Nat.le_refl _, heap_alloc_new w _, fun j hj => by
    rw [Nat.zero_add, List.getElem?_toArray, List.getElem?_map, List.getElem?_eq_getElem hj, List.getD_eq_getElem?_getD, List.getElem?_eq_getElem hj]; rfl⟩
set_option maxHeartbeats 2000000 in
theorem s_splitLines (s : ByteArray) (w : World) (hs : s.size ≤ 4294967296) :
    Calls Tryd.prog 22 #[.string s] w (RetLT w (lnsOf (pcs s))) := by
  obtain ⟨m, hm⟩ : ∃ m, (pcs s).length = m + 1 := ⟨(pcs s).length - 1, by have := pcs_length s; omega⟩
  have hm2 : m ≤ 4294967296 := by have := pcs_le s; omega
  have HM := Lib.hid hm
  go_enter Tryd.func22, Tryd.ntmps22
  go_wp2_with fail
  refine (s_splitAny s _ hs).mono ?_
  rintro e w1 ⟨g, c, rfl, hc, hO, hb⟩
  rw [hm] at hc
  rw [hm]
  have hcell := hO.at0 (k := m) (by omega)
  obtain ⟨z, hz⟩ : ∃ z, (pcs s).getD m ByteArray.empty = z := ⟨_, rfl⟩
  rw [hz] at hcell
  have HZ := Lib.hid hz
  have HO := Lib.hid hO
  have HB := Lib.hid hb
  have m0 : (0 : Int) ≤ (m : Int) := by omega
  have m1 : (m : Int) < (m : Int) + 1 := by omega
  clear hz hO hb hm
  cases hE : z.toList.isEmpty with
  | true =>
    go_wp2
    go_ret
    rw [lns_t HM.out (by rw [HZ.out]; exact hE)]
    exact ⟨some ⟨g, 0, none⟩, c, by rw [List.length_take, HM.out, Nat.min_eq_left (by omega)]; rfl, HO.out.take m, HB.out⟩
  | false =>
    go_wp2
    go_ret
    rw [lns_f HM.out (by rw [HZ.out]; exact hE)]
    exact ⟨some ⟨g, 0, none⟩, c, by rw [HM.out]; rfl, HO.out, HB.out⟩
theorem clip_any (g n c : Nat) (w : World) (hn : n ≤ c) (hc : c ≤ 4294967297) :
    Calls Tryd.prog 40 #[.slice (some ⟨g, 0, none⟩) n c] w fun e w' => e = .returned (.slice (some ⟨g, 0, none⟩) n n) ∧ w = w' := by
  have h1 : (n : Int) ≤ (c : Int) := by omega
  have h2 : (c : Int) ≤ 4294967297 := by omega
  go_enter Tryd.func40, Tryd.ntmps40
  go_wp2
  go_ret
  exact ⟨rfl, rfl⟩
set_option maxHeartbeats 2000000 in
theorem i_splitLines (s : ByteArray) (mx : Int) (w : World) (hs : s.size ≤ 4294967280) (hx : w.cell? ⟨2, 0, none⟩ = some (.int .i64 mx)) :
    Calls Tryd.prog 23 #[.string s] w (RetLT w (lnsOf (pcs s))) := by
  obtain ⟨m, hm⟩ : ∃ m, (pcs s).length = m + 1 := ⟨(pcs s).length - 1, by have := pcs_length s; omega⟩
  have hm2 : m ≤ 4294967296 := by have := pcs_le s; omega
  have HM := Lib.hid hm
  have HS := Lib.hid (Tryd.strings_Split s nl mx w (by omega) hx (by decide))
  rw [splitB_nl _ s rfl, ← pcs_length, hm] at HS
  have hm3 : m + 1 ≤ 4294967297 := by omega
  clear hx
  go_enter Tryd.func23, Tryd.ntmps23
  go_wp2_with fail
  refine HS.out.mono ?_
  rintro e w1 ⟨rfl, rfl⟩
  have hO := OT.new w (pcs s)
  have hcell := hO.at0 (k := m) (by omega)
  obtain ⟨z, hz⟩ : ∃ z, (pcs s).getD m ByteArray.empty = z := ⟨_, rfl⟩
  rw [hz] at hcell
  have HZ := Lib.hid hz
  have HO := Lib.hid hO
  have m0 : (0 : Int) ≤ (m : Int) := by omega
  have m1 : (m : Int) < (m : Int) + 1 := by omega
  clear hz hO hm
  cases hE : z.toList.isEmpty with
  | true =>
    go_wp2_with fail
    refine (clip_any _ m (m + 1) _ (by omega) hm3).mono ?_
    rintro e w2 ⟨rfl, rfl⟩
    go_wp2
    go_ret
    rw [lns_t HM.out (by rw [HZ.out]; exact hE)]
    exact ⟨some ⟨w.heap.size, 0, none⟩, m, by rw [List.length_take, HM.out, Nat.min_eq_left (by omega)]; rfl, HO.out.take m, b_alloc (Below.refl _ _) _⟩
  | false =>
    go_wp2_with fail
    refine (clip_any _ (m + 1) (m + 1) _ (by omega) hm3).mono ?_
    rintro e w2 ⟨rfl, rfl⟩
    go_wp2
    go_ret
    rw [lns_f HM.out (by rw [HZ.out]; exact hE)]
    exact ⟨some ⟨w.heap.size, 0, none⟩, m + 1, by rw [HM.out]; rfl, HO.out, b_alloc (Below.refl _ _) _⟩
end Go.Proofs.YtobbbaagoiejeaaDoor
