/- Contracts of laws.toIntS, eqIntS, markIntS, heldIntS over slices of integers. Conditions: lengths of at most 2^32. -/
import Derived.Test.YtoihjapbidbpdaaDoorBase
import Derived.Test.YtoihjapbidbpdaaDoorRows
import Derived.Deep.OwnRows
namespace Go.Proofs.YtoihjapbidbpdaaDoor
open Go.RowKit
set_option linter.unusedVariables false

theorem info_int : (Tryd.prog.info? 3).map (fun i => (i.zero, i.size, i.bytes)) = some (some (.int .i64 0), 1, 8) := by kernel_rfl

/-- Block g is the cells cs, of element type int, none frozen. -/
def BI (w : World) (g : Nat) (cs : Array Value) : Prop := w.heap[g]? = some (.cells cs 3 (0, 0))

section
variable {w w' : World} {g : Nat} {cs : Array Value}
theorem BI.lt (h : BI w g cs) : g < w.heap.size := (Array.getElem?_eq_some_iff.1 h).1
theorem BI.cell (h : BI w g cs) (i : Nat) : w.cell? ⟨g, i, none⟩ = cs[i]? := cell_of_row w g i cs 3 (0, 0) h
theorem BI.frozen (h : BI w g cs) (i : Nat) : w.frozen? ⟨g, i, none⟩ = false := by
  unfold BI at h
  simp [World.frozen?, h]
theorem BI.ex (h : BI w g cs) {i : Nat} (hi : i < cs.size) : ∃ v, w.cell? ⟨g, i, none⟩ = some v := ⟨cs[i], by rw [h.cell]; simp [hi]⟩
theorem BI.new (w : World) (cs : Array Value) : BI (w.alloc (.cells cs 3)) w.heap.size cs := heap_alloc_new w _
theorem BI.set_ (h : BI w g cs) (i : Nat) (u : Value) : BI (w.setCell ⟨g, i, none⟩ u) g (cs.setIfInBounds i u) := by
  unfold BI at h ⊢
  simp [World.setCell, Array.getElem?_modify, h]
theorem BI.below {B : Nat} (h : BI w g cs) (hb : Below B w w') (hg : g < B) : BI w' g cs := (hb.block g hg).trans h
end

/-- The first k cells of cs, from off on, are the numbers xs. -/
def Fill (cs : Array Value) (off k : Nat) (xs : List Int) : Prop := ∀ j, j < k → cs[off + j]? = some (.int .i64 (xs.getD j 0))

theorem Fill.step {cs : Array Value} {off k : Nat} {xs : List Int} (h : Fill cs off k xs) (hk : off + k < cs.size) {v : Value} (hv : v = .int .i64 (xs.getD k 0)) : Fill (cs.setIfInBounds (off + k) v) off (k + 1) xs := by
  intro j hj
  rw [Array.getElem?_setIfInBounds]
  by_cases e : off + k = off + j
  · have : k = j := by omega
    subst this
    simp [hk, hv]
  · rw [if_neg e]; exact h j (by omega)

/-- The slice value at A owns its cells: a block from B on. -/
def OI (w : World) (B : Nat) (A : Option Addr) (xs : List Int) : Prop :=
  xs = [] ∨ ∃ g off cs, A = some ⟨g, off, none⟩ ∧ B ≤ g ∧ BI w g cs ∧ Fill cs off xs.length xs

theorem OI.reads {w : World} {B : Nat} {A : Option Addr} {xs : List Int} (h : OI w B A xs) : RI w w.heap.size A xs := by
  rcases h with h | ⟨g, off, cs, hA, hB, hb, hf⟩
  · exact .inl h
  · exact .inr ⟨g, off, hA, hb.lt, fun j hj => by rw [hb.cell]; exact hf j hj⟩
theorem RI.of_fill {w : World} {g : Nat} {cs : Array Value} {xs : List Int} (hB : BI w g cs) (hF : Fill cs 0 xs.length xs) : RI w w.heap.size (some ⟨g, 0, none⟩) xs :=
  .inr ⟨g, 0, rfl, hB.lt, fun j hj => by rw [hB.cell]; exact hF j hj⟩
theorem OI.keep {w w' : World} {B : Nat} {A : Option Addr} {xs : List Int} (h : OI w B A xs) (hb : Below w.heap.size w w') : OI w' B A xs := by
  rcases h with h | ⟨g, off, cs, hA, hB, hc, hf⟩
  · exact .inl h
  · exact .inr ⟨g, off, cs, hA, hB, hc.below hb hc.lt, hf⟩
/-- All blocks but A's read as before. -/
def Oth (w w' : World) (A : Option Addr) : Prop := w'.os = w.os ∧ w'.tape = w.tape ∧ w'.output = w.output ∧ w.heap.size ≤ w'.heap.size ∧ ∀ k, k < w.heap.size → (∀ a, A = some a → k ≠ a.block) → w'.heap[k]? = w.heap[k]?

theorem OI.other {w w' : World} {B : Nat} {A A' : Option Addr} {xs : List Int} (h : OI w B A xs) (hA : ∀ a, A' = some a → a.block < B) (ho : Oth w w' A') : OI w' B A xs := by
  rcases h with h | ⟨g, off, cs, hA', hB, hc, hf⟩
  · exact .inl h
  · exact .inr ⟨g, off, cs, hA', hB, (ho.2.2.2.2 g hc.lt (fun a ha => by have := hA a ha; omega)).trans hc, hf⟩

set_option maxHeartbeats 400000 in
theorem toIntS_raw (A : Option Addr) (xs : List Int) (c : Nat) (w : World) (hR : RI w w.heap.size A xs) (hl : xs.length ≤ 4294967296) :
    Calls Tryd.prog 17 #[.slice A xs.length c] w fun e w' => e = .returned (.slice (some ⟨w.heap.size, 0, none⟩) xs.length xs.length) ∧
      (∃ cs, BI w' w.heap.size cs ∧ cs.size = xs.length ∧ Fill cs 0 xs.length xs) ∧ Below w.heap.size w w' := by
  have hmk := run_make_row' (P := Tryd.prog) 22 3 (.int .i64 0) 8 Tryd.underlying22 info_int rfl .i64 .i64 xs.length (by omega) (by omega)
  go_enter Tryd.func17, Tryd.ntmps17
  go_wp2
  go_loopw [4] (fun i wr => ∃ k : Nat, k ≤ xs.length ∧ i = .int .i64 k ∧ (∃ cs, BI wr w.heap.size cs ∧ cs.size = xs.length ∧ Fill cs 0 k xs) ∧ Below w.heap.size w wr) (fun i _ => xs.length - (intOf i).toNat)
  case atStart => exact ⟨0, Nat.zero_le _, rfl, ⟨_, BI.new _ _, by simp [madeCells], fun j hj => by omega⟩, b_alloc (Below.refl _ _) _⟩
  case round =>
    obtain ⟨k, hk, rfl, ⟨cs, hB, hsz, hF⟩, hW⟩ := hrel
    by_cases hlt : k < xs.length
    · obtain ⟨b, off, hA, hb, hc⟩ := (hR.below hW).at_ hlt
      subst hA
      obtain ⟨v0, hcB⟩ := hB.ex (i := k) (by omega)
      clear hR
      have hfB := hB.frozen k
      have HB := Lib.hid hB
      have HF := Lib.hid hF
      have HW := Lib.hid hW
      have HS := Lib.hid hsz
      clear hB hF hW hsz
      go_wp2
      go_roundw
      case rel => exact ⟨k + 1, by omega, by go_num, ⟨_, HB.out.set_ k _, by simp [HS.out], by simpa using HF.out.step (v := .int .i64 xs[k]) (by have := HS.out; omega) (by simp [hlt])⟩, b_set HW.out (Nat.le_refl _) _⟩
      case measure => simp [intOf]; omega
    · obtain rfl : k = xs.length := by omega
      go_wp2
      go_ret
      exact ⟨rfl, ⟨cs, hB, hsz, hF⟩, hW⟩

/-- A copy in a new block. -/
theorem toIntS_any (A : Option Addr) (xs : List Int) (c : Nat) (w : World) (hR : RI w w.heap.size A xs) (hl : xs.length ≤ 4294967296) :
    Calls Tryd.prog 17 #[.slice A xs.length c] w fun e w' => e = .returned (.slice (some ⟨w.heap.size, 0, none⟩) xs.length xs.length) ∧ OI w' w.heap.size (some ⟨w.heap.size, 0, none⟩) xs ∧ w.heap.size < w'.heap.size ∧ Below w.heap.size w w' :=
  (toIntS_raw A xs c w hR hl).mono fun e w' ⟨he, ⟨cs, hB, hs, hF⟩, hb⟩ => ⟨he, .inr ⟨_, 0, cs, rfl, Nat.le_refl _, hB, hF⟩, hB.lt, hb⟩

/-- 'true' where the lists are one. -/
theorem eqIntS_raw (A C : Option Addr) (xs : List Int) (c d : Nat) (w : World) (hR : RI w w.heap.size A xs) (hS : RI w w.heap.size C xs) (hl : xs.length ≤ 4294967296) :
    Calls Tryd.prog 21 #[.slice A xs.length c, .slice C xs.length d] w fun e w' => e = .returned (.bool true) ∧ ∃ n, w' = w.drewN n := by
  go_enter Tryd.func21, Tryd.ntmps21
  go_wp2
  go_loopw [5] (fun i wr => ∃ k : Nat, k ≤ xs.length ∧ i = .int .i64 k ∧ ∃ n, wr = w.drewN n) (fun i _ => xs.length - (intOf i).toNat)
  case atStart => exact ⟨0, Nat.zero_le _, rfl, 0, rfl⟩
  case round =>
    obtain ⟨k, hk, rfl, n, rfl⟩ := hrel
    by_cases hlt : k < xs.length
    · obtain ⟨b, off, hA, hb, hc⟩ := hR.at_ hlt
      obtain ⟨b2, off2, hA2, hb2, hc2⟩ := hS.at_ hlt
      subst hA hA2
      clear hR hS
      go_wp2
      go_quiet (fail)
      go_wp2
      go_roundw
      case rel => exact ⟨k + 1, by omega, by go_num, _, rfl⟩
      case measure => simp [intOf]; omega
    · obtain rfl : k = xs.length := by omega
      go_wp2
      go_ret
      exact ⟨rfl, _, rfl⟩

theorem eqIntS_same (A C : Option Addr) (xs : List Int) (c d : Nat) (w : World) (hR : RI w w.heap.size A xs) (hS : RI w w.heap.size C xs) (hl : xs.length ≤ 4294967296) :
    Calls Tryd.prog 21 #[.slice A xs.length c, .slice C xs.length d] w fun e w' => e = .returned (.bool true) ∧ Below w.heap.size w w' :=
  (eqIntS_raw A C xs c d w hR hS hl).mono fun e w' ⟨he, n, hw⟩ => ⟨he, by subst hw; exact b_drewN (Below.refl _ _) n⟩

/-- The numbers that 'mark' writes: k, k + 1, .. -/
def marks : Nat → Nat → List Int
  | _, 0 => []
  | k, n + 1 => (k : Int) :: marks (k + 1) n
theorem length_marks : ∀ (n k : Nat), (marks k n).length = n
  | 0, _ => rfl
  | n + 1, k => by simp [marks, length_marks n (k + 1)]
theorem getD_marks : ∀ (n k j : Nat), j < n → (marks k n).getD j 0 = ((k + j : Nat) : Int)
  | 0, _, _, h => absurd h (by omega)
  | n + 1, k, 0, _ => by simp [marks]
  | n + 1, k, j + 1, h => by
    have := getD_marks n (k + 1) j (by omega)
    simp only [marks, List.getD_cons_succ, this]
    omega

theorem Oth.refl (w : World) (A : Option Addr) : Oth w w A := ⟨rfl, rfl, rfl, Nat.le_refl _, fun _ _ _ => rfl⟩
theorem Oth.set {w w1 : World} {a : Addr} (h : Oth w w1 (some a)) {p : Addr} (hp : p.block = a.block) (u : Value) : Oth w (w1.setCell p u) (some a) :=
  ⟨h.1, h.2.1, h.2.2.1, by simpa [World.setCell] using h.2.2.2.1, fun k hk hne => (Below.heap_setCell w1 p u k (by rw [hp]; exact hne a rfl)).trans (h.2.2.2.2 k hk hne)⟩
theorem Oth.below {w w' : World} {A : Option Addr} (h : Oth w w' A) {C : Nat} (hw : C ≤ w.heap.size) (hC : ∀ a, A = some a → C ≤ a.block) : Below C w w' :=
  ⟨h.1, h.2.1, h.2.2.1, h.2.2.2.1, fun k hk => h.2.2.2.2 k (by omega) (fun a ha => by have := hC a ha; omega)⟩

theorem markIntS_nil (A : Option Addr) (c m : Nat) (w : World) (hm : m ≤ 4294967296) :
    Calls Tryd.prog 27 #[.slice A 0 c, .int .i64 m] w fun e w' => e = .returned (.int .i64 m) ∧ w = w' := by
  go_enter Tryd.func27, Tryd.ntmps27
  go_wp2
  go_loop [1, 5] (fun q i => q = .int .i64 m ∧ i = .int .i64 0) (fun _ _ => 0)
  case atStart => exact ⟨rfl, rfl⟩
  case round =>
    obtain ⟨rfl, rfl⟩ := hrel
    go_wp2
    go_ret
    exact ⟨rfl, rfl⟩

set_option maxHeartbeats 400000 in
theorem markIntS_some (g off n c m : Nat) (cs0 : Array Value) (w : World) (hB0 : BI w g cs0) (hs0 : off + n ≤ cs0.size) (hl : n ≤ 4294967296) (hm : m ≤ 4294967296) :
    Calls Tryd.prog 27 #[.slice (some ⟨g, off, none⟩) n c, .int .i64 m] w fun e w' => e = .returned (.int .i64 ((m + n : Nat) : Int)) ∧ (∃ cs, BI w' g cs ∧ cs.size = cs0.size ∧ Fill cs off n (marks m n)) ∧ Oth w w' (some ⟨g, off, none⟩) := by
  go_enter Tryd.func27, Tryd.ntmps27
  go_wp2
  go_loopw [1, 5] (fun q i wr => ∃ k : Nat, k ≤ n ∧ i = .int .i64 k ∧ q = .int .i64 ((m : Int) + k) ∧ (∃ cs, BI wr g cs ∧ cs.size = cs0.size ∧ Fill cs off k (marks m n)) ∧ Oth w wr (some ⟨g, off, none⟩)) (fun _ i _ => n - (intOf i).toNat)
  case atStart => exact ⟨0, Nat.zero_le _, rfl, by simp, ⟨_, hB0, rfl, fun j hj => by omega⟩, Oth.refl _ _⟩
  case round =>
    obtain ⟨k, hk, rfl, rfl, ⟨cs, hB, hsz, hF⟩, hW⟩ := hrel
    by_cases hlt : k < n
    · obtain ⟨v0, hcB⟩ := hB.ex (i := off + k) (by omega)
      have hfB := hB.frozen (off + k)
      have HB := Lib.hid hB
      have HB0 := Lib.hid hB0
      have HF := Lib.hid hF
      have HW := Lib.hid hW
      have HS := Lib.hid hsz
      clear hB hF hW hsz hB0
      go_wp2
      go_roundw
      case rel => exact ⟨k + 1, by omega, by go_num, by go_num, ⟨_, HB.out.set_ _ _, by simp [HS.out], HF.out.step (by have := HS.out; omega) (by rw [getD_marks n m k hlt]; simp)⟩, Oth.set (p := ⟨g, off + k, none⟩) HW.out rfl _⟩
      case measure => simp [intOf]; omega
    · obtain rfl : k = n := by omega
      go_wp2
      go_ret
      exact ⟨by simp, ⟨cs, hB, hsz, hF⟩, hW⟩

theorem Fill.size {cs : Array Value} {off k : Nat} {xs : List Int} (h : Fill cs off k xs) (hk : 0 < k) : off + k ≤ cs.size := by
  have := h (k - 1) (by omega)
  have := (Array.getElem?_eq_some_iff.1 this).1
  omega

/-- What 'mark' leaves: the marks in the slice's own cells; what lies below the slice's block, and what is owned above it, as before. -/
def Marked (w : World) (B : Nat) (A : Option Addr) (n m : Nat) (e : Ending) (w' : World) : Prop :=
  e = .returned (.int .i64 ((m + n : Nat) : Int)) ∧ OI w' B A (marks m n) ∧ (∀ C, C ≤ B → C ≤ w.heap.size → Below C w w') ∧
    (∀ D, (∀ a, A = some a → a.block < D) → ∀ A' ys, OI w D A' ys → OI w' D A' ys) ∧ w.heap.size ≤ w'.heap.size

theorem markIntS_any (B : Nat) (A : Option Addr) (xs : List Int) (c m : Nat) (w : World) (hO : OI w B A xs) (hl : xs.length ≤ 4294967296) (hm : m ≤ 4294967296) :
    Calls Tryd.prog 27 #[.slice A xs.length c, .int .i64 m] w (Marked w B A xs.length m) := by
  have nil : ∀ A' : Option Addr, Calls Tryd.prog 27 #[.slice A' 0 c, .int .i64 m] w (Marked w B A' 0 m) := fun A' =>
    (markIntS_nil A' c m w hm).mono fun e w' ⟨he, hw⟩ => by subst hw; exact ⟨by simpa using he, .inl rfl, fun C _ _ => Below.refl _ _, fun _ _ _ _ h => h, Nat.le_refl _⟩
  rcases hO with rfl | ⟨g, off, cs, rfl, hB, hb, hf⟩
  · exact nil A
  · by_cases h0 : xs.length = 0
    · rw [h0]; exact nil _
    · refine (markIntS_some g off xs.length c m cs w hb (hf.size (by omega)) hl hm).mono fun e w' ⟨he, ⟨cs', hb', _, hf'⟩, ho⟩ => ?_
      exact ⟨he, .inr ⟨g, off, cs', rfl, hB, hb', by rw [length_marks]; exact hf'⟩, fun C h1 h2 => ho.below h2 fun a ha => by injection ha with ha; subst ha; exact Nat.le_trans h1 hB, fun D hD A' ys h => h.other hD ho, ho.2.2.2.1⟩

theorem heldIntS_any (A : Option Addr) (n c m : Nat) (w : World) (hR : RI w w.heap.size A (marks m n)) (hl : n ≤ 4294967296) (hm : m ≤ 4294967296) :
    Calls Tryd.prog 29 #[.slice A n c, .int .i64 m] w fun e w' => e = .returned (.int .i64 ((m + n : Nat) : Int)) ∧ Below w.heap.size w w' := by
  go_enter Tryd.func29, Tryd.ntmps29
  go_wp2
  go_loop [1, 5] (fun q i => ∃ k : Nat, k ≤ n ∧ i = .int .i64 k ∧ q = .int .i64 ((m : Int) + k)) (fun _ i => n - (intOf i).toNat)
  case atStart => exact ⟨0, Nat.zero_le _, rfl, by simp⟩
  case round =>
    obtain ⟨k, hk, rfl, rfl⟩ := hrel
    by_cases hlt : k < n
    · obtain ⟨b, off, hA, hb, hc⟩ := hR.at_ (k := k) (by rw [length_marks]; exact hlt)
      subst hA
      rw [getD_marks n m k hlt, Int.natCast_add] at hc
      clear hR
      go_wp2
      go_round
      case rel => exact ⟨k + 1, by omega, by go_num, by go_num⟩
      case measure => simp [intOf]; omega
    · obtain rfl : k = n := by omega
      go_wp2
      go_ret
      exact ⟨by simp, Below.refl _ _⟩
end Go.Proofs.YtoihjapbidbpdaaDoor
