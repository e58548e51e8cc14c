/- Contracts of laws.toBoolS, eqBoolS, markBoolS, heldBoolS over slices of bools, and rows of bools. Conditions: lengths of at most 2^32. -/
import Derived.Test.YtoihjapbidbpdaaDoorRow
namespace Go.Proofs.YtoihjapbidbpdaaDoor
open Go.RowKit
set_option linter.unusedVariables false

/-- The slice value at address A reads as the numbers xs, its cells below block B. -/
def RB (w : World) (B : Nat) (A : Option Addr) (xs : List Bool) : Prop :=
  xs = [] ∨ ∃ b off, A = some ⟨b, off, none⟩ ∧ b < B ∧ ∀ j, j < xs.length → w.cell? ⟨b, off + j, none⟩ = some (.bool (xs.getD j false))

theorem RB.keep {w w' : World} {B : Nat} {A : Option Addr} {xs : List Bool} (h : RB w B A xs) (hk : ∀ p : Addr, p.block < B → w'.cell? p = w.cell? p) : RB w' B A xs := by
  rcases h with h | ⟨b, off, hA, hb, hc⟩
  · exact .inl h
  · exact .inr ⟨b, off, hA, hb, fun j hj => (hk _ hb).trans (hc j hj)⟩
theorem RB.below {w w' : World} {B : Nat} {A : Option Addr} {xs : List Bool} (h : RB w B A xs) (hb : Below B w w') : RB w' B A xs := h.keep fun _ hp => hb.cell hp
theorem RB.more {w : World} {B B' : Nat} {A : Option Addr} {xs : List Bool} (h : RB w B A xs) (hB : B ≤ B') : RB w B' A xs := by
  rcases h with h | ⟨b, off, hA, hb, hc⟩
  · exact .inl h
  · exact .inr ⟨b, off, hA, by omega, hc⟩
theorem RB.at_ {w : World} {B : Nat} {A : Option Addr} {xs : List Bool} (h : RB w B A xs) {k : Nat} (hk : k < xs.length) :
    ∃ b off, A = some ⟨b, off, none⟩ ∧ b < B ∧ w.cell? ⟨b, off + k, none⟩ = some (.bool (xs.getD k false)) := by
  rcases h with rfl | ⟨b, off, hA, hb, hc⟩
  · simp at hk
  · exact ⟨b, off, hA, hb, hc k hk⟩
/-- What a reading of an argument gives. -/
theorem RB.of_cells {w : World} {x : Addr} {l : Nat} {zs : List Bool} (hc : ∀ i, i < zs.length → w.cell? (x.add i) = some (.bool (zs.getD i false))) (hl : l ≤ zs.length) : RB w w.heap.size (some x) (zs.take l) := by
  rcases Nat.eq_zero_or_pos l with rfl | hp
  · exact .inl (by simp)
  · obtain ⟨b, off, spot⟩ := x
    have h0 := hc 0 (by omega)
    have hs : spot = none := by simpa [Addr.add] using World.cell?_spot h0
    subst hs
    refine .inr ⟨b, off, rfl, World.block_lt_of_cell? w ⟨b, off, none⟩ (by simpa [addr_add] using h0), fun j hj => ?_⟩
    rw [List.length_take] at hj
    have := hc j (by omega)
    rw [addr_add] at this
    rw [this, List.getD_eq_getElem?_getD, List.getD_eq_getElem?_getD, List.getElem?_take, if_pos (by omega)]

theorem info_bool : (Tryd.prog.info? 4).map (fun i => (i.zero, i.size, i.bytes)) = some (some (.bool false), 1, 1) := by kernel_rfl

/-- Block g is the cells cs, of element type int, none frozen. -/
def BB (w : World) (g : Nat) (cs : Array Value) : Prop := w.heap[g]? = some (.cells cs 4 (0, 0))

section
variable {w w' : World} {g : Nat} {cs : Array Value}
theorem BB.lt (h : BB w g cs) : g < w.heap.size := (Array.getElem?_eq_some_iff.1 h).1
theorem BB.cell (h : BB w g cs) (i : Nat) : w.cell? ⟨g, i, none⟩ = cs[i]? := cell_of_row w g i cs 4 (0, 0) h
theorem BB.frozen (h : BB w g cs) (i : Nat) : w.frozen? ⟨g, i, none⟩ = false := by
  unfold BB at h
  simp [World.frozen?, h]
theorem BB.ex (h : BB w g cs) {i : Nat} (hi : i < cs.size) : ∃ v, w.cell? ⟨g, i, none⟩ = some v := ⟨cs[i], by rw [h.cell]; simp [hi]⟩
theorem BB.new (w : World) (cs : Array Value) : BB (w.alloc (.cells cs 4)) w.heap.size cs := heap_alloc_new w _
theorem BB.set_ (h : BB w g cs) (i : Nat) (u : Value) : BB (w.setCell ⟨g, i, none⟩ u) g (cs.setIfInBounds i u) := by
  unfold BB at h ⊢
  simp [World.setCell, Array.getElem?_modify, h]
theorem BB.below {B : Nat} (h : BB w g cs) (hb : Below B w w') (hg : g < B) : BB w' g cs := (hb.block g hg).trans h
end

/-- The first k cells of cs, from off on, are the numbers xs. -/
def FillB (cs : Array Value) (off k : Nat) (xs : List Bool) : Prop := ∀ j, j < k → cs[off + j]? = some (.bool (xs.getD j false))

theorem FillB.step {cs : Array Value} {off k : Nat} {xs : List Bool} (h : FillB cs off k xs) (hk : off + k < cs.size) {v : Value} (hv : v = .bool (xs.getD k false)) : FillB (cs.setIfInBounds (off + k) v) off (k + 1) xs := by
  intro j hj
  rw [Array.getElem?_setIfInBounds]
  by_cases e : off + k = off + j
  · have : k = j := by omega
    subst this
    simp [hk, hv]
  · rw [if_neg e]; exact h j (by omega)

/-- The slice value at A owns its cells: a block from B on. -/
def OB (w : World) (B : Nat) (A : Option Addr) (xs : List Bool) : Prop :=
  xs = [] ∨ ∃ g off cs, A = some ⟨g, off, none⟩ ∧ B ≤ g ∧ BB w g cs ∧ FillB cs off xs.length xs

theorem OB.reads {w : World} {B : Nat} {A : Option Addr} {xs : List Bool} (h : OB w B A xs) : RB w w.heap.size A xs := by
  rcases h with h | ⟨g, off, cs, hA, hB, hb, hf⟩
  · exact .inl h
  · exact .inr ⟨g, off, hA, hb.lt, fun j hj => by rw [hb.cell]; exact hf j hj⟩
theorem RB.of_fill {w : World} {g : Nat} {cs : Array Value} {xs : List Bool} (hB : BB w g cs) (hF : FillB cs 0 xs.length xs) : RB w w.heap.size (some ⟨g, 0, none⟩) xs :=
  .inr ⟨g, 0, rfl, hB.lt, fun j hj => by rw [hB.cell]; exact hF j hj⟩
theorem OB.keep {w w' : World} {B : Nat} {A : Option Addr} {xs : List Bool} (h : OB w B A xs) (hb : Below w.heap.size w w') : OB w' B A xs := by
  rcases h with h | ⟨g, off, cs, hA, hB, hc, hf⟩
  · exact .inl h
  · exact .inr ⟨g, off, cs, hA, hB, hc.below hb hc.lt, hf⟩
theorem OB.other {w w' : World} {B : Nat} {A A' : Option Addr} {xs : List Bool} (h : OB w B A xs) (hA : ∀ a, A' = some a → a.block < B) (ho : Oth w w' A') : OB w' B A xs := by
  rcases h with h | ⟨g, off, cs, hA', hB, hc, hf⟩
  · exact .inl h
  · exact .inr ⟨g, off, cs, hA', hB, (ho.2.2.2.2 g hc.lt (fun a ha => by have := hA a ha; omega)).trans hc, hf⟩

set_option maxHeartbeats 400000 in
theorem toBoolS_raw (A : Option Addr) (xs : List Bool) (c : Nat) (w : World) (hR : RB w w.heap.size A xs) (hl : xs.length ≤ 4294967296) :
    Calls Tryd.prog 18 #[.slice A xs.length c] w fun e w' => e = .returned (.slice (some ⟨w.heap.size, 0, none⟩) xs.length xs.length) ∧
      (∃ cs, BB w' w.heap.size cs ∧ cs.size = xs.length ∧ FillB cs 0 xs.length xs) ∧ Below w.heap.size w w' := by
  have hmk := run_make_row' (P := Tryd.prog) 23 4 (.bool false) 1 Tryd.underlying23 info_bool rfl .i64 .i64 xs.length (by omega) (by omega)
  go_enter Tryd.func18, Tryd.ntmps18
  go_wp2
  go_loopw [4] (fun i wr => ∃ k : Nat, k ≤ xs.length ∧ i = .int .i64 k ∧ (∃ cs, BB wr w.heap.size cs ∧ cs.size = xs.length ∧ FillB cs 0 k xs) ∧ Below w.heap.size w wr) (fun i _ => xs.length - (intOf i).toNat)
  case atStart => exact ⟨0, Nat.zero_le _, rfl, ⟨_, BB.new _ _, by simp [madeCells], fun j hj => by omega⟩, b_alloc (Below.refl _ _) _⟩
  case round =>
    obtain ⟨k, hk, rfl, ⟨cs, hB, hsz, hF⟩, hW⟩ := hrel
    by_cases hlt : k < xs.length
    · obtain ⟨b, off, hA, hb, hc⟩ := (hR.below hW).at_ hlt
      subst hA
      obtain ⟨v0, hcB⟩ := hB.ex (i := k) (by omega)
      clear hR
      have hfB := hB.frozen k
      have HB := Lib.hid hB
      have HF := Lib.hid hF
      have HW := Lib.hid hW
      have HS := Lib.hid hsz
      clear hB hF hW hsz
      go_wp2
      go_roundw
      case rel => exact ⟨k + 1, by omega, by go_num, ⟨_, HB.out.set_ k _, by simp [HS.out], by simpa using HF.out.step (v := .bool xs[k]) (by have := HS.out; omega) (by simp [hlt])⟩, b_set HW.out (Nat.le_refl _) _⟩
      case measure => simp [intOf]; omega
    · obtain rfl : k = xs.length := by omega
      go_wp2
      go_ret
      exact ⟨rfl, ⟨cs, hB, hsz, hF⟩, hW⟩

/-- A copy in a new block. -/
theorem toBoolS_any (A : Option Addr) (xs : List Bool) (c : Nat) (w : World) (hR : RB w w.heap.size A xs) (hl : xs.length ≤ 4294967296) :
    Calls Tryd.prog 18 #[.slice A xs.length c] w fun e w' => e = .returned (.slice (some ⟨w.heap.size, 0, none⟩) xs.length xs.length) ∧ OB w' w.heap.size (some ⟨w.heap.size, 0, none⟩) xs ∧ w.heap.size < w'.heap.size ∧ Below w.heap.size w w' :=
  (toBoolS_raw A xs c w hR hl).mono fun e w' ⟨he, ⟨cs, hB, hs, hF⟩, hb⟩ => ⟨he, .inr ⟨_, 0, cs, rfl, Nat.le_refl _, hB, hF⟩, hB.lt, hb⟩

/-- 'true' where the lists are one. -/
theorem eqBoolS_raw (A C : Option Addr) (xs : List Bool) (c d : Nat) (w : World) (hR : RB w w.heap.size A xs) (hS : RB w w.heap.size C xs) (hl : xs.length ≤ 4294967296) :
    Calls Tryd.prog 22 #[.slice A xs.length c, .slice C xs.length d] w fun e w' => e = .returned (.bool true) ∧ ∃ n, w' = w.drewN n := by
  go_enter Tryd.func22, Tryd.ntmps22
  go_wp2
  go_loopw [5] (fun i wr => ∃ k : Nat, k ≤ xs.length ∧ i = .int .i64 k ∧ ∃ n, wr = w.drewN n) (fun i _ => xs.length - (intOf i).toNat)
  case atStart => exact ⟨0, Nat.zero_le _, rfl, 0, rfl⟩
  case round =>
    obtain ⟨k, hk, rfl, n, rfl⟩ := hrel
    by_cases hlt : k < xs.length
    · obtain ⟨b, off, hA, hb, hc⟩ := hR.at_ hlt
      obtain ⟨b2, off2, hA2, hb2, hc2⟩ := hS.at_ hlt
      subst hA hA2
      clear hR hS
      go_wp2
      go_quiet (fail)
      go_wp2
      go_roundw
      case rel => exact ⟨k + 1, by omega, by go_num, _, rfl⟩
      case measure => simp [intOf]; omega
    · obtain rfl : k = xs.length := by omega
      go_wp2
      go_ret
      exact ⟨rfl, _, rfl⟩

theorem eqBoolS_same (A C : Option Addr) (xs : List Bool) (c d : Nat) (w : World) (hR : RB w w.heap.size A xs) (hS : RB w w.heap.size C xs) (hl : xs.length ≤ 4294967296) :
    Calls Tryd.prog 22 #[.slice A xs.length c, .slice C xs.length d] w fun e w' => e = .returned (.bool true) ∧ Below w.heap.size w w' :=
  (eqBoolS_raw A C xs c d w hR hS hl).mono fun e w' ⟨he, n, hw⟩ => ⟨he, by subst hw; exact b_drewN (Below.refl _ _) n⟩

/-- The numbers that 'mark' writes: k, k + 1, .. -/
def marksB : Nat → Nat → List Bool
  | _, 0 => []
  | k, n + 1 => decide (k % 3 = 0) :: marksB (k + 1) n
theorem length_marksB : ∀ (n k : Nat), (marksB k n).length = n
  | 0, _ => rfl
  | n + 1, k => by simp [marksB, length_marksB n (k + 1)]
theorem getD_marksB : ∀ (n k j : Nat), j < n → (marksB k n).getD j false = decide ((k + j) % 3 = 0)
  | 0, _, _, h => absurd h (by omega)
  | n + 1, k, 0, _ => by simp [marksB]
  | n + 1, k, j + 1, h => by
    have := getD_marksB n (k + 1) j (by omega)
    simp only [marksB, List.getD_cons_succ, this]
    congr 2
    omega

theorem markBoolS_nil (A : Option Addr) (c m : Nat) (w : World) (hm : m ≤ 4294967296) :
    Calls Tryd.prog 28 #[.slice A 0 c, .int .i64 m] w fun e w' => e = .returned (.int .i64 m) ∧ w = w' := by
  go_enter Tryd.func28, Tryd.ntmps28
  go_wp2
  go_loop [1, 5] (fun q i => q = .int .i64 m ∧ i = .int .i64 0) (fun _ _ => 0)
  case atStart => exact ⟨rfl, rfl⟩
  case round =>
    obtain ⟨rfl, rfl⟩ := hrel
    go_wp2
    go_ret
    exact ⟨rfl, rfl⟩

set_option maxHeartbeats 400000 in
theorem markBoolS_some (g off n c m : Nat) (cs0 : Array Value) (w : World) (hB0 : BB w g cs0) (hs0 : off + n ≤ cs0.size) (hl : n ≤ 4294967296) (hm : m ≤ 4294967296) :
    Calls Tryd.prog 28 #[.slice (some ⟨g, off, none⟩) n c, .int .i64 m] w fun e w' => e = .returned (.int .i64 ((m + n : Nat) : Int)) ∧ (∃ cs, BB w' g cs ∧ cs.size = cs0.size ∧ FillB cs off n (marksB m n)) ∧ Oth w w' (some ⟨g, off, none⟩) := by
  go_enter Tryd.func28, Tryd.ntmps28
  go_wp2
  go_loopw [1, 5] (fun q i wr => ∃ k : Nat, k ≤ n ∧ i = .int .i64 k ∧ q = .int .i64 ((m : Int) + k) ∧ (∃ cs, BB wr g cs ∧ cs.size = cs0.size ∧ FillB cs off k (marksB m n)) ∧ Oth w wr (some ⟨g, off, none⟩)) (fun _ i _ => n - (intOf i).toNat)
  case atStart => exact ⟨0, Nat.zero_le _, rfl, by simp, ⟨_, hB0, rfl, fun j hj => by omega⟩, Oth.refl _ _⟩
  case round =>
    obtain ⟨k, hk, rfl, rfl, ⟨cs, hB, hsz, hF⟩, hW⟩ := hrel
    by_cases hlt : k < n
    · obtain ⟨v0, hcB⟩ := hB.ex (i := off + k) (by omega)
      have hfB := hB.frozen (off + k)
      have HB := Lib.hid hB
      have HB0 := Lib.hid hB0
      have HF := Lib.hid hF
      have HW := Lib.hid hW
      have HS := Lib.hid hsz
      clear hB hF hW hsz hB0
      go_wp2
      go_roundw
      case rel => exact ⟨k + 1, by omega, by go_num, by go_num, ⟨_, HB.out.set_ _ _, by simp [HS.out], HF.out.step (by have := HS.out; omega) (by rw [getD_marksB n m k hlt]; simp; rw [Bool.eq_iff_iff]; simp; omega)⟩, Oth.set (p := ⟨g, off + k, none⟩) HW.out rfl _⟩
      case measure => simp [intOf]; omega
    · obtain rfl : k = n := by omega
      go_wp2
      go_ret
      exact ⟨by simp, ⟨cs, hB, hsz, hF⟩, hW⟩

theorem FillB.size {cs : Array Value} {off k : Nat} {xs : List Bool} (h : FillB cs off k xs) (hk : 0 < k) : off + k ≤ cs.size := by
  have := h (k - 1) (by omega)
  have := (Array.getElem?_eq_some_iff.1 this).1
  omega

/-- What 'mark' leaves: the marksB in the slice's own cells; what lies below the slice's block, and what is owned above it, as before. -/
def MarkedB (w : World) (B : Nat) (A : Option Addr) (n m : Nat) (e : Ending) (w' : World) : Prop :=
  e = .returned (.int .i64 ((m + n : Nat) : Int)) ∧ OB w' B A (marksB m n) ∧ (∀ C, C ≤ B → C ≤ w.heap.size → Below C w w') ∧
    (∀ D, (∀ a, A = some a → a.block < D) → ∀ A' ys, OB w D A' ys → OB w' D A' ys) ∧ w.heap.size ≤ w'.heap.size

theorem markBoolS_any (B : Nat) (A : Option Addr) (xs : List Bool) (c m : Nat) (w : World) (hO : OB w B A xs) (hl : xs.length ≤ 4294967296) (hm : m ≤ 4294967296) :
    Calls Tryd.prog 28 #[.slice A xs.length c, .int .i64 m] w (MarkedB w B A xs.length m) := by
  have nil : ∀ A' : Option Addr, Calls Tryd.prog 28 #[.slice A' 0 c, .int .i64 m] w (MarkedB w B A' 0 m) := fun A' =>
    (markBoolS_nil A' c m w hm).mono fun e w' ⟨he, hw⟩ => by subst hw; exact ⟨by simpa using he, .inl rfl, fun C _ _ => Below.refl _ _, fun _ _ _ _ h => h, Nat.le_refl _⟩
  rcases hO with rfl | ⟨g, off, cs, rfl, hB, hb, hf⟩
  · exact nil A
  · by_cases h0 : xs.length = 0
    · rw [h0]; exact nil _
    · refine (markBoolS_some g off xs.length c m cs w hb (hf.size (by omega)) hl hm).mono fun e w' ⟨he, ⟨cs', hb', _, hf'⟩, ho⟩ => ?_
      exact ⟨he, .inr ⟨g, off, cs', rfl, hB, hb', by rw [length_marksB]; exact hf'⟩, fun C h1 h2 => ho.below h2 fun a ha => by injection ha with ha; subst ha; exact Nat.le_trans h1 hB, fun D hD A' ys h => h.other hD ho, ho.2.2.2.1⟩

theorem heldBoolS_any (A : Option Addr) (n c m : Nat) (w : World) (hR : RB w w.heap.size A (marksB m n)) (hl : n ≤ 4294967296) (hm : m ≤ 4294967296) :
    Calls Tryd.prog 30 #[.slice A n c, .int .i64 m] w fun e w' => e = .returned (.int .i64 ((m + n : Nat) : Int)) ∧ Below w.heap.size w w' := by
  go_enter Tryd.func30, Tryd.ntmps30
  go_wp2
  go_loop [1, 5] (fun q i => ∃ k : Nat, k ≤ n ∧ i = .int .i64 k ∧ q = .int .i64 ((m : Int) + k)) (fun _ i => n - (intOf i).toNat)
  case atStart => exact ⟨0, Nat.zero_le _, rfl, by simp⟩
  case round =>
    obtain ⟨k, hk, rfl, rfl⟩ := hrel
    by_cases hlt : k < n
    · obtain ⟨b, off, hA, hb, hc⟩ := hR.at_ (k := k) (by rw [length_marksB]; exact hlt)
      subst hA
      rw [getD_marksB n m k hlt] at hc
      have ht : Int.tmod ((m : Int) + k) 3 = ((m + k) % 3 : Nat) := by rw [← Int.natCast_add]; exact (Int.ofNat_tmod _ 3).symm
      obtain ⟨r, hr⟩ : ∃ r, r = (m + k) % 3 := ⟨_, rfl⟩
      rw [← hr] at ht hc
      clear hr
      obtain ⟨q, hq⟩ : ∃ q, q = decide (r = 0) := ⟨_, rfl⟩
      have h2 : ((r : Int) == 0) = q := by rw [hq, Bool.eq_iff_iff]; simp
      rw [← hq] at hc
      clear hq
      clear hR
      go_wp2
      go_round
      case rel => exact ⟨k + 1, by omega, by go_num, by go_num⟩
      case measure => simp [intOf]; omega
    · obtain rfl : k = n := by omega
      go_wp2
      go_ret
      exact ⟨by simp, Below.refl _ _⟩
theorem OB.of_own {w : World} {B n c : Nat} {A : Option Addr} {xs : List Bool} (h : w.ownsRow B 4 1 (.slice A n c) n (xs.map (Value.bool))) : n = xs.length ∧ OB w B A xs := by
  have hl : n = xs.length := by simpa using h.1.symm
  refine ⟨hl, ?_⟩
  rcases h.2 with ⟨h1, h2⟩ | ⟨g, cap, cur, hv, hB, hh, hn, _, hsz, ht⟩
  · exact .inl (List.eq_nil_of_length_eq_zero (by omega))
  · injection hv with hA
    refine .inr ⟨g, 0, cur, hA, hB, hh, fun j hj => ?_⟩
    have hj' : j < n := by omega
    have e : (cur.toList.take (n * 1))[j]? = (xs.map (Value.bool))[j]? := by rw [ht]
    rw [List.getElem?_take, if_pos (by omega), List.getElem?_map] at e
    have e2 : xs[j]? = some (xs.getD j false) := by rw [List.getD_eq_getElem?_getD, List.getElem?_eq_getElem hj, Option.getD_some]
    rw [e2] at e
    simpa using e

/-- A row of integers that the call itself made (or nil). -/
def RowB (w : World) (B : Nat) (v : Value) (xs : List Bool) : Prop := w.ownsRow B 4 1 v xs.length (xs.map (Value.bool))
theorem RowB.nil (w : World) (B : Nat) : RowB w B (.slice none 0 0) [] := World.ownsRow_nil _ _ _ _
theorem RowB.made (w : World) : RowB (w.alloc (.cells #[] 4)) w.heap.size (.slice (some ⟨w.heap.size, 0, none⟩) 0 0) [] :=
  World.ownsRow_made w #[] 0 (Nat.le_refl _) (Nat.zero_le _) rfl
theorem RowB.mono {w : World} {B B2 : Nat} {v : Value} {xs : List Bool} (h : RowB w B2 v xs) (hB : B ≤ B2) : RowB w B v xs := by
  rcases h.2 with h2 | ⟨g, cap, cur, hv, hg, r⟩
  · exact ⟨h.1, .inl h2⟩
  · exact ⟨h.1, .inr ⟨g, cap, cur, hv, Nat.le_trans hB hg, r⟩⟩
theorem RowB.shape {w : World} {B : Nat} {v : Value} {xs : List Bool} (h : RowB w B v xs) : ∃ A c, v = .slice A xs.length c := by
  rcases h.2 with ⟨h1, h2⟩ | ⟨g, cap, cur, hv, _⟩
  · exact ⟨none, 0, by rw [h1, h2]⟩
  · exact ⟨_, _, hv⟩

theorem RowB.app {w1 : World} {B : Nat} {v1 : Value} {l : List Bool} {x : Bool} (h : w1.ownsRow B 4 1 v1 (l.length + 1) (l.map (Value.bool) ++ [.bool x])) : RowB w1 B v1 (l ++ [x]) := by
  unfold RowB; simpa using h
theorem RowB.grow {w wr w1 : World} {v : Value} {l : List Bool} {o : Obj} (hO : RowB wr w.heap.size v l) (hW : Below w.heap.size w wr) (hg : (wr.alloc o).grownBy w1 v.ownBlock) : Below w.heap.size w w1 :=
  (b_alloc hW o).grown hg (b_alloc hW o).size fun k hk => (World.ownsRow.lt hO k hk).1

/-- What a function hands back that makes a list: a slice of its own that reads as xs. -/
def RetLB0 (w : World) (xs : List Bool) (e : Ending) (w' : World) : Prop :=
  ∃ A c, e = .returned (.slice A xs.length c) ∧ OB w' w.heap.size A xs ∧ Below w.heap.size w w'
theorem RetLB0.of {w w' : World} {v : Value} {xs ys : List Bool} (h : RowB w' w.heap.size v xs) (hb : Below w.heap.size w w') (e : xs = ys) : RetLB0 w ys (.returned v) w' := by
  subst e
  obtain ⟨A, c, rfl⟩ := h.shape
  exact ⟨A, c, rfl, (OB.of_own h).2, hb⟩

end Go.Proofs.YtoihjapbidbpdaaDoor
