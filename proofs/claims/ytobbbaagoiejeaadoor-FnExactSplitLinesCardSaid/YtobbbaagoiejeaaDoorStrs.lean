/- Contracts of laws.markText, eqStringS, markStringS, heldStringS over slices of strings, and rows of strings. Conditions: lengths of at most 2^32. -/
import Derived.Test.YtobbbaagoiejeaaDoorItoM
import Derived.Test.YtobbbaagoiejeaaDoorRows
import Derived.Deep.OwnRows
import Derived.Deep.RegionHeld3
import Derived.WalkSpells
namespace Go.Proofs.YtobbbaagoiejeaaDoor
open Go.RowKit
set_option linter.unusedVariables false

/-- The slice value at address A reads as the numbers xs, its cells below block B. -/
def RT (w : World) (B : Nat) (A : Option Addr) (xs : List ByteArray) : Prop :=
  xs = [] ∨ ∃ b off, A = some ⟨b, off, none⟩ ∧ b < B ∧ ∀ j, j < xs.length → w.cell? ⟨b, off + j, none⟩ = some (.string (xs.getD j ByteArray.empty))

theorem RT.keep {w w' : World} {B : Nat} {A : Option Addr} {xs : List ByteArray} (h : RT w B A xs) (hk : ∀ p : Addr, p.block < B → w'.cell? p = w.cell? p) : RT w' B A xs := by
  rcases h with h | ⟨b, off, hA, hb, hc⟩
  · exact .inl h
  · exact .inr ⟨b, off, hA, hb, fun j hj => (hk _ hb).trans (hc j hj)⟩
theorem RT.below {w w' : World} {B : Nat} {A : Option Addr} {xs : List ByteArray} (h : RT w B A xs) (hb : Below B w w') : RT w' B A xs := h.keep fun _ hp => hb.cell hp
theorem RT.more {w : World} {B B' : Nat} {A : Option Addr} {xs : List ByteArray} (h : RT w B A xs) (hB : B ≤ B') : RT w B' A xs := by
  rcases h with h | ⟨b, off, hA, hb, hc⟩
  · exact .inl h
  · exact .inr ⟨b, off, hA, by omega, hc⟩
theorem RT.at_ {w : World} {B : Nat} {A : Option Addr} {xs : List ByteArray} (h : RT w B A xs) {k : Nat} (hk : k < xs.length) :
    ∃ b off, A = some ⟨b, off, none⟩ ∧ b < B ∧ w.cell? ⟨b, off + k, none⟩ = some (.string (xs.getD k ByteArray.empty)) := by
  rcases h with rfl | ⟨b, off, hA, hb, hc⟩
  · simp at hk
  · exact ⟨b, off, hA, hb, hc k hk⟩
/-- What a reading of an argument gives. -/
theorem RT.of_cells {w : World} {x : Addr} {l : Nat} {zs : List ByteArray} (hc : ∀ i, i < zs.length → w.cell? (x.add i) = some (.string (zs.getD i ByteArray.empty))) (hl : l ≤ zs.length) : RT w w.heap.size (some x) (zs.take l) := by
  rcases Nat.eq_zero_or_pos l with rfl | hp
  · exact .inl (by simp)
  · obtain ⟨b, off, spot⟩ := x
    have h0 := hc 0 (by omega)
    have hs : spot = none := by simpa [Addr.add] using World.cell?_spot h0
    subst hs
    refine .inr ⟨b, off, rfl, World.block_lt_of_cell? w ⟨b, off, none⟩ (by simpa [addr_add] using h0), fun j hj => ?_⟩
    rw [List.length_take] at hj
    have := hc j (by omega)
    rw [addr_add] at this
    rw [this, List.getD_eq_getElem?_getD, List.getD_eq_getElem?_getD, List.getElem?_take, if_pos (by omega)]

theorem info_string : (Tryd.prog.info? 9).map (fun i => (i.zero, i.size, i.bytes)) = some (some (.string ByteArray.empty), 1, 16) := by kernel_rfl

/-- Block g is the cells cs, of element type int, none frozen. -/
def BT (w : World) (g : Nat) (cs : Array Value) : Prop := w.heap[g]? = some (.cells cs 9 (0, 0))

section
variable {w w' : World} {g : Nat} {cs : Array Value}
theorem BT.lt (h : BT w g cs) : g < w.heap.size := (Array.getElem?_eq_some_iff.1 h).1
theorem BT.cell (h : BT w g cs) (i : Nat) : w.cell? ⟨g, i, none⟩ = cs[i]? := cell_of_row w g i cs 9 (0, 0) h
theorem BT.frozen (h : BT w g cs) (i : Nat) : w.frozen? ⟨g, i, none⟩ = false := by
  unfold BT at h
  simp [World.frozen?, h]
theorem BT.ex (h : BT w g cs) {i : Nat} (hi : i < cs.size) : ∃ v, w.cell? ⟨g, i, none⟩ = some v := ⟨cs[i], by rw [h.cell]; simp [hi]⟩
theorem BT.new (w : World) (cs : Array Value) : BT (w.alloc (.cells cs 9)) w.heap.size cs := heap_alloc_new w _
theorem BT.set_ (h : BT w g cs) (i : Nat) (u : Value) : BT (w.setCell ⟨g, i, none⟩ u) g (cs.setIfInBounds i u) := by
  unfold BT at h ⊢
  simp [World.setCell, Array.getElem?_modify, h]
theorem BT.below {B : Nat} (h : BT w g cs) (hb : Below B w w') (hg : g < B) : BT w' g cs := (hb.block g hg).trans h
end

/-- The first k cells of cs, from off on, are the numbers xs. -/
def FillT (cs : Array Value) (off k : Nat) (xs : List ByteArray) : Prop := ∀ j, j < k → cs[off + j]? = some (.string (xs.getD j ByteArray.empty))

theorem FillT.step {cs : Array Value} {off k : Nat} {xs : List ByteArray} (h : FillT cs off k xs) (hk : off + k < cs.size) {v : Value} (hv : v = .string (xs.getD k ByteArray.empty)) : FillT (cs.setIfInBounds (off + k) v) off (k + 1) xs := by
  intro j hj
  rw [Array.getElem?_setIfInBounds]
  by_cases e : off + k = off + j
  · have : k = j := by omega
    subst this
    simp [hk, hv]
  · rw [if_neg e]; exact h j (by omega)

/-- The slice value at A owns its cells: a block from B on. -/
def OT (w : World) (B : Nat) (A : Option Addr) (xs : List ByteArray) : Prop :=
  xs = [] ∨ ∃ g off cs, A = some ⟨g, off, none⟩ ∧ B ≤ g ∧ BT w g cs ∧ FillT cs off xs.length xs

theorem OT.reads {w : World} {B : Nat} {A : Option Addr} {xs : List ByteArray} (h : OT w B A xs) : RT w w.heap.size A xs := by
  rcases h with h | ⟨g, off, cs, hA, hB, hb, hf⟩
  · exact .inl h
  · exact .inr ⟨g, off, hA, hb.lt, fun j hj => by rw [hb.cell]; exact hf j hj⟩
theorem RT.of_fill {w : World} {g : Nat} {cs : Array Value} {xs : List ByteArray} (hB : BT w g cs) (hF : FillT cs 0 xs.length xs) : RT w w.heap.size (some ⟨g, 0, none⟩) xs :=
  .inr ⟨g, 0, rfl, hB.lt, fun j hj => by rw [hB.cell]; exact hF j hj⟩
theorem OT.keep {w w' : World} {B : Nat} {A : Option Addr} {xs : List ByteArray} (h : OT w B A xs) (hb : Below w.heap.size w w') : OT w' B A xs := by
  rcases h with h | ⟨g, off, cs, hA, hB, hc, hf⟩
  · exact .inl h
  · exact .inr ⟨g, off, cs, hA, hB, hc.below hb hc.lt, hf⟩
/-- All blocks but A's read as before. -/
def Oth (w w' : World) (A : Option Addr) : Prop := w'.os = w.os ∧ w'.tape = w.tape ∧ w'.output = w.output ∧ w.heap.size ≤ w'.heap.size ∧ ∀ k, k < w.heap.size → (∀ a, A = some a → k ≠ a.block) → w'.heap[k]? = w.heap[k]?

theorem OT.other {w w' : World} {B : Nat} {A A' : Option Addr} {xs : List ByteArray} (h : OT w B A xs) (hA : ∀ a, A' = some a → a.block < B) (ho : Oth w w' A') : OT w' B A xs := by
  rcases h with h | ⟨g, off, cs, hA', hB, hc, hf⟩
  · exact .inl h
  · exact .inr ⟨g, off, cs, hA', hB, (ho.2.2.2.2 g hc.lt (fun a ha => by have := hA a ha; omega)).trans hc, hf⟩

/-- 'true' where the lists are one. -/
theorem eqStringS_raw (A C : Option Addr) (xs : List ByteArray) (c d : Nat) (w : World) (hR : RT w w.heap.size A xs) (hS : RT w w.heap.size C xs) (hl : xs.length ≤ 4294967296) :
    Calls Tryd.prog 24 #[.slice A xs.length c, .slice C xs.length d] w fun e w' => e = .returned (.bool true) ∧ ∃ n, w' = w.drewN n := by
  go_enter Tryd.func24, Tryd.ntmps24
  go_wp2
  go_loopw [5] (fun i wr => ∃ k : Nat, k ≤ xs.length ∧ i = .int .i64 k ∧ ∃ n, wr = w.drewN n) (fun i _ => xs.length - (intOf i).toNat)
  case atStart => exact ⟨0, Nat.zero_le _, rfl, 0, rfl⟩
  case round =>
    obtain ⟨k, hk, rfl, n, rfl⟩ := hrel
    by_cases hlt : k < xs.length
    · obtain ⟨b, off, hA, hb, hc⟩ := hR.at_ hlt
      obtain ⟨b2, off2, hA2, hb2, hc2⟩ := hS.at_ hlt
      subst hA hA2
      clear hR hS
      go_wp2
      go_quiet (fail)
      go_wp2
      go_roundw
      case rel => exact ⟨k + 1, by omega, by go_num, _, rfl⟩
      case measure => simp [intOf]; omega
    · obtain rfl : k = xs.length := by omega
      go_wp2
      go_ret
      exact ⟨rfl, _, rfl⟩

theorem eqStringS_same (A C : Option Addr) (xs : List ByteArray) (c d : Nat) (w : World) (hR : RT w w.heap.size A xs) (hS : RT w w.heap.size C xs) (hl : xs.length ≤ 4294967296) :
    Calls Tryd.prog 24 #[.slice A xs.length c, .slice C xs.length d] w fun e w' => e = .returned (.bool true) ∧ Below w.heap.size w w' :=
  (eqStringS_raw A C xs c d w hR hS hl).mono fun e w' ⟨he, n, hw⟩ => ⟨he, by subst hw; exact b_drewN (Below.refl _ _) n⟩

/-- What 'mark' writes at k. -/
def mkt (k : Nat) : ByteArray := (⟨#[109]⟩ : ByteArray) ++ dtx k
/-- The numbers that 'mark' writes: k, k + 1, .. -/
def marksT : Nat → Nat → List ByteArray
  | _, 0 => []
  | k, n + 1 => mkt k :: marksT (k + 1) n
theorem length_marksT : ∀ (n k : Nat), (marksT k n).length = n
  | 0, _ => rfl
  | n + 1, k => by simp [marksT, length_marksT n (k + 1)]
theorem getD_marksT : ∀ (n k j : Nat), j < n → (marksT k n).getD j ByteArray.empty = mkt (k + j)
  | 0, _, _, h => absurd h (by omega)
  | n + 1, k, 0, _ => by simp [marksT]
  | n + 1, k, j + 1, h => by
    have := getD_marksT n (k + 1) j (by omega)
    simp only [marksT, List.getD_cons_succ, this]
    congr 1
    omega

theorem Oth.refl (w : World) (A : Option Addr) : Oth w w A := ⟨rfl, rfl, rfl, Nat.le_refl _, fun _ _ _ => rfl⟩
theorem Oth.set {w w1 : World} {a : Addr} (h : Oth w w1 (some a)) {p : Addr} (hp : p.block = a.block) (u : Value) : Oth w (w1.setCell p u) (some a) :=
  ⟨h.1, h.2.1, h.2.2.1, by simpa [World.setCell] using h.2.2.2.1, fun k hk hne => (Below.heap_setCell w1 p u k (by rw [hp]; exact hne a rfl)).trans (h.2.2.2.2 k hk hne)⟩
theorem Oth.below {w w' : World} {A : Option Addr} (h : Oth w w' A) {C : Nat} (hw : C ≤ w.heap.size) (hC : ∀ a, A = some a → C ≤ a.block) : Below C w w' :=
  ⟨h.1, h.2.1, h.2.2.1, h.2.2.2.1, fun k hk => h.2.2.2.2 k (by omega) (fun a ha => by have := hC a ha; omega)⟩

theorem cell_new8 (w : World) (n : Int) (i : Nat) (hi : i < 1) : (w.alloc (Obj.cells #[Value.int IntKind.u8 n] 5)).cell? ⟨w.heap.size, 0 + i, none⟩ = some (.int .u8 ([n].getD i 0)) := by
  obtain rfl : i = 0 := by omega
  exact cell_of_row _ _ 0 _ 5 (0, 0) (heap_alloc_new w _)
set_option maxHeartbeats 2000000 in
theorem markText_any (U : Nat) (w : World) (h1 : 1 ≤ U) (hU : U ≤ 10000000000) :
    Calls Tryd.prog 41 #[.int .i64 (U : Int)] w fun e w' => e = .returned (.string (mkt U)) ∧ Below w.heap.size w w' := by
  have h0 : ¬ ((U : Int) ≤ 0) := by omega
  go_enter Tryd.func41, Tryd.ntmps41
  go_wp2
  go_loopw [0, 3] (fun n s wr => ∃ (u : Nat) (t : ByteArray), u + t.size ≤ 10000000000 ∧ n = .int .i64 u ∧ s = .string t ∧ (u = 0 → Hid (dtx U = t)) ∧ (1 ≤ u → Hid (dtx U = dtx u ++ t)) ∧ Below w.heap.size w wr) (fun n _ _ => (intOf n).toNat)
  case atStart => exact ⟨U, ⟨#[]⟩, (by show U + 0 ≤ 10000000000; omega), rfl, rfl, fun h => absurd h (by omega), fun _ => (ba_nil _).symm, Below.refl _ _⟩
  case round =>
    obtain ⟨u, t, hu, rfl, rfl, hZ, hH, hB⟩ := hrel
    clear h0
    by_cases h9 : u = 0
    · have hE := hZ h9
      subst h9
      have szt : t.size ≤ 10000000000 := by omega
      have HB := Lib.hid hB
      clear hH hB hZ
      go_wp2
      go_ret
      exact ⟨by unfold mkt; rw [hE.out]; rfl, HB.out⟩
    · have hgt : (0 : Int) < u := by omega
      obtain ⟨v, hv⟩ : ∃ v, u / 10 = v := ⟨_, rfl⟩
      obtain ⟨r, hr⟩ : ∃ r, u % 10 = r := ⟨_, rfl⟩
      have hE := hH (by omega)
      have E0 : v = 0 → Hid (dtx U = strOfNums [48 + (r : Int)] ++ t) := fun hz => by rw [hE.out, dtx_small (by omega), show u = r by omega]; rfl
      have E1 : 1 ≤ v → Hid (dtx U = dtx v ++ (strOfNums [48 + (r : Int)] ++ t)) := fun hz => by rw [hE.out, dtx_big (by omega), hv, hr, ba_assoc]; rfl
      have H0 := Lib.hid E0
      have H1 := Lib.hid E1
      have e1 : (u : Int) / 10 = (v : Int) := by omega
      have e2 : (u : Int) % 10 = (r : Int) := by omega
      have r9 : (r : Int) ≤ 9 := by omega
      have r0 : (0 : Int) ≤ (r : Int) := by omega
      have vl : v < u := by omega
      clear hv hr E0 E1 hE
      have hcv := run_convert_bytes_arg (P := Tryd.prog) (wr.alloc (Obj.cells #[Value.int IntKind.u8 (48 + (r : Int))] 5)) 46 5 Tryd.underlying46 Tryd.underlying5 wr.heap.size 0 1 1 [48 + (r : Int)] rfl (cell_new8 wr _) 9 Tryd.underlying9
      have szo : (strOfNums [48 + (r : Int)]).size = 1 := by rw [strOfNums_size]; rfl
      have szt : t.size + v + 1 ≤ 10000000000 := by omega
      have HB := Lib.hid hB
      clear hH hB hZ
      go_wp2
      go_roundw
      case rel => exact ⟨v, _, by rw [ByteArray.size_append, szo]; omega, rfl, rfl, H0.out, H1.out, b_alloc HB.out _⟩
      case measure => simp [intOf]; omega
theorem Oth.step {w w1 w2 : World} {A : Option Addr} (h : Oth w w1 A) (hb : Below w1.heap.size w1 w2) : Oth w w2 A :=
  ⟨hb.os.trans h.1, hb.tape.trans h.2.1, hb.output.trans h.2.2.1, Nat.le_trans h.2.2.2.1 hb.size, fun k hk hn => (hb.block k (Nat.lt_of_lt_of_le hk h.2.2.2.1)).trans (h.2.2.2.2 k hk hn)⟩
theorem markStringS_nil (A : Option Addr) (c m : Nat) (w : World) (hm : m ≤ 4294967296) :
    Calls Tryd.prog 25 #[.slice A 0 c, .int .i64 m] w fun e w' => e = .returned (.int .i64 m) ∧ w = w' := by
  go_enter Tryd.func25, Tryd.ntmps25
  go_wp2
  go_loop [1, 5] (fun q i => q = .int .i64 m ∧ i = .int .i64 0) (fun _ _ => 0)
  case atStart => exact ⟨rfl, rfl⟩
  case round =>
    obtain ⟨rfl, rfl⟩ := hrel
    go_wp2
    go_ret
    exact ⟨rfl, rfl⟩

set_option maxHeartbeats 1000000 in
theorem markStringS_some (g off n c m : Nat) (cs0 : Array Value) (w : World) (hB0 : BT w g cs0) (hs0 : off + n ≤ cs0.size) (hl : n ≤ 4294967296) (hm1 : 1 ≤ m) (hm : m ≤ 4294967296) :
    Calls Tryd.prog 25 #[.slice (some ⟨g, off, none⟩) n c, .int .i64 m] w fun e w' => e = .returned (.int .i64 ((m + n : Nat) : Int)) ∧ (∃ cs, BT w' g cs ∧ cs.size = cs0.size ∧ FillT cs off n (marksT m n)) ∧ Oth w w' (some ⟨g, off, none⟩) := by
  go_enter Tryd.func25, Tryd.ntmps25
  go_wp2
  go_loopw [1, 5] (fun q i wr => ∃ k : Nat, k ≤ n ∧ i = .int .i64 k ∧ q = .int .i64 ((m : Int) + k) ∧ (∃ cs, BT wr g cs ∧ cs.size = cs0.size ∧ FillT cs off k (marksT m n)) ∧ Oth w wr (some ⟨g, off, none⟩)) (fun _ i _ => n - (intOf i).toNat)
  case atStart => exact ⟨0, Nat.zero_le _, rfl, by simp, ⟨_, hB0, rfl, fun j hj => by omega⟩, Oth.refl _ _⟩
  case round =>
    obtain ⟨k, hk, rfl, rfl, ⟨cs, hB, hsz, hF⟩, hW⟩ := hrel
    by_cases hlt : k < n
    · have HB0 := Lib.hid hB
      have HF := Lib.hid hF
      have HW := Lib.hid hW
      have HS := Lib.hid hsz
      have HC := Lib.hid (fun W => markText_any (m + k) W (by omega) (by omega))
      have hmk := Lib.hid (getD_marksT n m k hlt)
      clear hB hF hW hsz hB0
      go_wp2_with fail
      rw [← Int.natCast_add]
      refine (HC.out _).mono ?_
      rintro e w2 ⟨rfl, hb2⟩
      have hB2 := HB0.out.below hb2 HB0.out.lt
      obtain ⟨v0, hcB⟩ := hB2.ex (i := off + k) (by have := HS.out; omega)
      have hfB := hB2.frozen (off + k)
      have HB := Lib.hid hB2
      have HW2 := Lib.hid (HW.out.step hb2)
      clear hB2 hb2
      go_wp2_with fail
      go_roundw
      case rel => exact ⟨k + 1, by omega, by go_num, by go_num, ⟨_, HB.out.set_ _ _, by simp [HS.out], HF.out.step (by have := HS.out; omega) (by rw [hmk.out])⟩, Oth.set (p := ⟨g, off + k, none⟩) HW2.out rfl _⟩
      case measure => simp [intOf]; omega
    · obtain rfl : k = n := by omega
      go_wp2
      go_ret
      exact ⟨by simp, ⟨cs, hB, hsz, hF⟩, hW⟩

theorem FillT.size {cs : Array Value} {off k : Nat} {xs : List ByteArray} (h : FillT cs off k xs) (hk : 0 < k) : off + k ≤ cs.size := by
  have := h (k - 1) (by omega)
  have := (Array.getElem?_eq_some_iff.1 this).1
  omega

/-- What 'mark' leaves: the marksT in the slice's own cells; what lies below the slice's block, and what is owned above it, as before. -/
def MarkedT (w : World) (B : Nat) (A : Option Addr) (n m : Nat) (e : Ending) (w' : World) : Prop :=
  e = .returned (.int .i64 ((m + n : Nat) : Int)) ∧ OT w' B A (marksT m n) ∧ (∀ C, C ≤ B → C ≤ w.heap.size → Below C w w') ∧
    (∀ D, (∀ a, A = some a → a.block < D) → ∀ A' ys, OT w D A' ys → OT w' D A' ys) ∧ w.heap.size ≤ w'.heap.size

theorem markStringS_any (B : Nat) (A : Option Addr) (xs : List ByteArray) (c m : Nat) (w : World) (hO : OT w B A xs) (hl : xs.length ≤ 4294967296) (hm1 : 1 ≤ m) (hm : m ≤ 4294967296) :
    Calls Tryd.prog 25 #[.slice A xs.length c, .int .i64 m] w (MarkedT w B A xs.length m) := by
  have nil : ∀ A' : Option Addr, Calls Tryd.prog 25 #[.slice A' 0 c, .int .i64 m] w (MarkedT w B A' 0 m) := fun A' =>
    (markStringS_nil A' c m w hm).mono fun e w' ⟨he, hw⟩ => by subst hw; exact ⟨by simpa using he, .inl rfl, fun C _ _ => Below.refl _ _, fun _ _ _ _ h => h, Nat.le_refl _⟩
  rcases hO with rfl | ⟨g, off, cs, rfl, hB, hb, hf⟩
  · exact nil A
  · by_cases h0 : xs.length = 0
    · rw [h0]; exact nil _
    · refine (markStringS_some g off xs.length c m cs w hb (hf.size (by omega)) hl hm1 hm).mono fun e w' ⟨he, ⟨cs', hb', _, hf'⟩, ho⟩ => ?_
      exact ⟨he, .inr ⟨g, off, cs', rfl, hB, hb', by rw [length_marksT]; exact hf'⟩, fun C h1 h2 => ho.below h2 fun a ha => by injection ha with ha; subst ha; exact Nat.le_trans h1 hB, fun D hD A' ys h => h.other hD ho, ho.2.2.2.1⟩

set_option maxHeartbeats 2000000 in
theorem heldStringS_any (A : Option Addr) (n c m : Nat) (w : World) (hR : RT w w.heap.size A (marksT m n)) (hl : n ≤ 4294967296) (hm1 : 1 ≤ m) (hm : m ≤ 4294967296) :
    Calls Tryd.prog 26 #[.slice A n c, .int .i64 m] w fun e w' => e = .returned (.int .i64 ((m + n : Nat) : Int)) ∧ Below w.heap.size w w' := by
  go_enter Tryd.func26, Tryd.ntmps26
  go_wp2
  go_loopw [1, 5] (fun q i wr => ∃ k : Nat, k ≤ n ∧ i = .int .i64 k ∧ q = .int .i64 ((m : Int) + k) ∧ Below w.heap.size w wr) (fun _ i _ => n - (intOf i).toNat)
  case atStart => exact ⟨0, Nat.zero_le _, rfl, by simp, Below.refl _ _⟩
  case round =>
    obtain ⟨k, hk, rfl, rfl, hW⟩ := hrel
    by_cases hlt : k < n
    · obtain ⟨b, off, hA, hb, hc⟩ := (hR.below hW).at_ (k := k) (by rw [length_marksT]; exact hlt)
      subst hA
      rw [getD_marksT n m k hlt] at hc
      have hbl : b < wr.heap.size := by have := hW.size; omega
      have HW := Lib.hid hW
      have HC := Lib.hid (fun W => markText_any (m + k) W (by omega) (by omega))
      clear hR hW
      go_wp2_with fail
      go_region_held3 (fun w' => w'.cell? ⟨b, off + k, none⟩ = some (.string (mkt (m + k)))) (assumption) ((go_at_call 41; rw [← Int.natCast_add]; (with_reducible refine (HC.out _).mono ?_); rintro e w2 ⟨rfl, hb2⟩; obtain ⟨hc2, _, _⟩ := bcell hb2; have k0 : w2.cell? ⟨b, off + k, none⟩ = some (.string (mkt (m + k))) := (hc2 _ _ (by assumption)).trans (by assumption); have HB2 := Lib.hid hb2; clear hb2 hc2))
      go_wp2_with fail
      go_roundw
      case rel => exact ⟨k + 1, by omega, by go_num, by go_num, by repeat (first | exact HW.out | refine b_drew ?_ | refine b_step ?_ HB2.out)⟩
      case measure => simp [intOf]; omega
    · obtain rfl : k = n := by omega
      go_wp2
      go_ret
      exact ⟨by simp, hW⟩
theorem OT.of_own {w : World} {B n c : Nat} {A : Option Addr} {xs : List ByteArray} (h : w.ownsRow B 9 1 (.slice A n c) n (xs.map (Value.string))) : n = xs.length ∧ OT w B A xs := by
  have hl : n = xs.length := by simpa using h.1.symm
  refine ⟨hl, ?_⟩
  rcases h.2 with ⟨h1, h2⟩ | ⟨g, cap, cur, hv, hB, hh, hn, _, hsz, ht⟩
  · exact .inl (List.eq_nil_of_length_eq_zero (by omega))
  · injection hv with hA
    refine .inr ⟨g, 0, cur, hA, hB, hh, fun j hj => ?_⟩
    have hj' : j < n := by omega
    have e : (cur.toList.take (n * 1))[j]? = (xs.map (Value.string))[j]? := by rw [ht]
    rw [List.getElem?_take, if_pos (by omega), List.getElem?_map] at e
    have e2 : xs[j]? = some (xs.getD j ByteArray.empty) := by rw [List.getD_eq_getElem?_getD, List.getElem?_eq_getElem hj, Option.getD_some]
    rw [e2] at e
    simpa using e

/-- A row of integers that the call itself made (or nil). -/
def RowT (w : World) (B : Nat) (v : Value) (xs : List ByteArray) : Prop := w.ownsRow B 9 1 v xs.length (xs.map (Value.string))
theorem RowT.nil (w : World) (B : Nat) : RowT w B (.slice none 0 0) [] := World.ownsRow_nil _ _ _ _
theorem RowT.made (w : World) : RowT (w.alloc (.cells #[] 9)) w.heap.size (.slice (some ⟨w.heap.size, 0, none⟩) 0 0) [] :=
  World.ownsRow_made w #[] 0 (Nat.le_refl _) (Nat.zero_le _) rfl
theorem RowT.mono {w : World} {B B2 : Nat} {v : Value} {xs : List ByteArray} (h : RowT w B2 v xs) (hB : B ≤ B2) : RowT w B v xs := by
  rcases h.2 with h2 | ⟨g, cap, cur, hv, hg, r⟩
  · exact ⟨h.1, .inl h2⟩
  · exact ⟨h.1, .inr ⟨g, cap, cur, hv, Nat.le_trans hB hg, r⟩⟩
theorem RowT.shape {w : World} {B : Nat} {v : Value} {xs : List ByteArray} (h : RowT w B v xs) : ∃ A c, v = .slice A xs.length c := by
  rcases h.2 with ⟨h1, h2⟩ | ⟨g, cap, cur, hv, _⟩
  · exact ⟨none, 0, by rw [h1, h2]⟩
  · exact ⟨_, _, hv⟩

theorem RowT.app {w1 : World} {B : Nat} {v1 : Value} {l : List ByteArray} {x : ByteArray} (h : w1.ownsRow B 9 1 v1 (l.length + 1) (l.map (Value.string) ++ [.string x])) : RowT w1 B v1 (l ++ [x]) := by
  unfold RowT; simpa using h
theorem RowT.grow {w wr w1 : World} {v : Value} {l : List ByteArray} {o : Obj} (hO : RowT wr w.heap.size v l) (hW : Below w.heap.size w wr) (hg : (wr.alloc o).grownBy w1 v.ownBlock) : Below w.heap.size w w1 :=
  (b_alloc hW o).grown hg (b_alloc hW o).size fun k hk => (World.ownsRow.lt hO k hk).1

/-- What a function hands back that makes a list: a slice of its own that reads as xs. -/
def RetLT (w : World) (xs : List ByteArray) (e : Ending) (w' : World) : Prop :=
  ∃ A c, e = .returned (.slice A xs.length c) ∧ OT w' w.heap.size A xs ∧ Below w.heap.size w w'
theorem RetLT.of {w w' : World} {v : Value} {xs ys : List ByteArray} (h : RowT w' w.heap.size v xs) (hb : Below w.heap.size w w') (e : xs = ys) : RetLT w ys (.returned v) w' := by
  subst e
  obtain ⟨A, c, rfl⟩ := h.shape
  exact ⟨A, c, rfl, (OT.of_own h).2, hb⟩

end Go.Proofs.YtobbbaagoiejeaaDoor
