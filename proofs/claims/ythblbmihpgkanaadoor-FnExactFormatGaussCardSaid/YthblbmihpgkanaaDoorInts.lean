/- Contracts of laws.toIntS, eqIntS, markIntS, heldIntS over slices of integers. Conditions: lengths of at most 2^32. -/
import Derived.Test.YthblbmihpgkanaaDoorBase
import Derived.Test.YthblbmihpgkanaaDoorRows
import Derived.Deep.OwnRows
namespace Go.Proofs.YthblbmihpgkanaaDoor
open Go.RowKit
set_option linter.unusedVariables false

theorem info_int : (Tryd.prog.info? 3).map (fun i => (i.zero, i.size, i.bytes)) = some (some (.int .i64 0), 1, 8) := by kernel_rfl

/-- Block g is the cells cs, of element type int, none frozen. -/
def BI (w : World) (g : Nat) (cs : Array Value) : Prop := w.heap[g]? = some (.cells cs 3 (0, 0))

section
variable {w w' : World} {g : Nat} {cs : Array Value}
theorem BI.lt (h : BI w g cs) : g < w.heap.size := (Array.getElem?_eq_some_iff.1 h).1
theorem BI.cell (h : BI w g cs) (i : Nat) : w.cell? ⟨g, i, none⟩ = cs[i]? := cell_of_row w g i cs 3 (0, 0) h
theorem BI.frozen (h : BI w g cs) (i : Nat) : w.frozen? ⟨g, i, none⟩ = false := by
  unfold BI at h
  simp [World.frozen?, h]
theorem BI.ex (h : BI w g cs) {i : Nat} (hi : i < cs.size) : ∃ v, w.cell? ⟨g, i, none⟩ = some v := ⟨cs[i], by rw [h.cell]; simp [hi]⟩
theorem BI.new (w : World) (cs : Array Value) : BI (w.alloc (.cells cs 3)) w.heap.size cs := heap_alloc_new w _
theorem BI.set_ (h : BI w g cs) (i : Nat) (u : Value) : BI (w.setCell ⟨g, i, none⟩ u) g (cs.setIfInBounds i u) := by
  unfold BI at h ⊢
  simp [World.setCell, Array.getElem?_modify, h]
theorem BI.below {B : Nat} (h : BI w g cs) (hb : Below B w w') (hg : g < B) : BI w' g cs := (hb.block g hg).trans h
end

/-- The first k cells of cs, from off on, are the numbers xs. -/
def Fill (cs : Array Value) (off k : Nat) (xs : List Int) : Prop := ∀ j, j < k → cs[off + j]? = some (.int .i64 (xs.getD j 0))

theorem Fill.step {cs : Array Value} {off k : Nat} {xs : List Int} (h : Fill cs off k xs) (hk : off + k < cs.size) {v : Value} (hv : v = .int .i64 (xs.getD k 0)) : Fill (cs.setIfInBounds (off + k) v) off (k + 1) xs := by
  intro j hj
  rw [Array.getElem?_setIfInBounds]
  by_cases e : off + k = off + j
  · have : k = j := by omega
    subst this
    simp [hk, hv]
  · rw [if_neg e]; exact h j (by omega)

/-- The slice value at A owns its cells: a block from B on. -/
def OI (w : World) (B : Nat) (A : Option Addr) (xs : List Int) : Prop :=
  xs = [] ∨ ∃ g off cs, A = some ⟨g, off, none⟩ ∧ B ≤ g ∧ BI w g cs ∧ Fill cs off xs.length xs

theorem OI.reads {w : World} {B : Nat} {A : Option Addr} {xs : List Int} (h : OI w B A xs) : RI w w.heap.size A xs := by
  rcases h with h | ⟨g, off, cs, hA, hB, hb, hf⟩
  · exact .inl h
  · exact .inr ⟨g, off, hA, hb.lt, fun j hj => by rw [hb.cell]; exact hf j hj⟩
theorem RI.of_fill {w : World} {g : Nat} {cs : Array Value} {xs : List Int} (hB : BI w g cs) (hF : Fill cs 0 xs.length xs) : RI w w.heap.size (some ⟨g, 0, none⟩) xs :=
  .inr ⟨g, 0, rfl, hB.lt, fun j hj => by rw [hB.cell]; exact hF j hj⟩
theorem OI.keep {w w' : World} {B : Nat} {A : Option Addr} {xs : List Int} (h : OI w B A xs) (hb : Below w.heap.size w w') : OI w' B A xs := by
  rcases h with h | ⟨g, off, cs, hA, hB, hc, hf⟩
  · exact .inl h
  · exact .inr ⟨g, off, cs, hA, hB, hc.below hb hc.lt, hf⟩
/-- All blocks but A's read as before. -/
def Oth (w w' : World) (A : Option Addr) : Prop := w'.os = w.os ∧ w'.tape = w.tape ∧ w'.output = w.output ∧ w.heap.size ≤ w'.heap.size ∧ ∀ k, k < w.heap.size → (∀ a, A = some a → k ≠ a.block) → w'.heap[k]? = w.heap[k]?

theorem OI.other {w w' : World} {B : Nat} {A A' : Option Addr} {xs : List Int} (h : OI w B A xs) (hA : ∀ a, A' = some a → a.block < B) (ho : Oth w w' A') : OI w' B A xs := by
  rcases h with h | ⟨g, off, cs, hA', hB, hc, hf⟩
  · exact .inl h
  · exact .inr ⟨g, off, cs, hA', hB, (ho.2.2.2.2 g hc.lt (fun a ha => by have := hA a ha; omega)).trans hc, hf⟩

/-- The numbers that 'mark' writes: k, k + 1, .. -/
def marks : Nat → Nat → List Int
  | _, 0 => []
  | k, n + 1 => (k : Int) :: marks (k + 1) n
theorem length_marks : ∀ (n k : Nat), (marks k n).length = n
  | 0, _ => rfl
  | n + 1, k => by simp [marks, length_marks n (k + 1)]
theorem getD_marks : ∀ (n k j : Nat), j < n → (marks k n).getD j 0 = ((k + j : Nat) : Int)
  | 0, _, _, h => absurd h (by omega)
  | n + 1, k, 0, _ => by simp [marks]
  | n + 1, k, j + 1, h => by
    have := getD_marks n (k + 1) j (by omega)
    simp only [marks, List.getD_cons_succ, this]
    omega

theorem Oth.refl (w : World) (A : Option Addr) : Oth w w A := ⟨rfl, rfl, rfl, Nat.le_refl _, fun _ _ _ => rfl⟩
theorem Oth.set {w w1 : World} {a : Addr} (h : Oth w w1 (some a)) {p : Addr} (hp : p.block = a.block) (u : Value) : Oth w (w1.setCell p u) (some a) :=
  ⟨h.1, h.2.1, h.2.2.1, by simpa [World.setCell] using h.2.2.2.1, fun k hk hne => (Below.heap_setCell w1 p u k (by rw [hp]; exact hne a rfl)).trans (h.2.2.2.2 k hk hne)⟩
theorem Oth.below {w w' : World} {A : Option Addr} (h : Oth w w' A) {C : Nat} (hw : C ≤ w.heap.size) (hC : ∀ a, A = some a → C ≤ a.block) : Below C w w' :=
  ⟨h.1, h.2.1, h.2.2.1, h.2.2.2.1, fun k hk => h.2.2.2.2 k (by omega) (fun a ha => by have := hC a ha; omega)⟩

theorem Fill.size {cs : Array Value} {off k : Nat} {xs : List Int} (h : Fill cs off k xs) (hk : 0 < k) : off + k ≤ cs.size := by
  have := h (k - 1) (by omega)
  have := (Array.getElem?_eq_some_iff.1 this).1
  omega

/-- What 'mark' leaves: the marks in the slice's own cells; what lies below the slice's block, and what is owned above it, as before. -/
def Marked (w : World) (B : Nat) (A : Option Addr) (n m : Nat) (e : Ending) (w' : World) : Prop :=
  e = .returned (.int .i64 ((m + n : Nat) : Int)) ∧ OI w' B A (marks m n) ∧ (∀ C, C ≤ B → C ≤ w.heap.size → Below C w w') ∧
    (∀ D, (∀ a, A = some a → a.block < D) → ∀ A' ys, OI w D A' ys → OI w' D A' ys) ∧ w.heap.size ≤ w'.heap.size

end Go.Proofs.YthblbmihpgkanaaDoor
